/-
  No statement is proved here: rows of structs that lie apart, while they are marked (words for flatSpans and its like).
  No statement is proved here: the verifier's mark of a span.
-/
import Derived.Test.YtndflnedkpmpfaaGreatDoorFlata
import Derived.Test.YtndflnedkpmpfaaGreatDoorOrd
import Derived.Laws.CopyRow
import Derived.Test.YtndflnedkpmpfaaGreatDoorSms
import Derived.BigQuiet
namespace Go.Proofs.YtndflnedkpmpfaaGreatDoor
open Go.RowKit

/-- Cells written over, from a place on. -/
def putL (l : List Value) (o : Nat) (vs : List Value) : List Value := l.take o ++ vs ++ l.drop (o + vs.length)
theorem putL_len {l : List Value} {o : Nat} {vs : List Value} (h : o + vs.length ≤ l.length) : (putL l o vs).length = l.length := by
  simp [putL]; omega
theorem putL_take {l : List Value} {o : Nat} {vs : List Value} (h : o + vs.length ≤ l.length) : (putL l o vs).take (o + vs.length) = l.take o ++ vs := by
  unfold putL
  rw [List.take_append_of_le_length (by simp; omega)]
  apply List.take_of_length_le
  simp; omega
theorem putL_get {l : List Value} {o : Nat} {vs : List Value} (h : o + vs.length ≤ l.length) (j : Nat) : (putL l o vs)[j]? = if o ≤ j ∧ j < o + vs.length then vs[j - o]? else l[j]? := by
  have h0 : (l.take o).length = o := by rw [List.length_take]; omega
  unfold putL
  by_cases c1 : j < o
  · rw [if_neg (by omega), List.append_assoc, List.getElem?_append_left (by omega), List.getElem?_take, if_pos c1]
  · by_cases c2 : j < o + vs.length
    · rw [if_pos ⟨by omega, c2⟩, List.getElem?_append_left (by rw [List.length_append]; omega), List.getElem?_append_right (by omega), h0]
    · rw [if_neg (by omega), List.getElem?_append_right (by rw [List.length_append]; omega), List.length_append, h0, List.getElem?_drop, show o + vs.length + (j - (o + vs.length)) = j by omega]
theorem run_store_mid {P : Program} {w : World} (t : TypeId) (g off : Nat) (cs old : Array Value) {te : TypeId} (hb : w.heap[g]? = some (.cells old te (0, 0))) (hi : (P.info? t).map (·.size) = some cs.size) (hold : off + cs.size ≤ old.size) (h1 : ∀ v ∈ cs.toList, v.oneCell' = true) :
    (Instr.storeAt t (.pointer (some ⟨g, off, none⟩)) (.agg cs)).run P w = .ok () (w.setRow g (putL old.toList off cs.toList).toArray) := by
  have hst := run_storeCells_at P g off te cs.toList 0 old w hb (by simpa using hold) h1
  cases hq : P.info? t with
  | none => simp [hq] at hi
  | some i =>
    have hs : i.size = cs.size := by simpa [hq] using hi
    simp [Instr.storeAt, Instr.sureAddr, storeVar, Value.cells, sizeOf, typeInfo, hq, hs, Sem.run_bind, Result.andThen, hst, putL]
/-- A store of a struct, into a block. -/
theorem wl_store_mid {P : Program} {ops : Array Oper} {Q : Exit → Act → World → Prop} {a : Act} {w : World} {rest : List Oper} {o : Oper} (hg : o.guard = none) (t : TypeId) (x y : Operand) (ho : o.op = .store t x y) (g off : Nat) (cs old : Array Value) (hx : a.eval x = .pointer (some ⟨g, off, none⟩)) (hy : a.eval y = .agg cs) {te : TypeId}
    (hb : w.heap[g]? = some (.cells old te (0, 0))) (hi : (P.info? t).map (·.size) = some cs.size) (hold : off + cs.size ≤ old.size) (h1 : ∀ v ∈ cs.toList, v.oneCell' = true)
    (k : ∀ w', w'.heap[g]? = some (.cells (putL old.toList off cs.toList).toArray te (0, 0)) → Kept (fun x => x = g) w w' → wpList P ops Q rest (a.put o.dst undef) w') : wpList P ops Q (o :: rest) a w := by
  refine wl_skip hg ?_ (k _ (setRow_heap w g old _ te (0, 0) hb) ((Kept.refl (fun x => x = g) w).setRow (.inr rfl) _))
  have := run_store_mid (P := P) t g off cs old hb hi hold h1
  simp only [execOp, ho, hx, hy]
  rw [Sem.run_bind, this]
  rfl
/-- A row's block, and an element stored. -/
theorem ownsRow_mid {w : World} {base g n cap z : Nat} {e : TypeId} {xs : List Value} (h : w.ownsRow base e z (.slice (some ⟨g, 0, none⟩) n cap) n xs) : base ≤ g ∧ g < w.heap.size ∧ n ≤ cap ∧ cap ≤ 9223372036854775807 ∧ ∃ cur, w.heap[g]? = some (.cells cur e (0, 0)) ∧ n * z ≤ cur.size ∧
    (∀ (w' : World) (i : Nat) (vs : List Value), i < n → vs.length = z → w'.heap[g]? = some (.cells (putL cur.toList (i * z) vs).toArray e (0, 0)) → w'.ownsRow base e z (.slice (some ⟨g, 0, none⟩) n cap) n (putL xs (i * z) vs)) := by
  obtain ⟨h1, ⟨h, -⟩ | ⟨g', cap', cur, hv, hb, hh, hle, hm, hc, ht⟩⟩ := h
  · cases h
  · cases hv
    have hz : n * z ≤ cur.size := by rw [hc]; exact Nat.mul_le_mul_right z hle
    refine ⟨hb, heap_lt hh, hle, hm, cur, hh, hz, fun w' i vs hi hvs hw => ?_⟩
    have hiz : i * z + z ≤ n * z := by rw [← Nat.succ_mul]; exact Nat.mul_le_mul_right z hi
    have l1 : i * z + vs.length ≤ xs.length := by rw [h1, hvs]; exact hiz
    have l2 : i * z + vs.length ≤ cur.toList.length := by rw [hvs, Array.length_toList]; omega
    refine ⟨by rw [putL_len l1, h1], .inr ⟨g, cap, _, rfl, hb, hw, hle, hm, ?_, ?_⟩⟩
    · rw [List.size_toArray, putL_len l2, Array.length_toList, hc]
    · apply List.ext_getElem?
      intro j
      rw [List.getElem?_take, putL_get l2, putL_get l1]
      by_cases hj : j < n * z
      · rw [if_pos hj]
        have e : cur.toList[j]? = xs[j]? := by rw [← ht, List.getElem?_take, if_pos hj]
        rw [e]
      · rw [if_neg hj, if_neg (by omega), List.getElem?_eq_none (by omega)]
/-- What marks a row: the cells of each element's mark. -/
def mkL (f : Nat → List Value) (n : Nat) : List Value := (List.range n).flatMap f
theorem mkL_succ (f : Nat → List Value) (n : Nat) : mkL f (n + 1) = mkL f n ++ f n := by
  unfold mkL
  rw [List.range_succ, List.flatMap_append]
  simp
theorem mkL_len {f : Nat → List Value} {z : Nat} (hf : ∀ i, (f i).length = z) : ∀ n, (mkL f n).length = n * z
  | 0 => by simp [mkL]
  | n + 1 => by rw [mkL_succ, List.length_append, mkL_len hf n, hf, Nat.succ_mul]
theorem mkL_get {f : Nat → List Value} {z : Nat} (hf : ∀ i, (f i).length = z) : ∀ {n i j : Nat}, i < n → j < z → (mkL f n)[i * z + j]? = (f i)[j]?
  | 0, _, _, h, _ => by omega
  | n + 1, i, j, h, hj => by
    rw [mkL_succ]
    have hl := mkL_len hf n
    by_cases e : i = n
    · subst e
      rw [List.getElem?_append_right (by omega), hl, show i * z + j - i * z = j by omega]
    · have : i * z + j < n * z := by
        have h2 : (i + 1) * z ≤ n * z := Nat.mul_le_mul_right z (by omega)
        rw [Nat.succ_mul] at h2
        omega
      rw [List.getElem?_append_left (by omega)]
      exact mkL_get hf (by omega) hj
theorem mkL_pre (f : Nat → List Value) (n t : Nat) : ∃ ys, mkL f (n + t) = mkL f n ++ ys := by
  induction t with
  | zero => exact ⟨[], by simp⟩
  | succ t ih =>
    obtain ⟨ys, h1⟩ := ih
    exact ⟨ys ++ f (n + t), by rw [show n + (t + 1) = (n + t) + 1 from rfl, mkL_succ, h1, List.append_assoc]⟩
def updV (L : Nat → List Value) (k : Nat) (l : List Value) (j : Nat) : List Value := if j = k then l else L j
/-- m rows, told in a table gl; the k-th: A k, N k, C k; its cells: V k. -/
structure FX (te : TypeId) (z : Nat) (w : World) (B gl m : Nat) (A : Nat → Option Addr) (N C : Nat → Nat) (V : Nat → List Value) : Prop where
  tab : ∀ k, k < m → w.cell? ⟨gl, k, none⟩ = some (.slice (A k) (N k) (C k))
  row : ∀ k, k < m → w.ownsRow B te z (.slice (A k) (N k) (C k)) (N k) (V k)
/-- The grown rows, as far as the k-th, in a table gg. -/
structure GX (ts te : TypeId) (z : Nat) (w : World) (B gg gl m k : Nat) (A : Nat → Option Addr) (N : Nat → Nat) (arr : Array Value) (T : Nat → List Value) : Prop where
  hb : w.heap[gg]? = some (.cells arr ts (0, 0))
  hz : arr.size = m
  hv : ∀ j, j < k → ∃ g c, arr[j]? = some (.slice (some ⟨g, 0, none⟩) (N j + 64) c) ∧ w.ownsRow B te z (.slice (some ⟨g, 0, none⟩) (N j + 64) c) (N j + 64) (T j) ∧ g ≠ gg ∧ g ≠ gl ∧ (∀ i, i < m → i ≠ j → ob (A i) ≠ some g)
section
variable {te ts : TypeId} {z : Nat} {w w' : World} {B gl m : Nat} {A : Nat → Option Addr} {N C : Nat → Nat} {V : Nat → List Value}
theorem FX.keep {S : Nat → Prop} (h : FX te z w B gl m A N C V) (hk : Kept S w w') (h1 : ∀ k x, k < m → ob (A k) = some x → ¬ S x) (h2 : ¬ S gl) : FX te z w' B gl m A N C V :=
  ⟨fun k hkm => (World.cell?_of_block (hk.block gl (block_lt_of_cell (h.tab k hkm)) h2)).trans (h.tab k hkm), fun k hkm => ownsRow_keep (h.row k hkm) hk (fun x hx => h1 k x hkm (by rw [ownBlock_slice] at hx; exact hx))⟩
theorem FX.kept0 (h : FX te z w B gl m A N C V) (hk : Kept (fun _ => False) w w') : FX te z w' B gl m A N C V := h.keep hk (fun _ _ _ _ => id) id
theorem FX.len (h : FX te z w B gl m A N C V) {k : Nat} (hk : k < m) : (V k).length = N k * z := (h.row k hk).1
theorem FX.lt (h : FX te z w B gl m A N C V) {k x : Nat} (hk : k < m) (hx : ob (A k) = some x) : x < w.heap.size ∧ B ≤ x := by
  rcases (h.row k hk).2 with ⟨h1, _⟩ | ⟨g, cap, cur, hv, hb, hh, _⟩
  · injection h1 with e1; rw [e1] at hx; cases hx
  · injection hv with e1; rw [e1] at hx; cases hx; exact ⟨heap_lt hh, hb⟩
theorem FX.has (h : FX te z w B gl m A N C V) {k i : Nat} (hk : k < m) (hi : i < N k) : ∃ g, A k = some ⟨g, 0, none⟩ ∧ N k ≤ 9223372036854775807 := by
  obtain ⟨A', c', e, h1⟩ := row_form' (h.row k hk)
  obtain ⟨g, hg⟩ := h1 (by omega)
  injection e with e1 e2 e3
  have hr := h.row k hk
  rw [e1, hg] at hr
  obtain ⟨-, -, h2, h3, -⟩ := ownsRow_mid hr
  exact ⟨g, e1.trans hg, by omega⟩
/-- An element of the k-th row was stored. -/
theorem FX.put (h : FX te z w B gl m A N C V) (hs : Sep m gl A) {k g : Nat} {v : List Value} (hk : k < m) (hg : A k = some ⟨g, 0, none⟩) (kc : Kept (fun x => x = g) w w') (ho : w'.ownsRow B te z (.slice (A k) (N k) (C k)) (N k) v) :
    FX te z w' B gl m A N C (updV V k v) := by
  have hob : ob (A k) = some g := by rw [hg]; rfl
  refine ⟨fun j hj => ?_, fun j hj => ?_⟩
  · exact (World.cell?_of_block (kc.block gl (block_lt_of_cell (h.tab j hj)) (fun e => hs.ngl k hk (e ▸ hob)))).trans (h.tab j hj)
  · by_cases hjk : j = k
    · subst hjk
      simpa [updV] using ho
    · have hr := h.row j hj
      simp only [updV, hjk, if_false]
      refine ownsRow_keep hr kc (fun y hy e => ?_)
      rw [ownBlock_slice] at hy
      exact hjk (hs.dis j k g hj hk (e ▸ hy) hob)
theorem FX.congr {L' : Nat → List Value} (h : FX te z w B gl m A N C V) (e : ∀ j, j < m → V j = L' j) : FX te z w B gl m A N C L' :=
  ⟨h.tab, fun k hk => by rw [← e k hk]; exact h.row k hk⟩
theorem FX.cells (h : FX te z w B gl m A N C V) {k i : Nat} (hk : k < m) (hi : i < N k) : ∃ g, A k = some ⟨g, 0, none⟩ ∧ N k ≤ 9223372036854775807 ∧ g < w.heap.size ∧ ∀ j, j < z → w.cell? ⟨g, i * z + j, none⟩ = (V k)[i * z + j]? := by
  obtain ⟨g, hg, h1⟩ := h.has hk hi
  have hr := h.row k hk
  rw [hg] at hr
  refine ⟨g, hg, h1, (h.lt hk (by rw [hg]; rfl)).1, fun j hj => hr.cellAt _ ?_⟩
  have : (i + 1) * z ≤ N k * z := Nat.mul_le_mul_right z hi
  rw [Nat.succ_mul] at this
  omega
theorem GX.keep {S : Nat → Prop} {gg k : Nat} {arr : Array Value} {T : Nat → List Value} (h : GX ts te z w B gg gl m k A N arr T) (hk : Kept S w w') (h1 : ¬ S gg) (h2 : ∀ j g, j < k → g < w.heap.size → g ≠ gg → g ≠ gl → (∀ i, i < m → i ≠ j → ob (A i) ≠ some g) → ¬ S g) : GX ts te z w' B gg gl m k A N arr T :=
  ⟨hk.heap h.hb h1, h.hz, fun j hj => by
    obtain ⟨g, c, e1, e2, e3, e4, e5⟩ := h.hv j hj
    have hlt : g < w.heap.size := by
      rcases e2.2 with ⟨h1, _⟩ | ⟨g', cap, cur, hv, hb, hh, _⟩
      · cases h1
      · cases hv; exact heap_lt hh
    exact ⟨g, c, e1, ownsRow_keep e2 hk (fun x hx => by cases hx; exact h2 j g hj hlt e3 e4 e5), e3, e4, e5⟩⟩
theorem GX.kept0 {gg k : Nat} {arr : Array Value} {T : Nat → List Value} (h : GX ts te z w B gg gl m k A N arr T) (hk : Kept (fun _ => False) w w') : GX ts te z w' B gg gl m k A N arr T := h.keep hk id (fun _ _ _ _ _ _ _ => id)
/-- The next one is put into the table. -/
theorem GX.put {gg k g c : Nat} {arr : Array Value} {T : Nat → List Value} {t : List Value} (h : GX ts te z w B gg gl m k A N arr T) (hk : k < m) (ho : w.ownsRow B te z (.slice (some ⟨g, 0, none⟩) (N k + 64) c) (N k + 64) t) (h1 : g ≠ gg) (h2 : g ≠ gl) (h3 : ∀ i, i < m → i ≠ k → ob (A i) ≠ some g) :
    GX ts te z (w.setCell ⟨gg, k, none⟩ (.slice (some ⟨g, 0, none⟩) (N k + 64) c)) B gg gl m (k + 1) A N (arr.setIfInBounds k (.slice (some ⟨g, 0, none⟩) (N k + 64) c)) (updV T k t) := by
  have kc := Kept.cell w gg k (.slice (some ⟨g, 0, none⟩) (N k + 64) c)
  refine ⟨set_blk h.hb k _, by simp [h.hz], fun j hj => ?_⟩
  by_cases hjk : j = k
  · subst hjk
    refine ⟨g, c, by rw [Array.getElem?_setIfInBounds]; simp [h.hz, hk], ?_, h1, h2, h3⟩
    simp only [updV, if_true]
    exact ownsRow_keep ho kc (fun x hx e => by cases hx; exact h1 e)
  · obtain ⟨g', c', e1, e2, e3, e4, e5⟩ := h.hv j (by omega)
    refine ⟨g', c', by rw [Array.getElem?_setIfInBounds, if_neg (Ne.symm hjk)]; exact e1, ?_, e3, e4, e5⟩
    simp only [updV, hjk, if_false]
    exact ownsRow_keep e2 kc (fun x hx e => by cases hx; exact e3 e)
theorem GX.tcells {gg k j : Nat} {arr : Array Value} {T : Nat → List Value} (h : GX ts te z w B gg gl m k A N arr T) (hj : j < k) : ∃ g c, w.cell? ⟨gg, j, none⟩ = some (.slice (some ⟨g, 0, none⟩) (N j + 64) c) ∧ g < w.heap.size ∧ N j + 64 ≤ 9223372036854775807 ∧ ∀ i r, i < N j + 64 → r < z → w.cell? ⟨g, i * z + r, none⟩ = (T j)[i * z + r]? := by
  obtain ⟨g, c, e1, e2, _⟩ := h.hv j hj
  have hm := ownsRow_mid e2
  refine ⟨g, c, cell_blk h.hb e1, hm.2.1, by omega, fun i r hi hr => e2.cellAt _ ?_⟩
  have : (i + 1) * z ≤ (N j + 64) * z := Nat.mul_le_mul_right z hi
  rw [Nat.succ_mul] at this
  omega
end
/-- More elements, behind a grown row: where they lie, and that the row itself is as it was. -/
theorem grow_oneX {te : TypeId} {z : Nat} {w2 wr w' : World} {B n tt c' g cap Ck : Nat} {Ak A' : Option Addr} {xs : List Value} (hlt : ∀ x, ob Ak = some x → x < w2.heap.size)
    (hV : wr.ownsRow B te z (.slice Ak n Ck) n xs) (ys : List Value)
    (hA : (A' = Ak ∧ c' = Ck) ∨ (∀ x, ob A' = some x → w2.heap.size ≤ x)) (hk : Kept (fun x => ob Ak = some x) w2 wr)
    (ho : w'.ownsRow B te z (.slice (some ⟨g, 0, none⟩) (n + tt) cap) (n + tt) (xs ++ ys))
    (hsp : ((A' = some ⟨g, 0, none⟩ ∧ c' = cap) ∧ Kept (fun x => x = g) wr w') ∨ (w2.heap.size ≤ g ∧ Kept (fun _ => False) wr w')) :
    w'.ownsRow B te z (.slice Ak n Ck) n xs ∧ ((some ⟨g, 0, none⟩ = Ak ∧ cap = Ck) ∨ (∀ x, ob (some ⟨g, 0, none⟩) = some x → w2.heap.size ≤ x)) ∧ Kept (fun x => ob Ak = some x) w2 w' := by
  rcases hsp with ⟨⟨e1, e3⟩, hk'⟩ | ⟨hg, hk'⟩
  · rcases hA with ⟨rfl, rfl⟩ | hA
    · subst e1; subst e3
      exact ⟨ownsRow_short ho hV.1, .inl ⟨rfl, rfl⟩, hk.trans hk' (fun x _ e => by subst e; rfl)⟩
    · have hg := hA g (by rw [e1]; rfl)
      refine ⟨ownsRow_keep hV hk' (fun x hx e => ?_), .inr (fun x hx => by cases hx; exact hg), hk.trans hk' (fun x hx e => by omega)⟩
      rw [ownBlock_slice] at hx
      have := hlt x hx
      omega
  · exact ⟨ownsRow_keep hV hk' (fun _ _ => id), .inr (fun x hx => by cases hx; exact hg), hk.trans0 hk'⟩
end Go.Proofs.YtndflnedkpmpfaaGreatDoor
namespace Go.Proofs.YtndflnedkpmpfaaGreatDoor
open Go.RowKit

def mkC (k i : Int) : Array Value := #[.int .i64 (markM k i), .int .i64 0, .slice none 0 0, .slice none 0 0]
def mkS (k i : Nat) : List Value := [.int .i64 (markM (k : Int) (i : Int)), .int .i64 0, .slice none 0 0, .slice none 0 0]
theorem mkS_len (k i : Nat) : (mkS k i).length = 4 := rfl
theorem mkS_get {k n i : Nat} (hi : i < n) {l : List Value} (hl : l.take (n * 4) = mkL (mkS k) n) (hz : n * 4 ≤ l.length) : ∀ j u, (mkC (k : Int) (i : Int))[j]? = some u → l[i * 4 + j]? = some u := by
  intro j u hu
  have hj : j < 4 := by
    have := (Array.getElem?_eq_some_iff.1 hu).1
    exact this
  have h2 : (i + 1) * 4 ≤ n * 4 := Nat.mul_le_mul_right 4 hi
  have := mkL_get (f := mkS k) (mkS_len k) hi hj
  rw [← hl, List.getElem?_take, if_pos (by omega)] at this
  rw [this]
  rw [← hu]
  simp [mkS, mkC]
theorem infoSpan2 : (Tryz.prog.info? 46).map (fun i => (i.zero, i.size)) = some (some (.agg #[.int .i64 0, .int .i64 0, .slice none 0 0, .slice none 0 0]), 4) := by kernel_rfl
theorem zeroSpan (w : World) : (zeroValue 46).run Tryz.prog w = .ok (.agg #[.int .i64 0, .int .i64 0, .slice none 0 0, .slice none 0 0]) w := (zero_of_info infoSpan2).1 w
set_option maxHeartbeats 400000 in
theorem markSpan_any (k i : Int) (k0 : 0 ≤ k) (k1 : k ≤ 1000000) (i0 : 0 ≤ i) (i1 : i ≤ 1000000000000) (w : World) :
    Calls Tryz.prog 89 #[.int .i64 k, .int .i64 i] w fun e w' => e = .returned (.agg #[.int .i64 (markM k i), .int .i64 0, .slice none 0 0, .slice none 0 0]) ∧ Kept (fun _ => False) w w' := by
  go_enter Tryz.func89, Tryz.ntmps89
  go_wp2_with (refine wl_alloc' rfl 46 rfl #[.int .i64 0, .int .i64 0, .slice none 0 0, .slice none 0 0] zeroSpan ?_)
  intro g3 w3 n3 m3 hb3 hk3
  go_wp2_with (first
    | (go_at_call 60; refine (mark_any k i (by omega) (by omega) (by omega) (by omega) _).mono ?_; rintro e wx ⟨rfl, rfl⟩)
    | refine wl_store_row rfl 46 _ _ rfl g3 #[.int .i64 (markM k i), .int .i64 0, .slice none 0 0, .slice none 0 0] _ rfl rfl hb3 (zero_of_info infoSpan2).2 rfl (by simp [Value.oneCell']) ?_)
  intro w4 hb4 hk4
  have hK := hk3.new hk4 (by rintro x rfl; omega)
  have d0 : w4.cell? ⟨g3, 0, none⟩ = some (.int .i64 (markM k i)) := cell_blk hb4 rfl
  have d1 : w4.cell? ⟨g3, 1, none⟩ = some (.int .i64 0) := cell_blk hb4 rfl
  have d2 : w4.cell? ⟨g3, 2, none⟩ = some (.slice none 0 0) := cell_blk hb4 rfl
  have d3 : w4.cell? ⟨g3, 3, none⟩ = some (.slice none 0 0) := cell_blk hb4 rfl
  clear hb3 hk3 hk4
  go_wp2
  refine bodyPost_ret (results_cell_row rfl _ w4 g3 46 #[.int .i64 (markM k i), .int .i64 0, .slice none 0 0, .slice none 0 0] (0, 0) _ rfl hb4 Tryz.underlying46 rfl (zero_of_info infoSpan2).2) rfl ⟨rfl, hK⟩
/-- A mark is itself. -/
theorem markSame (k i : Int) (w : World) :
    Calls Tryz.prog 51 #[.agg #[.int .i64 (markM k i), .int .i64 0, .slice none 0 0, .slice none 0 0], .agg #[.int .i64 (markM k i), .int .i64 0, .slice none 0 0, .slice none 0 0]] w fun e w' => e = .returned (.bool true) ∧ Kept (fun _ => False) w w' :=
  sameSpan_any (markM k i) 0 none none none none 0 0 0 0 [] [] w (fun h => absurd rfl h) (fun h => absurd rfl h) (fun h => absurd rfl h) (fun h => absurd rfl h) (by simp) (by simp)
/-- A store of a struct, in a region that draws its order. -/
theorem step_store_mid {P : Program} {ops : Array Oper} {Q : Exit → Act → World → Prop} {E : Prop} {K : Act → World → Prop} {a : Act} {w : World} {o : Oper} (hg : o.guard = none) (t : TypeId) (x y : Operand) (ho : o.op = .store t x y) (g off : Nat) (cs old : Array Value) (hx : a.eval x = .pointer (some ⟨g, off, none⟩)) (hy : a.eval y = .agg cs) {te : TypeId}
    (hb : w.heap[g]? = some (.cells old te (0, 0))) (hi : (P.info? t).map (·.size) = some cs.size) (hold : off + cs.size ≤ old.size) (h1 : ∀ v ∈ cs.toList, v.oneCell' = true)
    (k : ∀ w', w'.heap[g]? = some (.cells (putL old.toList off cs.toList).toArray te (0, 0)) → Kept (fun x => x = g) w w' → K (a.put o.dst undef) w') : if Region.wanted o (yielded ops a.tmps) = true then Oper.wp P o a w K Q else E := by
  rw [if_pos (by simp [Region.wanted, hg])]
  have hr := run_store_mid (P := P) t g off cs old hb hi hold h1
  unfold Oper.wp
  simp only [execOp, ho, hx, hy]
  rw [Sem.run_bind, hr]
  exact k _ (setRow_heap w g old _ te (0, 0) hb) ((Kept.refl (fun x => x = g) w).setRow (.inr rfl) _)
/-- A load of a struct, in a region whose operations only read. -/
theorem wq_load_mid {P : Program} {ops : Array Oper} {C : World → Prop} {Q : Act → Prop} {a : Act} {o : Oper} {rest : List Oper} (hw : Region.wanted o (yielded ops a.tmps) = true) (t : TypeId) (x : Operand) (ho : o.op = .load t x) (b off : Nat) (hx : a.eval x = .pointer (some ⟨b, off, none⟩)) (cs : Array Value)
    (hc : ∀ w, C w → ∀ j v, cs[j]? = some v → w.cell? ⟨b, off + j, none⟩ = some v) {d : TypeDesc} (hu : P.underlying t = some d) (hd : (match d with | .struct _ | .array _ _ => true | _ => false) = true) (hi : (P.info? t).map (·.size) = some cs.size)
    (k : wpQuiet P ops C Q rest (a.put o.dst (.agg cs))) : wpQuiet P ops C Q (o :: rest) a := by
  show if Region.wanted o (yielded ops a.tmps) = true then _ else _
  rw [if_pos hw]
  refine ⟨.agg cs, fun w hC => ?_, k⟩
  unfold Oper.quietAt
  simp only [execOp, ho, hx, Sem.run_bind, run_loadAt_cells t b off cs (hc w hC) hu hd hi, Result.andThen_ok]
  exact ⟨rfl, rfl⟩
/-- As 'wp_region_quiet_lit', at whatever class of worlds. -/
theorem wp_region_quiet_cls {P : Program} {C : World → Prop} {id : Nat} {Q : Exit → Act → World → Prop} {a : Act} {w : World} {l : List Oper} (hm : P.follows .mixedOrders = true) (hB : Region.lexB .any l.toArray = true) (hC : C w.drew)
    (h : wpQuiet P l.toArray C (fun a' => ∀ w', C w' → Q .normal a' w') l a) : (Code.region id l.toArray true).wp P Q a w :=
  wp_region_quiet (C := C) hm hB hC (by simpa using h)
/-- The worlds in which all stands that stood. -/
theorem class_any (w : World) : ∃ (T : Type) (f : T → World) (_ : Nonempty T), (∃ n, w.drew = f n) ∧ (∀ n wx, Kept (fun _ => False) (f n) wx → ∃ m, wx = f m) ∧ (∀ n, Kept (fun _ => False) w (f n)) :=
  ⟨{ x : World // Kept (fun _ => False) w x }, fun x => x.1, ⟨⟨w, Kept.refl _ _⟩⟩, ⟨⟨w.drew, (Kept.refl _ _).drew⟩, rfl⟩, fun n wx hx => ⟨⟨wx, n.2.trans0 hx⟩, rfl⟩, fun n => n.2⟩
end Go.Proofs.YtndflnedkpmpfaaGreatDoor
