/-
  No statement is proved here: a part of what the claim's last text rests on.
-/
import Derived.Test.YtnbfhdgojmflhaaGreatJApp
import Derived.Laws.OwnMore
namespace Go.Proofs.YtnbfhdgojmflhaaGreat
open Go.RowKit
def ob (a : Option Addr) : Option Nat := a.map (·.block)
theorem ownBlock_slice (a : Option Addr) (n c : Nat) : (Value.slice a n c).ownBlock = ob a := by cases a <;> rfl
def marks (k n : Nat) : Bytes := (List.range n).map fun (i : Nat) => markB (k : Int) (i : Int)
theorem len_marks (k n : Nat) : (marks k n).length = n := by simp [marks]
theorem marks_get {k n i : Nat} (h : i < n) : (marks k n)[i]? = some (markB (k : Int) (i : Int)) := by
  unfold marks
  rw [List.getElem?_map, List.getElem?_range h]
  rfl
theorem bAt_of {l : Bytes} {i : Nat} {b : UInt8} (h : l[i]? = some b) : bAt l i = b := by
  have := (List.getElem?_eq_some_iff.1 h)
  rw [bAt_get this.1]; exact this.2
theorem marks_succ (k n : Nat) : marks k (n + 1) = marks k n ++ [markB (k : Int) (n : Int)] := by
  unfold marks
  rw [List.range_succ, List.map_append]
  rfl
theorem marks_pre (k n t : Nat) : ∃ ys, marks k (n + t) = marks k n ++ ys ∧ ys.length = t := by
  induction t with
  | zero => exact ⟨[], by simp, rfl⟩
  | succ t ih =>
    obtain ⟨ys, h1, h2⟩ := ih
    refine ⟨ys ++ [markB (k : Int) ((n + t : Nat) : Int)], ?_, by simp [h2]⟩
    rw [show n + (t + 1) = (n + t) + 1 from rfl, marks_succ, h1, List.append_assoc]
theorem row_form' {w : World} {base : Nat} {e : TypeId} {size n : Nat} {v : Value} {xs : List Value} (h : w.ownsRow base e size v n xs) : ∃ A cap, v = .slice A n cap ∧ (0 < n → ∃ g, A = some ⟨g, 0, none⟩) := by
  rcases h.2 with ⟨rfl, rfl⟩ | ⟨g, cap, cur, hv, _⟩
  · exact ⟨none, 0, rfl, fun h => by omega⟩
  · exact ⟨_, cap, hv, fun _ => ⟨g, rfl⟩⟩
structure FB (w : World) (B gl m : Nat) (A : Nat → Option Addr) (N C : Nat → Nat) (L : Nat → Bytes) : Prop where
  tab : ∀ k, k < m → w.cell? ⟨gl, k, none⟩ = some (.slice (A k) (N k) (C k))
  row : ∀ k, k < m → w.ownsRow B 5 1 (.slice (A k) (N k) (C k)) (N k) (cellsOf (L k)).toList
structure Sep (m gl : Nat) (A : Nat → Option Addr) : Prop where
  dis : ∀ i j x, i < m → j < m → ob (A i) = some x → ob (A j) = some x → i = j
  ngl : ∀ k, k < m → ob (A k) ≠ some gl
def OwnS (m : Nat) (A : Nat → Option Addr) (x : Nat) : Prop := ∃ k, k < m ∧ ob (A k) = some x
def updL (L : Nat → Bytes) (k : Nat) (l : Bytes) (j : Nat) : Bytes := if j = k then l else L j
section
variable {w w' : World} {B gl m : Nat} {A : Nat → Option Addr} {N C : Nat → Nat} {L : Nat → Bytes}
theorem FB.keep {S : Nat → Prop} (h : FB w B gl m A N C L) (hk : Kept S w w') (h1 : ∀ k x, k < m → ob (A k) = some x → ¬ S x) (h2 : ¬ S gl) : FB w' B gl m A N C L :=
  ⟨fun k hkm => (World.cell?_of_block (hk.block gl (block_lt_of_cell (h.tab k hkm)) h2)).trans (h.tab k hkm), fun k hkm => ownsRow_keep (h.row k hkm) hk (fun x hx => h1 k x hkm (by rw [ownBlock_slice] at hx; exact hx))⟩
theorem FB.kept0 (h : FB w B gl m A N C L) (hk : Kept (fun _ => False) w w') : FB w' B gl m A N C L := h.keep hk (fun _ _ _ _ => id) id
theorem FB.len (h : FB w B gl m A N C L) {k : Nat} (hk : k < m) : (L k).length = N k := by
  have := (h.row k hk).1
  rw [cellsOf_len, Nat.mul_one] at this
  exact this
theorem FB.lt (h : FB w B gl m A N C L) {k x : Nat} (hk : k < m) (hx : ob (A k) = some x) : x < w.heap.size ∧ B ≤ x := by
  rcases (h.row k hk).2 with ⟨h1, _⟩ | ⟨g, cap, cur, hv, hb, hh, _⟩
  · injection h1 with e1; rw [e1] at hx; cases hx
  · injection hv with e1; rw [e1] at hx; cases hx; exact ⟨heap_lt hh, hb⟩
theorem FB.cell (h : FB w B gl m A N C L) {k i : Nat} (hk : k < m) (hi : i < N k) : ∃ g, A k = some ⟨g, 0, none⟩ ∧ w.cell? ⟨g, i, none⟩ = some (.int .u8 (bAt (L k) i).toNat) ∧ w.frozen? ⟨g, i, none⟩ = false ∧ N k ≤ 9223372036854775807 := by
  have hr := h.row k hk
  have hl := h.len hk
  rcases hr.2 with ⟨_, h0⟩ | ⟨g, cap, cur, hv, hb, hh, h1, h2, h3, h4⟩
  · omega
  · injection hv with e1 e2 e3
    have hr' := hr
    rw [e1, e3] at hr'
    refine ⟨g, e1, ?_, hr'.frozenAt i, by have : maxLen = 9223372036854775807 := rfl; omega⟩
    rw [hr'.cellAt i (by omega), Array.getElem?_toList]
    exact cellsOf_at (by omega)
theorem FB.set (h : FB w B gl m A N C L) (hs : Sep m gl A) {k i g : Nat} (hk : k < m) (hg : A k = some ⟨g, 0, none⟩) (x : UInt8) :
    FB (w.setCell ⟨g, i, none⟩ (.int .u8 x.toNat)) B gl m A N C (updL L k ((L k).set i x)) := by
  have kc := Kept.cell w g i (.int .u8 x.toNat)
  have hob : ob (A k) = some g := by rw [hg]; rfl
  refine ⟨fun j hj => ?_, fun j hj => ?_⟩
  · exact (World.cell?_of_block (kc.block gl (block_lt_of_cell (h.tab j hj)) (fun e => hs.ngl k hk (e ▸ hob)))).trans (h.tab j hj)
  · by_cases hjk : j = k
    · subst hjk
      have hr := h.row j hj
      rw [hg] at hr ⊢
      have := (hr.stored i (.int .u8 x.toNat)).1
      have e : (cellsOf (L j)).toList.set i (.int .u8 x.toNat) = (cellsOf ((L j).set i x)).toList := by
        rw [← cellsOf_set]; simp
      rw [e] at this
      simpa [updL] using this
    · have hr := h.row j hj
      simp only [updL, hjk, if_false]
      refine ownsRow_keep hr kc (fun y hy e => ?_)
      rw [ownBlock_slice] at hy
      exact hjk (hs.dis j k g hj hk (e ▸ hy) hob)
theorem FB.congr {L' : Nat → Bytes} (h : FB w B gl m A N C L) (e : ∀ j, j < m → L j = L' j) : FB w B gl m A N C L' :=
  ⟨h.tab, fun k hk => by rw [← e k hk]; exact h.row k hk⟩
structure GS (w : World) (B gg gl m k : Nat) (A : Nat → Option Addr) (N : Nat → Nat) (arr : Array Value) (T : Nat → Bytes) : Prop where
  hb : w.heap[gg]? = some (.cells arr 26 (0, 0))
  hz : arr.size = m
  hv : ∀ j, j < k → ∃ g c, arr[j]? = some (.slice (some ⟨g, 0, none⟩) (N j + 64) c) ∧ w.ownsRow B 5 1 (.slice (some ⟨g, 0, none⟩) (N j + 64) c) (N j + 64) (cellsOf (T j)).toList ∧ g ≠ gg ∧ g ≠ gl ∧ (∀ i, i < m → i ≠ j → ob (A i) ≠ some g)
theorem GS.keep {S : Nat → Prop} {gg k : Nat} {arr : Array Value} {T : Nat → Bytes} (h : GS w B gg gl m k A N arr T) (hk : Kept S w w') (h1 : ¬ S gg) (h2 : ∀ j g, j < k → g < w.heap.size → g ≠ gg → g ≠ gl → (∀ i, i < m → i ≠ j → ob (A i) ≠ some g) → ¬ S g) : GS w' B gg gl m k A N arr T :=
  ⟨hk.heap h.hb h1, h.hz, fun j hj => by
    obtain ⟨g, c, e1, e2, e3, e4, e5⟩ := h.hv j hj
    have hlt : g < w.heap.size := by
      rcases e2.2 with ⟨h1, _⟩ | ⟨g', cap, cur, hv, hb, hh, _⟩
      · cases h1
      · cases hv; exact heap_lt hh
    exact ⟨g, c, e1, ownsRow_keep e2 hk (fun x hx => by cases hx; exact h2 j g hj hlt e3 e4 e5), e3, e4, e5⟩⟩
theorem GS.kept0 {gg k : Nat} {arr : Array Value} {T : Nat → Bytes} (h : GS w B gg gl m k A N arr T) (hk : Kept (fun _ => False) w w') : GS w' B gg gl m k A N arr T := h.keep hk id (fun _ _ _ _ _ _ _ => id)
theorem GS.put {gg k g c : Nat} {arr : Array Value} {T : Nat → Bytes} {t : Bytes} (h : GS w B gg gl m k A N arr T) (hk : k < m) (ho : w.ownsRow B 5 1 (.slice (some ⟨g, 0, none⟩) (N k + 64) c) (N k + 64) (cellsOf t).toList) (h1 : g ≠ gg) (h2 : g ≠ gl) (h3 : ∀ i, i < m → i ≠ k → ob (A i) ≠ some g) :
    GS (w.setCell ⟨gg, k, none⟩ (.slice (some ⟨g, 0, none⟩) (N k + 64) c)) B gg gl m (k + 1) A N (arr.setIfInBounds k (.slice (some ⟨g, 0, none⟩) (N k + 64) c)) (updL T k t) := by
  have kc := Kept.cell w gg k (.slice (some ⟨g, 0, none⟩) (N k + 64) c)
  refine ⟨set_blk h.hb k _, by simp [h.hz], fun j hj => ?_⟩
  by_cases hjk : j = k
  · subst hjk
    refine ⟨g, c, by rw [Array.getElem?_setIfInBounds]; simp [h.hz, hk], ?_, h1, h2, h3⟩
    simp only [updL, if_true]
    exact ownsRow_keep ho kc (fun x hx e => by cases hx; exact h1 e)
  · obtain ⟨g', c', e1, e2, e3, e4, e5⟩ := h.hv j (by omega)
    refine ⟨g', c', by rw [Array.getElem?_setIfInBounds, if_neg (Ne.symm hjk)]; exact e1, ?_, e3, e4, e5⟩
    simp only [updL, hjk, if_false]
    exact ownsRow_keep e2 kc (fun x hx e => by cases hx; exact e3 e)
theorem GS.tcell {gg k j : Nat} {arr : Array Value} {T : Nat → Bytes} (h : GS w B gg gl m k A N arr T) (hj : j < k) : ∃ g c, w.cell? ⟨gg, j, none⟩ = some (.slice (some ⟨g, 0, none⟩) (N j + 64) c) ∧ ∀ i, i < N j + 64 → w.cell? ⟨g, i, none⟩ = some (.int .u8 (bAt (T j) i).toNat) := by
  obtain ⟨g, c, e1, e2, _⟩ := h.hv j hj
  refine ⟨g, c, cell_blk h.hb e1, fun i hi => ?_⟩
  rw [e2.cellAt i (by omega), Array.getElem?_toList]
  have := e2.1
  rw [cellsOf_len, Nat.mul_one] at this
  exact cellsOf_at (by omega)
end
theorem wl_makeG {P : Program} {ops : Array Oper} {Q : Exit → Act → World → Prop} {a : Act} {w : World} {rest : List Oper} {o : Oper} (hg : o.guard = none) (l c : Operand) (t e : TypeId) (ho : o.op = .makeSlice t l c)
    {z : Value} {size bytes : Nat} (ht : P.underlying t = some (.slice e)) (hinf : (P.info? e).map (fun i => (i.zero, i.size, i.bytes)) = some (some z, size, bytes))
    (kl kc : IntKind) (n m : Nat) (hl : a.eval l = .int kl n) (hc : a.eval c = .int kc m) (hnm : n ≤ m) (hm : bytes * m ≤ 281474976710656) (hm2 : m ≤ 9223372036854775807)
    (k : ∀ g w', w.heap.size ≤ g → g < w'.heap.size → w'.heap[g]? = some (.cells (madeCells z.cells (m * size)) e (0, 0)) → Kept (fun _ => False) w w' → wpList P ops Q rest (a.put o.dst (.slice (some ⟨g, 0, none⟩) n m)) w') : wpList P ops Q (o :: rest) a w := by
  obtain ⟨i, hi, h2, h3, h4⟩ := info_parts hinf
  have hr := run_make (P := P) w t e i z ht hi h2 kl kc (n : Int) (m : Int) (by omega) (by omega) (by rw [h4]; omega) (by omega)
  simp only [Int.toNat_natCast, h3] at hr
  refine wl_val hg (v := .slice (some ⟨w.heap.size, 0, none⟩) n m) (w' := w.alloc (.cells (madeCells z.cells (m * size)) e)) ?_ (k w.heap.size _ (Nat.le_refl _) (heap_lt (heap_alloc_new w _)) (heap_alloc_new w _) ((Kept.refl _ w).alloc _))
  simp only [execOp, ho, hl, hc, Sem.run_bind, hr, Result.andThen_ok]
  rfl
theorem grow_one {w2 wr w' : World} {B n tt c' g cap Ck : Nat} {Ak A' : Option Addr} {xs : Bytes} (hxs : xs.length = n) (hlt : ∀ x, ob Ak = some x → x < w2.heap.size)
    (hV : wr.ownsRow B 5 1 (.slice Ak n Ck) n (cellsOf xs).toList) (ys : Bytes)
    (hA : (A' = Ak ∧ c' = Ck) ∨ (∀ x, ob A' = some x → w2.heap.size ≤ x)) (hk : Kept (fun x => ob Ak = some x) w2 wr)
    (ho : w'.ownsRow B 5 1 (.slice (some ⟨g, 0, none⟩) (n + tt) cap) (n + tt) (cellsOf (xs ++ ys)).toList)
    (hsp : ((A' = some ⟨g, 0, none⟩ ∧ c' = cap) ∧ Kept (fun x => x = g) wr w') ∨ (w2.heap.size ≤ g ∧ Kept (fun _ => False) wr w')) :
    w'.ownsRow B 5 1 (.slice Ak n Ck) n (cellsOf xs).toList ∧ ((some ⟨g, 0, none⟩ = Ak ∧ cap = Ck) ∨ (∀ x, ob (some ⟨g, 0, none⟩) = some x → w2.heap.size ≤ x)) ∧ Kept (fun x => ob Ak = some x) w2 w' := by
  rcases hsp with ⟨⟨e1, e3⟩, hk'⟩ | ⟨hg, hk'⟩
  · rcases hA with ⟨rfl, rfl⟩ | hA
    · subst e1; subst e3
      refine ⟨?_, .inl ⟨rfl, rfl⟩, hk.trans hk' (fun x _ e => by subst e; rfl)⟩
      rw [cellsOf_append] at ho
      exact ownsRow_short ho (by rw [cellsOf_len, hxs, Nat.mul_one])
    · have hg := hA g (by rw [e1]; rfl)
      refine ⟨ownsRow_keep hV hk' (fun x hx e => ?_), .inr (fun x hx => by cases hx; exact hg), hk.trans hk' (fun x hx e => by omega)⟩
      rw [ownBlock_slice] at hx
      have := hlt x hx
      omega
  · exact ⟨ownsRow_keep hV hk' (fun _ _ => id), .inr (fun x hx => by cases hx; exact hg), hk.trans0 hk'⟩
end Go.Proofs.YtnbfhdgojmflhaaGreat
