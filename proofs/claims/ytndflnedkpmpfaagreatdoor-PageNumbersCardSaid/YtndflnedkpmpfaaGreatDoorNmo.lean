/-
  No statement is proved here: words for PageNumbers's walk: regions with two makes in any order, the row of odd pages.
-/
import Derived.Test.YtndflnedkpmpfaaGreatDoorNm
import Derived.Test.YtndflnedkpmpfaaGreatDoorOrd
import Derived.Test.YtndflnedkpmpfaaGreatDoorTells
import Derived.Test.YtndflnedkpmpfaaGreatDoorLiv
import Derived.Test.YtndflnedkpmpfaaGreatDoorDfw
import Derived.Great.BuildSlice
namespace Go.Proofs.YtndflnedkpmpfaaGreatDoor
open Go.RowKit

section
variable {P : Program} {ops : Array Oper} {Q : Exit → Act → World → Prop} {md : Region.Mode} {S : World → Prop} {last : Nat}
/-- Two may come up. -/
theorem forkL (i j : Nat) {l : List Oper} {oi oj : Oper} {fuel : Nat} {listed : Array Bool} {a : Act} {w : World} (hi : atL l i = some oi) (hj : atL l j = some oj) (hr : Region.ready md l.toArray listed = [i, j])
    (h1 : ∀ K' : Act → World → Prop, RowKit.Hid (∀ a w, (i ≠ last → S w) → ((i ≠ last → S w) → wpAnyL P md l.toArray Q S last fuel (listed.setIfInBounds i true) a w) → K' a w) → if Region.wanted oi (yielded l.toArray a.tmps) = true then Oper.wp P oi a w K' Q else K' (a.put oi.dst undef) w)
    (h2 : ∀ K' : Act → World → Prop, RowKit.Hid (∀ a w, (j ≠ last → S w) → ((j ≠ last → S w) → wpAnyL P md l.toArray Q S last fuel (listed.setIfInBounds j true) a w) → K' a w) → if Region.wanted oj (yielded l.toArray a.tmps) = true then Oper.wp P oj a w K' Q else K' (a.put oj.dst undef) w) :
    wpAnyL P md l.toArray Q S last (fuel + 1) listed a w := by
  have hi' : l.toArray[i]? = some oi := by rw [← hi, atL_spec]; simp
  have hj' : l.toArray[j]? = some oj := by rw [← hj, atL_spec]; simp
  refine ⟨fun h0 => (by rw [hr] at h0; cases h0), ?_⟩
  rw [hr]
  intro x hx
  simp only [List.mem_cons, List.not_mem_nil, or_false] at hx
  rcases hx with rfl | rfl
  · exact wpOp_step hi' (fun K' hK => h1 K' (Lib.hid (fun a w hS hW => hK a w ⟨hS, hW hS⟩)))
  · exact wpOp_step hj' (fun K' hK => h2 K' (Lib.hid (fun a w hS hW => hK a w ⟨hS, hW hS⟩)))
end
theorem step_makeB {Q : Exit → Act → World → Prop} {E : Prop} {K : Act → World → Prop} {ops : Array Oper} {a : Act} {w : World} {o : Oper} (hg : o.guard = none) (l c : Operand) (ho : o.op = .makeSlice 22 l c)
    (kl kc : IntKind) (n m : Nat) (hl : a.eval l = .int kl n) (hc : a.eval c = .int kc m) (hnm : n ≤ m) (hm : m ≤ 281474976710656)
    (k : ∀ g w', w.heap.size ≤ g → g < w'.heap.size → w'.heap[g]? = some (.cells (cellsOf (zeros m)) 5 (0, 0)) → Kept (fun _ => False) w w' → K (a.put o.dst (.slice (some ⟨g, 0, none⟩) n m)) w') : if Region.wanted o (yielded ops a.tmps) = true then Oper.wp Tryz.prog o a w K Q else E := by
  rw [if_pos (by simp [Region.wanted, hg])]
  obtain ⟨i, hi, h2, h3, h4⟩ := info_parts info5
  have hr := run_make (P := Tryz.prog) w 22 5 i _ Tryz.underlying22 hi h2 kl kc (n : Int) (m : Int) (by omega) (by omega) (by rw [h4]; omega) (by omega)
  simp only [Int.toNat_natCast, h3, Nat.mul_one] at hr
  rw [show (Value.int IntKind.u8 0).cells = #[Value.int .u8 0] from rfl, madeCells_zeros] at hr
  have hk := k w.heap.size (w.alloc (.cells (cellsOf (zeros m)) 5)) (Nat.le_refl _) (by simp) (heap_alloc_new w _) ((Kept.refl _ w).alloc _)
  unfold Oper.wp
  simp only [execOp, ho, hl, hc, Sem.run_bind, hr, Result.andThen_ok]
  exact hk
theorem infoD9x : ((Tryz.prog).info? 32).map (fun i => (i.zero, i.size, i.bytes)) = some (some (.agg #[.int .i64 0, .int .i64 0, .int .i64 0, .slice none 0 0]), 4, 48) := by kernel_rfl
theorem bD1 (a : Nat) (wz : World) : (Instr.build 32 #[(0, .int .i64 0), (3, .slice (some ⟨a, 0, none⟩) 1 1)]).run Tryz.prog wz = .ok (.agg #[.int .i64 0, .int .i64 0, .int .i64 0, .slice (some ⟨a, 0, none⟩) 1 1]) wz := run_build wz _ _ _ (by kernel_rfl)
theorem bD2 (wz : World) : (Instr.build 32 #[(0, .int .i64 3)]).run Tryz.prog wz = .ok (.agg #[.int .i64 3, .int .i64 0, .int .i64 0, .slice none 0 0]) wz := run_build wz _ _ _ (by kernel_rfl)
theorem bD3 (wz : World) : (Instr.build 32 #[(0, .int .i64 4), (2, .int .i64 3)]).run Tryz.prog wz = .ok (.agg #[.int .i64 4, .int .i64 0, .int .i64 3, .slice none 0 0]) wz := run_build wz _ _ _ (by kernel_rfl)
theorem bD4 (a : Nat) (wz : World) : (Instr.buildSlice 33 3 #[(0, .agg #[.int .i64 0, .int .i64 0, .int .i64 0, .slice (some ⟨a, 0, none⟩) 1 1]), (1, .agg #[.int .i64 3, .int .i64 0, .int .i64 0, .slice none 0 0]), (2, .agg #[.int .i64 4, .int .i64 0, .int .i64 3, .slice none 0 0])]).run Tryz.prog wz =
    .ok (.slice (some ⟨wz.heap.size, 0, none⟩) 3 3) (wz.alloc (.cells #[.int .i64 0, .int .i64 0, .int .i64 0, .slice (some ⟨a, 0, none⟩) 1 1, .int .i64 3, .int .i64 0, .int .i64 0, .slice none 0 0, .int .i64 4, .int .i64 0, .int .i64 3, .slice none 0 0] 32)) := by
  obtain ⟨i, hi, h2, h3, h4⟩ := info_parts infoD9x
  exact run_buildSlice wz _ 32 3 _ _ i _ Tryz.underlying33 hi h2 (by rw [h3]; decide) (by rw [h3]; decide) (by rw [h3]; kernel_rfl)
/-- An odd page: none, or bytes in a block of their own. -/
def OddV (w : World) (B : Nat) (x : Value) : Prop := x = .slice none 0 0 ∨ ∃ g c l, x = .slice (some ⟨g, 0, none⟩) l.length c ∧ OwnB w B g c l
theorem OddV.keep {S : Nat → Prop} {w w' : World} {B : Nat} {x : Value} (h : OddV w B x) (hk : Kept S w w') (hS : ∀ g cur, w.heap[g]? = some (.cells cur 5 (0, 0)) → ¬ S g) : OddV w' B x := by
  rcases h with h | ⟨g, c, l, e, ho⟩
  · exact .inl h
  · obtain ⟨cur, -, hh, -⟩ := ho.form
    exact .inr ⟨g, c, l, e, ho.keep hk (hS g cur hh)⟩
theorem OddV.rd {w : World} {B : Nat} {x : Value} (h : OddV w B x) : ∃ A l c, x = .slice A l.length c ∧ RdB w A l ∧ l.length ≤ c ∧ c ≤ 9223372036854775807 := by
  rcases h with rfl | ⟨g, c, l, rfl, ho⟩
  · exact ⟨none, [], 0, rfl, fun h => absurd rfl h, by simp, by omega⟩
  · obtain ⟨cur, -, -, h1, h2, -⟩ := ho.form
    exact ⟨_, l, c, rfl, ho.rdp, h1, h2⟩
def OddAt (w : World) (B g n cap : Nat) : Prop := ∃ xs : List Value, w.ownsRow B 22 1 (.slice (some ⟨g, 0, none⟩) n cap) n xs ∧ ∀ x ∈ xs, OddV w B x
theorem OddAt.kept {w w' : World} {B g n cap : Nat} (h : OddAt w B g n cap) (hk : Kept (fun _ => False) w w') : OddAt w' B g n cap := by
  obtain ⟨xs, h1, h2⟩ := h
  exact ⟨xs, ownsRow_keep h1 hk (fun _ _ => id), fun x hx => (h2 x hx).keep hk (fun _ _ _ => id)⟩
theorem OddAt.keep8 {S : Nat → Prop} {w w' : World} {B g n cap : Nat} (h : OddAt w B g n cap) (hk : Kept S w w') (hS : ∀ x, S x → w.heap.size ≤ x) : OddAt w' B g n cap := by
  obtain ⟨xs, h1, h2⟩ := h
  exact ⟨xs, ownsRow_keep h1 hk (fun x hx e => by have := (row_blk h1 hx).2.1; have := hS x e; omega), fun x hx => (h2 x hx).keep hk (fun x cur hh e => by have := heap_lt hh; have := hS x e; omega)⟩
theorem OddAt.cell {w : World} {B g n cap : Nat} (h : OddAt w B g n cap) {k : Nat} (hk : k < n) : ∃ x, w.cell? ⟨g, k, none⟩ = some x ∧ OddV w B x := by
  obtain ⟨xs, h1, h2⟩ := h
  have hl : xs.length = n := by have := h1.1; omega
  have e := List.getElem?_eq_getElem (l := xs) (i := k) (by omega)
  exact ⟨xs[k], (h1.cellAt k (by omega)).trans e, h2 _ (List.getElem_mem _)⟩
theorem OddAt.cap {w : World} {B g n cap : Nat} (h : OddAt w B g n cap) : n ≤ cap ∧ cap ≤ 9223372036854775807 ∧ B ≤ g := by
  obtain ⟨xs, h1, -⟩ := h
  obtain ⟨h2, -, h3, h4, -⟩ := ownsRow_mid h1
  exact ⟨h3, h4, h2⟩
theorem OddAt.first {w : World} {g : Nat} {B : Nat} {xs : List Value} (hb : w.heap[g]? = some (.cells xs.toArray 22 (0, 0))) (hB : B ≤ g) (h : ∀ x ∈ xs, OddV w B x) (hl : xs.length ≤ 1000) : OddAt w B g xs.length xs.length :=
  ⟨xs, ⟨by omega, .inr ⟨g, xs.length, xs.toArray, rfl, hB, hb, Nat.le_refl _, by have : maxLen = 9223372036854775807 := rfl; omega, by simp, by simp⟩⟩, h⟩
/-- A byte is stored into a row of the call's own. -/
theorem wl_setZ {w : World} {ops : Array Oper} {rest : List Oper} {o : Oper} {a : Act} {Q : Exit → Act → World → Prop} (hgd : o.guard = none) (t : TypeId) (x y : Operand) (ho : o.op = .store t x y) (ht : ((Tryz.prog).info? t).map (·.size) = some 1) (B g c : Nat) (l : Bytes) (i : Nat) (z : UInt8) (z' : Int) (hx : a.eval x = .pointer (some ⟨g, i, none⟩)) (hy : a.eval y = .int .u8 z') (hz : z' = (z.toNat : Int)) (h : OwnB w B g c l) (hi : i < l.length)
    (k : ∀ w', OwnB w' B g c (l.set i z) → Kept (fun x => x = g) w w' → wpList Tryz.prog ops Q rest (a.put o.dst undef) w') : wpList Tryz.prog ops Q (o :: rest) a w := by
  subst hz
  obtain ⟨cur, hB, hh, h1, h2, h3, ht'⟩ := h.form
  refine wl_store1 hgd t x y ho g i (.int .u8 z.toNat) cur hx hy hh ht (by omega) rfl ?_
  intro w' hb' hk'
  refine k w' ⟨by rw [cellsOf_len, Nat.mul_one], .inr ⟨g, c, _, by rw [List.length_set], hB, hb', by rw [List.length_set]; exact h1, h2, by simpa using h3, ?_⟩⟩ hk'
  rw [List.length_set, Nat.mul_one, Array.toList_setIfInBounds, List.take_set, ht', ← cellsOf_set]
  simp
/-- The same, whatever is stored. -/
theorem wl_setE {w : World} {ops : Array Oper} {rest : List Oper} {o : Oper} {a : Act} {Q : Exit → Act → World → Prop} (hgd : o.guard = none) (t : TypeId) (x y : Operand) (ho : o.op = .store t x y) (ht : ((Tryz.prog).info? t).map (·.size) = some 1) (B g c : Nat) (l : Bytes) (i : Nat) (z' : Int) (hx : a.eval x = .pointer (some ⟨g, i, none⟩)) (hy : a.eval y = .int .u8 z') (hz : 0 ≤ z' ∧ z' < 256) (h : OwnB w B g c l) (hl : l.length = 512) (hi : i < 512)
    (k : ∀ w' l', l'.length = 512 → OwnB w' B g c l' → Kept (fun x => x = g) w w' → wpList Tryz.prog ops Q rest (a.put o.dst undef) w') : wpList Tryz.prog ops Q (o :: rest) a w :=
  wl_setZ hgd t x y ho ht B g c l i (UInt8.ofNat z'.toNat) z' hx hy (by rw [UInt8.toNat_ofNat']; omega) h (by omega) (fun w' h1 h2 => k w' _ (by rw [List.length_set]; exact hl) h1 h2)
/-- One more odd page. -/
theorem wl_odd {w : World} {ops : Array Oper} {rest : List Oper} {o : Oper} {a : Act} {Q : Exit → Act → World → Prop} (hgd : o.guard = none) (s x : Operand) (ho : o.op = .call { callee := .builtin .append, args := #[s, x], argTypes := #[28, 28] })
    (B g n cap : Nat) (hs : a.eval s = .slice (some ⟨g, 0, none⟩) n cap) (hO : OddAt w B g n cap) (b m c : Nat) (l : Bytes) (y y0 : Nat) (hl : l.length = y0) (hx : a.eval x = .slice (some ⟨b, 0, none⟩) 1 c) (hc : w.cell? ⟨b, 0, none⟩ = some (.slice (some ⟨m, 0, none⟩) y0 y)) (hm : OwnB w B m y l) (hn : n ≤ 10000) (hbase : B ≤ w.heap.size)
    (k : ∀ g' cap' w', OddAt w' B g' (n + 1) cap' → Kept (fun x => B ≤ x ∧ ∀ cur, w.heap[x]? ≠ some (.cells cur 5 (0, 0))) w w' → wpList Tryz.prog ops Q rest (a.put o.dst (.slice (some ⟨g', 0, none⟩) (n + 1 : Nat) cap')) w') : wpList Tryz.prog ops Q (o :: rest) a w := by
  subst hl
  obtain ⟨xs, h1, h2⟩ := hO
  refine wl_append hgd s x 28 ho B 22 Tryz.underlying28 infoSlB rfl (by omega) _ n xs hs h1 b 0 1 c [.slice (some ⟨m, 0, none⟩) l.length y] hx rfl (fun j u hu => ?_) (by simp [Value.oneCell']) (by omega) (by have : maxLen = 9223372036854775807 := rfl; omega) (by omega) hbase ?_
  · have hj := (List.getElem?_eq_some_iff.1 hu).1
    obtain rfl : j = 0 := by simpa using hj
    cases hu
    exact hc
  · intro g' cap' w' ho' hk' hat m'
    have hty : ∀ x cur, w.heap[x]? = some (.cells cur 5 (0, 0)) → ¬ ((Value.slice (some ⟨g, 0, none⟩) n cap).ownBlock = some x) := fun x cur hh e => by
      obtain ⟨-, -, cur', h'⟩ := row_blk h1 e
      rw [hh] at h'
      cases h'
    refine k g' cap' w' ⟨_, ho', fun x hx => ?_⟩ (hk'.mono (fun x _ e => ⟨(row_blk h1 e).1, fun cur hh => hty x cur hh e⟩))
    rcases List.mem_append.1 hx with hx | hx
    · exact (h2 x hx).keep hk' hty
    · simp only [List.mem_cons, List.not_mem_nil, or_false] at hx
      subst hx
      exact (show OddV w B _ from .inr ⟨m, y, l, rfl, hm⟩).keep hk' hty
end Go.Proofs.YtndflnedkpmpfaaGreatDoor
