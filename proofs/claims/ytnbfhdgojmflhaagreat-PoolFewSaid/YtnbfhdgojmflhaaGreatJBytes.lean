/-
  No statement is proved here: a part of what the claim's last text rests on.
-/
import Derived.Test.YtnbfhdgojmflhaaGreatProg
import Derived.Test.YtnbfhdgojmflhaaGreatJBase
import Derived.StillTailTactics
import Derived.Deep.QuietTactic
import Derived.BigQuiet
namespace Go.Proofs.YtnbfhdgojmflhaaGreat
open Go.RowKit
abbrev Bytes := List UInt8
def cellsOf (l : Bytes) : Array Value := (l.map fun b => Value.int .u8 b.toNat).toArray
def blk (l : Bytes) : Value := .agg (cellsOf l)
def zeros (n : Nat) : Bytes := List.replicate n 0
theorem size_cellsOf (l : Bytes) : (cellsOf l).size = l.length := by simp [cellsOf]
theorem one_cellsOf (l : Bytes) : (cellsOf l).all (·.oneCell') = true := by
  rw [Array.all_eq_true_iff_forall_mem]
  intro v hv
  simp [cellsOf] at hv
  obtain ⟨b, _, rfl⟩ := hv
  rfl
theorem len_zeros (n : Nat) : (zeros n).length = n := by simp [zeros]
section
variable {w : World}
theorem info5 : (Tryz.prog.info? 5).map (fun i => (i.zero, i.size, i.bytes)) = some (some (.int .u8 0), 1, 1) := by kernel_rfl
def OwnB (w : World) (base g cap : Nat) (l : Bytes) : Prop := w.ownsRow base 5 1 (.slice (some ⟨g, 0, none⟩) l.length cap) l.length (cellsOf l).toList
theorem cellsOf_toList (l : Bytes) : (cellsOf l).toList = l.map fun b => Value.int .u8 b.toNat := by simp [cellsOf]
theorem cellsOf_get (l : Bytes) (i : Nat) : (cellsOf l)[i]? = l[i]?.map fun b => Value.int .u8 b.toNat := by simp [cellsOf]
theorem cellsOf_len (l : Bytes) : (cellsOf l).toList.length = l.length := by simp [cellsOf]
theorem OwnB.form {base g cap : Nat} {l : Bytes} (h : OwnB w base g cap l) : ∃ cur, base ≤ g ∧ w.heap[g]? = some (.cells cur 5 (0, 0)) ∧ l.length ≤ cap ∧ cap ≤ maxLen ∧ cur.size = cap ∧ cur.toList.take l.length = (cellsOf l).toList := by
  obtain ⟨_, h⟩ := h
  rcases h with ⟨h, _⟩ | ⟨g', cap', cur, hv, hb, hh, h1, h2, h3, h4⟩
  · cases h
  · injection hv with e1 e2 e3
    injection e1 with e1
    injection e1 with e1
    subst e1; subst e3
    exact ⟨cur, hb, hh, h1, h2, by simpa using h3, by simpa using h4⟩
theorem zeroU8 (w : World) : (zeroValue 5).run Tryz.prog w = .ok (.int .u8 0) w := by
  obtain ⟨i, h1, h2, _, _⟩ := info_parts info5
  simp [zeroValue, typeInfo, h1, h2]
end
def RdB (w : World) (A : Option Addr) (l : Bytes) : Prop := l ≠ [] → ∃ b off, A = some ⟨b, off, none⟩ ∧ ∀ j v, (cellsOf l)[j]? = some v → w.cell? ⟨b, off + j, none⟩ = some v
def bAt (l : Bytes) (k : Nat) : UInt8 := l.getD k 0
theorem bAt_get {l : Bytes} {k : Nat} (h : k < l.length) : bAt l k = l[k] := by
  unfold bAt; rw [List.getD_eq_getElem?_getD, List.getElem?_eq_getElem h]; rfl
theorem cellsOf_at {l : Bytes} {k : Nat} (h : k < l.length) : (cellsOf l)[k]? = some (.int .u8 (bAt l k).toNat) := by
  rw [cellsOf_get, List.getElem?_eq_getElem h, bAt_get h]; rfl
theorem RdB.cell {w : World} {A : Option Addr} {l : Bytes} (h : RdB w A l) {k : Nat} (hk : k < l.length) : ∃ b off, A = some ⟨b, off, none⟩ ∧ w.cell? ⟨b, off + k, none⟩ = some (.int .u8 (bAt l k).toNat) := by
  obtain ⟨b, off, e, hc⟩ := h (by intro e; simp [e] at hk)
  exact ⟨b, off, e, hc k _ (cellsOf_at hk)⟩
theorem RdB.kept {S : Nat → Prop} {w w' : World} {A : Option Addr} {l : Bytes} (h : RdB w A l) (hk : Kept S w w') (hS : ∀ b off, A = some ⟨b, off, none⟩ → b < w.heap.size → ¬ S b) : RdB w' A l := by
  intro hl
  obtain ⟨b, off, e, hc⟩ := h hl
  refine ⟨b, off, e, fun j v hv => ?_⟩
  have h1 := hc j v hv
  have lb := block_lt_of_cell h1
  exact (World.cell?_of_block (hk.block b lb (hS b off e lb))).trans h1
theorem take_eq_succ {l l' : Bytes} {k : Nat} (h : k < l.length) (h' : k < l'.length) (he : l.take k = l'.take k) (e : bAt l k = bAt l' k) : l.take (k + 1) = l'.take (k + 1) := by
  rw [List.take_succ_eq_append_getElem h, List.take_succ_eq_append_getElem h', he]
  rw [bAt_get h, bAt_get h'] at e
  rw [e]
theorem cellsOf_set (l : Bytes) (i : Nat) (x : UInt8) : (cellsOf l).setIfInBounds i (.int .u8 x.toNat) = cellsOf (l.set i x) := by
  apply Array.ext_getElem?
  intro j
  rw [Array.getElem?_setIfInBounds, cellsOf_get, cellsOf_get, size_cellsOf, List.getElem?_set]
  by_cases h : i = j
  · subst h
    by_cases h2 : i < l.length <;> simp [h2]
  · simp [h]
theorem madeCells_zeros (n : Nat) : madeCells #[Value.int .u8 0] n = cellsOf (zeros n) := by
  apply Array.toList_inj.1
  rw [toList_madeCells_one, cellsOf_toList]
  simp [zeros]
theorem set_bytes {w : World} {g : Nat} {l : Bytes} {t : TypeId} (h : w.heap[g]? = some (.cells (cellsOf l) t (0, 0))) (i : Nat) (x : UInt8) : (w.setCell ⟨g, i, none⟩ (.int .u8 x.toNat)).heap[g]? = some (.cells (cellsOf (l.set i x)) t (0, 0)) := by
  rw [← cellsOf_set]; exact set_blk h i _
theorem cell_bytes {w : World} {g : Nat} {l : Bytes} {t : TypeId} {fr : Nat × Nat} (h : w.heap[g]? = some (.cells (cellsOf l) t fr)) {i : Nat} (hi : i < l.length) : w.cell? ⟨g, i, none⟩ = some (.int .u8 (bAt l i).toNat) :=
  cell_blk h (cellsOf_at hi)
theorem wl_makeB {ops : Array Oper} {Q : Exit → Act → World → Prop} {a : Act} {w : World} {rest : List Oper} {o : Oper} (hg : o.guard = none) (l c : Operand) (ho : o.op = .makeSlice 26 l c)
    (kl kc : IntKind) (n m : Nat) (hl : a.eval l = .int kl n) (hc : a.eval c = .int kc m) (hnm : n ≤ m) (hm : m ≤ 281474976710656)
    (k : ∀ g w', w.heap.size ≤ g → g < w'.heap.size → w'.heap[g]? = some (.cells (cellsOf (zeros m)) 5 (0, 0)) → Kept (fun _ => False) w w' → wpList Tryz.prog ops Q rest (a.put o.dst (.slice (some ⟨g, 0, none⟩) n m)) w') : wpList Tryz.prog ops Q (o :: rest) a w := by
  obtain ⟨i, hi, h2, h3, h4⟩ := info_parts info5
  have hr := run_make (P := Tryz.prog) w 26 5 i _ Tryz.underlying26 hi h2 kl kc (n : Int) (m : Int) (by omega) (by omega) (by rw [h4]; omega) (by omega)
  simp only [Int.toNat_natCast, h3, Nat.mul_one] at hr
  rw [show (Value.int IntKind.u8 0).cells = #[Value.int .u8 0] from rfl, madeCells_zeros] at hr
  refine wl_val hg (v := .slice (some ⟨w.heap.size, 0, none⟩) n m) (w' := w.alloc (.cells (cellsOf (zeros m)) 5)) ?_ (k w.heap.size _ (Nat.le_refl _) (by simp) (heap_alloc_new w _) ((Kept.refl _ w).alloc _))
  simp [execOp, ho, hl, hc, hr, Result.andThen]
theorem RdB.of_blk {w : World} {g : Nat} {l : Bytes} {t : TypeId} {fr : Nat × Nat} (h : w.heap[g]? = some (.cells (cellsOf l) t fr)) : RdB w (some ⟨g, 0, none⟩) l :=
  fun _ => ⟨g, 0, rfl, fun j v hv => cell_blk h (by simpa using hv)⟩
theorem OwnB.cellAt {w : World} {base g cap : Nat} {l : Bytes} (h : OwnB w base g cap l) {i : Nat} (hi : i < l.length) : w.cell? ⟨g, i, none⟩ = some (.int .u8 (bAt l i).toNat) := by
  obtain ⟨cur, _, hh, _, _, _, ht⟩ := h.form
  refine cell_blk hh ?_
  have e1 : (cellsOf l).toList[i]? = some (.int .u8 (bAt l i).toNat) := by rw [Array.getElem?_toList]; exact cellsOf_at hi
  rw [← ht, List.getElem?_take, if_pos hi, Array.getElem?_toList] at e1
  exact e1
end Go.Proofs.YtnbfhdgojmflhaaGreat
