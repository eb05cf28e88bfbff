/-
  No statement is proved here: bytes in memory.
  No statement is proved here: contracts of the verifier's small functions: Pick, SameBytes, full.
-/
import Derived.Test.YtndflnedkpmpfaaGreatDoorProg
import Derived.Test.YtndflnedkpmpfaaGreatDoorBase
import Derived.StillTailTactics
import Derived.Deep.QuietTactic
import Derived.BigQuiet
namespace Go.Proofs.YtndflnedkpmpfaaGreatDoor
open Go.RowKit

abbrev Bytes := List UInt8
/-- The cells of bytes. -/
def cellsOf (l : Bytes) : Array Value := (l.map fun b => Value.int .u8 b.toNat).toArray
def blk (l : Bytes) : Value := .agg (cellsOf l)
def zeros (n : Nat) : Bytes := List.replicate n 0
theorem size_cellsOf (l : Bytes) : (cellsOf l).size = l.length := by simp [cellsOf]

theorem cells_blk (l : Bytes) : (blk l).cells = cellsOf l := rfl
theorem one_cellsOf (l : Bytes) : (cellsOf l).all (·.oneCell') = true := by
  rw [Array.all_eq_true_iff_forall_mem]
  intro v hv
  simp [cellsOf] at hv
  obtain ⟨b, _, rfl⟩ := hv
  rfl
theorem len_zeros (n : Nat) : (zeros n).length = n := by simp [zeros]
section
variable {w : World}
theorem info5 : (Tryz.prog.info? 5).map (fun i => (i.zero, i.size, i.bytes)) = some (some (.int .u8 0), 1, 1) := by kernel_rfl
/-- Bytes in a row of their own, at the head of block g, from block 'base' on. -/
def OwnB (w : World) (base g cap : Nat) (l : Bytes) : Prop := w.ownsRow base 5 1 (.slice (some ⟨g, 0, none⟩) l.length cap) l.length (cellsOf l).toList
theorem cellsOf_toList (l : Bytes) : (cellsOf l).toList = l.map fun b => Value.int .u8 b.toNat := by simp [cellsOf]
theorem cellsOf_get (l : Bytes) (i : Nat) : (cellsOf l)[i]? = l[i]?.map fun b => Value.int .u8 b.toNat := by simp [cellsOf]
theorem cellsOf_len (l : Bytes) : (cellsOf l).toList.length = l.length := by simp [cellsOf]
theorem OwnB.form {base g cap : Nat} {l : Bytes} (h : OwnB w base g cap l) : ∃ cur, base ≤ g ∧ w.heap[g]? = some (.cells cur 5 (0, 0)) ∧ l.length ≤ cap ∧ cap ≤ maxLen ∧ cur.size = cap ∧ cur.toList.take l.length = (cellsOf l).toList := by
  obtain ⟨_, h⟩ := h
  rcases h with ⟨h, _⟩ | ⟨g', cap', cur, hv, hb, hh, h1, h2, h3, h4⟩
  · cases h
  · injection hv with e1 e2 e3
    injection e1 with e1
    injection e1 with e1
    subst e1; subst e3
    exact ⟨cur, hb, hh, h1, h2, by simpa using h3, by simpa using h4⟩

theorem zeroU8 (w : World) : (zeroValue 5).run Tryz.prog w = .ok (.int .u8 0) w := by
  obtain ⟨i, h1, h2, _, _⟩ := info_parts info5
  simp [zeroValue, typeInfo, h1, h2]
end

/-- Bytes that a slice reads as. -/
def RdB (w : World) (A : Option Addr) (l : Bytes) : Prop := l ≠ [] → ∃ b off, A = some ⟨b, off, none⟩ ∧ ∀ j v, (cellsOf l)[j]? = some v → w.cell? ⟨b, off + j, none⟩ = some v
/-- The byte at a place. -/
def bAt (l : Bytes) (k : Nat) : UInt8 := l.getD k 0
theorem bAt_get {l : Bytes} {k : Nat} (h : k < l.length) : bAt l k = l[k] := by
  unfold bAt; rw [List.getD_eq_getElem?_getD, List.getElem?_eq_getElem h]; rfl
theorem cellsOf_at {l : Bytes} {k : Nat} (h : k < l.length) : (cellsOf l)[k]? = some (.int .u8 (bAt l k).toNat) := by
  rw [cellsOf_get, List.getElem?_eq_getElem h, bAt_get h]; rfl
theorem RdB.cell {w : World} {A : Option Addr} {l : Bytes} (h : RdB w A l) {k : Nat} (hk : k < l.length) : ∃ b off, A = some ⟨b, off, none⟩ ∧ w.cell? ⟨b, off + k, none⟩ = some (.int .u8 (bAt l k).toNat) := by
  obtain ⟨b, off, e, hc⟩ := h (by intro e; simp [e] at hk)
  exact ⟨b, off, e, hc k _ (cellsOf_at hk)⟩
theorem RdB.kept {S : Nat → Prop} {w w' : World} {A : Option Addr} {l : Bytes} (h : RdB w A l) (hk : Kept S w w') (hS : ∀ b off, A = some ⟨b, off, none⟩ → b < w.heap.size → ¬ S b) : RdB w' A l := by
  intro hl
  obtain ⟨b, off, e, hc⟩ := h hl
  refine ⟨b, off, e, fun j v hv => ?_⟩
  have h1 := hc j v hv
  have lb := block_lt_of_cell h1
  exact (World.cell?_of_block (hk.block b lb (hS b off e lb))).trans h1
theorem take_eq_succ {l l' : Bytes} {k : Nat} (h : k < l.length) (h' : k < l'.length) (he : l.take k = l'.take k) (e : bAt l k = bAt l' k) : l.take (k + 1) = l'.take (k + 1) := by
  rw [List.take_succ_eq_append_getElem h, List.take_succ_eq_append_getElem h', he]
  rw [bAt_get h, bAt_get h'] at e
  rw [e]


theorem cellsOf_set (l : Bytes) (i : Nat) (x : UInt8) : (cellsOf l).setIfInBounds i (.int .u8 x.toNat) = cellsOf (l.set i x) := by
  apply Array.ext_getElem?
  intro j
  rw [Array.getElem?_setIfInBounds, cellsOf_get, cellsOf_get, size_cellsOf, List.getElem?_set]
  by_cases h : i = j
  · subst h
    by_cases h2 : i < l.length <;> simp [h2]
  · simp [h]
theorem madeCells_zeros (n : Nat) : madeCells #[Value.int .u8 0] n = cellsOf (zeros n) := by
  apply Array.toList_inj.1
  rw [toList_madeCells_one, cellsOf_toList]
  simp [zeros]
theorem set_bytes {w : World} {g : Nat} {l : Bytes} {t : TypeId} (h : w.heap[g]? = some (.cells (cellsOf l) t (0, 0))) (i : Nat) (x : UInt8) : (w.setCell ⟨g, i, none⟩ (.int .u8 x.toNat)).heap[g]? = some (.cells (cellsOf (l.set i x)) t (0, 0)) := by
  rw [← cellsOf_set]; exact set_blk h i _
theorem cell_bytes {w : World} {g : Nat} {l : Bytes} {t : TypeId} {fr : Nat × Nat} (h : w.heap[g]? = some (.cells (cellsOf l) t fr)) {i : Nat} (hi : i < l.length) : w.cell? ⟨g, i, none⟩ = some (.int .u8 (bAt l i).toNat) :=
  cell_blk h (cellsOf_at hi)
/-- 'make([]byte, n)'. -/
theorem wl_makeB {ops : Array Oper} {Q : Exit → Act → World → Prop} {a : Act} {w : World} {rest : List Oper} {o : Oper} (hg : o.guard = none) (l c : Operand) (ho : o.op = .makeSlice 22 l c)
    (kl kc : IntKind) (n m : Nat) (hl : a.eval l = .int kl n) (hc : a.eval c = .int kc m) (hnm : n ≤ m) (hm : m ≤ 281474976710656)
    (k : ∀ g w', w.heap.size ≤ g → g < w'.heap.size → w'.heap[g]? = some (.cells (cellsOf (zeros m)) 5 (0, 0)) → Kept (fun _ => False) w w' → wpList Tryz.prog ops Q rest (a.put o.dst (.slice (some ⟨g, 0, none⟩) n m)) w') : wpList Tryz.prog ops Q (o :: rest) a w := by
  obtain ⟨i, hi, h2, h3, h4⟩ := info_parts info5
  have hr := run_make (P := Tryz.prog) w 22 5 i _ Tryz.underlying22 hi h2 kl kc (n : Int) (m : Int) (by omega) (by omega) (by rw [h4]; omega) (by omega)
  simp only [Int.toNat_natCast, h3, Nat.mul_one] at hr
  rw [show (Value.int IntKind.u8 0).cells = #[Value.int .u8 0] from rfl, madeCells_zeros] at hr
  refine wl_val hg (v := .slice (some ⟨w.heap.size, 0, none⟩) n m) (w' := w.alloc (.cells (cellsOf (zeros m)) 5)) ?_ (k w.heap.size _ (Nat.le_refl _) (by simp) (heap_alloc_new w _) ((Kept.refl _ w).alloc _))
  simp [execOp, ho, hl, hc, hr, Result.andThen]
theorem RdB.of_blk {w : World} {g : Nat} {l : Bytes} {t : TypeId} {fr : Nat × Nat} (h : w.heap[g]? = some (.cells (cellsOf l) t fr)) : RdB w (some ⟨g, 0, none⟩) l :=
  fun _ => ⟨g, 0, rfl, fun j v hv => cell_blk h (by simpa using hv)⟩
theorem OwnB.cellAt {w : World} {base g cap : Nat} {l : Bytes} (h : OwnB w base g cap l) {i : Nat} (hi : i < l.length) : w.cell? ⟨g, i, none⟩ = some (.int .u8 (bAt l i).toNat) := by
  obtain ⟨cur, _, hh, _, _, _, ht⟩ := h.form
  refine cell_blk hh ?_
  have e1 : (cellsOf l).toList[i]? = some (.int .u8 (bAt l i).toNat) := by rw [Array.getElem?_toList]; exact cellsOf_at hi
  rw [← ht, List.getElem?_take, if_pos hi, Array.getElem?_toList] at e1
  exact e1

end Go.Proofs.YtndflnedkpmpfaaGreatDoor
namespace Go.Proofs.YtndflnedkpmpfaaGreatDoor
open Go.RowKit

def pickM (x n : Int) : Int := if n < 1 then 0 else x % n
theorem pickM_lt {x n : Int} (h : 1 ≤ n) : 0 ≤ pickM x n ∧ pickM x n < n := by
  unfold pickM; rw [if_neg (by omega)]
  exact ⟨Int.emod_nonneg _ (by omega), Int.emod_lt_of_pos _ (by omega)⟩
theorem pick_any (x n : Int) (hn : n ≤ 9223372036854775807) (w : World) :
    Calls Tryz.prog 47 #[.int .i64 x, .int .i64 n] w fun e w' => e = .returned (.int .i64 (pickM x n)) ∧ w = w' := by
  by_cases h : n < 1
  · have e : pickM x n = 0 := by simp [pickM, h]
    rw [e]
    clear e
    go_enter Tryz.func47, Tryz.ntmps47
    go_wp2
    go_ret
    exact ⟨rfl, rfl⟩
  · have e : pickM x n = x % n := by simp [pickM, h]
    rw [e]
    have t1 : x.tmod n < n := Int.tmod_lt_of_pos x (by omega)
    have t2 : -n < x.tmod n := by
      have := Int.tmod_lt_of_pos (-x) (b := n) (by omega)
      rw [Int.neg_tmod] at this
      omega
    have t3 := Lib.hid (Int.tmod_eq_emod (a := x) (b := n))
    have t4 := Int.emod_nonneg x (show n ≠ 0 by omega)
    have t5 := Int.emod_lt_of_pos x (show 0 < n by omega)
    clear e
    go_enter Tryz.func47, Tryz.ntmps47
    go_wp2
    · go_ret
      refine ⟨?_, rfl⟩
      have h3 := t3.out
      split at h3
      · exfalso; omega
      · exact ret_int (by omega)
    · go_ret
      refine ⟨?_, rfl⟩
      have h3 := t3.out
      split at h3
      · exact ret_int (by omega)
      · exact ret_int (by omega)

set_option maxHeartbeats 400000 in
theorem same_any (A A' : Option Addr) (c c' : Nat) (l l' : Bytes) (w : World) (h : RdB w A l) (h' : RdB w A' l') (hl : l.length ≤ 4611686018427387904) :
    Calls Tryz.prog 34 #[.slice A l.length c, .slice A' l'.length c'] w fun e w' => e = .returned (.bool (decide (l = l'))) ∧ Same w w' := by
  by_cases hn : l.length = l'.length
  · have H := Lib.hid h; have H' := Lib.hid h'
    have HN := Lib.hid hn
    have hne : ((l.length : Int) != (l'.length : Int)) = false := by simp [hn]
    clear h h' hn
    go_enter Tryz.func34, Tryz.ntmps34
    go_wp2
    go_loopw [5] (fun i wr => ∃ k : Nat, k ≤ l.length ∧ i = .int .i64 k ∧ l.take k = l'.take k ∧ Same w wr) (fun i _ => l.length - (intOf i).toNat)
    case atStart => exact ⟨0, Nat.zero_le _, rfl, by simp, Same.refl _⟩
    case round =>
      obtain ⟨k, hk, rfl, htk, q, rfl⟩ := hrel
      have HT := Lib.hid htk
      clear htk
      by_cases hlt : k < l.length
      · have hlt' : k < l'.length := by rw [← HN.out]; exact hlt
        obtain ⟨b, off, hA, hc⟩ := H.out.cell hlt
        obtain ⟨b', off', hA', hc'⟩ := H'.out.cell hlt'
        subst hA; subst hA'
        have i0 : (0 : Int) ≤ (k : Int) := by omega
        have i1 : (k : Int) < (l.length : Int) := by omega
        have i2 : (k : Int) < (l'.length : Int) := by omega
        by_cases he : bAt l k = bAt l' k
        · have HS := Lib.hid (take_eq_succ hlt hlt' HT.out he)
          have hb : (((bAt l k).toNat : Int) != ((bAt l' k).toNat : Int)) = false := by simp [he]
          clear he
          go_wp2
          go_quiet (fail)
          go_wp2
          go_roundw
          case rel => exact ⟨k + 1, by omega, by go_num, HS.out, _, rfl⟩
          case measure => simp [intOf]; omega
        · have hd : decide (l = l') = false := by
            rw [decide_eq_false_iff_not]; rintro rfl; exact he rfl
          have HD := Lib.hid hd
          have hb : (((bAt l k).toNat : Int) != ((bAt l' k).toNat : Int)) = true := by
            rw [bne_iff_ne]; intro e; exact he (UInt8.toNat_inj.1 (by omega))
          clear he hd
          go_wp2
          go_quiet (fail)
          go_wp2
          go_ret
          exact ⟨ret_bool HD.out.symm, (Same.refl _).drewN _ |>.trans (by first | exact Same.refl _ | exact ⟨_, rfl⟩)⟩
      · have hd : decide (l = l') = true := by
          rw [decide_eq_true_eq]
          have := HT.out
          rwa [List.take_of_length_le (by omega), List.take_of_length_le (by have := HN.out; omega)] at this
        have HD := Lib.hid hd
        have hge : ¬ ((k : Int) < (l.length : Int)) := by omega
        clear hd
        go_wp2
        go_ret
        exact ⟨ret_bool HD.out.symm, (Same.refl _).drewN _ |>.trans (by first | exact Same.refl _ | exact ⟨_, rfl⟩)⟩
  · have hd : decide (l = l') = false := by rw [decide_eq_false_iff_not]; rintro rfl; exact hn rfl
    rw [hd]
    have hne : ((l.length : Int) != (l'.length : Int)) = true := by rw [bne_iff_ne]; omega
    clear h h' hn hd
    go_enter Tryz.func34, Tryz.ntmps34
    go_wp2
    go_ret
    exact ⟨rfl, Same.refl _⟩
end Go.Proofs.YtndflnedkpmpfaaGreatDoor
