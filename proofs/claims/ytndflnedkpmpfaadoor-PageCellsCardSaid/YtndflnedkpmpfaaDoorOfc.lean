/-
  No statement is proved here: contracts of page's Kind and Next, and of the document's Check, Kind, Next, Count.
-/
import Derived.Test.YtndflnedkpmpfaaDoorOf
namespace Go.Proofs.YtndflnedkpmpfaaDoor
open Go.RowKit

def kindM (l : Bytes) : UInt8 := if endM l = 0 then 0 else bAt l 0
def nxtM (l : Bytes) : Nat := if endM l = 0 then 0 else nextM l
section
variable (A : Option Addr) (c : Nat) (l : Bytes) (w : World)
theorem kind_any (h : RdB w A l) (hl : l.length ≤ 1000000) (hc : l.length ≤ c) (hc2 : c ≤ 9223372036854775807) :
    Calls Tryd.prog 29 #[.slice A l.length c] w fun e w' => e = .returned (.int .u8 (kindM l).toNat) ∧ Same w w' := by
  have HC := Lib.hid (check_any A c l w h hl hc hc2)
  by_cases h0 : endM l = 0
  · have e : kindM l = 0 := by unfold kindM; rw [if_pos h0]
    have hd : decide (0 < endM l) = false := by rw [h0]; rfl
    rw [hd] at HC
    rw [e]
    clear h e h0 hd
    go_enter Tryd.func29, Tryd.ntmps29
    go_wp2_with (go_at_call 28; refine HC.out.mono ?_; rintro e wx ⟨rfl, hs⟩)
    go_ret
    exact ⟨rfl, hs⟩
  · have e : kindM l = bAt l 0 := by unfold kindM; rw [if_neg h0]
    have hd : decide (0 < endM l) = true := by rw [decide_eq_true_eq]; omega
    have h5 := endM_len h0
    rw [hd] at HC
    rw [e]
    obtain ⟨b, off, rfl, d0⟩ := h.cell (k := 0) (by omega)
    have d1 : w.cell? ⟨b, off, none⟩ = some (.int .u8 (bAt l 0).toNat) := d0
    have hi1 : (0 : Int) < (l.length : Int) := by omega
    clear h e h0 hd h5 d0
    go_enter Tryd.func29, Tryd.ntmps29
    go_wp2_with fail
    refine HC.out.mono ?_
    rintro e wx ⟨rfl, hs⟩
    have d1' := (World.cell?_of_block ((hs.kept (fun _ => False)).block b (block_lt_of_cell d1) id)).trans d1
    go_wp2
    go_ret
    exact ⟨rfl, hs⟩
theorem or4 (x2 x3 x4 x5 : UInt8) : bits BinOp.or IntKind.i64 (bits BinOp.or IntKind.i64 (bits BinOp.or IntKind.i64 (wrap64 (wrap64 ↑x2.toNat * 16777216)) (wrap64 (wrap64 ↑x3.toNat * 65536))) (wrap64 (wrap64 ↑x4.toNat * 256))) (wrap64 ↑x5.toNat) =
    ((x2.toNat * 16777216 + x3.toNat * 65536 + x4.toNat * 256 + x5.toNat : Nat) : Int) := by
  have b2 := x2.toNat_lt
  have b3 := x3.toNat_lt
  have b4 := x4.toNat_lt
  have b5 := x5.toNat_lt
  have w2 : wrap64 (wrap64 (x2.toNat : Int) * 16777216) = (x2.toNat : Int) * 16777216 := by unfold wrap64; omega
  have w3 : wrap64 (wrap64 (x3.toNat : Int) * 65536) = (x3.toNat : Int) * 65536 := by unfold wrap64; omega
  have w4 : wrap64 (wrap64 (x4.toNat : Int) * 256) = (x4.toNat : Int) * 256 := by unfold wrap64; omega
  have w5 : wrap64 (x5.toNat : Int) = (x5.toNat : Int) := by unfold wrap64; omega
  have hk : ∀ n : Int, 0 ≤ n → n < 2 ^ 63 → IntKind.i64.wrap n = n := fun n h h' => by rw [IntKind.wrap_i64]; omega
  have e1 : bits BinOp.or IntKind.i64 ((x2.toNat : Int) * 16777216) ((x3.toNat : Int) * 65536) = (x2.toNat : Int) * 16777216 + (x3.toNat : Int) * 65536 :=
    bits_join .i64 63 (by decide) hk 24 _ _ (by omega) (by omega) (by omega) (by omega) (by omega) (by omega)
  have e2 : bits BinOp.or IntKind.i64 ((x2.toNat : Int) * 16777216 + (x3.toNat : Int) * 65536) ((x4.toNat : Int) * 256) = (x2.toNat : Int) * 16777216 + (x3.toNat : Int) * 65536 + (x4.toNat : Int) * 256 :=
    bits_join .i64 63 (by decide) hk 16 _ _ (by omega) (by omega) (by omega) (by omega) (by omega) (by omega)
  have e3 : bits BinOp.or IntKind.i64 ((x2.toNat : Int) * 16777216 + (x3.toNat : Int) * 65536 + (x4.toNat : Int) * 256) (x5.toNat : Int) = (x2.toNat : Int) * 16777216 + (x3.toNat : Int) * 65536 + (x4.toNat : Int) * 256 + (x5.toNat : Int) :=
    bits_join .i64 63 (by decide) hk 8 _ _ (by omega) (by omega) (by omega) (by omega) (by omega) (by omega)
  rw [w2, w3, w4, w5, e1, e2, e3]
  omega
set_option maxHeartbeats 1000000 in
theorem next_any (h : RdB w A l) (hl : l.length ≤ 1000000) (hc : l.length ≤ c) (hc2 : c ≤ 9223372036854775807) :
    Calls Tryd.prog 32 #[.slice A l.length c] w fun e w' => e = .returned (.int .i64 (nxtM l)) ∧ Same w w' := by
  have HC := Lib.hid (check_any A c l w h hl hc hc2)
  by_cases h0 : endM l = 0
  · have e : nxtM l = 0 := by unfold nxtM; rw [if_pos h0]
    have hd : decide (0 < endM l) = false := by rw [h0]; rfl
    rw [hd] at HC
    rw [e]
    clear h e h0 hd
    go_enter Tryd.func32, Tryd.ntmps32
    go_wp2_with (go_at_call 28; refine HC.out.mono ?_; rintro e wx ⟨rfl, hs⟩)
    go_ret
    exact ⟨rfl, hs⟩
  · have e : nxtM l = nextM l := by unfold nxtM; rw [if_neg h0]
    have hd : decide (0 < endM l) = true := by rw [decide_eq_true_eq]; omega
    have h5 := endM_len h0
    rw [hd] at HC
    rw [e]
    obtain ⟨b, off, rfl, d2⟩ := h.cell (k := 2) (by omega)
    obtain ⟨b', off', hy, d3⟩ := h.cell (k := 3) (by omega)
    cases hy
    obtain ⟨b', off', hy, d4⟩ := h.cell (k := 4) (by omega)
    cases hy
    obtain ⟨b', off', hy, d5⟩ := h.cell (k := 5) (by omega)
    cases hy
    have HN := Lib.hid (show nextM l = (bAt l 2).toNat * 16777216 + (bAt l 3).toNat * 65536 + (bAt l 4).toNat * 256 + (bAt l 5).toNat from rfl)
    have hi2 : (2 : Int) < (l.length : Int) := by omega
    have hi3 : (3 : Int) < (l.length : Int) := by omega
    have hi4 : (4 : Int) < (l.length : Int) := by omega
    have hi5 : (5 : Int) < (l.length : Int) := by omega
    clear h e h0 hd h5
    generalize bAt l 2 = x2 at *
    generalize bAt l 3 = x3 at *
    generalize bAt l 4 = x4 at *
    generalize bAt l 5 = x5 at *
    go_enter Tryd.func32, Tryd.ntmps32
    go_wp2_with fail
    refine HC.out.mono ?_
    rintro e wx ⟨rfl, hs⟩
    have kb := fun (x : Nat) (hx : x < w.heap.size) => (hs.kept (fun _ => False)).block x hx id
    have d2' := (World.cell?_of_block (kb b (block_lt_of_cell d2))).trans d2
    have d3' := (World.cell?_of_block (kb b (block_lt_of_cell d3))).trans d3
    have d4' := (World.cell?_of_block (kb b (block_lt_of_cell d4))).trans d4
    have d5' := (World.cell?_of_block (kb b (block_lt_of_cell d5))).trans d5
    clear kb d2 d3 d4 d5
    go_wp2
    go_quiet (fail)
    go_wp2
    go_ret
    exact ⟨ret_int (by rw [HN.out]; exact or4 x2 x3 x4 x5), hs.trans ((Same.refl _).drewN _)⟩
end
end Go.Proofs.YtndflnedkpmpfaaDoor
