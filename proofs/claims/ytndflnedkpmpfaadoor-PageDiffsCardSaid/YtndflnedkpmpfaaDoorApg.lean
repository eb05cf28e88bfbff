/-
  No statement is proved here: the verifier's bag, its 'apart', of whatever is in the bag.
-/
import Derived.Test.YtndflnedkpmpfaaDoorKept
namespace Go.Proofs.YtndflnedkpmpfaaDoor
open Go.RowKit

set_option maxRecDepth 100000 in
set_option maxHeartbeats 4000000 in
theorem apart_gen (w : World) (gb : Nat) (v0 v1 v2 v3 v4 v5 v6 v7 v8 v9 v10 v11 v12 v13 v14 v15 v16 v17 : Value) (R : Nat → World → Prop) (h : R 0 w) (hb : ∀ i w', R i w' → w'.heap[gb]? = some (.cells #[v0, v1, v2, v3, v4, v5, v6, v7, v8, v9, v10, v11, v12, v13, v14, v15, v16, v17] 72 (0, 0)))
    (h0 : ∀ w', R 0 w' → Calls Tryd.prog 55 #[v0] w' fun e w2 => e = .returned (.bool true) ∧ R 1 w2)
    (h1 : ∀ w', R 1 w' → Calls Tryd.prog 56 #[v1] w' fun e w2 => e = .returned (.bool true) ∧ R 2 w2)
    (h2 : ∀ w', R 2 w' → Calls Tryd.prog 57 #[v2] w' fun e w2 => e = .returned (.bool true) ∧ R 3 w2)
    (h3 : ∀ w', R 3 w' → Calls Tryd.prog 58 #[v3] w' fun e w2 => e = .returned (.bool true) ∧ R 4 w2)
    (h4 : ∀ w', R 4 w' → Calls Tryd.prog 59 #[v4] w' fun e w2 => e = .returned (.bool true) ∧ R 5 w2)
    (h5 : ∀ w', R 5 w' → Calls Tryd.prog 60 #[v5] w' fun e w2 => e = .returned (.bool true) ∧ R 6 w2)
    (h6 : ∀ w', R 6 w' → Calls Tryd.prog 61 #[v6] w' fun e w2 => e = .returned (.bool true) ∧ R 7 w2)
    (h7 : ∀ w', R 7 w' → Calls Tryd.prog 62 #[v7] w' fun e w2 => e = .returned (.bool true) ∧ R 8 w2)
    (h8 : ∀ w', R 8 w' → Calls Tryd.prog 63 #[v8] w' fun e w2 => e = .returned (.bool true) ∧ R 9 w2)
    (h9 : ∀ w', R 9 w' → Calls Tryd.prog 64 #[v9] w' fun e w2 => e = .returned (.bool true) ∧ R 10 w2)
    (h10 : ∀ w', R 10 w' → Calls Tryd.prog 65 #[v10] w' fun e w2 => e = .returned (.bool true) ∧ R 11 w2)
    (h11 : ∀ w', R 11 w' → Calls Tryd.prog 66 #[v11] w' fun e w2 => e = .returned (.bool true) ∧ R 12 w2)
    (h12 : ∀ w', R 12 w' → Calls Tryd.prog 67 #[v12] w' fun e w2 => e = .returned (.bool true) ∧ R 13 w2)
    (h13 : ∀ w', R 13 w' → Calls Tryd.prog 68 #[v13] w' fun e w2 => e = .returned (.bool true) ∧ R 14 w2)
    (h14 : ∀ w', R 14 w' → Calls Tryd.prog 69 #[v14] w' fun e w2 => e = .returned (.bool true) ∧ R 15 w2)
    (h15 : ∀ w', R 15 w' → Calls Tryd.prog 70 #[v15] w' fun e w2 => e = .returned (.bool true) ∧ R 16 w2)
    (h16 : ∀ w', R 16 w' → Calls Tryd.prog 71 #[v16] w' fun e w2 => e = .returned (.bool true) ∧ R 17 w2)
    (h17 : ∀ w', R 17 w' → Calls Tryd.prog 72 #[v17] w' fun e w2 => e = .returned (.bool true) ∧ R 18 w2) :
    Calls Tryd.prog 44 #[.pointer (some ⟨gb, 0, none⟩)] w fun e w' => e = .returned (.bool true) ∧ R 18 w' := by
  have c0 : w.cell? ⟨gb, 0, none⟩ = some v0 := cell_blk (hb 0 w h) (i := 0) rfl
  have HB := Lib.hid hb
  have R0 := Lib.hid h
  have G0 := Lib.hid h0; have G1 := Lib.hid h1; have G2 := Lib.hid h2; have G3 := Lib.hid h3; have G4 := Lib.hid h4; have G5 := Lib.hid h5; have G6 := Lib.hid h6; have G7 := Lib.hid h7; have G8 := Lib.hid h8; have G9 := Lib.hid h9; have G10 := Lib.hid h10; have G11 := Lib.hid h11; have G12 := Lib.hid h12; have G13 := Lib.hid h13; have G14 := Lib.hid h14; have G15 := Lib.hid h15; have G16 := Lib.hid h16; have G17 := Lib.hid h17
  clear h hb h0 h1 h2 h3 h4 h5 h6 h7 h8 h9 h10 h11 h12 h13 h14 h15 h16 h17
  go_enter Tryd.func44, Tryd.ntmps44
  go_wp2_with (first
    | (go_at_call 55; refine (G0.out _ R0.out).mono ?_; rintro e w1 ⟨rfl, hr1⟩; have R1 := Lib.hid hr1; have c1 : w1.cell? ⟨gb, 1, none⟩ = some v1 := cell_blk (HB.out 1 _ hr1) (i := 1) rfl; clear hr1)
    | (go_at_call 56; refine (G1.out _ R1.out).mono ?_; rintro e w2 ⟨rfl, hr2⟩; have R2 := Lib.hid hr2; have c2 : w2.cell? ⟨gb, 2, none⟩ = some v2 := cell_blk (HB.out 2 _ hr2) (i := 2) rfl; clear hr2)
    | (go_at_call 57; refine (G2.out _ R2.out).mono ?_; rintro e w3 ⟨rfl, hr3⟩; have R3 := Lib.hid hr3; have c3 : w3.cell? ⟨gb, 3, none⟩ = some v3 := cell_blk (HB.out 3 _ hr3) (i := 3) rfl; clear hr3)
    | (go_at_call 58; refine (G3.out _ R3.out).mono ?_; rintro e w4 ⟨rfl, hr4⟩; have R4 := Lib.hid hr4; have c4 : w4.cell? ⟨gb, 4, none⟩ = some v4 := cell_blk (HB.out 4 _ hr4) (i := 4) rfl; clear hr4)
    | (go_at_call 59; refine (G4.out _ R4.out).mono ?_; rintro e w5 ⟨rfl, hr5⟩; have R5 := Lib.hid hr5; have c5 : w5.cell? ⟨gb, 5, none⟩ = some v5 := cell_blk (HB.out 5 _ hr5) (i := 5) rfl; clear hr5)
    | (go_at_call 60; refine (G5.out _ R5.out).mono ?_; rintro e w6 ⟨rfl, hr6⟩; have R6 := Lib.hid hr6; have c6 : w6.cell? ⟨gb, 6, none⟩ = some v6 := cell_blk (HB.out 6 _ hr6) (i := 6) rfl; clear hr6)
    | (go_at_call 61; refine (G6.out _ R6.out).mono ?_; rintro e w7 ⟨rfl, hr7⟩; have R7 := Lib.hid hr7; have c7 : w7.cell? ⟨gb, 7, none⟩ = some v7 := cell_blk (HB.out 7 _ hr7) (i := 7) rfl; clear hr7)
    | (go_at_call 62; refine (G7.out _ R7.out).mono ?_; rintro e w8 ⟨rfl, hr8⟩; have R8 := Lib.hid hr8; have c8 : w8.cell? ⟨gb, 8, none⟩ = some v8 := cell_blk (HB.out 8 _ hr8) (i := 8) rfl; clear hr8)
    | (go_at_call 63; refine (G8.out _ R8.out).mono ?_; rintro e w9 ⟨rfl, hr9⟩; have R9 := Lib.hid hr9; have c9 : w9.cell? ⟨gb, 9, none⟩ = some v9 := cell_blk (HB.out 9 _ hr9) (i := 9) rfl; clear hr9)
    | (go_at_call 64; refine (G9.out _ R9.out).mono ?_; rintro e w10 ⟨rfl, hr10⟩; have R10 := Lib.hid hr10; have c10 : w10.cell? ⟨gb, 10, none⟩ = some v10 := cell_blk (HB.out 10 _ hr10) (i := 10) rfl; clear hr10)
    | (go_at_call 65; refine (G10.out _ R10.out).mono ?_; rintro e w11 ⟨rfl, hr11⟩; have R11 := Lib.hid hr11; have c11 : w11.cell? ⟨gb, 11, none⟩ = some v11 := cell_blk (HB.out 11 _ hr11) (i := 11) rfl; clear hr11)
    | (go_at_call 66; refine (G11.out _ R11.out).mono ?_; rintro e w12 ⟨rfl, hr12⟩; have R12 := Lib.hid hr12; have c12 : w12.cell? ⟨gb, 12, none⟩ = some v12 := cell_blk (HB.out 12 _ hr12) (i := 12) rfl; clear hr12)
    | (go_at_call 67; refine (G12.out _ R12.out).mono ?_; rintro e w13 ⟨rfl, hr13⟩; have R13 := Lib.hid hr13; have c13 : w13.cell? ⟨gb, 13, none⟩ = some v13 := cell_blk (HB.out 13 _ hr13) (i := 13) rfl; clear hr13)
    | (go_at_call 68; refine (G13.out _ R13.out).mono ?_; rintro e w14 ⟨rfl, hr14⟩; have R14 := Lib.hid hr14; have c14 : w14.cell? ⟨gb, 14, none⟩ = some v14 := cell_blk (HB.out 14 _ hr14) (i := 14) rfl; clear hr14)
    | (go_at_call 69; refine (G14.out _ R14.out).mono ?_; rintro e w15 ⟨rfl, hr15⟩; have R15 := Lib.hid hr15; have c15 : w15.cell? ⟨gb, 15, none⟩ = some v15 := cell_blk (HB.out 15 _ hr15) (i := 15) rfl; clear hr15)
    | (go_at_call 70; refine (G15.out _ R15.out).mono ?_; rintro e w16 ⟨rfl, hr16⟩; have R16 := Lib.hid hr16; have c16 : w16.cell? ⟨gb, 16, none⟩ = some v16 := cell_blk (HB.out 16 _ hr16) (i := 16) rfl; clear hr16)
    | (go_at_call 71; refine (G16.out _ R16.out).mono ?_; rintro e w17 ⟨rfl, hr17⟩; have R17 := Lib.hid hr17; have c17 : w17.cell? ⟨gb, 17, none⟩ = some v17 := cell_blk (HB.out 17 _ hr17) (i := 17) rfl; clear hr17)
    | (go_at_call 72; refine (G17.out _ R17.out).mono ?_; rintro e w18 ⟨rfl, hr18⟩; have R18 := Lib.hid hr18; clear hr18))
  go_ret
  exact ⟨rfl, R18.out⟩
end Go.Proofs.YtndflnedkpmpfaaDoor
