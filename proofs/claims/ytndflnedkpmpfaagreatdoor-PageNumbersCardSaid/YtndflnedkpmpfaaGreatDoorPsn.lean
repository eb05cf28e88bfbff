/-
  No statement is proved here: law09's step, of no bytes; the document's New; steps that lie in an argument.
-/
import Derived.Test.YtndflnedkpmpfaaGreatDoorPst
import Derived.Test.YtndflnedkpmpfaaGreatDoorPtu
import Derived.Test.YtndflnedkpmpfaaGreatDoorOft
import Derived.Test.YtndflnedkpmpfaaGreatDoorReadb
namespace Go.Proofs.YtndflnedkpmpfaaGreatDoor
open Go.RowKit

theorem endM_nil : endM [] = 0 := endM_zero_len (by simp)
section
variable (w : World) (s : Int)
theorem insert_nil (CA : Option Addr) (n cc : Nat) : Calls Tryz.prog 5 #[.slice none 0 0, .int .i64 s, .slice CA n cc] w fun e w' => e = .returned (.int .i64 4) ∧ Kept (fun _ => False) w w' := by
  have HE := Lib.hid (end_any none 0 [] w (fun h => absurd rfl h) (by simp) (by simp) (by omega))
  rw [endM_nil] at HE
  go_enter Tryz.func5, Tryz.ntmps5
  go_wp2_with (go_at_call 16; refine HE.out.mono ?_; rintro e wx ⟨rfl, hs⟩)
  go_ret
  exact ⟨rfl, hs.kept _⟩
theorem delete_nil : Calls Tryz.prog 7 #[.slice none 0 0, .int .i64 s] w fun e w' => e = .returned (.bool false) ∧ Kept (fun _ => False) w w' := by
  have HC := Lib.hid (count_any none 0 [] w (fun h => absurd rfl h) (by simp) (by simp) (by omega))
  rw [show countM [] = 0 from by unfold countM; rw [if_pos endM_nil]] at HC
  by_cases h0 : s < 0
  · go_enter Tryz.func7, Tryz.ntmps7
    go_wp2
    go_ret
    exact ⟨rfl, Kept.refl _ _⟩
  · have h1 : (0 : Int) ≤ s := by omega
    go_enter Tryz.func7, Tryz.ntmps7
    go_wp2_with (go_at_call 8; refine HC.out.mono ?_; rintro e wx ⟨rfl, hs⟩)
    go_ret
    exact ⟨rfl, hs.kept _⟩
theorem setNext_nil : Calls Tryz.prog 9 #[.slice none 0 0, .int .i64 s] w fun e w' => e = .returned (.bool false) ∧ Kept (fun _ => False) w w' := by
  have HC := Lib.hid (check_any none 0 [] w (fun h => absurd rfl h) (by simp) (by simp) (by omega))
  rw [endM_nil] at HC
  go_enter Tryz.func9, Tryz.ntmps9
  go_wp2_with (go_at_call 19; refine HC.out.mono ?_; rintro e wx ⟨rfl, hs⟩)
  go_ret
  exact ⟨rfl, hs.kept _⟩
set_option maxRecDepth 100000 in
theorem rinsert_nil (CA : Option Addr) (n cc : Nat) : Calls Tryz.prog 48 #[.slice none 0 0, .int .i64 s, .slice CA n cc] w fun e w' => e = .returned (.int .i64 4) ∧ Kept (fun _ => False) w w' := by
  have HF := Lib.hid (ofNone none 0 0 w (by omega))
  go_enter Tryz.func48, Tryz.ntmps48
  go_wp2_with fail
  refine HF.out.mono ?_
  rintro e w1 ⟨hk, rfl⟩
  have HK := Lib.hid hk
  unfold zPage
  clear hk
  go_wp2
  go_ret
  exact ⟨rfl, HK.out.alloc _⟩
set_option maxRecDepth 100000 in
theorem rdelete_nil : Calls Tryz.prog 49 #[.slice none 0 0, .int .i64 s] w fun e w' => e = .returned (.bool false) ∧ Kept (fun _ => False) w w' := by
  have HF := Lib.hid (ofNone none 0 0 w (by omega))
  go_enter Tryz.func49, Tryz.ntmps49
  go_wp2_with fail
  refine HF.out.mono ?_
  rintro e w1 ⟨hk, rfl⟩
  have HK := Lib.hid hk
  unfold zPage
  clear hk
  by_cases h0 : s < 0
  · go_wp2
    go_ret
    exact ⟨rfl, HK.out.alloc _⟩
  · have h1 : (0 : Int) ≤ s := by omega
    go_wp2
    go_ret
    exact ⟨rfl, HK.out.alloc _⟩
set_option maxRecDepth 100000 in
theorem rsetNext_nil : Calls Tryz.prog 50 #[.slice none 0 0, .int .i64 s] w fun e w' => e = .returned (.bool false) ∧ Kept (fun _ => False) w w' := by
  have HF := Lib.hid (ofNone none 0 0 w (by omega))
  go_enter Tryz.func50, Tryz.ntmps50
  go_wp2_with fail
  refine HF.out.mono ?_
  rintro e w1 ⟨hk, rfl⟩
  have HK := Lib.hid hk
  unfold zPage
  clear hk
  go_wp2
  go_ret
  exact ⟨rfl, HK.out.alloc _⟩
end
set_option maxRecDepth 100000 in
set_option maxHeartbeats 2000000 in
theorem step_nil (op slot next : Int) (CA : Option Addr) (cc : Nat) (cell : Bytes) (w : World) (hS : RdB w CA cell) (hcl : cell.length ≤ 5000) :
    Calls Tryz.prog 27 #[.slice none 0 0, .slice none 0 0, .agg #[.int .i64 op, .int .i64 slot, .int .i64 next, .slice CA cell.length cc]] w fun e w' => e = .returned (.bool true) ∧ Kept (fun _ => False) w w' := by
  have HS := Lib.hid hS
  have HPK := Lib.hid (fun w => pick_any op 5 (by decide) w)
  have hv5 := pickM_lt (x := op) (n := 5) (by omega)
  generalize pickM op 5 = v at *
  clear hS
  go_enter Tryz.func27, Tryz.ntmps27
  go_wp2_with (refine wl_box rfl 32 _ rfl (.agg #[.int .i64 op, .int .i64 slot, .int .i64 next, .slice CA cell.length cc]) rfl ?_)
  intro px w1 npx mpx hpx kpx
  have HX1 := Lib.hid (show w1.heap[px]? = some (.cells #[.int .i64 op, .int .i64 slot, .int .i64 next, .slice CA cell.length cc] 32 (0, 0)) from hpx)
  have K1 := Lib.hid kpx
  have c13 := cell_blk HX1.out (i := 3) rfl
  clear hpx kpx
  go_wp2_with fail
  refine (lentB_any CA cc cell w1 (HS.out.kept K1.out (fun _ _ _ _ => id)) (by omega)).mono ?_
  rintro e w2 ⟨g7, c7, rfl, ho7, hk7⟩
  have HX2 := Lib.hid (hk7.heap HX1.out id)
  have K2 := Lib.hid (K1.out.trans0 hk7)
  have O7 := Lib.hid ho7
  have b7 := ho7.base_le
  have z1 := K1.out.size
  have c20 := cell_blk HX2.out (i := 0) rfl
  have c21 := cell_blk HX2.out (i := 1) rfl
  have c22 := cell_blk HX2.out (i := 2) rfl
  have c23 := cell_blk HX2.out (i := 3) rfl
  clear ho7 hk7 c13
  go_wp2_with fail
  refine (HPK.out _).mono ?_
  rintro e w2' ⟨rfl, rfl⟩
  have Dw := (Kept.refl (fun _ => False) w2).drew
  have d0 := (World.cell?_of_block (Dw.block px (block_lt_of_cell c20) id)).trans c20
  have d1 := (World.cell?_of_block (Dw.block px (block_lt_of_cell c21) id)).trans c21
  have d2 := (World.cell?_of_block (Dw.block px (block_lt_of_cell c22) id)).trans c22
  have d3 := (World.cell?_of_block (Dw.block px (block_lt_of_cell c23) id)).trans c23
  clear Dw
  by_cases v0 : v = 0
  · subst v0
    go_wp2
    go_region_held3 (fun w' => w'.cell? ⟨px, 0, none⟩ = some (.int .i64 op) ∧ w'.cell? ⟨px, 1, none⟩ = some (.int .i64 slot) ∧ w'.cell? ⟨px, 2, none⟩ = some (.int .i64 next) ∧ w'.cell? ⟨px, 3, none⟩ = some (.slice CA cell.length cc))
      (first
        | exact ⟨d0, d1, d2, d3⟩
        | exact ⟨e0, e1, e2, e3⟩
        | exact ⟨f0, f1, f2, f3⟩)
      (first
        | (go_at_call 5; refine (insert_nil _ slot (some ⟨g7, 0, none⟩) cell.length c7).mono ?_
           rintro e w3 ⟨rfl, hk3⟩
           have e0 := (World.cell?_of_block (hk3.block px (block_lt_of_cell d0) id)).trans d0
           have e1 := (World.cell?_of_block (hk3.block px (block_lt_of_cell d1) id)).trans d1
           have e2 := (World.cell?_of_block (hk3.block px (block_lt_of_cell d2) id)).trans d2
           have e3 := (World.cell?_of_block (hk3.block px (block_lt_of_cell d3) id)).trans d3
           have K3 := Lib.hid hk3
           clear hk3)
        | (go_at_call 48; refine (rinsert_nil _ slot CA cell.length cc).mono ?_
           rintro e w4 ⟨rfl, hk4⟩
           have f0 := (World.cell?_of_block (hk4.block px (block_lt_of_cell e0) id)).trans e0
           have f1 := (World.cell?_of_block (hk4.block px (block_lt_of_cell e1) id)).trans e1
           have f2 := (World.cell?_of_block (hk4.block px (block_lt_of_cell e2) id)).trans e2
           have f3 := (World.cell?_of_block (hk4.block px (block_lt_of_cell e3) id)).trans e3
           have K4 := Lib.hid (K3.out.trans0 hk4)
           clear hk4))
    have O74 := Lib.hid ((O7.out.kept ((Kept.refl (fun _ => False) w2).drew)).kept K4.out)
    have KK4 := Lib.hid ((K2.out.drew).trans0 K4.out)
    have RC4 := Lib.hid (HS.out.kept KK4.out (fun _ _ _ _ => id))
    go_wp2_with fail
    refine (keptB_any CA g7 w1.heap.size c7 cc cell _ RC4.out O74.out (by omega)).mono ?_
    rintro e w5 ⟨rfl, hs⟩
    have K5 := Lib.hid (KK4.out.trans0 (hs.kept _))
    have O75 := Lib.hid (O74.out.kept (hs.kept _))
    clear hs
    go_wp2_with fail
    refine (overB_any g7 w1.heap.size c7 (lentL cell 12) w5 cell.length O75.out (by rw [len_lentL]) (by omega)).mono ?_
    rintro e w6 ⟨rfl, hk6⟩
    have K6 := Lib.hid (K5.out.new hk6 (fun x e => by omega))
    clear hk6
    have hsm := same_any none none 0 0 [] [] w6 (fun h => absurd rfl h) (fun h => absurd rfl h) (by simp)
    simp only [decide_true, List.length_nil] at hsm
    have HSM := Lib.hid hsm
    clear hsm
    go_wp2_with fail
    refine HSM.out.mono ?_
    rintro e w7 ⟨rfl, hs⟩
    have K7 := Lib.hid (K6.out.trans0 (hs.kept _))
    clear hs
    go_wp2
    go_ret
    exact ⟨rfl, K7.out⟩
  · by_cases v1 : v = 1
    · subst v1
      go_wp2
      go_region_held3 (fun w' => w'.cell? ⟨px, 0, none⟩ = some (.int .i64 op) ∧ w'.cell? ⟨px, 1, none⟩ = some (.int .i64 slot) ∧ w'.cell? ⟨px, 2, none⟩ = some (.int .i64 next) ∧ w'.cell? ⟨px, 3, none⟩ = some (.slice CA cell.length cc))
        (first
          | exact ⟨d0, d1, d2, d3⟩
          | exact ⟨e0, e1, e2, e3⟩
          | exact ⟨f0, f1, f2, f3⟩)
        (first
          | (go_at_call 5; refine (insert_nil _ slot (some ⟨g7, 0, none⟩) cell.length c7).mono ?_
             rintro e w3 ⟨rfl, hk3⟩
             have e0 := (World.cell?_of_block (hk3.block px (block_lt_of_cell d0) id)).trans d0
             have e1 := (World.cell?_of_block (hk3.block px (block_lt_of_cell d1) id)).trans d1
             have e2 := (World.cell?_of_block (hk3.block px (block_lt_of_cell d2) id)).trans d2
             have e3 := (World.cell?_of_block (hk3.block px (block_lt_of_cell d3) id)).trans d3
             have K3 := Lib.hid hk3
             clear hk3)
          | (go_at_call 48; refine (rinsert_nil _ slot CA cell.length cc).mono ?_
             rintro e w4 ⟨rfl, hk4⟩
             have f0 := (World.cell?_of_block (hk4.block px (block_lt_of_cell e0) id)).trans e0
             have f1 := (World.cell?_of_block (hk4.block px (block_lt_of_cell e1) id)).trans e1
             have f2 := (World.cell?_of_block (hk4.block px (block_lt_of_cell e2) id)).trans e2
             have f3 := (World.cell?_of_block (hk4.block px (block_lt_of_cell e3) id)).trans e3
             have K4 := Lib.hid (K3.out.trans0 hk4)
             clear hk4))
      have O74 := Lib.hid ((O7.out.kept ((Kept.refl (fun _ => False) w2).drew)).kept K4.out)
      have KK4 := Lib.hid ((K2.out.drew).trans0 K4.out)
      have RC4 := Lib.hid (HS.out.kept KK4.out (fun _ _ _ _ => id))
      go_wp2_with fail
      refine (keptB_any CA g7 w1.heap.size c7 cc cell _ RC4.out O74.out (by omega)).mono ?_
      rintro e w5 ⟨rfl, hs⟩
      have K5 := Lib.hid (KK4.out.trans0 (hs.kept _))
      have O75 := Lib.hid (O74.out.kept (hs.kept _))
      clear hs
      go_wp2_with fail
      refine (overB_any g7 w1.heap.size c7 (lentL cell 12) w5 cell.length O75.out (by rw [len_lentL]) (by omega)).mono ?_
      rintro e w6 ⟨rfl, hk6⟩
      have K6 := Lib.hid (K5.out.new hk6 (fun x e => by omega))
      clear hk6
      have hsm := same_any none none 0 0 [] [] w6 (fun h => absurd rfl h) (fun h => absurd rfl h) (by simp)
      simp only [decide_true, List.length_nil] at hsm
      have HSM := Lib.hid hsm
      clear hsm
      go_wp2_with fail
      refine HSM.out.mono ?_
      rintro e w7 ⟨rfl, hs⟩
      have K7 := Lib.hid (K6.out.trans0 (hs.kept _))
      clear hs
      go_wp2
      go_ret
      exact ⟨rfl, K7.out⟩
    · by_cases v2 : v = 2
      · subst v2
        go_wp2
        go_region_held3 (fun w' => w'.cell? ⟨px, 0, none⟩ = some (.int .i64 op) ∧ w'.cell? ⟨px, 1, none⟩ = some (.int .i64 slot) ∧ w'.cell? ⟨px, 2, none⟩ = some (.int .i64 next) ∧ w'.cell? ⟨px, 3, none⟩ = some (.slice CA cell.length cc))
          (first
            | exact ⟨d0, d1, d2, d3⟩
            | exact ⟨e0, e1, e2, e3⟩
            | exact ⟨f0, f1, f2, f3⟩)
          (first
            | (go_at_call 5; refine (insert_nil _ slot (some ⟨g7, 0, none⟩) cell.length c7).mono ?_
               rintro e w3 ⟨rfl, hk3⟩
               have e0 := (World.cell?_of_block (hk3.block px (block_lt_of_cell d0) id)).trans d0
               have e1 := (World.cell?_of_block (hk3.block px (block_lt_of_cell d1) id)).trans d1
               have e2 := (World.cell?_of_block (hk3.block px (block_lt_of_cell d2) id)).trans d2
               have e3 := (World.cell?_of_block (hk3.block px (block_lt_of_cell d3) id)).trans d3
               have K3 := Lib.hid hk3
               clear hk3)
            | (go_at_call 48; refine (rinsert_nil _ slot CA cell.length cc).mono ?_
               rintro e w4 ⟨rfl, hk4⟩
               have f0 := (World.cell?_of_block (hk4.block px (block_lt_of_cell e0) id)).trans e0
               have f1 := (World.cell?_of_block (hk4.block px (block_lt_of_cell e1) id)).trans e1
               have f2 := (World.cell?_of_block (hk4.block px (block_lt_of_cell e2) id)).trans e2
               have f3 := (World.cell?_of_block (hk4.block px (block_lt_of_cell e3) id)).trans e3
               have K4 := Lib.hid (K3.out.trans0 hk4)
               clear hk4))
        have O74 := Lib.hid ((O7.out.kept ((Kept.refl (fun _ => False) w2).drew)).kept K4.out)
        have KK4 := Lib.hid ((K2.out.drew).trans0 K4.out)
        have RC4 := Lib.hid (HS.out.kept KK4.out (fun _ _ _ _ => id))
        go_wp2_with fail
        refine (keptB_any CA g7 w1.heap.size c7 cc cell _ RC4.out O74.out (by omega)).mono ?_
        rintro e w5 ⟨rfl, hs⟩
        have K5 := Lib.hid (KK4.out.trans0 (hs.kept _))
        have O75 := Lib.hid (O74.out.kept (hs.kept _))
        clear hs
        go_wp2_with fail
        refine (overB_any g7 w1.heap.size c7 (lentL cell 12) w5 cell.length O75.out (by rw [len_lentL]) (by omega)).mono ?_
        rintro e w6 ⟨rfl, hk6⟩
        have K6 := Lib.hid (K5.out.new hk6 (fun x e => by omega))
        clear hk6
        have hsm := same_any none none 0 0 [] [] w6 (fun h => absurd rfl h) (fun h => absurd rfl h) (by simp)
        simp only [decide_true, List.length_nil] at hsm
        have HSM := Lib.hid hsm
        clear hsm
        go_wp2_with fail
        refine HSM.out.mono ?_
        rintro e w7 ⟨rfl, hs⟩
        have K7 := Lib.hid (K6.out.trans0 (hs.kept _))
        clear hs
        go_wp2
        go_ret
        exact ⟨rfl, K7.out⟩
      · by_cases v3 : v = 3
        · subst v3
          go_wp2
          go_region_held3 (fun w' => w'.cell? ⟨px, 0, none⟩ = some (.int .i64 op) ∧ w'.cell? ⟨px, 1, none⟩ = some (.int .i64 slot) ∧ w'.cell? ⟨px, 2, none⟩ = some (.int .i64 next) ∧ w'.cell? ⟨px, 3, none⟩ = some (.slice CA cell.length cc))
            (first
              | exact ⟨d0, d1, d2, d3⟩
              | exact ⟨e0, e1, e2, e3⟩
              | exact ⟨f0, f1, f2, f3⟩)
            (first
              | (go_at_call 7; refine (delete_nil _ slot).mono ?_
                 rintro e w3 ⟨rfl, hk3⟩
                 have e0 := (World.cell?_of_block (hk3.block px (block_lt_of_cell d0) id)).trans d0
                 have e1 := (World.cell?_of_block (hk3.block px (block_lt_of_cell d1) id)).trans d1
                 have e2 := (World.cell?_of_block (hk3.block px (block_lt_of_cell d2) id)).trans d2
                 have e3 := (World.cell?_of_block (hk3.block px (block_lt_of_cell d3) id)).trans d3
                 have K3 := Lib.hid hk3
                 clear hk3)
              | (go_at_call 49; refine (rdelete_nil _ slot).mono ?_
                 rintro e w4 ⟨rfl, hk4⟩
                 have f0 := (World.cell?_of_block (hk4.block px (block_lt_of_cell e0) id)).trans e0
                 have f1 := (World.cell?_of_block (hk4.block px (block_lt_of_cell e1) id)).trans e1
                 have f2 := (World.cell?_of_block (hk4.block px (block_lt_of_cell e2) id)).trans e2
                 have f3 := (World.cell?_of_block (hk4.block px (block_lt_of_cell e3) id)).trans e3
                 have K4 := Lib.hid (K3.out.trans0 hk4)
                 clear hk4))
          have O74 := Lib.hid ((O7.out.kept ((Kept.refl (fun _ => False) w2).drew)).kept K4.out)
          have KK4 := Lib.hid ((K2.out.drew).trans0 K4.out)
          have RC4 := Lib.hid (HS.out.kept KK4.out (fun _ _ _ _ => id))
          go_wp2_with fail
          refine (keptB_any CA g7 w1.heap.size c7 cc cell _ RC4.out O74.out (by omega)).mono ?_
          rintro e w5 ⟨rfl, hs⟩
          have K5 := Lib.hid (KK4.out.trans0 (hs.kept _))
          have O75 := Lib.hid (O74.out.kept (hs.kept _))
          clear hs
          go_wp2_with fail
          refine (overB_any g7 w1.heap.size c7 (lentL cell 12) w5 cell.length O75.out (by rw [len_lentL]) (by omega)).mono ?_
          rintro e w6 ⟨rfl, hk6⟩
          have K6 := Lib.hid (K5.out.new hk6 (fun x e => by omega))
          clear hk6
          have hsm := same_any none none 0 0 [] [] w6 (fun h => absurd rfl h) (fun h => absurd rfl h) (by simp)
          simp only [decide_true, List.length_nil] at hsm
          have HSM := Lib.hid hsm
          clear hsm
          go_wp2_with fail
          refine HSM.out.mono ?_
          rintro e w7 ⟨rfl, hs⟩
          have K7 := Lib.hid (K6.out.trans0 (hs.kept _))
          clear hs
          go_wp2
          go_ret
          exact ⟨rfl, K7.out⟩
        · have v4 : v = 4 := by omega
          subst v4
          go_wp2
          go_region_held3 (fun w' => w'.cell? ⟨px, 0, none⟩ = some (.int .i64 op) ∧ w'.cell? ⟨px, 1, none⟩ = some (.int .i64 slot) ∧ w'.cell? ⟨px, 2, none⟩ = some (.int .i64 next) ∧ w'.cell? ⟨px, 3, none⟩ = some (.slice CA cell.length cc))
            (first
              | exact ⟨d0, d1, d2, d3⟩
              | exact ⟨e0, e1, e2, e3⟩
              | exact ⟨f0, f1, f2, f3⟩)
            (first
              | (go_at_call 9; refine (setNext_nil _ next).mono ?_
                 rintro e w3 ⟨rfl, hk3⟩
                 have e0 := (World.cell?_of_block (hk3.block px (block_lt_of_cell d0) id)).trans d0
                 have e1 := (World.cell?_of_block (hk3.block px (block_lt_of_cell d1) id)).trans d1
                 have e2 := (World.cell?_of_block (hk3.block px (block_lt_of_cell d2) id)).trans d2
                 have e3 := (World.cell?_of_block (hk3.block px (block_lt_of_cell d3) id)).trans d3
                 have K3 := Lib.hid hk3
                 clear hk3)
              | (go_at_call 50; refine (rsetNext_nil _ next).mono ?_
                 rintro e w4 ⟨rfl, hk4⟩
                 have f0 := (World.cell?_of_block (hk4.block px (block_lt_of_cell e0) id)).trans e0
                 have f1 := (World.cell?_of_block (hk4.block px (block_lt_of_cell e1) id)).trans e1
                 have f2 := (World.cell?_of_block (hk4.block px (block_lt_of_cell e2) id)).trans e2
                 have f3 := (World.cell?_of_block (hk4.block px (block_lt_of_cell e3) id)).trans e3
                 have K4 := Lib.hid (K3.out.trans0 hk4)
                 clear hk4))
          have O74 := Lib.hid ((O7.out.kept ((Kept.refl (fun _ => False) w2).drew)).kept K4.out)
          have KK4 := Lib.hid ((K2.out.drew).trans0 K4.out)
          have RC4 := Lib.hid (HS.out.kept KK4.out (fun _ _ _ _ => id))
          go_wp2_with fail
          refine (keptB_any CA g7 w1.heap.size c7 cc cell _ RC4.out O74.out (by omega)).mono ?_
          rintro e w5 ⟨rfl, hs⟩
          have K5 := Lib.hid (KK4.out.trans0 (hs.kept _))
          have O75 := Lib.hid (O74.out.kept (hs.kept _))
          clear hs
          go_wp2_with fail
          refine (overB_any g7 w1.heap.size c7 (lentL cell 12) w5 cell.length O75.out (by rw [len_lentL]) (by omega)).mono ?_
          rintro e w6 ⟨rfl, hk6⟩
          have K6 := Lib.hid (K5.out.new hk6 (fun x e => by omega))
          clear hk6
          have hsm := same_any none none 0 0 [] [] w6 (fun h => absurd rfl h) (fun h => absurd rfl h) (by simp)
          simp only [decide_true, List.length_nil] at hsm
          have HSM := Lib.hid hsm
          clear hsm
          go_wp2_with fail
          refine HSM.out.mono ?_
          rintro e w7 ⟨rfl, hs⟩
          have K7 := Lib.hid (K6.out.trans0 (hs.kept _))
          clear hs
          go_wp2
          go_ret
          exact ⟨rfl, K7.out⟩
end Go.Proofs.YtndflnedkpmpfaaGreatDoor
