/-
  No statement is proved here: the contract of law09's step.
-/
import Derived.Test.YtndflnedkpmpfaaGreatDoorRins
import Derived.Test.YtndflnedkpmpfaaGreatDoorPgd
import Derived.Test.YtndflnedkpmpfaaGreatDoorKept
import Derived.Test.YtndflnedkpmpfaaGreatDoorPgw
import Derived.Deep.RegionHeld3
namespace Go.Proofs.YtndflnedkpmpfaaGreatDoor
open Go.RowKit

theorem RdB.kept1 {S : Nat → Prop} {w w' : World} {A : Option Addr} {l : Bytes} (h : RdB w A l) (hk : Kept S w w') (hS : l ≠ [] → ∀ b off, A = some ⟨b, off, none⟩ → b < w.heap.size → ¬ S b) : RdB w' A l := fun hne => (h.kept hk (hS hne)) hne
theorem insertM_len (l c : Bytes) (s : Int) : (insertM l s c).2.length = l.length := by
  by_cases h0 : endM l = 0
  · rw [insertM_no h0]
  · obtain ⟨hpg, hok⟩ := page_eq h0
    have h5 := endM_len h0
    conv => lhs; rw [hpg]
    rw [insertM_Pg hok]
    split
    · rw [← hpg]
    · split
      · rw [← hpg]
      · rename_i h1 h2
        rw [h5]
        refine Pg_len ?_
        have h9 := congrArg (fun x => (encs x).length) (List.take_append_drop s.toNat (cellsM l (bAt l 1).toNat))
        simp only [encs_app, List.length_append] at h9
        rw [encs_app, encs_cons, List.length_append, List.length_append, enc_len]
        omega
theorem deleteM_len (l : Bytes) (s : Int) : (deleteM l s).2.length = l.length := by
  by_cases h0 : endM l = 0
  · rw [deleteM_none h0]
  · obtain ⟨hpg, hok⟩ := page_eq h0
    have h5 := endM_len h0
    conv => lhs; rw [hpg]
    rw [deleteM_Pg hok]
    split
    · rw [← hpg]
    · rename_i h1
      rw [h5]
      refine Pg_len ?_
      have := encs_del (cs := cellsM l (bAt l 1).toNat) (i := s.toNat) (by omega)
      have := hok.room
      omega
theorem setNextM_len (l : Bytes) (x : Int) : (setNextM l x).2.length = l.length := by
  by_cases h0 : endM l = 0
  · unfold setNextM; rw [if_pos (.inl h0)]
  · obtain ⟨hpg, hok⟩ := page_eq h0
    have h5 := endM_len h0
    conv => lhs; rw [hpg]
    rw [setNextM_Pg hok]
    split
    · rw [← hpg]
    · rw [h5]; exact Pg_len hok.room
/-- What one step makes of a page. -/
def stepM (l : Bytes) (op slot next : Int) (cell : Bytes) : Bytes :=
  if pickM op 5 = 0 ∨ pickM op 5 = 1 ∨ pickM op 5 = 2 then (insertM l slot cell).2 else if pickM op 5 = 3 then (deleteM l slot).2 else (setNextM l next).2
theorem stepM_len (l : Bytes) (op slot next : Int) (cell : Bytes) : (stepM l op slot next cell).length = l.length := by
  unfold stepM
  split
  · exact insertM_len _ _ _
  · split
    · exact deleteM_len _ _
    · exact setNextM_len _ _
theorem lent_pre (l : Bytes) (k : Nat) : (lentL l k).take l.length = l := by unfold lentL; rw [List.take_append_of_le_length (Nat.le_refl _), List.take_length]
set_option maxRecDepth 100000 in
set_option maxHeartbeats 2000000 in
theorem step_any (B1 B2 gp cp gq cq : Nat) (l : Bytes) (op slot next : Int) (CA : Option Addr) (cc : Nat) (cell : Bytes) (w : World) (hp : OwnB w B1 gp cp l) (hq : OwnB w B2 gq cq l) (hpq : gp ≠ gq) (hl : l.length ≤ 1000000) (hS : RdB w CA cell) (hcl : cell.length ≤ 5000)
    (hCA : cell ≠ [] → ∀ b off, CA = some ⟨b, off, none⟩ → b ≠ gp ∧ b ≠ gq) :
    Calls Tryz.prog 27 #[.slice (some ⟨gp, 0, none⟩) l.length cp, .slice (some ⟨gq, 0, none⟩) l.length cq, .agg #[.int .i64 op, .int .i64 slot, .int .i64 next, .slice CA cell.length cc]] w fun e w' => e = .returned (.bool true) ∧
      OwnB w' B1 gp cp (stepM l op slot next cell) ∧ OwnB w' B2 gq cq (stepM l op slot next cell) ∧ Kept (fun x => x = gp ∨ x = gq) w w' := by
  have lgp := hp.lt'
  have lgq := hq.lt'
  have HP := Lib.hid hp
  have HQ := Lib.hid hq
  have HS := Lib.hid hS
  have HCA := Lib.hid hCA
  have HSL := Lib.hid (stepM_len l op slot next cell)
  have hsd : stepM l op slot next cell = if pickM op 5 = 0 ∨ pickM op 5 = 1 ∨ pickM op 5 = 2 then (insertM l slot cell).2 else if pickM op 5 = 3 then (deleteM l slot).2 else (setNextM l next).2 := rfl
  have HPK := Lib.hid (fun w => pick_any op 5 (by decide) w)
  generalize stepM l op slot next cell = l2 at *
  have hv5 := pickM_lt (x := op) (n := 5) (by omega)
  generalize pickM op 5 = v at *
  have HSD := Lib.hid hsd
  clear hp hq hS hCA hsd
  go_enter Tryz.func27, Tryz.ntmps27
  go_wp2_with (refine wl_box rfl 32 _ rfl (.agg #[.int .i64 op, .int .i64 slot, .int .i64 next, .slice CA cell.length cc]) rfl ?_)
  intro px w1 npx mpx hpx kpx
  have HX1 := Lib.hid (show w1.heap[px]? = some (.cells #[.int .i64 op, .int .i64 slot, .int .i64 next, .slice CA cell.length cc] 32 (0, 0)) from hpx)
  have K1 := Lib.hid kpx
  have c13 := cell_blk HX1.out (i := 3) rfl
  clear hpx kpx
  go_wp2_with fail
  refine (lentB_any CA cc cell w1 (HS.out.kept K1.out (fun _ _ _ _ => id)) (by omega)).mono ?_
  rintro e w2 ⟨g7, c7, rfl, ho7, hk7⟩
  have HX2 := Lib.hid (hk7.heap HX1.out id)
  have K2 := Lib.hid (K1.out.trans0 hk7)
  have O7 := Lib.hid ho7
  have b7 := ho7.base_le
  have z2 := K2.out.size
  have z1 := K1.out.size
  have c20 := cell_blk HX2.out (i := 0) rfl
  have c21 := cell_blk HX2.out (i := 1) rfl
  have c22 := cell_blk HX2.out (i := 2) rfl
  have c23 := cell_blk HX2.out (i := 3) rfl
  have hP2 := Lib.hid (HP.out.kept K2.out)
  have hQ2 := Lib.hid (HQ.out.kept K2.out)
  have R7 := Lib.hid (show RdB w2 (some ⟨g7, 0, none⟩) cell from by have := ho7.rdp.take cell.length; rwa [lent_pre] at this)
  have RC2 := Lib.hid (HS.out.kept K2.out (fun _ _ _ _ => id))
  clear ho7 hk7 c13
  go_wp2_with fail
  refine (HPK.out _).mono ?_
  rintro e w2' ⟨rfl, rfl⟩
  have Dw := (Kept.refl (fun _ => False) w2).drew
  have d0 := (World.cell?_of_block (Dw.block px (block_lt_of_cell c20) id)).trans c20
  have d1 := (World.cell?_of_block (Dw.block px (block_lt_of_cell c21) id)).trans c21
  have d2 := (World.cell?_of_block (Dw.block px (block_lt_of_cell c22) id)).trans c22
  have d3 := (World.cell?_of_block (Dw.block px (block_lt_of_cell c23) id)).trans c23
  have hP2d := Lib.hid (hP2.out.kept Dw)
  have hQ2d := Lib.hid (hQ2.out.kept Dw)
  have R7d := Lib.hid (R7.out.kept Dw (fun _ _ _ _ => id))
  have RC2d := Lib.hid (RC2.out.kept Dw (fun _ _ _ _ => id))
  clear Dw
  by_cases v0 : v = 0
  · subst v0
    have hl2 : l2 = (insertM l slot cell).2 := by rw [HSD.out]; rfl
    clear HSD
    have HI1 := Lib.hid (fun wz (hz : OwnB wz B1 gp cp l) (hr : RdB wz (some ⟨g7, 0, none⟩) cell) => insert_any B1 gp cp c7 l cell (some ⟨g7, 0, none⟩) wz hz hl hr (by omega) (fun b off e => by cases e; omega) slot)
    have HI2 := Lib.hid (fun wz (hz : OwnB wz B2 gq cq l) (hr : RdB wz CA cell) => rinsert_any B2 gq cq l slot CA cc cell wz hz hr hcl)
    generalize insertM l slot cell = r at *
    subst hl2
    go_wp2
    go_region_held3 (fun w' => w'.cell? ⟨px, 0, none⟩ = some (.int .i64 op) ∧ w'.cell? ⟨px, 1, none⟩ = some (.int .i64 slot) ∧ w'.cell? ⟨px, 2, none⟩ = some (.int .i64 next) ∧ w'.cell? ⟨px, 3, none⟩ = some (.slice CA cell.length cc))
      (first
        | exact ⟨d0, d1, d2, d3⟩
        | exact ⟨e0, e1, e2, e3⟩
        | exact ⟨f0, f1, f2, f3⟩)
      (first
        | (go_at_call 5; refine (HI1.out _ hP2d.out R7d.out).mono ?_
           rintro e w3 ⟨rfl, ho3, hk3⟩
           have e0 := (World.cell?_of_block (hk3.block px (block_lt_of_cell d0) (by omega))).trans d0
           have e1 := (World.cell?_of_block (hk3.block px (block_lt_of_cell d1) (by omega))).trans d1
           have e2 := (World.cell?_of_block (hk3.block px (block_lt_of_cell d2) (by omega))).trans d2
           have e3 := (World.cell?_of_block (hk3.block px (block_lt_of_cell d3) (by omega))).trans d3
           have O3 := Lib.hid ho3
           have K3 := Lib.hid hk3
           have Q3 := Lib.hid (hQ2d.out.keep hk3 (by omega))
           have RC3 := Lib.hid (RdB.kept1 RC2d.out hk3 (fun hne b off e _ => (HCA.out hne b off e).1))
           clear ho3 hk3)
        | (go_at_call 48; refine (HI2.out _ Q3.out RC3.out).mono ?_
           rintro e w4 ⟨rfl, ho4, hk4⟩
           have f0 := (World.cell?_of_block (hk4.block px (block_lt_of_cell e0) (by omega))).trans e0
           have f1 := (World.cell?_of_block (hk4.block px (block_lt_of_cell e1) (by omega))).trans e1
           have f2 := (World.cell?_of_block (hk4.block px (block_lt_of_cell e2) (by omega))).trans e2
           have f3 := (World.cell?_of_block (hk4.block px (block_lt_of_cell e3) (by omega))).trans e3
           have O4 := Lib.hid (O3.out.keep hk4 (by omega))
           have Q4 := Lib.hid ho4
           have K4 := Lib.hid (((K3.out.mono (T := fun x => x = gp ∨ x = gq) (fun _ _ h => .inl h))).trans hk4 (fun _ _ h => .inr h))
           clear ho4 hk4))
    have O74 := Lib.hid ((O7.out.kept ((Kept.refl (fun _ => False) w2).drew)).keep K4.out (by omega))
    have KK4 := Lib.hid ((K2.out.drew).mono (T := fun x => x = gp ∨ x = gq) (fun _ _ h => h.elim) |>.trans' K4.out)
    have RC4 := Lib.hid (RdB.kept1 HS.out KK4.out (fun hne b off e _ h => by
      have := HCA.out hne b off e
      omega))
    go_wp2_with fail
    refine (keptB_any CA g7 w1.heap.size c7 cc cell _ RC4.out O74.out (by omega)).mono ?_
    rintro e w5 ⟨rfl, hs⟩
    have K5 := Lib.hid (KK4.out.trans0 (hs.kept _))
    have O5 := Lib.hid (O4.out.kept (hs.kept _))
    have Q5 := Lib.hid (Q4.out.kept (hs.kept _))
    have O75 := Lib.hid (O74.out.kept (hs.kept _))
    clear hs
    go_wp2_with fail
    refine (overB_any g7 w1.heap.size c7 (lentL cell 12) w5 cell.length O75.out (by rw [len_lentL]) (by omega)).mono ?_
    rintro e w6 ⟨rfl, hk6⟩
    have K6 := Lib.hid (show Kept (fun x => x = gp ∨ x = gq) w w6 from K5.out.trans (hk6.mono (T := fun x => x = g7) (fun _ _ h => h)) (fun x hx e => by omega))
    have O6 := Lib.hid (O5.out.keep hk6 (by omega))
    have Q6 := Lib.hid (Q5.out.keep hk6 (by omega))
    clear hk6
    have hsm := same_any (some ⟨gp, 0, none⟩) (some ⟨gq, 0, none⟩) cp cq r.2 r.2 w6 O6.out.rdp Q6.out.rdp (by rw [HSL.out]; omega)
    simp only [decide_true] at hsm
    rw [HSL.out] at hsm
    have HSM := Lib.hid hsm
    clear hsm
    go_wp2_with fail
    refine HSM.out.mono ?_
    rintro e w7 ⟨rfl, hs⟩
    have K7 := Lib.hid (K6.out.trans0 (hs.kept _))
    have O8 := Lib.hid (O6.out.kept (hs.kept _))
    have Q8 := Lib.hid (Q6.out.kept (hs.kept _))
    clear hs
    go_wp2
    go_ret
    exact ⟨rfl, O8.out, Q8.out, K7.out⟩
  · by_cases v1 : v = 1
    · skip
      subst v1
      have hl2 : l2 = (insertM l slot cell).2 := by rw [HSD.out]; rfl
      clear HSD
      have HI1 := Lib.hid (fun wz (hz : OwnB wz B1 gp cp l) (hr : RdB wz (some ⟨g7, 0, none⟩) cell) => insert_any B1 gp cp c7 l cell (some ⟨g7, 0, none⟩) wz hz hl hr (by omega) (fun b off e => by cases e; omega) slot)
      have HI2 := Lib.hid (fun wz (hz : OwnB wz B2 gq cq l) (hr : RdB wz CA cell) => rinsert_any B2 gq cq l slot CA cc cell wz hz hr hcl)
      generalize insertM l slot cell = r at *
      subst hl2
      go_wp2
      go_region_held3 (fun w' => w'.cell? ⟨px, 0, none⟩ = some (.int .i64 op) ∧ w'.cell? ⟨px, 1, none⟩ = some (.int .i64 slot) ∧ w'.cell? ⟨px, 2, none⟩ = some (.int .i64 next) ∧ w'.cell? ⟨px, 3, none⟩ = some (.slice CA cell.length cc))
        (first
          | exact ⟨d0, d1, d2, d3⟩
          | exact ⟨e0, e1, e2, e3⟩
          | exact ⟨f0, f1, f2, f3⟩)
        (first
          | (go_at_call 5; refine (HI1.out _ hP2d.out R7d.out).mono ?_
             rintro e w3 ⟨rfl, ho3, hk3⟩
             have e0 := (World.cell?_of_block (hk3.block px (block_lt_of_cell d0) (by omega))).trans d0
             have e1 := (World.cell?_of_block (hk3.block px (block_lt_of_cell d1) (by omega))).trans d1
             have e2 := (World.cell?_of_block (hk3.block px (block_lt_of_cell d2) (by omega))).trans d2
             have e3 := (World.cell?_of_block (hk3.block px (block_lt_of_cell d3) (by omega))).trans d3
             have O3 := Lib.hid ho3
             have K3 := Lib.hid hk3
             have Q3 := Lib.hid (hQ2d.out.keep hk3 (by omega))
             have RC3 := Lib.hid (RdB.kept1 RC2d.out hk3 (fun hne b off e _ => (HCA.out hne b off e).1))
             clear ho3 hk3)
          | (go_at_call 48; refine (HI2.out _ Q3.out RC3.out).mono ?_
             rintro e w4 ⟨rfl, ho4, hk4⟩
             have f0 := (World.cell?_of_block (hk4.block px (block_lt_of_cell e0) (by omega))).trans e0
             have f1 := (World.cell?_of_block (hk4.block px (block_lt_of_cell e1) (by omega))).trans e1
             have f2 := (World.cell?_of_block (hk4.block px (block_lt_of_cell e2) (by omega))).trans e2
             have f3 := (World.cell?_of_block (hk4.block px (block_lt_of_cell e3) (by omega))).trans e3
             have O4 := Lib.hid (O3.out.keep hk4 (by omega))
             have Q4 := Lib.hid ho4
             have K4 := Lib.hid (((K3.out.mono (T := fun x => x = gp ∨ x = gq) (fun _ _ h => .inl h))).trans hk4 (fun _ _ h => .inr h))
             clear ho4 hk4))
      have O74 := Lib.hid ((O7.out.kept ((Kept.refl (fun _ => False) w2).drew)).keep K4.out (by omega))
      have KK4 := Lib.hid ((K2.out.drew).mono (T := fun x => x = gp ∨ x = gq) (fun _ _ h => h.elim) |>.trans' K4.out)
      have RC4 := Lib.hid (RdB.kept1 HS.out KK4.out (fun hne b off e _ h => by
        have := HCA.out hne b off e
        omega))
      go_wp2_with fail
      refine (keptB_any CA g7 w1.heap.size c7 cc cell _ RC4.out O74.out (by omega)).mono ?_
      rintro e w5 ⟨rfl, hs⟩
      have K5 := Lib.hid (KK4.out.trans0 (hs.kept _))
      have O5 := Lib.hid (O4.out.kept (hs.kept _))
      have Q5 := Lib.hid (Q4.out.kept (hs.kept _))
      have O75 := Lib.hid (O74.out.kept (hs.kept _))
      clear hs
      go_wp2_with fail
      refine (overB_any g7 w1.heap.size c7 (lentL cell 12) w5 cell.length O75.out (by rw [len_lentL]) (by omega)).mono ?_
      rintro e w6 ⟨rfl, hk6⟩
      have K6 := Lib.hid (show Kept (fun x => x = gp ∨ x = gq) w w6 from K5.out.trans (hk6.mono (T := fun x => x = g7) (fun _ _ h => h)) (fun x hx e => by omega))
      have O6 := Lib.hid (O5.out.keep hk6 (by omega))
      have Q6 := Lib.hid (Q5.out.keep hk6 (by omega))
      clear hk6
      have hsm := same_any (some ⟨gp, 0, none⟩) (some ⟨gq, 0, none⟩) cp cq r.2 r.2 w6 O6.out.rdp Q6.out.rdp (by rw [HSL.out]; omega)
      simp only [decide_true] at hsm
      rw [HSL.out] at hsm
      have HSM := Lib.hid hsm
      clear hsm
      go_wp2_with fail
      refine HSM.out.mono ?_
      rintro e w7 ⟨rfl, hs⟩
      have K7 := Lib.hid (K6.out.trans0 (hs.kept _))
      have O8 := Lib.hid (O6.out.kept (hs.kept _))
      have Q8 := Lib.hid (Q6.out.kept (hs.kept _))
      clear hs
      go_wp2
      go_ret
      exact ⟨rfl, O8.out, Q8.out, K7.out⟩
    · by_cases v2 : v = 2
      · skip
        subst v2
        have hl2 : l2 = (insertM l slot cell).2 := by rw [HSD.out]; rfl
        clear HSD
        have HI1 := Lib.hid (fun wz (hz : OwnB wz B1 gp cp l) (hr : RdB wz (some ⟨g7, 0, none⟩) cell) => insert_any B1 gp cp c7 l cell (some ⟨g7, 0, none⟩) wz hz hl hr (by omega) (fun b off e => by cases e; omega) slot)
        have HI2 := Lib.hid (fun wz (hz : OwnB wz B2 gq cq l) (hr : RdB wz CA cell) => rinsert_any B2 gq cq l slot CA cc cell wz hz hr hcl)
        generalize insertM l slot cell = r at *
        subst hl2
        go_wp2
        go_region_held3 (fun w' => w'.cell? ⟨px, 0, none⟩ = some (.int .i64 op) ∧ w'.cell? ⟨px, 1, none⟩ = some (.int .i64 slot) ∧ w'.cell? ⟨px, 2, none⟩ = some (.int .i64 next) ∧ w'.cell? ⟨px, 3, none⟩ = some (.slice CA cell.length cc))
          (first
            | exact ⟨d0, d1, d2, d3⟩
            | exact ⟨e0, e1, e2, e3⟩
            | exact ⟨f0, f1, f2, f3⟩)
          (first
            | (go_at_call 5; refine (HI1.out _ hP2d.out R7d.out).mono ?_
               rintro e w3 ⟨rfl, ho3, hk3⟩
               have e0 := (World.cell?_of_block (hk3.block px (block_lt_of_cell d0) (by omega))).trans d0
               have e1 := (World.cell?_of_block (hk3.block px (block_lt_of_cell d1) (by omega))).trans d1
               have e2 := (World.cell?_of_block (hk3.block px (block_lt_of_cell d2) (by omega))).trans d2
               have e3 := (World.cell?_of_block (hk3.block px (block_lt_of_cell d3) (by omega))).trans d3
               have O3 := Lib.hid ho3
               have K3 := Lib.hid hk3
               have Q3 := Lib.hid (hQ2d.out.keep hk3 (by omega))
               have RC3 := Lib.hid (RdB.kept1 RC2d.out hk3 (fun hne b off e _ => (HCA.out hne b off e).1))
               clear ho3 hk3)
            | (go_at_call 48; refine (HI2.out _ Q3.out RC3.out).mono ?_
               rintro e w4 ⟨rfl, ho4, hk4⟩
               have f0 := (World.cell?_of_block (hk4.block px (block_lt_of_cell e0) (by omega))).trans e0
               have f1 := (World.cell?_of_block (hk4.block px (block_lt_of_cell e1) (by omega))).trans e1
               have f2 := (World.cell?_of_block (hk4.block px (block_lt_of_cell e2) (by omega))).trans e2
               have f3 := (World.cell?_of_block (hk4.block px (block_lt_of_cell e3) (by omega))).trans e3
               have O4 := Lib.hid (O3.out.keep hk4 (by omega))
               have Q4 := Lib.hid ho4
               have K4 := Lib.hid (((K3.out.mono (T := fun x => x = gp ∨ x = gq) (fun _ _ h => .inl h))).trans hk4 (fun _ _ h => .inr h))
               clear ho4 hk4))
        have O74 := Lib.hid ((O7.out.kept ((Kept.refl (fun _ => False) w2).drew)).keep K4.out (by omega))
        have KK4 := Lib.hid ((K2.out.drew).mono (T := fun x => x = gp ∨ x = gq) (fun _ _ h => h.elim) |>.trans' K4.out)
        have RC4 := Lib.hid (RdB.kept1 HS.out KK4.out (fun hne b off e _ h => by
          have := HCA.out hne b off e
          omega))
        go_wp2_with fail
        refine (keptB_any CA g7 w1.heap.size c7 cc cell _ RC4.out O74.out (by omega)).mono ?_
        rintro e w5 ⟨rfl, hs⟩
        have K5 := Lib.hid (KK4.out.trans0 (hs.kept _))
        have O5 := Lib.hid (O4.out.kept (hs.kept _))
        have Q5 := Lib.hid (Q4.out.kept (hs.kept _))
        have O75 := Lib.hid (O74.out.kept (hs.kept _))
        clear hs
        go_wp2_with fail
        refine (overB_any g7 w1.heap.size c7 (lentL cell 12) w5 cell.length O75.out (by rw [len_lentL]) (by omega)).mono ?_
        rintro e w6 ⟨rfl, hk6⟩
        have K6 := Lib.hid (show Kept (fun x => x = gp ∨ x = gq) w w6 from K5.out.trans (hk6.mono (T := fun x => x = g7) (fun _ _ h => h)) (fun x hx e => by omega))
        have O6 := Lib.hid (O5.out.keep hk6 (by omega))
        have Q6 := Lib.hid (Q5.out.keep hk6 (by omega))
        clear hk6
        have hsm := same_any (some ⟨gp, 0, none⟩) (some ⟨gq, 0, none⟩) cp cq r.2 r.2 w6 O6.out.rdp Q6.out.rdp (by rw [HSL.out]; omega)
        simp only [decide_true] at hsm
        rw [HSL.out] at hsm
        have HSM := Lib.hid hsm
        clear hsm
        go_wp2_with fail
        refine HSM.out.mono ?_
        rintro e w7 ⟨rfl, hs⟩
        have K7 := Lib.hid (K6.out.trans0 (hs.kept _))
        have O8 := Lib.hid (O6.out.kept (hs.kept _))
        have Q8 := Lib.hid (Q6.out.kept (hs.kept _))
        clear hs
        go_wp2
        go_ret
        exact ⟨rfl, O8.out, Q8.out, K7.out⟩
      · by_cases v3 : v = 3
        · skip
          subst v3
          have hl2 : l2 = (deleteM l slot).2 := by rw [HSD.out]; rfl
          clear HSD
          have HI1 := Lib.hid (fun wz (hz : OwnB wz B1 gp cp l) => delete_any B1 gp cp l slot wz hz hl)
          have HI2 := Lib.hid (fun wz (hz : OwnB wz B2 gq cq l) => rdelete_any B2 gq cq l slot wz hz)
          generalize deleteM l slot = r at *
          subst hl2
          go_wp2
          go_region_held3 (fun w' => w'.cell? ⟨px, 0, none⟩ = some (.int .i64 op) ∧ w'.cell? ⟨px, 1, none⟩ = some (.int .i64 slot) ∧ w'.cell? ⟨px, 2, none⟩ = some (.int .i64 next) ∧ w'.cell? ⟨px, 3, none⟩ = some (.slice CA cell.length cc))
            (first
              | exact ⟨d0, d1, d2, d3⟩
              | exact ⟨e0, e1, e2, e3⟩
              | exact ⟨f0, f1, f2, f3⟩)
            (first
              | (go_at_call 7; refine (HI1.out _ hP2d.out).mono ?_
                 rintro e w3 ⟨rfl, ho3, hk3⟩
                 have e0 := (World.cell?_of_block (hk3.block px (block_lt_of_cell d0) (by omega))).trans d0
                 have e1 := (World.cell?_of_block (hk3.block px (block_lt_of_cell d1) (by omega))).trans d1
                 have e2 := (World.cell?_of_block (hk3.block px (block_lt_of_cell d2) (by omega))).trans d2
                 have e3 := (World.cell?_of_block (hk3.block px (block_lt_of_cell d3) (by omega))).trans d3
                 have O3 := Lib.hid ho3
                 have K3 := Lib.hid hk3
                 have Q3 := Lib.hid (hQ2d.out.keep hk3 (by omega))
                 have RC3 := Lib.hid (RdB.kept1 RC2d.out hk3 (fun hne b off e _ => (HCA.out hne b off e).1))
                 clear ho3 hk3)
              | (go_at_call 49; refine (HI2.out _ Q3.out).mono ?_
                 rintro e w4 ⟨rfl, ho4, hk4⟩
                 have f0 := (World.cell?_of_block (hk4.block px (block_lt_of_cell e0) (by omega))).trans e0
                 have f1 := (World.cell?_of_block (hk4.block px (block_lt_of_cell e1) (by omega))).trans e1
                 have f2 := (World.cell?_of_block (hk4.block px (block_lt_of_cell e2) (by omega))).trans e2
                 have f3 := (World.cell?_of_block (hk4.block px (block_lt_of_cell e3) (by omega))).trans e3
                 have O4 := Lib.hid (O3.out.keep hk4 (by omega))
                 have Q4 := Lib.hid ho4
                 have K4 := Lib.hid (((K3.out.mono (T := fun x => x = gp ∨ x = gq) (fun _ _ h => .inl h))).trans hk4 (fun _ _ h => .inr h))
                 clear ho4 hk4))
          have O74 := Lib.hid ((O7.out.kept ((Kept.refl (fun _ => False) w2).drew)).keep K4.out (by omega))
          have KK4 := Lib.hid ((K2.out.drew).mono (T := fun x => x = gp ∨ x = gq) (fun _ _ h => h.elim) |>.trans' K4.out)
          have RC4 := Lib.hid (RdB.kept1 HS.out KK4.out (fun hne b off e _ h => by
            have := HCA.out hne b off e
            omega))
          go_wp2_with fail
          refine (keptB_any CA g7 w1.heap.size c7 cc cell _ RC4.out O74.out (by omega)).mono ?_
          rintro e w5 ⟨rfl, hs⟩
          have K5 := Lib.hid (KK4.out.trans0 (hs.kept _))
          have O5 := Lib.hid (O4.out.kept (hs.kept _))
          have Q5 := Lib.hid (Q4.out.kept (hs.kept _))
          have O75 := Lib.hid (O74.out.kept (hs.kept _))
          clear hs
          go_wp2_with fail
          refine (overB_any g7 w1.heap.size c7 (lentL cell 12) w5 cell.length O75.out (by rw [len_lentL]) (by omega)).mono ?_
          rintro e w6 ⟨rfl, hk6⟩
          have K6 := Lib.hid (show Kept (fun x => x = gp ∨ x = gq) w w6 from K5.out.trans (hk6.mono (T := fun x => x = g7) (fun _ _ h => h)) (fun x hx e => by omega))
          have O6 := Lib.hid (O5.out.keep hk6 (by omega))
          have Q6 := Lib.hid (Q5.out.keep hk6 (by omega))
          clear hk6
          have hsm := same_any (some ⟨gp, 0, none⟩) (some ⟨gq, 0, none⟩) cp cq r.2 r.2 w6 O6.out.rdp Q6.out.rdp (by rw [HSL.out]; omega)
          simp only [decide_true] at hsm
          rw [HSL.out] at hsm
          have HSM := Lib.hid hsm
          clear hsm
          go_wp2_with fail
          refine HSM.out.mono ?_
          rintro e w7 ⟨rfl, hs⟩
          have K7 := Lib.hid (K6.out.trans0 (hs.kept _))
          have O8 := Lib.hid (O6.out.kept (hs.kept _))
          have Q8 := Lib.hid (Q6.out.kept (hs.kept _))
          clear hs
          go_wp2
          go_ret
          exact ⟨rfl, O8.out, Q8.out, K7.out⟩
        · have v4 : v = 4 := by omega
          subst v4
          have hl2 : l2 = (setNextM l next).2 := by rw [HSD.out]; rfl
          clear HSD
          have HI1 := Lib.hid (fun wz (hz : OwnB wz B1 gp cp l) => setNext_any B1 gp cp l next wz hz hl)
          have HI2 := Lib.hid (fun wz (hz : OwnB wz B2 gq cq l) => rsetNext_any B2 gq cq l next wz hz)
          generalize setNextM l next = r at *
          subst hl2
          go_wp2
          go_region_held3 (fun w' => w'.cell? ⟨px, 0, none⟩ = some (.int .i64 op) ∧ w'.cell? ⟨px, 1, none⟩ = some (.int .i64 slot) ∧ w'.cell? ⟨px, 2, none⟩ = some (.int .i64 next) ∧ w'.cell? ⟨px, 3, none⟩ = some (.slice CA cell.length cc))
            (first
              | exact ⟨d0, d1, d2, d3⟩
              | exact ⟨e0, e1, e2, e3⟩
              | exact ⟨f0, f1, f2, f3⟩)
            (first
              | (go_at_call 9; refine (HI1.out _ hP2d.out).mono ?_
                 rintro e w3 ⟨rfl, ho3, hk3⟩
                 have e0 := (World.cell?_of_block (hk3.block px (block_lt_of_cell d0) (by omega))).trans d0
                 have e1 := (World.cell?_of_block (hk3.block px (block_lt_of_cell d1) (by omega))).trans d1
                 have e2 := (World.cell?_of_block (hk3.block px (block_lt_of_cell d2) (by omega))).trans d2
                 have e3 := (World.cell?_of_block (hk3.block px (block_lt_of_cell d3) (by omega))).trans d3
                 have O3 := Lib.hid ho3
                 have K3 := Lib.hid hk3
                 have Q3 := Lib.hid (hQ2d.out.keep hk3 (by omega))
                 have RC3 := Lib.hid (RdB.kept1 RC2d.out hk3 (fun hne b off e _ => (HCA.out hne b off e).1))
                 clear ho3 hk3)
              | (go_at_call 50; refine (HI2.out _ Q3.out).mono ?_
                 rintro e w4 ⟨rfl, ho4, hk4⟩
                 have f0 := (World.cell?_of_block (hk4.block px (block_lt_of_cell e0) (by omega))).trans e0
                 have f1 := (World.cell?_of_block (hk4.block px (block_lt_of_cell e1) (by omega))).trans e1
                 have f2 := (World.cell?_of_block (hk4.block px (block_lt_of_cell e2) (by omega))).trans e2
                 have f3 := (World.cell?_of_block (hk4.block px (block_lt_of_cell e3) (by omega))).trans e3
                 have O4 := Lib.hid (O3.out.keep hk4 (by omega))
                 have Q4 := Lib.hid ho4
                 have K4 := Lib.hid (((K3.out.mono (T := fun x => x = gp ∨ x = gq) (fun _ _ h => .inl h))).trans hk4 (fun _ _ h => .inr h))
                 clear ho4 hk4))
          have O74 := Lib.hid ((O7.out.kept ((Kept.refl (fun _ => False) w2).drew)).keep K4.out (by omega))
          have KK4 := Lib.hid ((K2.out.drew).mono (T := fun x => x = gp ∨ x = gq) (fun _ _ h => h.elim) |>.trans' K4.out)
          have RC4 := Lib.hid (RdB.kept1 HS.out KK4.out (fun hne b off e _ h => by
            have := HCA.out hne b off e
            omega))
          go_wp2_with fail
          refine (keptB_any CA g7 w1.heap.size c7 cc cell _ RC4.out O74.out (by omega)).mono ?_
          rintro e w5 ⟨rfl, hs⟩
          have K5 := Lib.hid (KK4.out.trans0 (hs.kept _))
          have O5 := Lib.hid (O4.out.kept (hs.kept _))
          have Q5 := Lib.hid (Q4.out.kept (hs.kept _))
          have O75 := Lib.hid (O74.out.kept (hs.kept _))
          clear hs
          go_wp2_with fail
          refine (overB_any g7 w1.heap.size c7 (lentL cell 12) w5 cell.length O75.out (by rw [len_lentL]) (by omega)).mono ?_
          rintro e w6 ⟨rfl, hk6⟩
          have K6 := Lib.hid (show Kept (fun x => x = gp ∨ x = gq) w w6 from K5.out.trans (hk6.mono (T := fun x => x = g7) (fun _ _ h => h)) (fun x hx e => by omega))
          have O6 := Lib.hid (O5.out.keep hk6 (by omega))
          have Q6 := Lib.hid (Q5.out.keep hk6 (by omega))
          clear hk6
          have hsm := same_any (some ⟨gp, 0, none⟩) (some ⟨gq, 0, none⟩) cp cq r.2 r.2 w6 O6.out.rdp Q6.out.rdp (by rw [HSL.out]; omega)
          simp only [decide_true] at hsm
          rw [HSL.out] at hsm
          have HSM := Lib.hid hsm
          clear hsm
          go_wp2_with fail
          refine HSM.out.mono ?_
          rintro e w7 ⟨rfl, hs⟩
          have K7 := Lib.hid (K6.out.trans0 (hs.kept _))
          have O8 := Lib.hid (O6.out.kept (hs.kept _))
          have Q8 := Lib.hid (Q6.out.kept (hs.kept _))
          clear hs
          go_wp2
          go_ret
          exact ⟨rfl, O8.out, Q8.out, K7.out⟩
end Go.Proofs.YtndflnedkpmpfaaGreatDoor
