/-
  No statement is proved here: a part of what the claim's last text rests on.
-/
import Derived.Test.YtnbfhdgojmflhaaGreatJBky
import Derived.Test.YtnbfhdgojmflhaaGreatJRgw
namespace Go.Proofs.YtnbfhdgojmflhaaGreat
open Go.RowKit
theorem readNew : (readMas (newM 24)).1 = zM ∧ (readMas (newM 24)).2 = 4 := by constructor <;> kernel_rfl
theorem bBk0 (wz : World) : (Instr.build 65 #[]).run Tryz.prog wz = .ok (.agg zBk) wz := run_build wz _ _ _ (by kernel_rfl)
set_option maxRecDepth 100000 in
def cnR8s : PSigma fun l : List Oper => findF Tryz.f5 8 = some l.toArray := ⟨_, rfl⟩
def cnR8 : List Oper := cnR8s.1
set_option maxRecDepth 100000 in
theorem cnR8_len : cnR8.length = 70 := by kernel_rfl
set_option maxRecDepth 100000 in
theorem cnR8_w : witB cnR8 69 [1, 2, 3, 4, 5, 6, 7, 8, 10, 10, 11, 12, 13, 14, 15, 16, 18, 18, 19, 22, 22, 22, 23, 24, 25, 26, 28, 28, 29, 30, 31, 32, 33, 34, 36, 36, 37, 38, 39, 40, 41, 42, 44, 44, 45, 46, 47, 48, 49, 50, 52, 52, 53, 54, 60, 57, 57, 58, 59, 60, 61, 62, 63, 64, 66, 66, 67, 68, 69] = true := by kernel_rfl
def cnR8_o : List Nat := [0, 1, 2, 3, 4, 5, 6, 7, 8, 9, 10, 11, 12, 13, 14, 15, 16, 17, 18, 19, 20, 21, 22, 23, 24, 25, 26, 27, 28, 29, 30, 31, 32, 33, 34, 35, 36, 37, 38, 39, 40, 41, 42, 43, 44, 45, 46, 47, 48, 49, 50, 51, 52, 53, 55, 56, 57, 58, 54, 59, 60, 61, 62, 63, 64, 65, 66, 67, 68, 69]
set_option maxRecDepth 100000 in
theorem cnR8_ta : ([0, 1, 2, 3, 4, 5, 6, 7, 8, 9, 10, 11, 13, 14, 15, 16, 17, 18, 19, 20, 21, 23].all fun m => chkU cnR8 70 69 (ordD cnR8_o m) (cnR8_o.getD m 0)) = true := by kernel_rfl
set_option maxRecDepth 100000 in
theorem cnR8_tb : ([24, 25, 26, 27, 28, 29, 31, 32, 33, 34, 35, 36, 37, 39, 40, 41, 42, 43, 44, 45, 47].all fun m => chkU cnR8 70 69 (ordD cnR8_o m) (cnR8_o.getD m 0)) = true := by kernel_rfl
set_option maxRecDepth 100000 in
theorem cnR8_tc : ([48, 49, 50, 51, 52, 53, 54, 55, 56, 57, 60, 61, 62, 63, 64, 65, 66, 67].all fun m => chkU cnR8 70 69 (ordD cnR8_o m) (cnR8_o.getD m 0)) = true := by kernel_rfl
set_option maxRecDepth 100000 in
theorem cnR8_s : ([12, 22, 30, 38, 46, 58, 59, 68, 69].all fun m => chkS cnR8 70 (ordD cnR8_o m) (cnR8_o.getD m 0)) = true := by kernel_rfl
set_option maxRecDepth 100000 in
set_option maxHeartbeats 3200000 in
theorem changeNone_any (HAW : ∀ w, Calls Tryz.prog 18 #[] w fun e w' => e = .returned (.bool true) ∧ Kept (fun _ => False) w w') (w : World) (at_ : Int) (B : Option Addr) (k c : Nat) (m : MasM) :
    Calls Tryz.prog 5 #[.int .i64 at_, .slice B k c, .agg (masC m)] w fun e w' => e = .returned (.bool true) ∧ Kept (fun _ => False) w w' := by
  have HA := Lib.hid HAW
  have B0 := bBk0
  clear HAW
  go_enter Tryz.func5, Tryz.ntmps5
  go_wp2_with (refine wl_box rfl 62 _ rfl (.agg (masC m)) rfl ?_)
  intro gm w1 l1 m1 hb1 hk1
  have HM := Lib.hid (show w1.heap[gm]? = some (.cells (masC m) 62 (0, 0)) from hb1)
  have HK1 := Lib.hid hk1
  clear hb1 hk1 l1 m1
  go_wp2_with fail
  refine (HA.out w1).mono ?_
  rintro e w2 ⟨rfl, hk2⟩
  have HM2 := Lib.hid (hk2.heap HM.out id)
  have HK2 := Lib.hid (HK1.out.trans0 hk2)
  clear hk2 HM HK1 HA
  go_wp2_with (refine wl_box rfl 65 _ rfl (.agg zBk) rfl ?_)
  intro gb w3 l3 m3 hb3 hk3
  have HM3 := Lib.hid (hk3.heap HM2.out id)
  have HB3 := Lib.hid (show w3.heap[gb]? = some (.cells zBk 65 (0, 0)) from hb3)
  have HK3 := Lib.hid (HK2.out.trans0 hk3)
  clear hb3 hk3 l3 m3 HM2 HK2
  obtain ⟨F, hF⟩ : ∃ F : Array Value, F = #[.pointer none, .pointer (some ⟨gb, 0, none⟩)] := ⟨_, rfl⟩
  obtain ⟨w4, hw4⟩ : ∃ w4, w4 = w3.alloc (.cells F 51) := ⟨_, rfl⟩
  have hk4 : Kept (fun _ => False) w3 w4 := by rw [hw4]; exact (Kept.refl _ w3).alloc _
  have hf4 : w4.heap[w3.heap.size]? = some (.cells F 51 (0, 0)) := by rw [hw4]; exact heap_alloc_new w3 _
  have HM4 := Lib.hid (hk4.heap HM3.out id)
  have HB4 := Lib.hid (hk4.heap HB3.out id)
  have HK4 := Lib.hid (HK3.out.trans0 hk4)
  obtain ⟨gf, hgf⟩ : ∃ gf, gf = w3.heap.size := ⟨_, rfl⟩
  rw [← hgf] at hf4
  have HF4 := Lib.hid hf4
  have HW4 := Lib.hid (show w3.alloc (.cells #[.pointer none, .pointer (some ⟨gb, 0, none⟩)] 51) = w4 from by rw [hw4, hF])
  have HGF := Lib.hid hgf
  have HFF := Lib.hid hF
  clear hF hw4 hk4 hf4 hgf HM3 HB3 HK3
  go_wp2_with fail
  rw [HW4.out, ← HGF.out]
  go_loopw [8] (fun i wr => ∃ j : Nat, j ≤ 2 ∧ i = .int .i64 j ∧ Kept (fun _ => False) w4 wr) (fun i _ => 2 - (intOf i).toNat)
  case atStart => exact ⟨0, by omega, rfl, Kept.refl _ _⟩
  case round =>
    obtain ⟨j, hj, rfl, hkr⟩ := hrel
    have HKr := Lib.hid hkr
    clear hkr
    by_cases hlt : j < 2
    · have i1 : (j : Int) < 2 := by omega
      have i0 : (0 : Int) ≤ (j : Int) := by omega
      have e1 : wrap64 ((j : Int) + 1) = ((j + 1 : Nat) : Int) := by unfold wrap64; omega
      obtain ⟨A, hA⟩ : ∃ A : Option Addr, F[j]? = some (.pointer A) ∧ (A = none ∨ A = some ⟨gb, 0, none⟩) := by
        rw [HFF.out]
        rcases (show j = 0 ∨ j = 1 by omega) with rfl | rfl
        · exact ⟨none, rfl, .inl rfl⟩
        · exact ⟨_, rfl, .inr rfl⟩
      have HNB := Lib.hid (show ∀ w', Kept (fun _ => False) wr w' → NoBk w' A from fun w' hk => by
        rcases hA.2 with h | h
        · exact .inl h
        · exact .inr ⟨gb, h, (HKr.out.trans0 hk).heap HB4.out id⟩)
      have HCE := Lib.hid (show ∀ w', Kept (fun _ => False) wr w' → w'.cell? ⟨gf, j, none⟩ = some (.pointer A) from fun w' hk => by
        exact cell_blk ((HKr.out.trans0 hk).heap HF4.out id) hA.1)
      have HKz := Lib.hid (Kept.refl (fun _ => False) wr)
      have ce := HCE.out wr HKz.out
      clear hA
      go_wp2_with fail
      refine (nb_Page (HNB.out wr HKz.out) at_).mono ?_
      rintro e wx ⟨rfl, rfl⟩
      go_wp2_with fail
      refine startS cnR8 70 69 (fun w' => Kept (fun _ => False) wr w') (by rfl) cnR8_len (by kernel_rfl) ((Kept.refl (fun _ => False) wr).drew) (fun hH => ?_)
      have HKD := Lib.hid ((Kept.refl (fun _ => False) wr).drew)
      clear ce
      refine takeS [] 0 ?_ (all_T cnR8_w cnR8_len.symm cnR8_ta 0 rfl) rfl rfl (fun _ _ _ h => h) (by rfl) (fun w' hw' => ?_) hH rfl ?_
      rotate_left
      · have ce := HCE.out w' hw'
        go_simp <;> with_reducible rfl
      refine takeS [0] 1 ?_ (all_T cnR8_w cnR8_len.symm cnR8_ta 1 rfl) rfl rfl (fun _ _ _ h => h) (by rfl) (fun w' hw' => ?_) hH rfl ?_
      rotate_left
      · have ce := HCE.out w' hw'
        go_simp <;> with_reducible rfl
      refine takeS [1, 0] 2 ?_ (all_T cnR8_w cnR8_len.symm cnR8_ta 2 rfl) rfl rfl (fun _ _ _ h => h) (by rfl) (fun w' hw' => ?_) hH rfl ?_
      rotate_left
      · have ce := HCE.out w' hw'
        go_simp <;> with_reducible rfl
      refine takeS [2, 1, 0] 3 ?_ (all_T cnR8_w cnR8_len.symm cnR8_ta 3 rfl) rfl rfl (fun _ _ _ h => h) (by rfl) (fun w' hw' => ?_) hH rfl ?_
      rotate_left
      · have ce := HCE.out w' hw'
        go_simp <;> with_reducible rfl
      refine takeS [3, 2, 1, 0] 4 ?_ (all_T cnR8_w cnR8_len.symm cnR8_ta 4 rfl) rfl rfl (fun _ _ _ h => h) (by rfl) (fun w' hw' => ?_) hH rfl ?_
      rotate_left
      · have ce := HCE.out w' hw'
        go_simp <;> with_reducible rfl
      refine takeS [4, 3, 2, 1, 0] 5 ?_ (all_T cnR8_w cnR8_len.symm cnR8_ta 5 rfl) rfl rfl (fun _ _ _ h => h) (by rfl) (fun w' hw' => ?_) hH rfl ?_
      rotate_left
      · have ce := HCE.out w' hw'
        go_simp <;> with_reducible rfl
      refine takeS [5, 4, 3, 2, 1, 0] 6 ?_ (all_T cnR8_w cnR8_len.symm cnR8_ta 6 rfl) rfl rfl (fun _ _ _ h => h) (by rfl) (fun w' hw' => ?_) hH rfl ?_
      rotate_left
      · have ce := HCE.out w' hw'
        go_simp <;> with_reducible rfl
      refine takeS [6, 5, 4, 3, 2, 1, 0] 7 ?_ (all_T cnR8_w cnR8_len.symm cnR8_ta 7 rfl) rfl rfl (fun _ _ _ h => h) (by rfl) (fun w' hw' => ?_) hH rfl ?_
      rotate_left
      · have ce := HCE.out w' hw'
        go_simp <;> with_reducible rfl
      refine takeS [7, 6, 5, 4, 3, 2, 1, 0] 8 ?_ (all_T cnR8_w cnR8_len.symm cnR8_ta 8 rfl) rfl rfl (fun _ _ _ h => h) (by rfl) (fun w' hw' => ?_) hH rfl ?_
      rotate_left
      · have ce := HCE.out w' hw'
        go_simp <;> with_reducible rfl
      refine takeS [8, 7, 6, 5, 4, 3, 2, 1, 0] 9 ?_ (all_T cnR8_w cnR8_len.symm cnR8_ta 9 rfl) rfl rfl (fun _ _ _ h => h) (by rfl) (fun w' hw' => ?_) hH rfl ?_
      rotate_left
      · have ce := HCE.out w' hw'
        go_simp <;> with_reducible rfl
      refine takeS [9, 8, 7, 6, 5, 4, 3, 2, 1, 0] 10 ?_ (all_T cnR8_w cnR8_len.symm cnR8_ta 10 rfl) rfl rfl (fun _ _ _ h => h) (by rfl) (fun w' hw' => ?_) hH rfl ?_
      rotate_left
      · have ce := HCE.out w' hw'
        go_simp <;> with_reducible rfl
      refine takeS [10, 9, 8, 7, 6, 5, 4, 3, 2, 1, 0] 11 ?_ (all_T cnR8_w cnR8_len.symm cnR8_ta 11 rfl) rfl rfl (fun _ _ _ h => h) (by rfl) (fun w' hw' => ?_) hH rfl ?_
      rotate_left
      · have ce := HCE.out w' hw'
        go_simp <;> with_reducible rfl
      refine stepS [11, 10, 9, 8, 7, 6, 5, 4, 3, 2, 1, 0] 12 (all_S cnR8_s 12 rfl) rfl (fun K hK => ?_)
      go_simp
      refine (nb_Begin (HNB.out _ HKD.out)).mono ?_
      rintro e wx ⟨rfl, rfl⟩
      go_simp
      refine hK.out _ _ (fun _ => HKD.out) (fun _ => ?_)
      try simp only [oZa, oZb, oZc]
      clear hK K hH
      refine takeS [12, 11, 10, 9, 8, 7, 6, 5, 4, 3, 2, 1, 0] 13 ?_ (all_T cnR8_w cnR8_len.symm cnR8_ta 13 rfl) rfl rfl (fun _ _ _ h => h) (by rfl) (fun w' hw' => ?_) HKD.out rfl ?_
      rotate_left
      · have ce := HCE.out w' hw'
        go_simp <;> with_reducible rfl
      refine takeS [13, 12, 11, 10, 9, 8, 7, 6, 5, 4, 3, 2, 1, 0] 14 ?_ (all_T cnR8_w cnR8_len.symm cnR8_ta 14 rfl) rfl rfl (fun _ _ _ h => h) (by rfl) (fun w' hw' => ?_) HKD.out rfl ?_
      rotate_left
      · have ce := HCE.out w' hw'
        go_simp <;> with_reducible rfl
      refine takeS [14, 13, 12, 11, 10, 9, 8, 7, 6, 5, 4, 3, 2, 1, 0] 15 ?_ (all_T cnR8_w cnR8_len.symm cnR8_ta 15 rfl) rfl rfl (fun _ _ _ h => h) (by rfl) (fun w' hw' => ?_) HKD.out rfl ?_
      rotate_left
      · have ce := HCE.out w' hw'
        go_simp <;> with_reducible rfl
      refine takeS [15, 14, 13, 12, 11, 10, 9, 8, 7, 6, 5, 4, 3, 2, 1, 0] 16 ?_ (all_T cnR8_w cnR8_len.symm cnR8_ta 16 rfl) rfl rfl (fun _ _ _ h => h) (by rfl) (fun w' hw' => ?_) HKD.out rfl ?_
      rotate_left
      · have ce := HCE.out w' hw'
        go_simp <;> with_reducible rfl
      refine takeS [16, 15, 14, 13, 12, 11, 10, 9, 8, 7, 6, 5, 4, 3, 2, 1, 0] 17 ?_ (all_T cnR8_w cnR8_len.symm cnR8_ta 17 rfl) rfl rfl (fun _ _ _ h => h) (by rfl) (fun w' hw' => ?_) HKD.out rfl ?_
      rotate_left
      · have ce := HCE.out w' hw'
        go_simp <;> with_reducible rfl
      refine takeS [17, 16, 15, 14, 13, 12, 11, 10, 9, 8, 7, 6, 5, 4, 3, 2, 1, 0] 18 ?_ (all_T cnR8_w cnR8_len.symm cnR8_ta 18 rfl) rfl rfl (fun _ _ _ h => h) (by rfl) (fun w' hw' => ?_) HKD.out rfl ?_
      rotate_left
      · have ce := HCE.out w' hw'
        go_simp <;> with_reducible rfl
      refine takeS [18, 17, 16, 15, 14, 13, 12, 11, 10, 9, 8, 7, 6, 5, 4, 3, 2, 1, 0] 19 ?_ (all_T cnR8_w cnR8_len.symm cnR8_ta 19 rfl) rfl rfl (fun _ _ _ h => h) (by rfl) (fun w' hw' => ?_) HKD.out rfl ?_
      rotate_left
      · have ce := HCE.out w' hw'
        go_simp <;> with_reducible rfl
      refine takeS [19, 18, 17, 16, 15, 14, 13, 12, 11, 10, 9, 8, 7, 6, 5, 4, 3, 2, 1, 0] 20 ?_ (all_T cnR8_w cnR8_len.symm cnR8_ta 20 rfl) rfl rfl (fun _ _ _ h => h) (by rfl) (fun w' hw' => ?_) HKD.out rfl ?_
      rotate_left
      · have ce := HCE.out w' hw'
        go_simp <;> with_reducible rfl
      refine takeS [20, 19, 18, 17, 16, 15, 14, 13, 12, 11, 10, 9, 8, 7, 6, 5, 4, 3, 2, 1, 0] 21 ?_ (all_T cnR8_w cnR8_len.symm cnR8_ta 21 rfl) rfl rfl (fun _ _ _ h => h) (by rfl) (fun w' hw' => ?_) HKD.out rfl ?_
      rotate_left
      · have ce := HCE.out w' hw'
        go_simp <;> with_reducible rfl
      refine stepS [21, 20, 19, 18, 17, 16, 15, 14, 13, 12, 11, 10, 9, 8, 7, 6, 5, 4, 3, 2, 1, 0] 22 (all_S cnR8_s 22 rfl) rfl (fun K hK => ?_)
      go_simp
      refine (nb_Put (HNB.out _ HKD.out) at_ B k c).mono ?_
      rintro e wx ⟨rfl, rfl⟩
      go_simp
      refine hK.out _ _ (fun _ => HKD.out) (fun _ => ?_)
      try simp only [oZa, oZb, oZc]
      clear hK K
      refine takeS [22, 21, 20, 19, 18, 17, 16, 15, 14, 13, 12, 11, 10, 9, 8, 7, 6, 5, 4, 3, 2, 1, 0] 23 ?_ (all_T cnR8_w cnR8_len.symm cnR8_ta 23 rfl) rfl rfl (fun _ _ _ h => h) (by rfl) (fun w' hw' => ?_) HKD.out rfl ?_
      rotate_left
      · have ce := HCE.out w' hw'
        go_simp <;> with_reducible rfl
      refine takeS [23, 22, 21, 20, 19, 18, 17, 16, 15, 14, 13, 12, 11, 10, 9, 8, 7, 6, 5, 4, 3, 2, 1, 0] 24 ?_ (all_T cnR8_w cnR8_len.symm cnR8_tb 24 rfl) rfl rfl (fun _ _ _ h => h) (by rfl) (fun w' hw' => ?_) HKD.out rfl ?_
      rotate_left
      · have ce := HCE.out w' hw'
        go_simp <;> with_reducible rfl
      refine takeS [24, 23, 22, 21, 20, 19, 18, 17, 16, 15, 14, 13, 12, 11, 10, 9, 8, 7, 6, 5, 4, 3, 2, 1, 0] 25 ?_ (all_T cnR8_w cnR8_len.symm cnR8_tb 25 rfl) rfl rfl (fun _ _ _ h => h) (by rfl) (fun w' hw' => ?_) HKD.out rfl ?_
      rotate_left
      · have ce := HCE.out w' hw'
        go_simp <;> with_reducible rfl
      refine takeS [25, 24, 23, 22, 21, 20, 19, 18, 17, 16, 15, 14, 13, 12, 11, 10, 9, 8, 7, 6, 5, 4, 3, 2, 1, 0] 26 ?_ (all_T cnR8_w cnR8_len.symm cnR8_tb 26 rfl) rfl rfl (fun _ _ _ h => h) (by rfl) (fun w' hw' => ?_) HKD.out rfl ?_
      rotate_left
      · have ce := HCE.out w' hw'
        go_simp <;> with_reducible rfl
      refine takeS [26, 25, 24, 23, 22, 21, 20, 19, 18, 17, 16, 15, 14, 13, 12, 11, 10, 9, 8, 7, 6, 5, 4, 3, 2, 1, 0] 27 ?_ (all_T cnR8_w cnR8_len.symm cnR8_tb 27 rfl) rfl rfl (fun _ _ _ h => h) (by rfl) (fun w' hw' => ?_) HKD.out rfl ?_
      rotate_left
      · have ce := HCE.out w' hw'
        go_simp <;> with_reducible rfl
      refine takeS [27, 26, 25, 24, 23, 22, 21, 20, 19, 18, 17, 16, 15, 14, 13, 12, 11, 10, 9, 8, 7, 6, 5, 4, 3, 2, 1, 0] 28 ?_ (all_T cnR8_w cnR8_len.symm cnR8_tb 28 rfl) rfl rfl (fun _ _ _ h => h) (by rfl) (fun w' hw' => ?_) HKD.out rfl ?_
      rotate_left
      · have ce := HCE.out w' hw'
        go_simp <;> with_reducible rfl
      refine takeS [28, 27, 26, 25, 24, 23, 22, 21, 20, 19, 18, 17, 16, 15, 14, 13, 12, 11, 10, 9, 8, 7, 6, 5, 4, 3, 2, 1, 0] 29 ?_ (all_T cnR8_w cnR8_len.symm cnR8_tb 29 rfl) rfl rfl (fun _ _ _ h => h) (by rfl) (fun w' hw' => ?_) HKD.out rfl ?_
      rotate_left
      · have ce := HCE.out w' hw'
        go_simp <;> with_reducible rfl
      refine stepS [29, 28, 27, 26, 25, 24, 23, 22, 21, 20, 19, 18, 17, 16, 15, 14, 13, 12, 11, 10, 9, 8, 7, 6, 5, 4, 3, 2, 1, 0] 30 (all_S cnR8_s 30 rfl) rfl (fun K hK => ?_)
      go_simp
      refine (nb_Commit (HNB.out _ HKD.out)).mono ?_
      rintro e w5 ⟨rfl, hk⟩
      have HK_w5 := Lib.hid (HKD.out.trans0 hk)
      clear hk
      go_simp
      refine hK.out _ _ (fun _ => HK_w5.out) (fun _ => ?_)
      try simp only [oZa, oZb, oZc]
      clear hK K
      refine takeS [30, 29, 28, 27, 26, 25, 24, 23, 22, 21, 20, 19, 18, 17, 16, 15, 14, 13, 12, 11, 10, 9, 8, 7, 6, 5, 4, 3, 2, 1, 0] 31 ?_ (all_T cnR8_w cnR8_len.symm cnR8_tb 31 rfl) rfl rfl (fun _ _ _ h => h) (by rfl) (fun w' hw' => ?_) HK_w5.out rfl ?_
      rotate_left
      · have ce := HCE.out w' hw'
        go_simp <;> with_reducible rfl
      refine takeS [31, 30, 29, 28, 27, 26, 25, 24, 23, 22, 21, 20, 19, 18, 17, 16, 15, 14, 13, 12, 11, 10, 9, 8, 7, 6, 5, 4, 3, 2, 1, 0] 32 ?_ (all_T cnR8_w cnR8_len.symm cnR8_tb 32 rfl) rfl rfl (fun _ _ _ h => h) (by rfl) (fun w' hw' => ?_) HK_w5.out rfl ?_
      rotate_left
      · have ce := HCE.out w' hw'
        go_simp <;> with_reducible rfl
      refine takeS [32, 31, 30, 29, 28, 27, 26, 25, 24, 23, 22, 21, 20, 19, 18, 17, 16, 15, 14, 13, 12, 11, 10, 9, 8, 7, 6, 5, 4, 3, 2, 1, 0] 33 ?_ (all_T cnR8_w cnR8_len.symm cnR8_tb 33 rfl) rfl rfl (fun _ _ _ h => h) (by rfl) (fun w' hw' => ?_) HK_w5.out rfl ?_
      rotate_left
      · have ce := HCE.out w' hw'
        go_simp <;> with_reducible rfl
      refine takeS [33, 32, 31, 30, 29, 28, 27, 26, 25, 24, 23, 22, 21, 20, 19, 18, 17, 16, 15, 14, 13, 12, 11, 10, 9, 8, 7, 6, 5, 4, 3, 2, 1, 0] 34 ?_ (all_T cnR8_w cnR8_len.symm cnR8_tb 34 rfl) rfl rfl (fun _ _ _ h => h) (by rfl) (fun w' hw' => ?_) HK_w5.out rfl ?_
      rotate_left
      · have ce := HCE.out w' hw'
        go_simp <;> with_reducible rfl
      refine takeS [34, 33, 32, 31, 30, 29, 28, 27, 26, 25, 24, 23, 22, 21, 20, 19, 18, 17, 16, 15, 14, 13, 12, 11, 10, 9, 8, 7, 6, 5, 4, 3, 2, 1, 0] 35 ?_ (all_T cnR8_w cnR8_len.symm cnR8_tb 35 rfl) rfl rfl (fun _ _ _ h => h) (by rfl) (fun w' hw' => ?_) HK_w5.out rfl ?_
      rotate_left
      · have ce := HCE.out w' hw'
        go_simp <;> with_reducible rfl
      refine takeS [35, 34, 33, 32, 31, 30, 29, 28, 27, 26, 25, 24, 23, 22, 21, 20, 19, 18, 17, 16, 15, 14, 13, 12, 11, 10, 9, 8, 7, 6, 5, 4, 3, 2, 1, 0] 36 ?_ (all_T cnR8_w cnR8_len.symm cnR8_tb 36 rfl) rfl rfl (fun _ _ _ h => h) (by rfl) (fun w' hw' => ?_) HK_w5.out rfl ?_
      rotate_left
      · have ce := HCE.out w' hw'
        go_simp <;> with_reducible rfl
      refine takeS [36, 35, 34, 33, 32, 31, 30, 29, 28, 27, 26, 25, 24, 23, 22, 21, 20, 19, 18, 17, 16, 15, 14, 13, 12, 11, 10, 9, 8, 7, 6, 5, 4, 3, 2, 1, 0] 37 ?_ (all_T cnR8_w cnR8_len.symm cnR8_tb 37 rfl) rfl rfl (fun _ _ _ h => h) (by rfl) (fun w' hw' => ?_) HK_w5.out rfl ?_
      rotate_left
      · have ce := HCE.out w' hw'
        go_simp <;> with_reducible rfl
      refine stepS [37, 36, 35, 34, 33, 32, 31, 30, 29, 28, 27, 26, 25, 24, 23, 22, 21, 20, 19, 18, 17, 16, 15, 14, 13, 12, 11, 10, 9, 8, 7, 6, 5, 4, 3, 2, 1, 0] 38 (all_S cnR8_s 38 rfl) rfl (fun K hK => ?_)
      go_simp
      refine (nb_Abort (HNB.out _ HK_w5.out)).mono ?_
      rintro e wx ⟨rfl, rfl⟩
      go_simp
      refine hK.out _ _ (fun _ => HK_w5.out) (fun _ => ?_)
      try simp only [oZa, oZb, oZc]
      clear hK K
      refine takeS [38, 37, 36, 35, 34, 33, 32, 31, 30, 29, 28, 27, 26, 25, 24, 23, 22, 21, 20, 19, 18, 17, 16, 15, 14, 13, 12, 11, 10, 9, 8, 7, 6, 5, 4, 3, 2, 1, 0] 39 ?_ (all_T cnR8_w cnR8_len.symm cnR8_tb 39 rfl) rfl rfl (fun _ _ _ h => h) (by rfl) (fun w' hw' => ?_) HK_w5.out rfl ?_
      rotate_left
      · have ce := HCE.out w' hw'
        go_simp <;> with_reducible rfl
      refine takeS [39, 38, 37, 36, 35, 34, 33, 32, 31, 30, 29, 28, 27, 26, 25, 24, 23, 22, 21, 20, 19, 18, 17, 16, 15, 14, 13, 12, 11, 10, 9, 8, 7, 6, 5, 4, 3, 2, 1, 0] 40 ?_ (all_T cnR8_w cnR8_len.symm cnR8_tb 40 rfl) rfl rfl (fun _ _ _ h => h) (by rfl) (fun w' hw' => ?_) HK_w5.out rfl ?_
      rotate_left
      · have ce := HCE.out w' hw'
        go_simp <;> with_reducible rfl
      refine takeS [40, 39, 38, 37, 36, 35, 34, 33, 32, 31, 30, 29, 28, 27, 26, 25, 24, 23, 22, 21, 20, 19, 18, 17, 16, 15, 14, 13, 12, 11, 10, 9, 8, 7, 6, 5, 4, 3, 2, 1, 0] 41 ?_ (all_T cnR8_w cnR8_len.symm cnR8_tb 41 rfl) rfl rfl (fun _ _ _ h => h) (by rfl) (fun w' hw' => ?_) HK_w5.out rfl ?_
      rotate_left
      · have ce := HCE.out w' hw'
        go_simp <;> with_reducible rfl
      refine takeS [41, 40, 39, 38, 37, 36, 35, 34, 33, 32, 31, 30, 29, 28, 27, 26, 25, 24, 23, 22, 21, 20, 19, 18, 17, 16, 15, 14, 13, 12, 11, 10, 9, 8, 7, 6, 5, 4, 3, 2, 1, 0] 42 ?_ (all_T cnR8_w cnR8_len.symm cnR8_tb 42 rfl) rfl rfl (fun _ _ _ h => h) (by rfl) (fun w' hw' => ?_) HK_w5.out rfl ?_
      rotate_left
      · have ce := HCE.out w' hw'
        go_simp <;> with_reducible rfl
      refine takeS [42, 41, 40, 39, 38, 37, 36, 35, 34, 33, 32, 31, 30, 29, 28, 27, 26, 25, 24, 23, 22, 21, 20, 19, 18, 17, 16, 15, 14, 13, 12, 11, 10, 9, 8, 7, 6, 5, 4, 3, 2, 1, 0] 43 ?_ (all_T cnR8_w cnR8_len.symm cnR8_tb 43 rfl) rfl rfl (fun _ _ _ h => h) (by rfl) (fun w' hw' => ?_) HK_w5.out rfl ?_
      rotate_left
      · have ce := HCE.out w' hw'
        go_simp <;> with_reducible rfl
      refine takeS [43, 42, 41, 40, 39, 38, 37, 36, 35, 34, 33, 32, 31, 30, 29, 28, 27, 26, 25, 24, 23, 22, 21, 20, 19, 18, 17, 16, 15, 14, 13, 12, 11, 10, 9, 8, 7, 6, 5, 4, 3, 2, 1, 0] 44 ?_ (all_T cnR8_w cnR8_len.symm cnR8_tb 44 rfl) rfl rfl (fun _ _ _ h => h) (by rfl) (fun w' hw' => ?_) HK_w5.out rfl ?_
      rotate_left
      · have ce := HCE.out w' hw'
        go_simp <;> with_reducible rfl
      refine takeS [44, 43, 42, 41, 40, 39, 38, 37, 36, 35, 34, 33, 32, 31, 30, 29, 28, 27, 26, 25, 24, 23, 22, 21, 20, 19, 18, 17, 16, 15, 14, 13, 12, 11, 10, 9, 8, 7, 6, 5, 4, 3, 2, 1, 0] 45 ?_ (all_T cnR8_w cnR8_len.symm cnR8_tb 45 rfl) rfl rfl (fun _ _ _ h => h) (by rfl) (fun w' hw' => ?_) HK_w5.out rfl ?_
      rotate_left
      · have ce := HCE.out w' hw'
        go_simp <;> with_reducible rfl
      refine stepS [45, 44, 43, 42, 41, 40, 39, 38, 37, 36, 35, 34, 33, 32, 31, 30, 29, 28, 27, 26, 25, 24, 23, 22, 21, 20, 19, 18, 17, 16, 15, 14, 13, 12, 11, 10, 9, 8, 7, 6, 5, 4, 3, 2, 1, 0] 46 (all_S cnR8_s 46 rfl) rfl (fun K hK => ?_)
      go_simp
      refine (nb_Point (HNB.out _ HK_w5.out)).mono ?_
      rintro e w6 ⟨rfl, hk⟩
      have HK_w6 := Lib.hid (HK_w5.out.trans0 hk)
      clear hk
      go_simp
      refine hK.out _ _ (fun _ => HK_w6.out) (fun _ => ?_)
      try simp only [oZa, oZb, oZc]
      clear hK K
      refine takeS [46, 45, 44, 43, 42, 41, 40, 39, 38, 37, 36, 35, 34, 33, 32, 31, 30, 29, 28, 27, 26, 25, 24, 23, 22, 21, 20, 19, 18, 17, 16, 15, 14, 13, 12, 11, 10, 9, 8, 7, 6, 5, 4, 3, 2, 1, 0] 47 ?_ (all_T cnR8_w cnR8_len.symm cnR8_tb 47 rfl) rfl rfl (fun _ _ _ h => h) (by rfl) (fun w' hw' => ?_) HK_w6.out rfl ?_
      rotate_left
      · have ce := HCE.out w' hw'
        go_simp <;> with_reducible rfl
      refine takeS [47, 46, 45, 44, 43, 42, 41, 40, 39, 38, 37, 36, 35, 34, 33, 32, 31, 30, 29, 28, 27, 26, 25, 24, 23, 22, 21, 20, 19, 18, 17, 16, 15, 14, 13, 12, 11, 10, 9, 8, 7, 6, 5, 4, 3, 2, 1, 0] 48 ?_ (all_T cnR8_w cnR8_len.symm cnR8_tc 48 rfl) rfl rfl (fun _ _ _ h => h) (by rfl) (fun w' hw' => ?_) HK_w6.out rfl ?_
      rotate_left
      · have ce := HCE.out w' hw'
        go_simp <;> with_reducible rfl
      refine takeS [48, 47, 46, 45, 44, 43, 42, 41, 40, 39, 38, 37, 36, 35, 34, 33, 32, 31, 30, 29, 28, 27, 26, 25, 24, 23, 22, 21, 20, 19, 18, 17, 16, 15, 14, 13, 12, 11, 10, 9, 8, 7, 6, 5, 4, 3, 2, 1, 0] 49 ?_ (all_T cnR8_w cnR8_len.symm cnR8_tc 49 rfl) rfl rfl (fun _ _ _ h => h) (by rfl) (fun w' hw' => ?_) HK_w6.out rfl ?_
      rotate_left
      · have ce := HCE.out w' hw'
        go_simp <;> with_reducible rfl
      refine takeS [49, 48, 47, 46, 45, 44, 43, 42, 41, 40, 39, 38, 37, 36, 35, 34, 33, 32, 31, 30, 29, 28, 27, 26, 25, 24, 23, 22, 21, 20, 19, 18, 17, 16, 15, 14, 13, 12, 11, 10, 9, 8, 7, 6, 5, 4, 3, 2, 1, 0] 50 ?_ (all_T cnR8_w cnR8_len.symm cnR8_tc 50 rfl) rfl rfl (fun _ _ _ h => h) (by rfl) (fun w' hw' => ?_) HK_w6.out rfl ?_
      rotate_left
      · have ce := HCE.out w' hw'
        go_simp <;> with_reducible rfl
      refine takeS [50, 49, 48, 47, 46, 45, 44, 43, 42, 41, 40, 39, 38, 37, 36, 35, 34, 33, 32, 31, 30, 29, 28, 27, 26, 25, 24, 23, 22, 21, 20, 19, 18, 17, 16, 15, 14, 13, 12, 11, 10, 9, 8, 7, 6, 5, 4, 3, 2, 1, 0] 51 ?_ (all_T cnR8_w cnR8_len.symm cnR8_tc 51 rfl) rfl rfl (fun _ _ _ h => h) (by rfl) (fun w' hw' => ?_) HK_w6.out rfl ?_
      rotate_left
      · have ce := HCE.out w' hw'
        go_simp <;> with_reducible rfl
      refine takeS [51, 50, 49, 48, 47, 46, 45, 44, 43, 42, 41, 40, 39, 38, 37, 36, 35, 34, 33, 32, 31, 30, 29, 28, 27, 26, 25, 24, 23, 22, 21, 20, 19, 18, 17, 16, 15, 14, 13, 12, 11, 10, 9, 8, 7, 6, 5, 4, 3, 2, 1, 0] 52 ?_ (all_T cnR8_w cnR8_len.symm cnR8_tc 52 rfl) rfl rfl (fun _ _ _ h => h) (by rfl) (fun w' hw' => ?_) HK_w6.out rfl ?_
      rotate_left
      · have ce := HCE.out w' hw'
        go_simp <;> with_reducible rfl
      refine takeS [52, 51, 50, 49, 48, 47, 46, 45, 44, 43, 42, 41, 40, 39, 38, 37, 36, 35, 34, 33, 32, 31, 30, 29, 28, 27, 26, 25, 24, 23, 22, 21, 20, 19, 18, 17, 16, 15, 14, 13, 12, 11, 10, 9, 8, 7, 6, 5, 4, 3, 2, 1, 0] 53 ?_ (all_T cnR8_w cnR8_len.symm cnR8_tc 53 rfl) rfl rfl (fun _ _ _ h => h) (by rfl) (fun w' hw' => ?_) HK_w6.out rfl ?_
      rotate_left
      · have ce := HCE.out w' hw'
        go_simp <;> with_reducible rfl
      refine takeS [53, 52, 51, 50, 49, 48, 47, 46, 45, 44, 43, 42, 41, 40, 39, 38, 37, 36, 35, 34, 33, 32, 31, 30, 29, 28, 27, 26, 25, 24, 23, 22, 21, 20, 19, 18, 17, 16, 15, 14, 13, 12, 11, 10, 9, 8, 7, 6, 5, 4, 3, 2, 1, 0] 55 ?_ (all_T cnR8_w cnR8_len.symm cnR8_tc 54 rfl) rfl rfl (fun _ _ _ h => h) (by rfl) (fun w' hw' => ?_) HK_w6.out rfl ?_
      rotate_left
      · have ce := HCE.out w' hw'
        go_simp <;> with_reducible rfl
      refine takeS [55, 53, 52, 51, 50, 49, 48, 47, 46, 45, 44, 43, 42, 41, 40, 39, 38, 37, 36, 35, 34, 33, 32, 31, 30, 29, 28, 27, 26, 25, 24, 23, 22, 21, 20, 19, 18, 17, 16, 15, 14, 13, 12, 11, 10, 9, 8, 7, 6, 5, 4, 3, 2, 1, 0] 56 ?_ (all_T cnR8_w cnR8_len.symm cnR8_tc 55 rfl) rfl rfl (fun _ _ _ h => h) (by rfl) (fun w' hw' => ?_) HK_w6.out rfl ?_
      rotate_left
      · have ce := HCE.out w' hw'
        go_simp <;> with_reducible rfl
      refine takeS [56, 55, 53, 52, 51, 50, 49, 48, 47, 46, 45, 44, 43, 42, 41, 40, 39, 38, 37, 36, 35, 34, 33, 32, 31, 30, 29, 28, 27, 26, 25, 24, 23, 22, 21, 20, 19, 18, 17, 16, 15, 14, 13, 12, 11, 10, 9, 8, 7, 6, 5, 4, 3, 2, 1, 0] 57 ?_ (all_T cnR8_w cnR8_len.symm cnR8_tc 56 rfl) rfl rfl (fun _ _ _ h => h) (by rfl) (fun w' hw' => ?_) HK_w6.out rfl ?_
      rotate_left
      · have ce := HCE.out w' hw'
        go_simp <;> with_reducible rfl
      refine takeS [57, 56, 55, 53, 52, 51, 50, 49, 48, 47, 46, 45, 44, 43, 42, 41, 40, 39, 38, 37, 36, 35, 34, 33, 32, 31, 30, 29, 28, 27, 26, 25, 24, 23, 22, 21, 20, 19, 18, 17, 16, 15, 14, 13, 12, 11, 10, 9, 8, 7, 6, 5, 4, 3, 2, 1, 0] 58 ?_ (all_T cnR8_w cnR8_len.symm cnR8_tc 57 rfl) rfl rfl (fun _ _ _ h => h) (by rfl) (fun w' hw' => ?_) HK_w6.out rfl ?_
      rotate_left
      · have ce := HCE.out w' hw'
        go_simp <;> with_reducible rfl
      refine stepS [58, 57, 56, 55, 53, 52, 51, 50, 49, 48, 47, 46, 45, 44, 43, 42, 41, 40, 39, 38, 37, 36, 35, 34, 33, 32, 31, 30, 29, 28, 27, 26, 25, 24, 23, 22, 21, 20, 19, 18, 17, 16, 15, 14, 13, 12, 11, 10, 9, 8, 7, 6, 5, 4, 3, 2, 1, 0] 54 (all_S cnR8_s 58 rfl) rfl (fun K hK => ?_)
      go_simp
      refine (nb_Pages (HNB.out _ HK_w6.out)).mono ?_
      rintro e wx ⟨rfl, rfl⟩
      go_simp
      refine hK.out _ _ (fun _ => HK_w6.out) (fun _ => ?_)
      try simp only [oZa, oZb, oZc]
      clear hK K
      refine stepS [54, 58, 57, 56, 55, 53, 52, 51, 50, 49, 48, 47, 46, 45, 44, 43, 42, 41, 40, 39, 38, 37, 36, 35, 34, 33, 32, 31, 30, 29, 28, 27, 26, 25, 24, 23, 22, 21, 20, 19, 18, 17, 16, 15, 14, 13, 12, 11, 10, 9, 8, 7, 6, 5, 4, 3, 2, 1, 0] 59 (all_S cnR8_s 59 rfl) rfl (fun K hK => ?_)
      go_simp
      refine (nb_Changes (HNB.out _ HK_w6.out)).mono ?_
      rintro e wx ⟨rfl, rfl⟩
      go_simp
      refine hK.out _ _ (fun _ => HK_w6.out) (fun _ => ?_)
      try simp only [oZa, oZb, oZc]
      clear hK K
      refine takeS [59, 54, 58, 57, 56, 55, 53, 52, 51, 50, 49, 48, 47, 46, 45, 44, 43, 42, 41, 40, 39, 38, 37, 36, 35, 34, 33, 32, 31, 30, 29, 28, 27, 26, 25, 24, 23, 22, 21, 20, 19, 18, 17, 16, 15, 14, 13, 12, 11, 10, 9, 8, 7, 6, 5, 4, 3, 2, 1, 0] 60 ?_ (all_T cnR8_w cnR8_len.symm cnR8_tc 60 rfl) rfl rfl (fun _ _ _ h => h) (by rfl) (fun w' hw' => ?_) HK_w6.out rfl ?_
      rotate_left
      · have ce := HCE.out w' hw'
        go_simp <;> with_reducible rfl
      refine takeS [60, 59, 54, 58, 57, 56, 55, 53, 52, 51, 50, 49, 48, 47, 46, 45, 44, 43, 42, 41, 40, 39, 38, 37, 36, 35, 34, 33, 32, 31, 30, 29, 28, 27, 26, 25, 24, 23, 22, 21, 20, 19, 18, 17, 16, 15, 14, 13, 12, 11, 10, 9, 8, 7, 6, 5, 4, 3, 2, 1, 0] 61 ?_ (all_T cnR8_w cnR8_len.symm cnR8_tc 61 rfl) rfl rfl (fun _ _ _ h => h) (by rfl) (fun w' hw' => ?_) HK_w6.out rfl ?_
      rotate_left
      · have ce := HCE.out w' hw'
        go_simp <;> with_reducible rfl
      refine takeS [61, 60, 59, 54, 58, 57, 56, 55, 53, 52, 51, 50, 49, 48, 47, 46, 45, 44, 43, 42, 41, 40, 39, 38, 37, 36, 35, 34, 33, 32, 31, 30, 29, 28, 27, 26, 25, 24, 23, 22, 21, 20, 19, 18, 17, 16, 15, 14, 13, 12, 11, 10, 9, 8, 7, 6, 5, 4, 3, 2, 1, 0] 62 ?_ (all_T cnR8_w cnR8_len.symm cnR8_tc 62 rfl) rfl rfl (fun _ _ _ h => h) (by rfl) (fun w' hw' => ?_) HK_w6.out rfl ?_
      rotate_left
      · have ce := HCE.out w' hw'
        go_simp <;> with_reducible rfl
      refine takeS [62, 61, 60, 59, 54, 58, 57, 56, 55, 53, 52, 51, 50, 49, 48, 47, 46, 45, 44, 43, 42, 41, 40, 39, 38, 37, 36, 35, 34, 33, 32, 31, 30, 29, 28, 27, 26, 25, 24, 23, 22, 21, 20, 19, 18, 17, 16, 15, 14, 13, 12, 11, 10, 9, 8, 7, 6, 5, 4, 3, 2, 1, 0] 63 ?_ (all_T cnR8_w cnR8_len.symm cnR8_tc 63 rfl) rfl rfl (fun _ _ _ h => h) (by rfl) (fun w' hw' => ?_) HK_w6.out rfl ?_
      rotate_left
      · have ce := HCE.out w' hw'
        go_simp <;> with_reducible rfl
      refine takeS [63, 62, 61, 60, 59, 54, 58, 57, 56, 55, 53, 52, 51, 50, 49, 48, 47, 46, 45, 44, 43, 42, 41, 40, 39, 38, 37, 36, 35, 34, 33, 32, 31, 30, 29, 28, 27, 26, 25, 24, 23, 22, 21, 20, 19, 18, 17, 16, 15, 14, 13, 12, 11, 10, 9, 8, 7, 6, 5, 4, 3, 2, 1, 0] 64 ?_ (all_T cnR8_w cnR8_len.symm cnR8_tc 64 rfl) rfl rfl (fun _ _ _ h => h) (by rfl) (fun w' hw' => ?_) HK_w6.out rfl ?_
      rotate_left
      · have ce := HCE.out w' hw'
        go_simp <;> with_reducible rfl
      refine takeS [64, 63, 62, 61, 60, 59, 54, 58, 57, 56, 55, 53, 52, 51, 50, 49, 48, 47, 46, 45, 44, 43, 42, 41, 40, 39, 38, 37, 36, 35, 34, 33, 32, 31, 30, 29, 28, 27, 26, 25, 24, 23, 22, 21, 20, 19, 18, 17, 16, 15, 14, 13, 12, 11, 10, 9, 8, 7, 6, 5, 4, 3, 2, 1, 0] 65 ?_ (all_T cnR8_w cnR8_len.symm cnR8_tc 65 rfl) rfl rfl (fun _ _ _ h => h) (by rfl) (fun w' hw' => ?_) HK_w6.out rfl ?_
      rotate_left
      · have ce := HCE.out w' hw'
        go_simp <;> with_reducible rfl
      refine takeS [65, 64, 63, 62, 61, 60, 59, 54, 58, 57, 56, 55, 53, 52, 51, 50, 49, 48, 47, 46, 45, 44, 43, 42, 41, 40, 39, 38, 37, 36, 35, 34, 33, 32, 31, 30, 29, 28, 27, 26, 25, 24, 23, 22, 21, 20, 19, 18, 17, 16, 15, 14, 13, 12, 11, 10, 9, 8, 7, 6, 5, 4, 3, 2, 1, 0] 66 ?_ (all_T cnR8_w cnR8_len.symm cnR8_tc 66 rfl) rfl rfl (fun _ _ _ h => h) (by rfl) (fun w' hw' => ?_) HK_w6.out rfl ?_
      rotate_left
      · have ce := HCE.out w' hw'
        go_simp <;> with_reducible rfl
      refine takeS [66, 65, 64, 63, 62, 61, 60, 59, 54, 58, 57, 56, 55, 53, 52, 51, 50, 49, 48, 47, 46, 45, 44, 43, 42, 41, 40, 39, 38, 37, 36, 35, 34, 33, 32, 31, 30, 29, 28, 27, 26, 25, 24, 23, 22, 21, 20, 19, 18, 17, 16, 15, 14, 13, 12, 11, 10, 9, 8, 7, 6, 5, 4, 3, 2, 1, 0] 67 ?_ (all_T cnR8_w cnR8_len.symm cnR8_tc 67 rfl) rfl rfl (fun _ _ _ h => h) (by rfl) (fun w' hw' => ?_) HK_w6.out rfl ?_
      rotate_left
      · have ce := HCE.out w' hw'
        go_simp <;> with_reducible rfl
      refine stepS [67, 66, 65, 64, 63, 62, 61, 60, 59, 54, 58, 57, 56, 55, 53, 52, 51, 50, 49, 48, 47, 46, 45, 44, 43, 42, 41, 40, 39, 38, 37, 36, 35, 34, 33, 32, 31, 30, 29, 28, 27, 26, 25, 24, 23, 22, 21, 20, 19, 18, 17, 16, 15, 14, 13, 12, 11, 10, 9, 8, 7, 6, 5, 4, 3, 2, 1, 0] 68 (all_S cnR8_s 68 rfl) rfl (fun K hK => ?_)
      go_simp
      refine (nb_In (HNB.out _ HK_w6.out)).mono ?_
      rintro e wx ⟨rfl, rfl⟩
      go_simp
      refine hK.out _ _ (fun _ => HK_w6.out) (fun _ => ?_)
      try simp only [oZa, oZb, oZc]
      clear hK K
      refine stepS [68, 67, 66, 65, 64, 63, 62, 61, 60, 59, 54, 58, 57, 56, 55, 53, 52, 51, 50, 49, 48, 47, 46, 45, 44, 43, 42, 41, 40, 39, 38, 37, 36, 35, 34, 33, 32, 31, 30, 29, 28, 27, 26, 25, 24, 23, 22, 21, 20, 19, 18, 17, 16, 15, 14, 13, 12, 11, 10, 9, 8, 7, 6, 5, 4, 3, 2, 1, 0] 69 (all_S cnR8_s 69 rfl) rfl (fun K hK => ?_)
      go_simp
      refine hK.out _ _ (fun h => absurd rfl h) (fun _ => ?_)
      try simp only [oZa, oZb, oZc]
      clear hK K
      refine doneL (by kernel_rfl) ?_ _
      go_wp2
      go_roundw
      case rel => exact ⟨j + 1, by omega, by go_num, HKr.out.trans0 HK_w6.out⟩
      case measure => simp [intOf]; omega
    · have hj2 : j = 2 := by omega
      subst hj2
      have HKw := Lib.hid (HK4.out.trans0 HKr.out)
      have HMr := Lib.hid (HKr.out.heap HM4.out id)
      clear hlt HK4 HM4 HB4 HF4 HW4 HGF HFF HKr
      go_wp2_with fail
      refine (readMas_nil wr).mono ?_
      rintro e w5 ⟨rfl, hk5⟩
      have HK5 := Lib.hid (HKw.out.trans0 hk5)
      have HM5 := Lib.hid (hk5.heap HMr.out id)
      clear hk5
      go_wp2_with (refine wl_alloc' rfl 62 rfl (masC zM) zeroMas ?_)
      intro pr w6 l6 m6 hb6 hk6
      have HP6 := Lib.hid hb6
      have HK6 := Lib.hid (HK5.out.trans0 hk6)
      have HM6 := Lib.hid (hk6.heap HM5.out id)
      have HL6 := Lib.hid (show w.heap.size ≤ pr from Nat.le_trans HK5.out.size l6)
      have HN6 := Lib.hid (show gm ≠ pr from by have := heap_lt HM5.out; omega)
      clear hb6 hk6 l6 m6
      go_wp2_with (refine wl_store_row rfl 62 _ _ rfl pr (masC zM) (masC zM) rfl rfl HP6.out sizeMas rfl (one_mas _) ?_)
      intro w7 hb7 hk7
      have HK7 := Lib.hid (HK6.out.new hk7 (fun z hz => by subst hz; exact HL6.out))
      have HM7 := Lib.hid (hk7.heap HM6.out HN6.out)
      clear hb7 hk7 HK6 HM6 HK5 HM5 HP6 HL6 HN6
      go_wp2_with fail
      refine (new_ok 24 (by decide) (by decide) w7).mono ?_
      rintro e w8 ⟨p, ms, mo, rfl, hd8, hk8, -, -, -⟩
      have HD8 := Lib.hid hd8
      have HK8 := Lib.hid (HK7.out.trans0 hk8)
      have HM8 := Lib.hid (hk8.heap HM7.out id)
      clear hd8 hk8
      go_wp2_with fail
      have hrd := readMas_any HD8.out (show (2 : Int) ≤ 24 from by decide)
      rw [readNew.1, readNew.2] at hrd
      refine hrd.mono ?_
      rintro e w9 ⟨rfl, hk9⟩
      have HK9 := Lib.hid (HK8.out.trans0 hk9)
      have HM9 := Lib.hid (hk9.heap HM8.out id)
      clear hk9 hrd
      go_wp2_with (refine wl_alloc' rfl 62 rfl (masC zM) zeroMas ?_)
      intro ps w10 l6 m6 hb6 hk6
      have HP6 := Lib.hid hb6
      have HK6 := Lib.hid (HK9.out.trans0 hk6)
      have HM6 := Lib.hid (hk6.heap HM9.out id)
      have HL6 := Lib.hid (show w.heap.size ≤ ps from Nat.le_trans HK9.out.size l6)
      have HN6 := Lib.hid (show gm ≠ ps from by have := heap_lt HM9.out; omega)
      clear hb6 hk6 l6 m6
      go_wp2_with (refine wl_store_row rfl 62 _ _ rfl ps (masC zM) (masC zM) rfl rfl HP6.out sizeMas rfl (one_mas _) ?_)
      intro w11 hb7 hk7
      have HKa := Lib.hid (HK6.out.new hk7 (fun z hz => by subst hz; exact HL6.out))
      have HMa := Lib.hid (hk7.heap HM6.out HN6.out)
      clear hb7 hk7 HK6 HM6 HK9 HM9 HP6 HL6 HN6 HK8 HM8 HD8 HK7 HM7 HKw HMr
      go_wp2_with fail
      refine (format_nil w11).mono ?_
      rintro e w12 ⟨rfl, hk⟩
      have HKb := Lib.hid (HKa.out.trans0 hk)
      have HMb := Lib.hid (hk.heap HMa.out id)
      clear hk
      go_wp2_with fail
      refine (new_ok 23 (by decide) (by decide) w12).mono ?_
      rintro e w13 ⟨p, ms, mo, rfl, hd8, hk8, -, -, -⟩
      have HDc := Lib.hid hd8
      have HKc := Lib.hid (HKb.out.trans0 hk8)
      have HMc := Lib.hid (hk8.heap HMb.out id)
      clear hd8 hk8
      go_wp2_with fail
      refine (format_less HDc.out (show (23 : Int) < 24 from by decide)).mono ?_
      rintro e w14 ⟨rfl, hk⟩
      have HKd := Lib.hid (HKc.out.trans0 hk)
      have HMd := Lib.hid (hk.heap HMc.out id)
      have y0 : w14.cell? ⟨gm, 0, none⟩ = some (.int .i64 m.seq) := cell_blk HMd.out rfl
      have y1 : w14.cell? ⟨gm, 1, none⟩ = some (.int .i64 m.turn) := cell_blk HMd.out rfl
      have y2 : w14.cell? ⟨gm, 2, none⟩ = some (.int .i64 m.oldest) := cell_blk HMd.out rfl
      clear hk
      go_wp2_with fail
      refine (show Calls Tryz.prog 34 #[.pointer none, .agg #[.int .i64 m.seq, .int .i64 m.turn, .int .i64 m.oldest]] w14 _ from writeMas_nil m w14).mono ?_
      rintro e w15 ⟨rfl, hk⟩
      have HKe := Lib.hid (HKd.out.trans0 hk)
      clear hk y0 y1 y2
      go_wp2_with fail
      refine (bnew_nil w15 _ _).mono ?_
      rintro e w16 ⟨rfl, hk⟩
      have HKf := Lib.hid (HKe.out.trans0 hk)
      clear hk
      go_wp2_with fail
      refine (new_ok 24 (by decide) (by decide) w16).mono ?_
      rintro e w17 ⟨p2, ms2, mo2, rfl, hd8, hk8, -, -, -⟩
      have HDg := Lib.hid hd8
      have HKg := Lib.hid (HKf.out.trans0 hk8)
      clear hd8 hk8
      go_wp2_with fail
      refine (bnew_no HDg.out (show (2 : Int) ≤ 24 from by decide) (by rw [readNew.2]; decide) _ _).mono ?_
      rintro e w18 ⟨rfl, hk⟩
      have HKh := Lib.hid (HKg.out.trans0 hk)
      clear hk
      go_wp2
      go_ret
      exact ⟨rfl, HKh.out⟩
end Go.Proofs.YtnbfhdgojmflhaaGreat
