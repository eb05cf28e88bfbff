/-
  No statement is proved here: contracts of the document's Check, Kind, Next, Count, Room, Get.
-/
import Derived.Test.YtndflnedkpmpfaaDoorOfc
namespace Go.Proofs.YtndflnedkpmpfaaDoor
open Go.RowKit

section
variable (A : Option Addr) (c : Nat) (l : Bytes) (w : World)
set_option maxRecDepth 100000 in
theorem rcheck_any (h : RdB w A l) (hc : l.length ≤ c) (hc2 : c ≤ 9223372036854775807) :
    Calls Tryd.prog 35 #[.slice A l.length c] w fun e w' => e = .returned (.bool (decide (0 < endM l))) ∧ Kept (fun _ => False) w w' := by
  have HF := Lib.hid (of_any A c l w h hc hc2)
  clear h
  go_enter Tryd.func35, Tryd.ntmps35
  go_wp2_with fail
  refine HF.out.mono ?_
  rintro e w1 ⟨hk, ⟨he, rfl⟩ | ⟨he, v, L, rfl, ho, -⟩⟩
  · have HE := Lib.hid he
    have HK := Lib.hid hk
    unfold zPage
    clear he hk
    go_wp2
    go_ret
    exact ⟨ret_bool (by rw [HE.out]; rfl), HK.out.alloc _⟩
  · obtain ⟨G, cap, rfl, -⟩ := ho.view
    have HE := Lib.hid he
    have HK := Lib.hid hk
    clear he hk ho
    go_wp2
    go_ret
    exact ⟨ret_bool (by symm; rw [decide_eq_true_eq]; have := HE.out; omega), HK.out.alloc _⟩
set_option maxRecDepth 100000 in
theorem rkind_any (h : RdB w A l) (hc : l.length ≤ c) (hc2 : c ≤ 9223372036854775807) :
    Calls Tryd.prog 36 #[.slice A l.length c] w fun e w' => e = .returned (.int .u8 (kindM l).toNat) ∧ Kept (fun _ => False) w w' := by
  have HF := Lib.hid (of_any A c l w h hc hc2)
  clear h
  go_enter Tryd.func36, Tryd.ntmps36
  go_wp2_with fail
  refine HF.out.mono ?_
  rintro e w1 ⟨hk, ⟨he, rfl⟩ | ⟨he, v, L, rfl, ho, -⟩⟩
  · have HE := Lib.hid (show kindM l = 0 from by unfold kindM; rw [if_pos he])
    have HK := Lib.hid hk
    unfold zPage
    clear he hk
    go_wp2
    go_ret
    exact ⟨by rw [HE.out]; rfl, HK.out.alloc _⟩
  · obtain ⟨G, cap, rfl, -⟩ := ho.view
    have HE := Lib.hid (show kindM l = bAt l 0 from by unfold kindM; rw [if_neg he])
    have HK := Lib.hid hk
    clear he hk ho
    go_wp2
    go_ret
    exact ⟨by rw [HE.out]; rfl, HK.out.alloc _⟩
set_option maxRecDepth 100000 in
theorem rnext_any (h : RdB w A l) (hc : l.length ≤ c) (hc2 : c ≤ 9223372036854775807) :
    Calls Tryd.prog 37 #[.slice A l.length c] w fun e w' => e = .returned (.int .i64 (nxtM l)) ∧ Kept (fun _ => False) w w' := by
  have HF := Lib.hid (of_any A c l w h hc hc2)
  clear h
  go_enter Tryd.func37, Tryd.ntmps37
  go_wp2_with fail
  refine HF.out.mono ?_
  rintro e w1 ⟨hk, ⟨he, rfl⟩ | ⟨he, v, L, rfl, ho, -⟩⟩
  · have HE := Lib.hid (show nxtM l = 0 from by unfold nxtM; rw [if_pos he])
    have HK := Lib.hid hk
    unfold zPage
    clear he hk
    go_wp2
    go_ret
    exact ⟨by rw [HE.out]; rfl, HK.out.alloc _⟩
  · obtain ⟨G, cap, rfl, -⟩ := ho.view
    have HE := Lib.hid (show nxtM l = nextM l from by unfold nxtM; rw [if_neg he])
    have HK := Lib.hid hk
    clear he hk ho
    go_wp2
    go_ret
    exact ⟨by rw [HE.out]; rfl, HK.out.alloc _⟩
set_option maxRecDepth 100000 in
theorem rcount_any (h : RdB w A l) (hc : l.length ≤ c) (hc2 : c ≤ 9223372036854775807) :
    Calls Tryd.prog 38 #[.slice A l.length c] w fun e w' => e = .returned (.int .i64 (countM l)) ∧ Kept (fun _ => False) w w' := by
  have HF := Lib.hid (of_any A c l w h hc hc2)
  clear h
  go_enter Tryd.func38, Tryd.ntmps38
  go_wp2_with fail
  refine HF.out.mono ?_
  rintro e w1 ⟨hk, ⟨he, rfl⟩ | ⟨he, v, L, rfl, ho, hcs, hm⟩⟩
  · have HE := Lib.hid (show countM l = 0 from by unfold countM; rw [if_pos he])
    have HK := Lib.hid hk
    unfold zPage
    clear he hk
    go_wp2
    go_ret
    exact ⟨by rw [HE.out]; rfl, HK.out.alloc _⟩
  · obtain ⟨G, cap, rfl, -⟩ := ho.view
    have HE := Lib.hid (show countM l = L.length from by
      have h1 := cellsM_len l (bAt l 1).toNat
      rw [← hm, List.length_map] at h1
      unfold countM; rw [if_neg he, h1])
    have HK := Lib.hid hk
    clear he hk ho hcs hm
    go_wp2
    go_ret
    exact ⟨by rw [HE.out]; rfl, HK.out.alloc _⟩
end
end Go.Proofs.YtndflnedkpmpfaaDoor
