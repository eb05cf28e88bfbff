/-
  No statement is proved here: the contract of law09's tells.
-/
import Derived.Test.YtndflnedkpmpfaaGreatDoorOfg
namespace Go.Proofs.YtndflnedkpmpfaaGreatDoor
open Go.RowKit

theorem getM_len {l x : Bytes} {s : Int} (h : getM l s = some x) : x.length ≤ l.length := by
  unfold getM at h
  split at h
  · cases h
  · cases h
    rw [List.length_drop, List.length_take]
    omega
set_option maxRecDepth 100000 in
set_option maxHeartbeats 1000000 in
theorem tells_any (b off c : Nat) (l : Bytes) (w : World) (h : RdB w (some ⟨b, off, none⟩) l) (hl : l.length ≤ 1000000) (hc : l.length ≤ c) (hc2 : c ≤ 9223372036854775807) (s : Int) :
    Calls Tryz.prog 21 #[.slice (some ⟨b, off, none⟩) l.length c, .int .i64 s] w fun e w' => e = .returned (.bool true) ∧ Kept (fun _ => False) w w' := by
  have rd := fun (wz : World) (hk : Kept (fun _ => False) w wz) => h.kept hk (fun _ _ _ _ => id)
  have RD := Lib.hid rd
  have HG1 := Lib.hid (get_any b off c l w h hl hc hc2 s)
  have HG2 := Lib.hid (fun wz hk => rget_any (some ⟨b, off, none⟩) c l wz (rd wz hk) hc hc2 s)
  have HA1 := Lib.hid (fun wz hk => check_any (some ⟨b, off, none⟩) c l wz (rd wz hk) hl hc hc2)
  have HA2 := Lib.hid (fun wz hk => rcheck_any (some ⟨b, off, none⟩) c l wz (rd wz hk) hc hc2)
  have HB1 := Lib.hid (fun wz hk => kind_any (some ⟨b, off, none⟩) c l wz (rd wz hk) hl hc hc2)
  have HB2 := Lib.hid (fun wz hk => rkind_any (some ⟨b, off, none⟩) c l wz (rd wz hk) hc hc2)
  have HC1 := Lib.hid (fun wz hk => next_any (some ⟨b, off, none⟩) c l wz (rd wz hk) hl hc hc2)
  have HC2 := Lib.hid (fun wz hk => rnext_any (some ⟨b, off, none⟩) c l wz (rd wz hk) hc hc2)
  have HD1 := Lib.hid (fun wz hk => count_any (some ⟨b, off, none⟩) c l wz (rd wz hk) hl hc hc2)
  have HD2 := Lib.hid (fun wz hk => rcount_any (some ⟨b, off, none⟩) c l wz (rd wz hk) hc hc2)
  have HE1 := Lib.hid (fun wz hk => room_any (some ⟨b, off, none⟩) c l wz (rd wz hk) hl hc hc2 (endM_le l))
  have HE2 := Lib.hid (fun wz hk => rroom_any (some ⟨b, off, none⟩) c l wz (rd wz hk) hc hc2)
  clear rd h
  generalize decide (0 < endM l) = vb at *
  generalize kindM l = vk at *
  generalize nxtM l = vn at *
  generalize countM l = vc at *
  generalize roomM l = vr at *
  go_enter Tryz.func21, Tryz.ntmps21
  go_wp2_with fail
  refine HG1.out.mono ?_
  rintro e w1 ⟨hk, hg⟩
  have K0 := Lib.hid hk
  clear hk HG1
  rcases hg with ⟨hn, rfl⟩ | ⟨g1, k1, x, hx, rfl, ho⟩
  · have HN := Lib.hid hn
    go_wp2_with fail
    refine (HG2.out _ K0.out).mono ?_
    rintro e w2 ⟨hk, ⟨-, rfl⟩ | ⟨g2, k2, x, hx, -⟩⟩
    rotate_left
    · rw [HN.out] at hx; cases hx
    have K1 := Lib.hid (K0.out.trans0 hk)
    clear hk K0 HN hn
    have K0 := K1
    clear K1
    go_wp2_with fail
    refine (HA1.out _ K0.out).mono ?_
    rintro e u0 ⟨rfl, hs⟩
    have L0 := Lib.hid (K0.out.trans0 (hs.kept _))
    have SS := Lib.hid (hs.kept (fun _ => False))
    clear hs SS
    go_wp2_with fail
    refine (HA2.out _ L0.out).mono ?_
    rintro e u1 ⟨rfl, hs⟩
    have L1 := Lib.hid (L0.out.trans0 hs)
    have SS := Lib.hid hs
    clear hs SS
    go_wp2_with fail
    refine (HB1.out _ L1.out).mono ?_
    rintro e u2 ⟨rfl, hs⟩
    have L2 := Lib.hid (L1.out.trans0 (hs.kept _))
    have SS := Lib.hid (hs.kept (fun _ => False))
    clear hs SS
    go_wp2_with fail
    refine (HB2.out _ L2.out).mono ?_
    rintro e u3 ⟨rfl, hs⟩
    have L3 := Lib.hid (L2.out.trans0 hs)
    have SS := Lib.hid hs
    clear hs SS
    go_wp2_with fail
    refine (HC1.out _ L3.out).mono ?_
    rintro e u4 ⟨rfl, hs⟩
    have L4 := Lib.hid (L3.out.trans0 (hs.kept _))
    have SS := Lib.hid (hs.kept (fun _ => False))
    clear hs SS
    go_wp2_with fail
    refine (HC2.out _ L4.out).mono ?_
    rintro e u5 ⟨rfl, hs⟩
    have L5 := Lib.hid (L4.out.trans0 hs)
    have SS := Lib.hid hs
    clear hs SS
    go_wp2_with fail
    refine (HD1.out _ L5.out).mono ?_
    rintro e u6 ⟨rfl, hs⟩
    have L6 := Lib.hid (L5.out.trans0 (hs.kept _))
    have SS := Lib.hid (hs.kept (fun _ => False))
    clear hs SS
    go_wp2_with fail
    refine (HD2.out _ L6.out).mono ?_
    rintro e u7 ⟨rfl, hs⟩
    have L7 := Lib.hid (L6.out.trans0 hs)
    have SS := Lib.hid hs
    clear hs SS
    go_wp2_with fail
    refine (HE1.out _ L7.out).mono ?_
    rintro e u8 ⟨rfl, hs⟩
    have L8 := Lib.hid (L7.out.trans0 (hs.kept _))
    have SS := Lib.hid (hs.kept (fun _ => False))
    clear hs SS
    go_wp2_with fail
    refine (HE2.out _ L8.out).mono ?_
    rintro e u9 ⟨rfl, hs⟩
    have L9 := Lib.hid (L8.out.trans0 hs)
    have SS := Lib.hid hs
    clear hs SS
    have HS := Lib.hid (fun wz => same_any none none 0 0 [] [] wz (fun h => absurd rfl h) (fun h => absurd rfl h) (by simp))
    simp only [decide_true, List.length_nil] at HS
    go_wp2_with fail
    refine (HS.out _).mono ?_
    rintro e wf ⟨rfl, hs⟩
    have LF := Lib.hid (L9.out.trans0 (hs.kept _))
    clear hs
    go_wp2
    go_ret
    exact ⟨rfl, LF.out⟩
  · have HN := Lib.hid hx
    have O1 := Lib.hid ho
    clear ho hx
    go_wp2_with fail
    refine (HG2.out _ K0.out).mono ?_
    rintro e w2 ⟨hk, ⟨hx, -⟩ | ⟨g2, k2, x', hx, rfl, ho⟩⟩
    · rw [HN.out] at hx; cases hx
    rw [HN.out] at hx
    cases hx
    have O1' := Lib.hid (O1.out.kept hk)
    have O2 := Lib.hid ho
    have K1 := Lib.hid (K0.out.trans0 hk)
    have hx5 : x.length ≤ l.length := getM_len HN.out
    clear hk K0 HN O1 ho
    have K0 := K1
    have O1 := O1'
    clear K1 O1'
    go_wp2_with fail
    refine (HA1.out _ K0.out).mono ?_
    rintro e u0 ⟨rfl, hs⟩
    have L0 := Lib.hid (K0.out.trans0 (hs.kept _))
    have SS := Lib.hid (hs.kept (fun _ => False))
    have O1' := Lib.hid (O1.out.kept SS.out)
    clear O1
    have O1 := O1'
    clear O1'
    have O2' := Lib.hid (O2.out.kept SS.out)
    clear O2
    have O2 := O2'
    clear O2'
    clear hs SS
    go_wp2_with fail
    refine (HA2.out _ L0.out).mono ?_
    rintro e u1 ⟨rfl, hs⟩
    have L1 := Lib.hid (L0.out.trans0 hs)
    have SS := Lib.hid hs
    have O1' := Lib.hid (O1.out.kept SS.out)
    clear O1
    have O1 := O1'
    clear O1'
    have O2' := Lib.hid (O2.out.kept SS.out)
    clear O2
    have O2 := O2'
    clear O2'
    clear hs SS
    go_wp2_with fail
    refine (HB1.out _ L1.out).mono ?_
    rintro e u2 ⟨rfl, hs⟩
    have L2 := Lib.hid (L1.out.trans0 (hs.kept _))
    have SS := Lib.hid (hs.kept (fun _ => False))
    have O1' := Lib.hid (O1.out.kept SS.out)
    clear O1
    have O1 := O1'
    clear O1'
    have O2' := Lib.hid (O2.out.kept SS.out)
    clear O2
    have O2 := O2'
    clear O2'
    clear hs SS
    go_wp2_with fail
    refine (HB2.out _ L2.out).mono ?_
    rintro e u3 ⟨rfl, hs⟩
    have L3 := Lib.hid (L2.out.trans0 hs)
    have SS := Lib.hid hs
    have O1' := Lib.hid (O1.out.kept SS.out)
    clear O1
    have O1 := O1'
    clear O1'
    have O2' := Lib.hid (O2.out.kept SS.out)
    clear O2
    have O2 := O2'
    clear O2'
    clear hs SS
    go_wp2_with fail
    refine (HC1.out _ L3.out).mono ?_
    rintro e u4 ⟨rfl, hs⟩
    have L4 := Lib.hid (L3.out.trans0 (hs.kept _))
    have SS := Lib.hid (hs.kept (fun _ => False))
    have O1' := Lib.hid (O1.out.kept SS.out)
    clear O1
    have O1 := O1'
    clear O1'
    have O2' := Lib.hid (O2.out.kept SS.out)
    clear O2
    have O2 := O2'
    clear O2'
    clear hs SS
    go_wp2_with fail
    refine (HC2.out _ L4.out).mono ?_
    rintro e u5 ⟨rfl, hs⟩
    have L5 := Lib.hid (L4.out.trans0 hs)
    have SS := Lib.hid hs
    have O1' := Lib.hid (O1.out.kept SS.out)
    clear O1
    have O1 := O1'
    clear O1'
    have O2' := Lib.hid (O2.out.kept SS.out)
    clear O2
    have O2 := O2'
    clear O2'
    clear hs SS
    go_wp2_with fail
    refine (HD1.out _ L5.out).mono ?_
    rintro e u6 ⟨rfl, hs⟩
    have L6 := Lib.hid (L5.out.trans0 (hs.kept _))
    have SS := Lib.hid (hs.kept (fun _ => False))
    have O1' := Lib.hid (O1.out.kept SS.out)
    clear O1
    have O1 := O1'
    clear O1'
    have O2' := Lib.hid (O2.out.kept SS.out)
    clear O2
    have O2 := O2'
    clear O2'
    clear hs SS
    go_wp2_with fail
    refine (HD2.out _ L6.out).mono ?_
    rintro e u7 ⟨rfl, hs⟩
    have L7 := Lib.hid (L6.out.trans0 hs)
    have SS := Lib.hid hs
    have O1' := Lib.hid (O1.out.kept SS.out)
    clear O1
    have O1 := O1'
    clear O1'
    have O2' := Lib.hid (O2.out.kept SS.out)
    clear O2
    have O2 := O2'
    clear O2'
    clear hs SS
    go_wp2_with fail
    refine (HE1.out _ L7.out).mono ?_
    rintro e u8 ⟨rfl, hs⟩
    have L8 := Lib.hid (L7.out.trans0 (hs.kept _))
    have SS := Lib.hid (hs.kept (fun _ => False))
    have O1' := Lib.hid (O1.out.kept SS.out)
    clear O1
    have O1 := O1'
    clear O1'
    have O2' := Lib.hid (O2.out.kept SS.out)
    clear O2
    have O2 := O2'
    clear O2'
    clear hs SS
    go_wp2_with fail
    refine (HE2.out _ L8.out).mono ?_
    rintro e u9 ⟨rfl, hs⟩
    have L9 := Lib.hid (L8.out.trans0 hs)
    have SS := Lib.hid hs
    have O1' := Lib.hid (O1.out.kept SS.out)
    clear O1
    have O1 := O1'
    clear O1'
    have O2' := Lib.hid (O2.out.kept SS.out)
    clear O2
    have O2 := O2'
    clear O2'
    clear hs SS
    have HS := Lib.hid (same_any _ _ k1 k2 x x _ O1.out.rdp O2.out.rdp (by omega))
    simp only [decide_true] at HS
    go_wp2_with fail
    refine HS.out.mono ?_
    rintro e wf ⟨rfl, hs⟩
    have LF := Lib.hid (L9.out.trans0 (hs.kept _))
    clear hs
    go_wp2
    go_ret
    exact ⟨rfl, LF.out⟩
end Go.Proofs.YtndflnedkpmpfaaGreatDoor
