/-
  No statement is proved here: LogBytes, of records and bytes in memory.
-/
import Derived.Test.YtbolbddjmmfepaaRe
import Derived.Test.YtbolbddjmmfepaaRd
namespace Go.Proofs.Ytbolbddjmmfepaa
open Go.RowKit

theorem LentV.cap {w : World} {base : Nat} {A : Option Addr} {n c : Nat} {l : Bytes} (h : LentV w base (.slice A n c) l) : l.length ≤ c ∧ c ≤ 9223372036854775807 := by
  obtain ⟨g, cap, e, ho⟩ := h
  cases e
  obtain ⟨cur, _, _, h3, h4, _⟩ := ho.form
  rw [len_lentL] at h3
  exact ⟨by omega, h4⟩
set_option maxRecDepth 100000 in
set_option maxHeartbeats 3200000 in
theorem logBytes_any (r : RecM) (A1 A2 A : Option Addr) (c1 c2 c : Nat) (b : Bytes) (w : World) (ho : RecOk r) (hr1 : RdB w A1 r.old) (hr2 : RdB w A2 r.new) (hb : RdB w A b) (hc : b.length ≤ c) (hc2 : c ≤ 9223372036854775807)
    (s1 : r.old.length ≤ 140737488355328) (s2 : r.new.length ≤ 140737488355328) (s3 : b.length ≤ 140737488355328) :
    Calls Try.prog 3 #[.agg (recC r A1 c1 A2 c2), .slice A b.length c] w fun e w' => e = .returned (.bool true) ∧ Kept (fun _ => False) w w' := by
  have HO := Lib.hid ho
  have HR1 := Lib.hid hr1
  have HR2 := Lib.hid hr2
  have HB := Lib.hid hb
  clear ho hr1 hr2 hb
  go_enter Try.func3, Try.ntmps3
  go_wp2_with (refine wl_box rfl 27 _ rfl (.agg (recC r A1 c1 A2 c2)) rfl ?_)
  intro q w1 q1 q2 hb1 hk1
  have HQ1 := Lib.hid (show w1.heap[q]? = some (.cells (recC r A1 c1 A2 c2) 27 (0, 0)) from hb1)
  have K1 := Lib.hid hk1
  clear hb1 hk1
  go_wp2_with fail
  refine (awake_any _).mono ?_
  rintro e w2 ⟨rfl, hk2⟩
  have HQ2 := Lib.hid (hk2.heap HQ1.out id)
  have K2 := Lib.hid (K1.out.trans0 hk2)
  clear hk2 HQ1
  obtain ⟨x0, x1, x2, x3, x4, x5, x6, x7, x8, x9⟩ := recAt_of HQ2.out
  have e1 : wrap64 ((r.old.length : Int) + (r.new.length : Int)) = (r.old.length : Int) + (r.new.length : Int) := by unfold wrap64; omega
  have e2 : wrap64 ((r.old.length : Int) + (r.new.length : Int) + (b.length : Int)) = (r.old.length : Int) + (r.new.length : Int) + (b.length : Int) := by unfold wrap64; omega
  by_cases hl : (5000 : Int) < (r.old.length : Int) + (r.new.length : Int) + (b.length : Int)
  · go_wp2
    go_ret
    exact ⟨rfl, K2.out⟩
  · have l1 : r.old.length ≤ 5000 := by omega
    have l2 : r.new.length ≤ 5000 := by omega
    have l3 : b.length ≤ 5000 := by omega
    have HLR := Lib.hid (lrec_any r A1 A2 c1 c2 w2 (HR1.out.kept K2.out (fun _ _ _ _ => id)) (HR2.out.kept K2.out (fun _ _ _ _ => id)) (by omega) (by omega))
    clear s1 s2 s3
    go_wp2_with (refine wl_load_row rfl 27 _ rfl q rfl (recC r A1 c1 A2 c2) HQ2.out Try.underlying27 rfl sizeRec ?_)
    refine HLR.out.mono ?_
    rintro e w3 ⟨B1, d1, B2, d2, rfl, hv1, hv2, -, hk3⟩
    have HV1 := Lib.hid hv1
    have HV2 := Lib.hid hv2
    have HQ3 := Lib.hid (hk3.heap HQ2.out id)
    have K3 := Lib.hid (K2.out.trans0 hk3)
    clear hv1 hv2 hk3 HQ2 HLR x0 x1 x2 x3 x4 x5 x6 x7 x8 x9 hl e1 e2
    go_wp2_with (refine wl_alloc' rfl 27 rfl zRecC zeroRec ?_)
    intro p w4 p1 p2 hb4 hk4
    go_wp2_with (refine wl_store_row rfl 27 _ _ rfl p (recC r B1 d1 B2 d2) _ rfl rfl hb4 sizeRec rfl (one_recC _ _ _ _ _) ?_)
    intro w5 hb5 hk5
    have k35 : Kept (fun _ => False) w3 w5 := hk4.new hk5 (by rintro x rfl; exact p1)
    have HP5 := Lib.hid hb5
    have HQ5 := Lib.hid (k35.heap HQ3.out id)
    have HV1' := Lib.hid (HV1.out.keep k35 (fun _ _ _ => id))
    have HV2' := Lib.hid (HV2.out.keep k35 (fun _ _ _ => id))
    have K5 := Lib.hid (K3.out.trans0 k35)
    have HPU := Lib.hid (put_any r B1 d1 B2 d2 w5 HO.out (by omega) (by omega) HV1'.out.rd HV2'.out.rd)
    clear hb4 hk4 hb5 hk5 k35 HV1 HV2 HQ3
    go_wp2_with (refine wl_load_row rfl 27 _ rfl p rfl (recC r B1 d1 B2 d2) HP5.out Try.underlying27 rfl sizeRec ?_)
    refine HPU.out.mono ?_
    rintro e w6 ⟨hk6, hp1, hp2⟩
    have HP6 := Lib.hid (hk6.heap HP5.out id)
    have HQ6 := Lib.hid (hk6.heap HQ5.out id)
    have HV1 := Lib.hid (HV1'.out.keep hk6 (fun _ _ _ => id))
    have HV2 := Lib.hid (HV2'.out.keep hk6 (fun _ _ _ => id))
    have K6 := Lib.hid (K5.out.trans0 hk6)
    obtain ⟨G, gc, E, en, rfl, hG, hen, hE⟩ : ∃ (G : Option Addr) (gc : Nat) (E : Bytes) (en : Int), e = .returned (.tuple #[.slice G E.length gc, .int .i64 en]) ∧ RdB w6 G E ∧ E.length ≤ 10000 ∧ ((rightM r → E = encM r ∧ en = 0) ∧ (¬ rightM r → E = [] ∧ en = 4)) := by
      by_cases hR : rightM r
      · obtain ⟨g, cap, he, hob⟩ := hp1 hR
        exact ⟨_, _, encM r, 0, he, hob.v.rd, by rw [encM_len]; have := (body_le hR).2; omega, fun _ => ⟨rfl, rfl⟩, fun h => absurd hR h⟩
      · exact ⟨none, 0, [], 4, hp2 hR, fun h => absurd rfl h, by decide, fun h => absurd h hR, fun _ => ⟨rfl, rfl⟩⟩
    have HG := Lib.hid hG
    have HE := Lib.hid hE
    have HRP := Lib.hid (rputR_any r A1 c1 A2 c2 w6 HO.out (by omega) (by omega) (HR1.out.kept K6.out (fun _ _ _ _ => id)) (HR2.out.kept K6.out (fun _ _ _ _ => id)))
    clear hk6 hp1 hp2 hG hE HP5 HQ5 HV1' HV2' HPU
    go_wp2_with (refine wl_load_row rfl 27 _ rfl q rfl (recC r A1 c1 A2 c2) HQ6.out Try.underlying27 rfl sizeRec ?_)
    refine HRP.out.mono ?_
    rintro e w7 ⟨hk7, hp1, hp2⟩
    have HP7 := Lib.hid (hk7.heap HP6.out id)
    have HQ7 := Lib.hid (hk7.heap HQ6.out id)
    have HV1' := Lib.hid (HV1.out.keep hk7 (fun _ _ _ => id))
    have HV2' := Lib.hid (HV2.out.keep hk7 (fun _ _ _ => id))
    have HG7 := Lib.hid (HG.out.kept hk7 (fun _ _ _ _ => id))
    have K7 := Lib.hid (K6.out.trans0 hk7)
    obtain ⟨G', gc', rfl, hG'⟩ : ∃ (G' : Option Addr) (gc' : Nat), e = .returned (.tuple #[.slice G' E.length gc', .int .i64 en]) ∧ RdB w7 G' E := by
      by_cases hR : rightM r
      · obtain ⟨g, cap, he, hob⟩ := hp1 hR
        obtain ⟨rfl, rfl⟩ := HE.out.1 hR
        exact ⟨_, _, he, hob.v.rd⟩
      · obtain ⟨rfl, rfl⟩ := HE.out.2 hR
        exact ⟨none, 0, hp2 hR, fun h => absurd rfl h⟩
    have HG2 := Lib.hid hG'
    have HLB := Lib.hid (lentV_any A c b w7 (HB.out.kept K7.out (fun _ _ _ _ => id)) (by omega))
    clear hk7 hp1 hp2 hG' HP6 HQ6 HV1 HV2 HG HRP HE
    go_wp2_with fail
    refine HLB.out.mono ?_
    rintro e w8 ⟨v8, rfl, hv8, hk8⟩
    obtain ⟨X, xc, rfl, _⟩ := hv8.slice
    have HX := Lib.hid hv8
    have HP8 := Lib.hid (hk8.heap HP7.out id)
    have HQ8 := Lib.hid (hk8.heap HQ7.out id)
    have HV1 := Lib.hid (HV1'.out.keep hk8 (fun _ _ _ => id))
    have HV2 := Lib.hid (HV2'.out.keep hk8 (fun _ _ _ => id))
    have HG1 := Lib.hid (HG7.out.kept hk8 (fun _ _ _ _ => id))
    have HG2' := Lib.hid (HG2.out.kept hk8 (fun _ _ _ _ => id))
    have K8 := Lib.hid (K7.out.trans0 hk8)
    have HGE := Lib.hid (get_any X xc b w8 hv8.rd hv8.cap.1 hv8.cap.2 (by omega))
    clear hv8 hk8 HP7 HQ7 HV1' HV2' HG7 HG2 HLB
    go_wp2_with fail
    refine HGE.out.mono ?_
    rintro e w9 ⟨hk9, hn9, hs9⟩
    have HX9 := Lib.hid (HX.out.keep hk9 (fun _ _ _ => id))
    have HP9 := Lib.hid (hk9.heap HP8.out id)
    have HQ9 := Lib.hid (hk9.heap HQ8.out id)
    have HV1' := Lib.hid (HV1.out.keep hk9 (fun _ _ _ => id))
    have HV2' := Lib.hid (HV2.out.keep hk9 (fun _ _ _ => id))
    have HG19 := Lib.hid (HG1.out.kept hk9 (fun _ _ _ _ => id))
    have HG29 := Lib.hid (HG2'.out.kept hk9 (fun _ _ _ _ => id))
    have K9 := Lib.hid (K8.out.trans0 hk9)
    obtain ⟨R, S1, sc1, S2, sc2, N, ge, rfl, hS1, hS2, hR⟩ : ∃ (R : RecM) (S1 : Option Addr) (sc1 : Nat) (S2 : Option Addr) (sc2 : Nat) (N ge : Int), e = .returned (.tuple #[.agg (recC R S1 sc1 S2 sc2), .int .i64 N, .int .i64 ge]) ∧ RdB w9 S1 R.old ∧ RdB w9 S2 R.new ∧
        ((getL b = none ∧ R = ⟨0, 0, 0, 0, 0, 0, 0, 0, [], []⟩ ∧ N = 0 ∧ ge = 4) ∨ ∃ k : Nat, getL b = some (R, k) ∧ N = k ∧ ge = 0) := by
      cases hg : getL b with
      | none => exact ⟨⟨0, 0, 0, 0, 0, 0, 0, 0, [], []⟩, none, 0, none, 0, 0, 4, hn9 hg, fun h => absurd rfl h, fun h => absurd rfl h, .inl ⟨rfl, rfl, rfl, rfl⟩⟩
      | some y =>
        obtain ⟨R, k⟩ := y
        obtain ⟨S1, sc1, S2, sc2, he, o1, o2, _⟩ := hs9 R k hg
        exact ⟨R, S1, sc1, S2, sc2, k, 0, he, o1.rd, o2.rd, .inr ⟨k, rfl, rfl, rfl⟩⟩
    have HS1 := Lib.hid hS1
    have HS2 := Lib.hid hS2
    have HRG := Lib.hid hR
    have hRl : R.old.length ≤ 10000 ∧ R.new.length ≤ 10000 := by
      rcases hR with ⟨_, rfl, _⟩ | ⟨k, hk, _⟩
      · exact ⟨by decide, by decide⟩
      · obtain ⟨a1, a2, a3⟩ := getL_B hk
        have := body_le a1
        rcases right_kind a1 with h | h | h
        · have := h.2.2.1; unfold fitsM at this; omega
        · have := h.2.1; unfold fitsM at this; rw [h.2.2]; simp; omega
        · rw [h.2.2.2.2.1, h.2.2.2.2.2]; exact ⟨by decide, by decide⟩
    clear hk9 hn9 hs9 hS1 hS2 hR HP8 HQ8 HV1 HV2 HG1 HG2' HX HGE
    go_wp2_with (refine wl_alloc' rfl 27 rfl zRecC zeroRec ?_)
    intro s w10 s1 s2 hb10 hk10
    go_wp2_with (refine wl_store_row rfl 27 _ _ rfl s (recC R S1 sc1 S2 sc2) _ rfl rfl hb10 sizeRec rfl (one_recC _ _ _ _ _) ?_)
    intro w11 hb11 hk11
    have k911 : Kept (fun _ => False) w9 w11 := hk10.new hk11 (by rintro x rfl; exact s1)
    have HSS := Lib.hid hb11
    have HX11 := Lib.hid (HX9.out.keep k911 (fun _ _ _ => id))
    have HP11 := Lib.hid (k911.heap HP9.out id)
    have HQ11 := Lib.hid (k911.heap HQ9.out id)
    have HV1 := Lib.hid (HV1'.out.keep k911 (fun _ _ _ => id))
    have HV2 := Lib.hid (HV2'.out.keep k911 (fun _ _ _ => id))
    have HG1 := Lib.hid (HG19.out.kept k911 (fun _ _ _ _ => id))
    have HG2 := Lib.hid (HG29.out.kept k911 (fun _ _ _ _ => id))
    have HS1a := Lib.hid (HS1.out.kept k911 (fun _ _ _ _ => id))
    have HS2a := Lib.hid (HS2.out.kept k911 (fun _ _ _ _ => id))
    have K11 := Lib.hid (K9.out.trans0 k911)
    have HGR := Lib.hid (rgetR_any A c b w11 (HB.out.kept K11.out (fun _ _ _ _ => id)) hc hc2 (by omega))
    clear hb10 hk10 hb11 hk11 k911 HX9 HP9 HQ9 HV1' HV2' HG19 HG29 HS1 HS2
    go_wp2_with fail
    refine HGR.out.mono ?_
    rintro e w12 ⟨hk12, hn12, hs12⟩
    obtain ⟨T1, tc1, T2, tc2, rfl, hT1, hT2⟩ : ∃ (T1 : Option Addr) (tc1 : Nat) (T2 : Option Addr) (tc2 : Nat), e = .returned (.tuple #[.agg (recC R T1 tc1 T2 tc2), .int .i64 N, .int .i64 ge]) ∧ RdB w12 T1 R.old ∧ RdB w12 T2 R.new := by
      rcases HRG.out with ⟨hg, rfl, rfl, rfl⟩ | ⟨k, hg, rfl, rfl⟩
      · exact ⟨none, 0, none, 0, hn12 hg, fun h => absurd rfl h, fun h => absurd rfl h⟩
      · obtain ⟨T1, tc1, T2, tc2, he, o1, o2, _⟩ := hs12 R k hg
        exact ⟨T1, tc1, T2, tc2, he, o1.rd, o2.rd⟩
    have HT1 := Lib.hid hT1
    have HT2 := Lib.hid hT2
    have HSS12 := Lib.hid (hk12.heap HSS.out id)
    have HX12 := Lib.hid (HX11.out.keep hk12 (fun _ _ _ => id))
    have HP12 := Lib.hid (hk12.heap HP11.out id)
    have HQ12 := Lib.hid (hk12.heap HQ11.out id)
    have HV1' := Lib.hid (HV1.out.keep hk12 (fun _ _ _ => id))
    have HV2' := Lib.hid (HV2.out.keep hk12 (fun _ _ _ => id))
    have HG1' := Lib.hid (HG1.out.kept hk12 (fun _ _ _ _ => id))
    have HG2' := Lib.hid (HG2.out.kept hk12 (fun _ _ _ _ => id))
    have HS1 := Lib.hid (HS1a.out.kept hk12 (fun _ _ _ _ => id))
    have HS2 := Lib.hid (HS2a.out.kept hk12 (fun _ _ _ _ => id))
    have K12 := Lib.hid (K11.out.trans0 hk12)
    clear hk12 hn12 hs12 hT1 hT2 HRG HSS HX11 HP11 HQ11 HV1 HV2 HG1 HG2 HS1a HS2a HGR
    go_wp2_with (refine wl_alloc' rfl 27 rfl zRecC zeroRec ?_)
    intro t w13 t1 t2 hb13 hk13
    go_wp2_with (refine wl_store_row rfl 27 _ _ rfl t (recC R T1 tc1 T2 tc2) _ rfl rfl hb13 sizeRec rfl (one_recC _ _ _ _ _) ?_)
    intro w14 hb14 hk14
    have k1214 : Kept (fun _ => False) w12 w14 := hk13.new hk14 (by rintro x rfl; exact t1)
    have HTT := Lib.hid hb14
    have K14 := Lib.hid (K12.out.trans0 k1214)
    have HKB := Lib.hid (k1214)
    clear hb13 hk13 hb14 hk14 k1214
    have HSB := Lib.hid (fun wz (hz : Kept (fun _ => False) w14 wz) => same_any G G' gc gc' E E wz (HG1'.out.kept (HKB.out.trans0 hz) (fun _ _ _ _ => id)) (HG2'.out.kept (HKB.out.trans0 hz) (fun _ _ _ _ => id)) (by omega))
    have HKR := Lib.hid (fun wz (hz : Kept (fun _ => False) w14 wz) => krec_any r A1 A2 B1 B2 c1 c2 d1 d2 _ wz (HR1.out.kept (K14.out.trans0 hz) (fun _ _ _ _ => id)) (HV1'.out.keep (HKB.out.trans0 hz) (fun _ _ _ => id)) (HR2.out.kept (K14.out.trans0 hz) (fun _ _ _ _ => id)) (HV2'.out.keep (HKB.out.trans0 hz) (fun _ _ _ => id)) (by omega) (by omega))
    have HSR := Lib.hid (fun wz (hz : Kept (fun _ => False) w14 wz) => srec_any R S1 S2 T1 T2 sc1 sc2 tc1 tc2 wz (HS1.out.kept (HKB.out.trans0 hz) (fun _ _ _ _ => id)) (HT1.out.kept (HKB.out.trans0 hz) (fun _ _ _ _ => id)) (HS2.out.kept (HKB.out.trans0 hz) (fun _ _ _ _ => id)) (HT2.out.kept (HKB.out.trans0 hz) (fun _ _ _ _ => id)) (by omega) (by omega))
    have HKK := Lib.hid (fun wz (hz : Kept (fun _ => False) w14 wz) => keptV_any A c X xc _ b wz (HB.out.kept (K14.out.trans0 hz) (fun _ _ _ _ => id)) (HX12.out.keep (HKB.out.trans0 hz) (fun _ _ _ => id)) (by omega))
    have HP14 := Lib.hid (HKB.out.heap HP12.out id)
    have HQ14 := Lib.hid (HKB.out.heap HQ12.out id)
    have HSS14 := Lib.hid (HKB.out.heap HSS12.out id)
    go_wp2_with fail
    refine (HSB.out _ (Kept.refl _ _)).mono ?_
    rintro e w15 ⟨rfl, hs15⟩
    have K15 := Lib.hid (hs15.kept (fun _ => False))
    have hdec : decide (E = E) = true := decide_eq_true rfl
    obtain ⟨x0, x1, x2, x3, x4, x5, x6, x7, x8, x9⟩ := recAt_of (K15.out.heap HP14.out id)
    obtain ⟨y0, y1, y2, y3, y4, y5, y6, y7, y8, y9⟩ := recAt_of (K15.out.heap HQ14.out id)
    clear hs15
    go_wp2_with fail
    refine (HKR.out _ K15.out).mono ?_
    rintro e w16 ⟨rfl, hk16⟩
    have K16 := Lib.hid (K15.out.trans0 hk16)
    clear hk16 x0 x1 x2 x3 x4 x5 x6 x7 x8 x9 y0 y1 y2 y3 y4 y5 y6 y7 y8 y9
    obtain ⟨x0, x1, x2, x3, x4, x5, x6, x7, x8, x9⟩ := recAt_of (K16.out.heap HSS14.out id)
    obtain ⟨y0, y1, y2, y3, y4, y5, y6, y7, y8, y9⟩ := recAt_of (K16.out.heap HTT.out id)
    go_wp2_with fail
    refine (HSR.out _ K16.out).mono ?_
    rintro e w17 ⟨rfl, hk17⟩
    have K17 := Lib.hid (K16.out.trans0 hk17)
    clear hk17
    go_wp2_with fail
    refine (HKK.out _ K17.out).mono ?_
    rintro e w18 ⟨rfl, hk18⟩
    have K18 := Lib.hid (K14.out.trans0 (K17.out.trans0 hk18))
    clear hk18
    go_wp2
    go_ret
    exact ⟨rfl, K18.out⟩
end Go.Proofs.Ytbolbddjmmfepaa
