/-
  No statement is proved here: the contract of the document's Diff.
-/
import Derived.Test.YtndflnedkpmpfaaGreatDoorRfd
namespace Go.Proofs.YtndflnedkpmpfaaGreatDoor
open Go.RowKit

/-- The round's middle: a span under way, its bytes of any kind. -/
def RfAt (w : World) (a b : Bytes) (i : Nat) (v : Value) (wx : World) : Prop := ∃ g cap n L X Y, v = .slice (some ⟨g, 0, none⟩) (L.length + 1) cap ∧ OwnX wx w.heap.size g cap L n X Y ∧ SegsAt wx w.heap.size a b L ∧ n ≤ i ∧
  L.map (fun s => (s.f, s.t)) ++ [(n, i + 1)] = rS a b (i + 1) ∧ Kept (fun _ => False) w wx
set_option maxRecDepth 100000 in
set_option maxHeartbeats 4000000 in
theorem rdiff_any (A B : Option Addr) (ac bc : Nat) (a b : Bytes) (w : World) (ha : RdB w A a) (hb : RdB w B b) (la : a.length = 512) (lb : b.length = 512) (hac : 512 ≤ ac) (hac2 : ac ≤ 9223372036854775807) (hbc : 512 ≤ bc) (hbc2 : bc ≤ 9223372036854775807) :
    Calls Tryz.prog 32 #[.slice A 512 ac, .slice B 512 bc] w fun e w' => ∃ v L, e = .returned v ∧ OwnSp w' w.heap.size v L ∧ SegsAt w' w.heap.size a b L ∧ L.map (fun s => (s.f, s.t)) = diffM a b ∧ Kept (fun _ => False) w w' := by
  obtain ⟨xa, oa, rfl⟩ := ha.some la
  obtain ⟨xb, ob, rfl⟩ := hb.some lb
  have HA := Lib.hid (fun (wz : World) (hz : Kept (fun _ => False) w wz) => ha.kept hz (fun _ _ _ _ => id))
  have HB := Lib.hid (fun (wz : World) (hz : Kept (fun _ => False) w wz) => hb.kept hz (fun _ _ _ _ => id))
  have HAL := Lib.hid la
  have HBL := Lib.hid lb
  clear ha hb la lb
  go_enter Tryz.func32, Tryz.ntmps32
  go_wp2
  go_loopw [5, 6, 7] (fun v5 v6 v7 wr => ∃ (i : Nat) (L : List SpD), i ≤ 512 ∧ v7 = .int .i64 i ∧ v6 = .int .i64 (rL a b i) ∧ OwnSp wr w.heap.size v5 L ∧ SegsAt wr w.heap.size a b L ∧ L.map (fun s => (s.f, s.t)) = rS a b i ∧ Kept (fun _ => False) w wr) (fun _ _ v7 _ => 512 - (intOf v7).toNat)
  case atStart => exact ⟨0, [], by omega, rfl, rfl, World.ownsRow_nil _ _ _ _, fun s hs => by simp at hs, rfl, Kept.refl _ _⟩
  case round =>
    obtain ⟨i, L, hi, rfl, rfl, hos, hsg, hmp, hk⟩ := hrel
    have HOS := Lib.hid hos
    have HSG := Lib.hid hsg
    have HMP := Lib.hid hmp
    have K := Lib.hid hk
    clear hos hsg hmp hk
    by_cases hlt : i < 512
    · have HLT := Lib.hid hlt
      have i0 : (0 : Int) ≤ (i : Int) := by omega
      have i1 : (i : Int) < 512 := by omega
      have ya : wr.cell? ⟨xa, oa + i, none⟩ = some (.int .u8 (bAt a i).toNat) := by
        obtain ⟨_, _, e, h⟩ := (HA.out _ K.out).cell (k := i) (by rw [HAL.out]; exact hlt)
        cases e
        exact h
      have yb : wr.cell? ⟨xb, ob + i, none⟩ = some (.int .u8 (bAt b i).toNat) := by
        obtain ⟨_, _, e, h⟩ := (HB.out _ K.out).cell (k := i) (by rw [HBL.out]; exact hlt)
        cases e
        exact h
      by_cases he : bAt a i = bAt b i
      · have hq : (((bAt a i).toNat : Int) == ((bAt b i).toNat : Int)) = true := by simp [he]
        have HE := Lib.hid he
        clear he
        go_wp2
        go_quiet (fail)
        go_wp2
        go_roundw
        case rel =>
          have h := rS_same HE.out
          have kd := (Kept.refl (fun _ => False) wr).drewN nq
          exact ⟨i + 1, L, by omega, by go_num, by rw [h.2], HOS.out.kept kd (fun _ => False.elim), HSG.out.keep kd (fun _ _ _ _ => id), by rw [h.1]; exact HMP.out, K.out.drewN _⟩
        case measure => simp [intOf]; omega
      · have hq : (((bAt a i).toNat : Int) == ((bAt b i).toNat : Int)) = false := by
          rw [beq_eq_false_iff_ne]; intro e; exact he (UInt8.toNat_inj.1 (by omega))
        have HE := Lib.hid he
        clear he
        go_wp2
        go_quiet (fail)
        have kd := (Kept.refl (fun _ => False) wr).drewN nq
        have HOS2 := Lib.hid (HOS.out.kept kd (fun _ => False.elim))
        have HSG2 := Lib.hid (HSG.out.keep kd (fun _ _ _ _ => id))
        have K2 := Lib.hid (K.out.drewN nq)
        have hll : L.length ≤ 513 := by
          have h := congrArg List.length HMP.out
          rw [List.length_map] at h
          have := rS_len a b i
          omega
        have hrl := rL_bd a b i
        have HRN := Lib.hid (rS_new HE.out)
        have HRM := Lib.hid (rS_more HE.out)
        clear kd ya yb hq HOS HSG K
        generalize wr.drewN nq = W at *
        generalize rL a b i = r at *
        by_cases h8 : (8 : Int) ≤ (i : Int) - r - 1
        · have hrl2 := (HRN.out h8).2
          go_upto_if 34 with fail
          go_cut [5] from 17 to 71 (fun s5 wx => RfAt w a b i s5 wx)
          case first =>
                        have ka := (Kept.refl (fun _ => False) W).alloc (.cells #[.int .i64 0, .int .i64 i, .slice none 0 0, .slice none 0 0] 46)
                        have HOSa := Lib.hid (HOS2.out.kept ka (fun _ h => h.elim))
                        have HSGa := Lib.hid (HSG2.out.keep ka (fun _ _ _ _ => id))
                        have KA := Lib.hid (K2.out.trans0 ka)
                        have HKA := Lib.hid ka
                        have HNW := Lib.hid (show ∀ (j : Nat) (u : Value), [Value.int .i64 0, .int .i64 i, .slice none 0 0, .slice none 0 0][j]? = some u → (W.alloc (.cells #[.int .i64 0, .int .i64 i, .slice none 0 0, .slice none 0 0] 46)).cell? ⟨W.heap.size, 0 + j, none⟩ = some u from fun j u hu => by
                          rw [Nat.zero_add]
                          exact cell_blk (heap_alloc_new W _) (by simpa using hu))
                        clear ka
                        go_wp2_with (at_builtin; refine wl_append rfl _ _ 34 rfl w.heap.size 46 Tryz.underlying34 infoSpan rfl (by omega) _ L.length (rowSp L) rfl HOSa.out W.heap.size 0 1 1 [.int .i64 0, .int .i64 i, .slice none 0 0, .slice none 0 0] rfl rfl HNW.out (by simp [Value.oneCell']) (by omega) (by have e63 : maxLen = 9223372036854775807 := rfl; omega) (by omega) KA.out.size ?_)
                        intro g cap w3 ho3 hk3 hat3 hlt3
                        have HO3 := Lib.hid ho3
                        have HS3 := Lib.hid (HSGa.out.keep hk3 (fun x cur hx _ hS => by
                          obtain ⟨-, cur', hx'⟩ := HOSa.out.blk hS
                          rw [hx] at hx'
                          cases hx'))
                        have K3 := Lib.hid (KA.out.new hk3 (fun x hS => (HOSa.out.blk hS).1))
                        clear ho3 hk3 hat3 hlt3
                        go_wp2
                        go_meet
                        case rel => exact ⟨g, cap, i, L, .slice none 0 0, .slice none 0 0, rfl, HO3.out, HS3.out, Nat.le_refl _, by rw [(HRN.out h8).1, HMP.out], K3.out⟩
          case rest =>
            obtain ⟨g, cap, n, L1, X, Y, e5, hx, hsg1, hn, hm1, hk1⟩ := hcut
            obtain ⟨hg0, hg1, hcap, hcap2, cur, hcur, hcs, hc1, hset2, -⟩ := hx.parts
            subst e5
            have HCURa := Lib.hid hcur
            have HSET2 := Lib.hid hset2
            have HSG1 := Lib.hid hsg1
            have HM1 := Lib.hid hm1
            have KWa := Lib.hid hk1
            have HCELLa := Lib.hid hc1
            have HRL2 := Lib.hid hrl2
            have hsza := hk1.size
            have hml : L1.length ≤ 513 := by
              have h := congrArg List.length hm1
              rw [List.length_append, List.length_map] at h
              have := rS_len a b (i + 1)
              simp at h
              omega
            obtain ⟨i2, hi2⟩ : ∃ i2, i2 = i + 1 := ⟨_, rfl⟩
            have HI2 := Lib.hid hi2
            have wi2 : IntKind.i64.wrap ((i : Int) + 1) = (i2 : Int) := by rw [hi2, IntKind.wrap_i64] <;> omega
            have hi512 : i2 ≤ 512 := by omega
            have q1 : (0 : Int) ≤ (n : Int) := by omega
            have q2 : (n : Int) ≤ (i2 : Int) := by omega
            have q3 : (i2 : Int) ≤ (ac : Int) := by omega
            have q4 : (i2 : Int) ≤ (bc : Int) := by omega
            have q5 : ¬ ac = n := by omega
            have q6 : ¬ bc = n := by omega
            have q7 : n ≤ i2 := by omega
            have c1 : wc.cell? ⟨g, L1.length * 4 + 1, none⟩ = some (.int .i64 n) := cell_blk hcur hc1
            clear hx hcur hset2 hsg1 hm1 hk1 hc1 hi2 hrl2

            go_wp2_with (refine wl_buildSlice0 rfl 22 5 rfl Tryz.underlying22 (by kernel_rfl) ?_)
            intro g1a w4 n1a m1a hb1 hkq
            have HO1a := Lib.hid (show OwnB w4 wc.heap.size g1a 0 [] from ⟨rfl, .inr ⟨g1a, 0, #[], rfl, n1a, hb1, Nat.le_refl _, by decide, rfl, rfl⟩⟩)
            have KQa := Lib.hid (KWa.out.trans0 hkq)
            have HQa := Lib.hid hkq
            have HC1a := Lib.hid (hkq.heap HCURa.out id)
            have c2a : w4.cell? ⟨g, L1.length * 4 + 1, none⟩ = some (.int .i64 n) := cell_blk HC1a.out HCELLa.out
            have HRa := Lib.hid (show RdB w4 (some ⟨xa, oa + n, none⟩) (segB a (n, i2)) from ((HA.out _ KQa.out).take i2).drop n)
            have zqa := hkq.size
            clear hb1 hkq
            obtain ⟨sa, hsa⟩ : ∃ sa, sa = segB a (n, i2) := ⟨_, rfl⟩
            have HLa := Lib.hid (show sa.length = i2 - n from by rw [hsa]; exact segB_len (s := (n, i2)) (by rw [HAL.out]; exact hi512))
            rw [← hsa] at HRa
            have HSEGa := Lib.hid hsa
            have hs5a : sa.length ≤ 512 := by rw [HLa.out]; omega
            clear hsa
            go_wp2_with (at_builtin; refine wl_appendB rfl _ _ rfl wc.heap.size g1a 0 [] sa rfl HO1a.out (some ⟨xa, oa + n, none⟩) (ac - n) (by rw [HLa.out]; rfl) HRa.out (by simp; omega) zqa ?_)
            intro g2a cap2a w5 ho2 hkr hat m2
            have HO2a := Lib.hid (show OwnB w5 wc.heap.size g2a cap2a sa from by simpa using ho2)
            have KRa := Lib.hid (KQa.out.new hkr (fun y e => by subst e; exact Nat.le_trans hsza n1a))
            have HKRa := Lib.hid (HQa.out.new hkr (fun y e => by subst e; exact n1a))
            have HC2a := Lib.hid (hkr.heap HC1a.out (by omega))
            clear ho2 hkr hat m2 c2a
            go_wp2_with (refine wl_store1 rfl 22 _ _ rfl g (L1.length * 4 + 2) (.slice (some ⟨g2a, 0, none⟩) sa.length cap2a) _ rfl (by first | rfl | simp) HC2a.out (by kernel_rfl) (by omega) rfl ?_)
            intro w6 hb3 hks
            have HXa := Lib.hid (HSET2.out w6 _ hb3)
            have KSa := Lib.hid (KRa.out.new hks (fun y e => by subst e; exact hg0))
            have HKSa := Lib.hid ((HKRa.out.mono (T := fun y => y = g) (fun _ _ h => h.elim)).trans' hks)
            have Oa := Lib.hid (HO2a.out.low hsza |>.keep hks (by have := HO2a.out.base_le; omega))
            clear hb3 hks

            obtain ⟨-, hg6, -, -, cur6, hcur6, hcs6, hc6, -, hset3⟩ := HXa.out.parts
            have HCURb := Lib.hid hcur6
            have HSET3 := Lib.hid hset3
            have HCELLb := Lib.hid hc6
            have KWb := Lib.hid KSa.out
            have hszb := KSa.out.size
            have c6 : w6.cell? ⟨g, L1.length * 4 + 1, none⟩ = some (.int .i64 n) := cell_blk hcur6 hc6
            clear hcur6 hset3 hc6

            go_wp2_with (refine wl_buildSlice0 rfl 22 5 rfl Tryz.underlying22 (by kernel_rfl) ?_)
            intro g1b w7 n1b m1b hb1 hkq
            have HO1b := Lib.hid (show OwnB w7 w6.heap.size g1b 0 [] from ⟨rfl, .inr ⟨g1b, 0, #[], rfl, n1b, hb1, Nat.le_refl _, by decide, rfl, rfl⟩⟩)
            have KQb := Lib.hid (KWb.out.trans0 hkq)
            have HQb := Lib.hid hkq
            have HC1b := Lib.hid (hkq.heap HCURb.out id)
            have c2b : w7.cell? ⟨g, L1.length * 4 + 1, none⟩ = some (.int .i64 n) := cell_blk HC1b.out HCELLb.out
            have HRb := Lib.hid (show RdB w7 (some ⟨xb, ob + n, none⟩) (segB b (n, i2)) from ((HB.out _ KQb.out).take i2).drop n)
            have zqb := hkq.size
            clear hb1 hkq
            obtain ⟨sb, hsb⟩ : ∃ sb, sb = segB b (n, i2) := ⟨_, rfl⟩
            have HLb := Lib.hid (show sb.length = i2 - n from by rw [hsb]; exact segB_len (s := (n, i2)) (by rw [HBL.out]; exact hi512))
            rw [← hsb] at HRb
            have HSEGb := Lib.hid hsb
            have hs5b : sb.length ≤ 512 := by rw [HLb.out]; omega
            clear hsb
            go_wp2_with (at_builtin; refine wl_appendB rfl _ _ rfl w6.heap.size g1b 0 [] sb rfl HO1b.out (some ⟨xb, ob + n, none⟩) (bc - n) (by rw [HLb.out]; rfl) HRb.out (by simp; omega) zqb ?_)
            intro g2b cap2b w8 ho2 hkr hat m2
            have HO2b := Lib.hid (show OwnB w8 w6.heap.size g2b cap2b sb from by simpa using ho2)
            have KRb := Lib.hid (KQb.out.new hkr (fun y e => by subst e; exact Nat.le_trans hszb n1b))
            have HKRb := Lib.hid (HQb.out.new hkr (fun y e => by subst e; exact n1b))
            have HC2b := Lib.hid (hkr.heap HC1b.out (by omega))
            clear ho2 hkr hat m2 c2b
            go_wp2_with (refine wl_store1 rfl 22 _ _ rfl g (L1.length * 4 + 3) (.slice (some ⟨g2b, 0, none⟩) sb.length cap2b) _ rfl (by first | rfl | simp) HC2b.out (by kernel_rfl) (by omega) rfl ?_)
            intro w9 hb3 hks
            have HXb := Lib.hid (HSET3.out w9 _ hb3)
            have KSb := Lib.hid (KRb.out.new hks (fun y e => by subst e; exact hg0))
            have HKSb := Lib.hid ((HKRb.out.mono (T := fun y => y = g) (fun _ _ h => h.elim)).trans' hks)
            have Ob := Lib.hid (HO2b.out.low hszb |>.keep hks (by have := HO2b.out.base_le; omega))
            clear hb3 hks

            go_wp2
            go_roundw
            case rel =>
              have kk := HKSa.out.trans' HKSb.out
              have hbl := HO2a.out.base_le
              have hx := HXb.out
              unfold OwnX at hx
              rw [HLa.out, HLb.out] at hx
              refine ⟨i2, L1 ++ [⟨n, i2, g2a, cap2a, g2b, cap2b⟩], hi512, ?_, ?_, ?_, ?_, ?_, KSb.out⟩
              · have := HI2.out
                go_num
              · rw [HI2.out, HRL2.out]
              · unfold OwnSp
                rw [rowSp_snoc, List.length_append]
                exact hx
              · refine SegsAt.snoc (HSG1.out.keep kk (fun x cu hx' _ e => ?_)) ?_ ?_
                · subst e
                  rw [HCURa.out] at hx'
                  cases hx'
                · show OwnB w9 w.heap.size g2a cap2a (segB a (n, i2))
                  rw [← HSEGa.out]
                  exact Oa.out.keep HKSb.out (by omega)
                · show OwnB w9 w.heap.size g2b cap2b (segB b (n, i2))
                  rw [← HSEGb.out]
                  exact Ob.out
              · rw [List.map_append, HI2.out]
                exact HM1.out
            case measure =>
              have := HI2.out
              have := HLT.out
              simp [intOf]; omega
        · obtain ⟨n0, t0, S0, m1, m2, m3, m4, hrl2⟩ := HRM.out h8
          have hmp := HMP.out
          rw [m3] at hmp
          obtain ⟨L0, l2, hL, hL1, hl2⟩ := List.map_eq_append_iff.1 hmp
          obtain ⟨s, rfl, hs⟩ := List.map_eq_singleton_iff.1 hl2
          have hos := HOS2.out
          have hsg := HSG2.out
          unfold OwnSp at hos
          rw [hL] at hos hsg
          rw [rowSp_snoc, List.length_append] at hos
          obtain ⟨g0, cap0, e5⟩ : ∃ g cap, u5 = .slice (some ⟨g, 0, none⟩) (L0.length + 1) cap := by
            rcases hos.2 with ⟨-, hl⟩ | ⟨g, cap, cur, hv, -⟩
            · simp at hl
            · exact ⟨g, cap, hv⟩
          have hn0 : s.f = n0 := congrArg Prod.fst hs
          have hx0 : OwnX W w.heap.size g0 cap0 L0 n0 (.slice (some ⟨s.g1, 0, none⟩) (s.t - s.f) s.c1) (.slice (some ⟨s.g2, 0, none⟩) (s.t - s.f) s.c2) := by
            unfold OwnX
            rw [← e5, ← hn0]
            exact hos
          have HX0 := Lib.hid hx0
          have HS0 := Lib.hid (show SegsAt W w.heap.size a b L0 from fun u hu => hsg u (List.mem_append.2 (.inl hu)))
          have HM0 := Lib.hid (show L0.map (fun s => (s.f, s.t)) ++ [(n0, i + 1)] = rS a b (i + 1) from by rw [m4, hL1])
          have hn0i : n0 ≤ i := by omega
          subst e5
          clear hmp hL hL1 hl2 hs hos hsg hn0 hx0 m3 m4 m1 m2
          go_upto_if 34 with fail
          go_cut [5] from 17 to 71 (fun s5 wx => RfAt w a b i s5 wx)
          case first =>
            go_wp2
            go_meet
            case rel => exact ⟨g0, cap0, n0, L0, _, _, rfl, HX0.out, HS0.out, hn0i, HM0.out, K2.out⟩
          case rest =>
            obtain ⟨g, cap, n, L1, X, Y, e5, hx, hsg1, hn, hm1, hk1⟩ := hcut
            obtain ⟨hg0, hg1, hcap, hcap2, cur, hcur, hcs, hc1, hset2, -⟩ := hx.parts
            subst e5
            have HCURa := Lib.hid hcur
            have HSET2 := Lib.hid hset2
            have HSG1 := Lib.hid hsg1
            have HM1 := Lib.hid hm1
            have KWa := Lib.hid hk1
            have HCELLa := Lib.hid hc1
            have HRL2 := Lib.hid hrl2
            have hsza := hk1.size
            have hml : L1.length ≤ 513 := by
              have h := congrArg List.length hm1
              rw [List.length_append, List.length_map] at h
              have := rS_len a b (i + 1)
              simp at h
              omega
            obtain ⟨i2, hi2⟩ : ∃ i2, i2 = i + 1 := ⟨_, rfl⟩
            have HI2 := Lib.hid hi2
            have wi2 : IntKind.i64.wrap ((i : Int) + 1) = (i2 : Int) := by rw [hi2, IntKind.wrap_i64] <;> omega
            have hi512 : i2 ≤ 512 := by omega
            have q1 : (0 : Int) ≤ (n : Int) := by omega
            have q2 : (n : Int) ≤ (i2 : Int) := by omega
            have q3 : (i2 : Int) ≤ (ac : Int) := by omega
            have q4 : (i2 : Int) ≤ (bc : Int) := by omega
            have q5 : ¬ ac = n := by omega
            have q6 : ¬ bc = n := by omega
            have q7 : n ≤ i2 := by omega
            have c1 : wc.cell? ⟨g, L1.length * 4 + 1, none⟩ = some (.int .i64 n) := cell_blk hcur hc1
            clear hx hcur hset2 hsg1 hm1 hk1 hc1 hi2 hrl2

            go_wp2_with (refine wl_buildSlice0 rfl 22 5 rfl Tryz.underlying22 (by kernel_rfl) ?_)
            intro g1a w4 n1a m1a hb1 hkq
            have HO1a := Lib.hid (show OwnB w4 wc.heap.size g1a 0 [] from ⟨rfl, .inr ⟨g1a, 0, #[], rfl, n1a, hb1, Nat.le_refl _, by decide, rfl, rfl⟩⟩)
            have KQa := Lib.hid (KWa.out.trans0 hkq)
            have HQa := Lib.hid hkq
            have HC1a := Lib.hid (hkq.heap HCURa.out id)
            have c2a : w4.cell? ⟨g, L1.length * 4 + 1, none⟩ = some (.int .i64 n) := cell_blk HC1a.out HCELLa.out
            have HRa := Lib.hid (show RdB w4 (some ⟨xa, oa + n, none⟩) (segB a (n, i2)) from ((HA.out _ KQa.out).take i2).drop n)
            have zqa := hkq.size
            clear hb1 hkq
            obtain ⟨sa, hsa⟩ : ∃ sa, sa = segB a (n, i2) := ⟨_, rfl⟩
            have HLa := Lib.hid (show sa.length = i2 - n from by rw [hsa]; exact segB_len (s := (n, i2)) (by rw [HAL.out]; exact hi512))
            rw [← hsa] at HRa
            have HSEGa := Lib.hid hsa
            have hs5a : sa.length ≤ 512 := by rw [HLa.out]; omega
            clear hsa
            go_wp2_with (at_builtin; refine wl_appendB rfl _ _ rfl wc.heap.size g1a 0 [] sa rfl HO1a.out (some ⟨xa, oa + n, none⟩) (ac - n) (by rw [HLa.out]; rfl) HRa.out (by simp; omega) zqa ?_)
            intro g2a cap2a w5 ho2 hkr hat m2
            have HO2a := Lib.hid (show OwnB w5 wc.heap.size g2a cap2a sa from by simpa using ho2)
            have KRa := Lib.hid (KQa.out.new hkr (fun y e => by subst e; exact Nat.le_trans hsza n1a))
            have HKRa := Lib.hid (HQa.out.new hkr (fun y e => by subst e; exact n1a))
            have HC2a := Lib.hid (hkr.heap HC1a.out (by omega))
            clear ho2 hkr hat m2 c2a
            go_wp2_with (refine wl_store1 rfl 22 _ _ rfl g (L1.length * 4 + 2) (.slice (some ⟨g2a, 0, none⟩) sa.length cap2a) _ rfl (by first | rfl | simp) HC2a.out (by kernel_rfl) (by omega) rfl ?_)
            intro w6 hb3 hks
            have HXa := Lib.hid (HSET2.out w6 _ hb3)
            have KSa := Lib.hid (KRa.out.new hks (fun y e => by subst e; exact hg0))
            have HKSa := Lib.hid ((HKRa.out.mono (T := fun y => y = g) (fun _ _ h => h.elim)).trans' hks)
            have Oa := Lib.hid (HO2a.out.low hsza |>.keep hks (by have := HO2a.out.base_le; omega))
            clear hb3 hks

            obtain ⟨-, hg6, -, -, cur6, hcur6, hcs6, hc6, -, hset3⟩ := HXa.out.parts
            have HCURb := Lib.hid hcur6
            have HSET3 := Lib.hid hset3
            have HCELLb := Lib.hid hc6
            have KWb := Lib.hid KSa.out
            have hszb := KSa.out.size
            have c6 : w6.cell? ⟨g, L1.length * 4 + 1, none⟩ = some (.int .i64 n) := cell_blk hcur6 hc6
            clear hcur6 hset3 hc6

            go_wp2_with (refine wl_buildSlice0 rfl 22 5 rfl Tryz.underlying22 (by kernel_rfl) ?_)
            intro g1b w7 n1b m1b hb1 hkq
            have HO1b := Lib.hid (show OwnB w7 w6.heap.size g1b 0 [] from ⟨rfl, .inr ⟨g1b, 0, #[], rfl, n1b, hb1, Nat.le_refl _, by decide, rfl, rfl⟩⟩)
            have KQb := Lib.hid (KWb.out.trans0 hkq)
            have HQb := Lib.hid hkq
            have HC1b := Lib.hid (hkq.heap HCURb.out id)
            have c2b : w7.cell? ⟨g, L1.length * 4 + 1, none⟩ = some (.int .i64 n) := cell_blk HC1b.out HCELLb.out
            have HRb := Lib.hid (show RdB w7 (some ⟨xb, ob + n, none⟩) (segB b (n, i2)) from ((HB.out _ KQb.out).take i2).drop n)
            have zqb := hkq.size
            clear hb1 hkq
            obtain ⟨sb, hsb⟩ : ∃ sb, sb = segB b (n, i2) := ⟨_, rfl⟩
            have HLb := Lib.hid (show sb.length = i2 - n from by rw [hsb]; exact segB_len (s := (n, i2)) (by rw [HBL.out]; exact hi512))
            rw [← hsb] at HRb
            have HSEGb := Lib.hid hsb
            have hs5b : sb.length ≤ 512 := by rw [HLb.out]; omega
            clear hsb
            go_wp2_with (at_builtin; refine wl_appendB rfl _ _ rfl w6.heap.size g1b 0 [] sb rfl HO1b.out (some ⟨xb, ob + n, none⟩) (bc - n) (by rw [HLb.out]; rfl) HRb.out (by simp; omega) zqb ?_)
            intro g2b cap2b w8 ho2 hkr hat m2
            have HO2b := Lib.hid (show OwnB w8 w6.heap.size g2b cap2b sb from by simpa using ho2)
            have KRb := Lib.hid (KQb.out.new hkr (fun y e => by subst e; exact Nat.le_trans hszb n1b))
            have HKRb := Lib.hid (HQb.out.new hkr (fun y e => by subst e; exact n1b))
            have HC2b := Lib.hid (hkr.heap HC1b.out (by omega))
            clear ho2 hkr hat m2 c2b
            go_wp2_with (refine wl_store1 rfl 22 _ _ rfl g (L1.length * 4 + 3) (.slice (some ⟨g2b, 0, none⟩) sb.length cap2b) _ rfl (by first | rfl | simp) HC2b.out (by kernel_rfl) (by omega) rfl ?_)
            intro w9 hb3 hks
            have HXb := Lib.hid (HSET3.out w9 _ hb3)
            have KSb := Lib.hid (KRb.out.new hks (fun y e => by subst e; exact hg0))
            have HKSb := Lib.hid ((HKRb.out.mono (T := fun y => y = g) (fun _ _ h => h.elim)).trans' hks)
            have Ob := Lib.hid (HO2b.out.low hszb |>.keep hks (by have := HO2b.out.base_le; omega))
            clear hb3 hks

            go_wp2
            go_roundw
            case rel =>
              have kk := HKSa.out.trans' HKSb.out
              have hbl := HO2a.out.base_le
              have hx := HXb.out
              unfold OwnX at hx
              rw [HLa.out, HLb.out] at hx
              refine ⟨i2, L1 ++ [⟨n, i2, g2a, cap2a, g2b, cap2b⟩], hi512, ?_, ?_, ?_, ?_, ?_, KSb.out⟩
              · have := HI2.out
                go_num
              · rw [HI2.out, HRL2.out]
              · unfold OwnSp
                rw [rowSp_snoc, List.length_append]
                exact hx
              · refine SegsAt.snoc (HSG1.out.keep kk (fun x cu hx' _ e => ?_)) ?_ ?_
                · subst e
                  rw [HCURa.out] at hx'
                  cases hx'
                · show OwnB w9 w.heap.size g2a cap2a (segB a (n, i2))
                  rw [← HSEGa.out]
                  exact Oa.out.keep HKSb.out (by omega)
                · show OwnB w9 w.heap.size g2b cap2b (segB b (n, i2))
                  rw [← HSEGb.out]
                  exact Ob.out
              · rw [List.map_append, HI2.out]
                exact HM1.out
            case measure =>
              have := HI2.out
              have := HLT.out
              simp [intOf]; omega
    · have hge : ¬ (i : Int) < 512 := by omega
      go_wp2
      go_ret
      obtain rfl : i = 512 := by omega
      exact ⟨u5, rfl, L, HOS.out, HSG.out, HMP.out, K.out⟩
end Go.Proofs.YtndflnedkpmpfaaGreatDoor
