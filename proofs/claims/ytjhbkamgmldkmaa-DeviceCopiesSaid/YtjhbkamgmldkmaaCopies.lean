/-
  DeviceCopies: the walk: parchmentlaw01.DeviceCopies returns true, whatever the number of blocks, the steps and the place.
-/
import Derived.Test.YtjhbkamgmldkmaaTwo
namespace Go.Proofs.Ytjhbkamgmldkmaa
open Go.RowKit

set_option maxRecDepth 100000 in
set_option maxHeartbeats 8000000 in
theorem copies_any (n : Int) (A : Option Addr) (c : Nat) (l : List DoM) (at_ : Int) (w : World) (hl : RdDo w A l) (hcap : l.length ≤ c) :
    Calls Try.prog 7 #[.int .i64 n, .slice A l.length c, .int .i64 at_] w fun e w' => e = .returned (.bool true) ∧ Kept (fun _ => False) w w' := by
  by_cases hn : 1 ≤ n ∧ n ≤ 65536
  case' neg =>
    have HN := Lib.hid (fun w => new_no n (by omega) w)
    have HN2 := Lib.hid (fun w => rnew_no n (by omega) w)
    have g2 : l.length > 80 → (80 : Int) ≤ (c : Int) := by omega
    have g3 := Lib.hid hl
    clear hl hcap hn
    by_cases h80 : l.length ≤ 80
    case' pos =>
      have g1 : ¬ (80 : Int) < (l.length : Int) := by omega
      clear h80 g2
    case' neg =>
      have g1 : (80 : Int) < (l.length : Int) := by omega
      have g2' := g2 (by omega)
      clear h80 g2
    all_goals (
      go_enter Try.func7, Try.ntmps7
      go_wp2_with (first
        | (go_at_call 10; refine (HN.out _).mono ?_; rintro e wx ⟨rfl, rfl⟩)
        | (go_at_call 17; refine (HN2.out _).mono ?_; rintro e wx ⟨rfl, rfl⟩)
        | (go_at_call 9; refine (awake_any _).mono ?_; rintro e w1 ⟨rfl, hk1⟩))
      go_ret
      exact ⟨rfl, hk1⟩)
  case' pos =>
    by_cases h80 : l.length ≤ 80
    case' pos =>
      have HL := Lib.hid hl
      clear hl hcap
      have g1 : ¬ (80 : Int) < (l.length : Int) := by omega
      go_enter Try.func7, Try.ntmps7
      go_wp2_with fail
      refine (new_ok n hn.1 hn.2 _).mono ?_
      clear g1
    case' neg =>
      have HL := Lib.hid (hl.take' 80)
      have g1 : (80 : Int) < (l.length : Int) := by omega
      have g2 : (80 : Int) ≤ (c : Int) := by omega
      have hlen : (l.take 80).length = 80 := by rw [List.length_take]; omega
      have hsome : ∃ b off, A = some ⟨b, off, none⟩ := by
        obtain ⟨b, off, hA, _⟩ := hl (by rintro rfl; simp at g1)
        exact ⟨b, off, hA⟩
      clear hl hcap
      obtain ⟨b0, off0, rfl⟩ := hsome
      generalize l.take 80 = l2 at *
      have Hlen := Lib.hid hlen
      clear hlen
      go_enter Try.func7, Try.ntmps7
      go_wp2_with fail
      refine (new_ok n hn.1 hn.2 _).mono ?_
      rw [← Hlen.out]
      have h80' : l2.length ≤ 80 := by rw [Hlen.out]; omega
      clear h80 g1 g2 Hlen
      generalize some (⟨b0, off0, none⟩ : Addr) = A at *
      generalize l.length = ll at *
      clear l
      revert l2
      intro l h80 HL
    all_goals
      rintro e w1 ⟨p, ms, mo, rfl, hD1, hk1, lp, lms, lmo⟩
      have HD1 := Lib.hid hD1
      have HK1 := Lib.hid hk1
      clear hD1 hk1
      go_wp2_with fail
      refine (rnew_ok n hn.1 hn.2 _).mono ?_
      rintro e w2 ⟨q, rfl, hR2, hk2, lq⟩
      have HB2 := Lib.hid (show Both w.heap.size w2 p ms mo q (fun x => x = q) (fun _ => False) (newM n) (newR n) 0 from
        ⟨HD1.out.keep hk2 id id id, hR2, sim_new n, (by
          have l1 := heap_lt HD1.out.hp
          have l2 := HD1.out.hs.lt
          have l3 := HD1.out.ho.lt
          rintro x (rfl | rfl | rfl)
          · exact ⟨by omega, id, lp⟩
          · exact ⟨by omega, id, lms⟩
          · exact ⟨by omega, id, lmo⟩), (by
          have := HK1.out.size
          rintro x (rfl | h)
          · omega
          · exact h.elim), Nat.le_refl _⟩)
      have HK2 := Lib.hid (HK1.out.trans0 hk2)
      clear hR2 hk2 lp lms lmo lq HD1 HK1 hn
      go_wp2_with fail
      refine (pick_nat at_ (l.length + 1) (by omega) (by omega) _).mono ?_
      rintro e wx ⟨av, hav, -, rfl, rfl⟩
      go_wp2
      go_loopw [9] (fun i wr => ∃ k : Nat, k ≤ l.length ∧ i = .int .i64 k ∧ (∀ j x, j < k → l[j]? = some x → x.fates.length ≤ 1000) ∧ Kept (fun _ => False) w2 wr) (fun i _ => l.length - (intOf i).toNat)
      case atStart => exact ⟨0, Nat.zero_le _, rfl, by omega, Kept.refl _ _⟩
      case round =>
        obtain ⟨k, hk, rfl, hfk, hkr⟩ := hrel
        have HFK := Lib.hid hfk
        have Hr := Lib.hid (HB2.out.kept0 hkr)
        have HK := Lib.hid (HK2.out.trans0 hkr)
        have HKR := Lib.hid hkr
        clear hfk hkr
        by_cases hlt : k < l.length
        · obtain ⟨b, off, FA, cf, rfl, hc, -, -, -⟩ := HL.out.at_ HK.out (List.getElem?_eq_getElem hlt)
          have hxk : l[k]? = some l[k] := List.getElem?_eq_getElem hlt
          generalize l[k] = x at hc hxk
          have e4 : wr.cell? ⟨b, off + k * 5 + 4, none⟩ = some (.slice FA x.fates.length cf) := hc 4 _ rfl
          have i0 : (0 : Int) ≤ (k : Int) := by omega
          have i1 : (k : Int) < (l.length : Int) := by omega
          have HXK := Lib.hid hxk
          clear hc hxk
          by_cases h1000 : x.fates.length ≤ 1000
          · have g5 : ¬ (1000 : Int) < (x.fates.length : Int) := by omega
            go_wp2
            go_roundw
            case rel =>
              refine ⟨k + 1, by omega, by go_num, fun j y hj hy => ?_, HKR.out⟩
              by_cases e : j = k
              · subst e; rw [HXK.out] at hy; cases hy; exact h1000
              · exact HFK.out j y (by omega) hy
            case measure => simp [intOf]; omega
          · have g5 : (1000 : Int) < (x.fates.length : Int) := by omega
            go_wp2_with (go_at_call 9; refine (awake_any _).mono ?_; rintro e w3 ⟨rfl, hk3⟩)
            go_ret
            exact ⟨rfl, HK.out.trans0 hk3⟩
        · have hge : ¬ ((k : Int) < (l.length : Int)) := by omega
          have HFT := Lib.hid (show ∀ j x, l[j]? = some x → x.fates.length ≤ 1000 from fun j x hx => HFK.out j x (by have := (List.getElem?_eq_some_iff.1 hx).1; omega) hx)
          clear HFK HB2 HK2 HKR
          go_wp2
          go_loopw [10] (fun i wr => ∃ (k : Nat) (M I : Nat → Prop) (D : DevM) (R : RefM), k ≤ av ∧ i = .int .i64 k ∧ Both w.heap.size wr p ms mo q M I D R k ∧ Kept (fun _ => False) w wr) (fun i _ => av - (intOf i).toNat)
          case atStart => exact ⟨0, _, _, _, _, Nat.zero_le _, rfl, Hr.out, HK.out⟩
          case round =>
            obtain ⟨k, M, I, D, R, hk, rfl, hb, hkr⟩ := hrel
            have Hs := Lib.hid hb
            have HKs := Lib.hid hkr
            have szr := hkr.size
            clear hb Hr HK
            by_cases hlt : k < av
            · have hlt2 : k < l.length := by omega
              obtain ⟨b, off, FA, cf, rfl, hc, hf, hfb, hxn⟩ := HL.out.at_ hkr (List.getElem?_eq_getElem hlt2)
              have hxk : l[k]? = some l[k] := List.getElem?_eq_getElem hlt2
              generalize l[k] = x at hc hf hfb hxn hxk
              have i0 : (0 : Int) ≤ (k : Int) := by omega
              have i1 : (k : Int) < (l.length : Int) := by omega
              have i2 : (k : Int) < (av : Int) := by omega
              have HC := Lib.hid hc
              have HS := Lib.hid (step_any Hs.out x FA cf szr (by omega) hxn hf hfb (HFT.out k x hxk))
              clear hc hf hfb hxn hkr hxk
              go_wp2_with (refine wl_load_mid rfl 31 _ rfl b (off + k * 5) rfl #[.int .i64 x.op, .int .i64 x.blk, .int .i64 x.n, .int .u8 x.byte.toNat, .slice FA x.fates.length cf] HC.out Try.underlying31 rfl infoDo ?_)
              refine HS.out.mono ?_
              rintro e w3 ⟨M', I', D', R', rfl, hb3, hk3, -, -⟩
              have HK3 := Lib.hid (HKs.out.new hk3 Hs.out.foot)
              have HB3 := Lib.hid hb3
              clear hb3 hk3 HS
              go_wp2
              go_roundw
              case rel => exact ⟨k + 1, M', I', D', R', by omega, by go_num, HB3.out, HK3.out⟩
              case measure => simp [intOf]; omega
            · have hge : ¬ ((k : Int) < (av : Int)) := by omega
              have hka : k ≤ 1000 := by omega
              clear hkr
              go_wp2_with fail
              refine (two_copy Hs.out szr hka).mono ?_
              rintro e w3 ⟨p', rfl, hcr⟩
              have HCR := Lib.hid hcr
              clear hcr
              go_wp2_with fail
              refine HCR.out.mono ?_
              rintro e w4 ⟨q', ms', mo', M', rfl, htw, hk4⟩
              have HT := Lib.hid htw
              have HK4 := Lib.hid (HKs.out.trans0 hk4)
              clear htw hk4 HCR Hs HKs
              go_wp2
              go_loopw [13] (fun i wr => ∃ (j : Nat) (M I : Nat → Prop) (D1 : DevM) (R1 : RefM) (M' I' : Nat → Prop), av ≤ j ∧ j ≤ l.length ∧ i = .int .i64 j ∧ Two w.heap.size wr p ms mo q M I D1 R1 j p' ms' mo' q' M' I' D R av ∧ Kept (fun _ => False) w wr) (fun i _ => l.length - (intOf i).toNat)
              case atStart => exact ⟨av, M, I, D, R, M', I, Nat.le_refl _, by omega, rfl, (show k = av by omega) ▸ HT.out, HK4.out⟩
              case round =>
                obtain ⟨j, M1, I1, D1, R1, M2, I2, hj0, hj, rfl, htw, hkr⟩ := hrel
                have HT1 := Lib.hid htw
                have HKs := Lib.hid hkr
                have szr := hkr.size
                clear htw HT HK4
                by_cases hlt : j < l.length
                · obtain ⟨b, off, FA, cf, rfl, hc, hf, hfb, hxn⟩ := HL.out.at_ hkr (List.getElem?_eq_getElem hlt)
                  have hxk : l[j]? = some l[j] := List.getElem?_eq_getElem hlt
                  generalize l[j] = x at hc hf hfb hxn hxk
                  have i0 : (0 : Int) ≤ (j : Int) := by omega
                  have i1 : (j : Int) < (l.length : Int) := by omega
                  have HC := Lib.hid hc
                  have HS := Lib.hid (two_step HT1.out x FA cf szr (by omega) hxn hf hfb (HFT.out j x hxk))
                  clear hc hf hfb hxn hkr hxk
                  go_wp2_with (refine wl_load_mid rfl 31 _ rfl b (off + j * 5) rfl #[.int .i64 x.op, .int .i64 x.blk, .int .i64 x.n, .int .u8 x.byte.toNat, .slice FA x.fates.length cf] HC.out Try.underlying31 rfl infoDo ?_)
                  refine HS.out.mono ?_
                  rintro e w5 ⟨M3, I3, D3, R3, rfl, ht5, hk5⟩
                  have HK5 := Lib.hid (HKs.out.new hk5 HT1.out.b1.foot)
                  have HT5 := Lib.hid ht5
                  clear ht5 hk5 HS
                  go_wp2
                  go_roundw
                  case rel => exact ⟨j + 1, M3, I3, D3, R3, M2, I2, by omega, by omega, by go_num, HT5.out, HK5.out⟩
                  case measure => simp [intOf]; omega
                · have hge : ¬ ((j : Int) < (l.length : Int)) := by omega
                  obtain rfl : j = l.length := by omega
                  clear hkr
                  go_wp2
                  go_loopw [14] (fun i wr => ∃ (m : Nat) (M' I' : Nat → Prop) (D2 : DevM) (R2 : RefM) (kk : Nat), av + m ≤ l.length ∧ kk + m ≤ 500 ∧ i = .int .i64 ((av : Int) + (m : Int) - 1) ∧ Two w.heap.size wr p' ms' mo' q' M' I' D2 R2 kk p ms mo q M1 I1 D1 R1 l.length ∧ Kept (fun _ => False) w wr) (fun i _ => (intOf i + 1 - av).toNat)
                  case atStart => exact ⟨l.length - av, M2, I2, D, R, av, by omega, by omega, by congr 1; omega, HT1.out.swap, HKs.out⟩
                  case round =>
                    obtain ⟨m, M3, I3, D2, R2, kk, hm1, hm2, rfl, htw, hkr⟩ := hrel
                    have HT2 := Lib.hid htw
                    have HK2 := Lib.hid hkr
                    have szq := hkr.size
                    clear htw HT1 HKs
                    by_cases hm0 : m = 0
                    · subst hm0
                      have hge : ¬ ((av : Int) ≤ (av : Int) + ((0 : Nat) : Int) - 1) := by omega
                      clear hkr
                      have HLI1 := Lib.hid (like_any HT2.out.b2 A c l (HL.out.kept0 HK2.out) (by omega))
                      go_wp2_with fail
                      refine HLI1.out.mono ?_
                      rintro e w5 ⟨rfl, hk5⟩
                      have HT5 := Lib.hid (HT2.out.kept0 hk5)
                      have HK5 := Lib.hid (HK2.out.trans0 hk5)
                      clear hk5 HLI1 HT2 HK2
                      have HLI2 := Lib.hid (like_any HT5.out.b1 A c l (HL.out.kept0 HK5.out) (by omega))
                      go_wp2_with fail
                      refine HLI2.out.mono ?_
                      rintro e w6 ⟨rfl, hk6⟩
                      have HD6 := Lib.hid (HT5.out.kept0 hk6).b2.hd
                      have HB6 := Lib.hid (HT5.out.kept0 hk6).b2.foot
                      have HK6 := Lib.hid (HK5.out.trans0 hk6)
                      clear hk6 HLI2 HT5 HK5
                      go_wp2_with fail
                      refine (wake_any HD6.out none 0 [] (fun h => absurd rfl h) (fun h => absurd rfl h) (by decide)).mono ?_
                      rintro e w7 ⟨rfl, hD7, hk7⟩
                      have HK7 := Lib.hid (HK6.out.new hk7 (fun x e => HB6.out x (e.elim .inl (fun e => .inr (e.elim .inl (fun e => .inr (.inl e)))))))
                      have hm7 : (D1.wake []).mayE 0 = 0 := DevM.mayE_ok rfl (Int.le_refl 0) (by have := hD7.n0; omega)
                      generalize D1.wake [] = D7 at *
                      have hl7 := hD7.len 0
                      have HD7 := Lib.hid hD7
                      have HM7 := Lib.hid hm7
                      have HL7 := Lib.hid hl7
                      clear hk7 hD7 hm7 hl7 HK6 HD6 HB6
                      go_wp2_with fail
                      refine (read_ok HD7.out 0 HM7.out).mono ?_
                      rintro e w8 ⟨ga, ca, rfl, ho8, hk8⟩
                      have HD8 := Lib.hid (HD7.out.keep hk8 id id id)
                      have HO8 := Lib.hid ho8
                      have HK8 := Lib.hid (HK7.out.trans0 hk8)
                      have s8 := hk8.size
                      have na := ho8.base_le
                      have ma : ga < w8.heap.size := by obtain ⟨cur, _, hh, _⟩ := ho8.form; exact heap_lt hh
                      clear hk8 ho8
                      go_wp2_with fail
                      refine (read_ok HD8.out 0 HM7.out).mono ?_
                      rintro e w9 ⟨gb, cb, rfl, ho9, hk9⟩
                      have HD9 := Lib.hid (HD8.out.keep hk9 id id id)
                      have HO9 := Lib.hid ho9
                      have HO8' := Lib.hid (HO8.out.kept hk9)
                      have HK9 := Lib.hid (HK8.out.trans0 hk9)
                      have s9 := hk9.size
                      have nb := ho9.base_le
                      have mb : gb < w9.heap.size := by obtain ⟨cur, _, hh, _⟩ := ho9.form; exact heap_lt hh
                      have lD : p < w7.heap.size ∧ ms < w7.heap.size ∧ mo < w7.heap.size := ⟨heap_lt HD7.out.hp, HD7.out.hs.lt, HD7.out.ho.lt⟩
                      have s7 := HK7.out.size
                      clear hk9 ho9
                      go_wp2_with fail
                      refine (turn_any w9 w7.heap.size ga ca 512 _ HO8'.out HL7.out (by omega)).mono ?_
                      rintro e w10 ⟨la, rfl, ho10, hla, hk10⟩
                      have HD10 := Lib.hid (HD9.out.keep hk10 (by omega) (by omega) (by omega))
                      have HO10a := Lib.hid ho10
                      have HO10b := Lib.hid (HO9.out.keep hk10 (by omega))
                      have HK10 := Lib.hid (HK9.out.new hk10 (by rintro x rfl; omega))
                      have HLA := Lib.hid hla
                      have s10 := hk10.size
                      clear hk10 ho10 hla HO8 HO8' HO9
                      go_wp2_with fail
                      refine (read_ok HD10.out 0 HM7.out).mono ?_
                      rintro e w11 ⟨gc, cc, rfl, ho11, hk11⟩
                      have HO11a := Lib.hid (HO10a.out.kept hk11)
                      have HO11b := Lib.hid (HO10b.out.kept hk11)
                      have HO11c := Lib.hid ho11
                      have HK11 := Lib.hid (HK10.out.trans0 hk11)
                      have nc := ho11.base_le
                      have s11 := hk11.size
                      clear hk11 ho11
                      go_wp2_with fail
                      refine (show Calls Try.prog 25 #[.slice (some ⟨gb, 0, none⟩) 512 cb, .slice (some ⟨gc, 0, none⟩) 512 cc] w11 fun e w' => e = .returned (.bool true) ∧ Same w11 w' from by
                        have := same_any (some ⟨gb, 0, none⟩) (some ⟨gc, 0, none⟩) cb cc (D7.latest 0) (D7.latest 0) w11 HO11b.out.rdx HO11c.out.rdx (by rw [HL7.out]; omega)
                        rw [HL7.out] at this
                        simpa using this).mono ?_
                      rintro e w12 ⟨rfl, hs12⟩
                      have hk12 := hs12.kept (fun _ => False)
                      have HAP := Lib.hid (three_apart (B := w.heap.size) (HO11a.out.kept hk12) (HO11b.out.kept hk12) (HO11c.out.kept hk12) HLA.out HL7.out HL7.out (by omega) (by omega) (by omega) (by omega) (by omega) (by omega) (by have := (HK11.out.trans0 hk12).size; omega))
                      have HK12 := Lib.hid (HK11.out.trans0 hk12)
                      clear hs12 hk12
                      go_wp2_with (first
                        | (go_at_call 30; refine HAP.out.mono ?_; rintro e w13 ⟨rfl, hk13⟩)
                        | (go_at_call 9; refine (awake_any _).mono ?_; rintro e w14 ⟨rfl, hk14⟩))
                      go_ret
                      exact ⟨rfl, (HK12.out.new hk13 (by rintro x (rfl | rfl | rfl) <;> omega)).trans0 hk14⟩
                    · obtain ⟨m, rfl⟩ : ∃ m', m = m' + 1 := ⟨m - 1, by omega⟩
                      have ei : (av : Int) + ((m + 1 : Nat) : Int) - 1 = ((av + m : Nat) : Int) := by omega
                      have ej : (av : Int) + (m : Int) - 1 = ((av + m : Nat) : Int) - 1 := by omega
                      have EJ := Lib.hid ej
                      rw [ei]
                      obtain ⟨j, hj⟩ : ∃ j, j = av + m := ⟨_, rfl⟩
                      rw [← hj] at EJ ⊢
                      have hlt : j < l.length := by omega
                      obtain ⟨b, off, FA, cf, rfl, hc, hf, hfb, hxn⟩ := HL.out.at_ hkr (List.getElem?_eq_getElem hlt)
                      have hxk : l[j]? = some l[j] := List.getElem?_eq_getElem hlt
                      generalize l[j] = x at hc hf hfb hxn hxk
                      have i0 : (0 : Int) ≤ (j : Int) := by omega
                      have i1 : (j : Int) < (l.length : Int) := by omega
                      have i2 : (av : Int) ≤ (j : Int) := by omega
                      have HC := Lib.hid hc
                      have HS := Lib.hid (two_step HT2.out x FA cf szq (by omega) hxn hf hfb (HFT.out j x hxk))
                      have hjm := Lib.hid hj
                      clear hc hf hfb hxn hkr hxk hj ei ej
                      go_wp2_with (refine wl_load_mid rfl 31 _ rfl b (off + j * 5) rfl #[.int .i64 x.op, .int .i64 x.blk, .int .i64 x.n, .int .u8 x.byte.toNat, .slice FA x.fates.length cf] HC.out Try.underlying31 rfl infoDo ?_)
                      refine HS.out.mono ?_
                      rintro e w5 ⟨M5, I5, D5, R5, rfl, ht5, hk5⟩
                      have HK5 := Lib.hid (HK2.out.new hk5 HT2.out.b1.foot)
                      have HT5 := Lib.hid ht5
                      clear ht5 hk5 HS
                      go_wp2
                      go_roundw
                      case rel => exact ⟨m, M5, I5, D5, R5, kk + 1, by omega, by omega, by rw [EJ.out], HT5.out, HK5.out⟩
                      case measure =>
                        have := hjm.out
                        simp [intOf]; omega
end Go.Proofs.Ytjhbkamgmldkmaa
