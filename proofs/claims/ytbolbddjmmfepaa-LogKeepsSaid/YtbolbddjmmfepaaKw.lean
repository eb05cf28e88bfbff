/-
  LogKeeps: the walk.
-/
import Derived.Test.YtbolbddjmmfepaaKy
namespace Go.Proofs.Ytbolbddjmmfepaa
open Go.RowKit

def KpS (w : World) (p ms mo : Nat) (i : Nat) (tu lp al sf : Value) (wx : World) : Prop := ∃ q lv tv L D R rows js, tu = .int .i64 (LogM.turn L) ∧ lp = .pointer (some ⟨q, 0, none⟩) ∧ sf = .int .i64 (js : Nat) ∧ KpW w wx p ms mo q lv tv L D rows al ∧ KeepI D L R (rows.map (fun x => x.r)) js i
set_option maxRecDepth 100000 in
set_option maxHeartbeats 3200000 in
theorem keeps_any (A FA : Option Addr) (c cF : Nat) (l : List Int) (fl : List Fates) (w : World) (hl : RdI w A l) (hf : RdFF w FA fl) (hll : l.length ≤ 100) (hlf : fl.length ≤ 100) :
    Calls Try.prog 6 #[.slice A l.length c, .slice FA fl.length cF] w fun e w' => e = .returned (.bool true) ∧ Kept (fun _ => False) w w' := by
  have HL := Lib.hid hl
  have HF := Lib.hid hf
  have g1 : ¬ (100 : Int) < (l.length : Int) := by omega
  have g2 : ¬ (100 : Int) < (fl.length : Int) := by omega
  clear hl hf
  go_enter Try.func6, Try.ntmps6
  go_wp2_with (first
    | (go_at_call 7; refine (awake_any _).mono ?_; rintro e w1 ⟨rfl, hk1⟩)
    | (go_at_call 32; refine (new_ok 7 (by omega) (by omega) _).mono ?_; rintro e w2 ⟨p, ms, mo, rfl, hD, hk2, lp, lms, lmo⟩))
  refine (show Calls Try.prog 31 #[.pointer (some ⟨p, 0, none⟩), .int .i64 1, .int .i64 6, .int .i64 1, .int .i64 1] w2 (OpenPost w2 p ms mo (some kpL0, newM 7, 0)) from by
    have := open_ok w2 p ms mo (newM 7) hD 1 6 1 1 (by decide) (by rw [show ((6 : Int) * 408 - 408).toNat = 2040 from rfl, kp_all]; decide)
    rwa [kp_open] at this).mono ?_
  intro e w3 hp3
  obtain ⟨hk3, -, hy⟩ := hp3
  obtain ⟨q, lv, tv, rfl, hs3, hq, hlv, htv⟩ := hy kpL0 rfl
  have HS3 := Lib.hid hs3
  have pk : ∀ x, x = p ∨ x = ms ∨ x = mo → w.heap.size ≤ x := by
    have := hk1.size
    rintro x (rfl | rfl | rfl) <;> omega
  have K3 := Lib.hid ((hk1.trans0 hk2).new hk3 pk)
  have FR := Lib.hid (show ∀ x, LogK q p ms mo lv tv x → w.heap.size ≤ x from by
    have h1 := hk1.size
    have h2 := hk2.size
    rintro x (rfl | h | h | h | h | h)
    · omega
    · exact pk x (.inl h)
    · exact pk x (.inr (.inl h))
    · exact pk x (.inr (.inr h))
    · have := hlv x h; omega
    · have := htv x h; omega)
  clear hk1 hk2 hk3 hy hs3 hq hlv htv pk lp lms lmo hD
  go_wp2
  go_loopw [6, 7, 9, 10, 11] (fun tu lp al sf iv wr => ∃ i, i ≤ l.length ∧ iv = .int .i64 (i : Nat) ∧ KpS w p ms mo i tu lp al sf wr) (fun tu lp al sf iv wr => l.length - (intOf iv).toNat)
  case atStart => exact ⟨0, Nat.zero_le _, rfl, q, lv, tv, kpL0, newM 7, [], [], 0, rfl, rfl, rfl, ⟨HS3.out, RecsM.nil _ _, (fun x hx => by cases hx), (fun x hx => by cases hx), K3.out, FR.out⟩, kp_start⟩
  case round =>
    clear HS3 K3 FR
    obtain ⟨i, hi, rfl, q, lv, tv, L, D, R, rows, js, rfl, rfl, rfl, hW, hI⟩ := hrel
    obtain ⟨Aa, ca, rfl, hca, -⟩ := hW.all.slice
    have HW := Lib.hid hW
    have HI := Lib.hid hI
    have K := Lib.hid hW.kept
    have hRl : rows.length = R.length := by
      have := congrArg List.length hI.al
      simpa using this
    have hRf := hI.few
    have HRL := Lib.hid hRl
    have hrf : rows.length ≤ 60 := by omega
    clear hW hI hRl hRf
    by_cases hlt : i < l.length
    · obtain ⟨b, off, hA, hc⟩ := HL.out (by intro e; simp [e] at hlt)
      have c0 := hc i l[i] (by simp [hlt])
      have lb := block_lt_of_cell c0
      simp only at lb
      have e0 := (World.cell?_of_block (K.out.block b lb id)).trans c0
      generalize l[i] = x at e0
      clear c0 hc
      subst hA
      have i0 : (0 : Int) ≤ (i : Int) := by omega
      have i1 : (i : Int) < (l.length : Int) := by omega
      go_wp2_with fail
      refine (pick_nat x 4000 (by omega) (by omega) _).mono ?_
      rintro e wx ⟨n, hn, -, rfl, rfl⟩
      clear e0
      go_upto_block 2 with fail
      go_cut [6, 7, 9, 10, 13, 14, 15, 16, 17, 18, 19, 20, 21, 22] from 50 to 171 (fun tu lp al sf _ _ _ _ _ _ _ _ _ _ wx => KpS w p ms mo (i + 1) tu lp al sf wx)
      case first =>
        by_cases hA : n % 6 < 3
        · have z : ((n : Int) % 6 == 0) = true ∨ ((n : Int) % 6 == 0) = false ∧ ((n : Int) % 6 == 1) = true ∨ ((n : Int) % 6 == 0) = false ∧ ((n : Int) % 6 == 1) = false ∧ ((n : Int) % 6 == 2) = true := by
            rcases (show n % 6 = 0 ∨ n % 6 = 1 ∨ n % 6 = 2 by omega) with h | h | h
            · left; simp; omega
            · right; left; simp; omega
            · right; right; simp; omega
          clear hA
          rcases z with z | ⟨z, z1⟩ | ⟨z, z1, z2⟩
          all_goals
            go_wp2_with fail
            refine (record_any n hn wr).mono ?_
            intro e w4 hp
            obtain ⟨hk4, A1, c1, A2, c2, rfl, ho1, ho2⟩ := hp
            have HW4 := Lib.hid (HW.out.keep0 hk4)
            have HO1 := Lib.hid ho1
            have HO2 := Lib.hid ho2
            have HS4 := Lib.hid hk4.size
            obtain ⟨r, hr⟩ : ∃ r, r = recN n := ⟨_, rfl⟩
            have HRM := Lib.hid (recN_small n)
            have HRO := Lib.hid (recN_ok n hn)
            have HST := Lib.hid (keep_append HI.out hn (show i < 100 by omega))
            rw [← hr] at HO1 HO2 HRM HRO HST ⊢
            clear hk4 ho1 ho2 hr
            go_wp2_with (refine wl_alloc' rfl 27 rfl zRecC zeroRec ?_)
            intro y w5 y1 y2 hb5 hk5
            go_wp2_with (refine wl_store_row rfl 27 _ _ rfl y (recC r A1 c1 A2 c2) _ rfl rfl hb5 sizeRec rfl (one_recC _ _ _ _ _) ?_)
            intro w6 hb6 hk6
            have hk46 : Kept (fun _ => False) w4 w6 := hk5.new hk6 (by rintro x rfl; exact y1)
            have HY6 := Lib.hid hb6
            have HW6 := Lib.hid (HW4.out.keep0 hk46)
            have HO16 := Lib.hid (HO1.out.keep hk46 (fun _ _ => id))
            have HO26 := Lib.hid (HO2.out.keep hk46 (fun _ _ => id))
            have HNK := Lib.hid (show ∀ x, LogK q p ms mo lv tv x → x < wr.heap.size from fun x hx => HW.out.lt hx)
            have HYN := Lib.hid (show ¬ LogK q p ms mo lv tv y from fun hx => by have := HNK.out y hx; have := HS4.out; omega)
            have HAP := Lib.hid (HW6.out.app HI.out r A1 A2 c1 c2 HRO.out HRM.out.1 HRM.out.2 HO16.out.rd HO26.out.rd)
            clear hb5 hk5 hb6 hk6 hk46
            rcases HST.out with ⟨L', x', he, hlt', R', hI'⟩ | he
            · have HAP2 := Lib.hid (show Calls Try.prog 22 #[.pointer (some ⟨q, 0, none⟩), .agg (recC r A1 c1 A2 c2)] w6 (fun e w' => e = .returned (.tuple #[.int .i64 x', .int .i64 0]) ∧ ∃ lv' tv', KpW w w' p ms mo q lv' tv' L' D rows (.slice Aa rows.length ca) ∧ Kept (fun x => LogK q p ms mo lv tv x) w6 w' ∧ OwnTo w6 tv tv') from by
                have h := HAP.out
                rwa [he] at h)
              have HI2 := Lib.hid hI'
              have HT2 := Lib.hid hlt'
              clear he hI' hlt' HAP HST
              go_wp2_with (refine wl_load_row rfl 27 _ rfl y rfl (recC r A1 c1 A2 c2) HY6.out Try.underlying27 rfl sizeRec ?_)
              refine HAP2.out.mono ?_
              rintro e w7 ⟨rfl, lv', tv', hW7, hk7, hto⟩
              have HW7 := Lib.hid hW7
              have HY7 := Lib.hid (hk7.heap HY6.out HYN.out)
              have HO17 := Lib.hid (HO16.out.keep hk7 (fun x hx e => by have := HNK.out x e; have := (HO16.out.base_le hx).1; omega))
              have HO27 := Lib.hid (HO26.out.keep hk7 (fun x hx e => by have := HNK.out x e; have := (HO26.out.base_le hx).1; omega))
              have HAPT := Lib.hid (show ∀ g, (Value.slice A1 r.old.length c1).ownBlock = some g ∨ (Value.slice A2 r.new.length c2).ownBlock = some g → tv'.ownBlock ≠ some g from fun g hg e => by
                have hb : wr.heap.size ≤ g ∧ g < w6.heap.size := by
                  rcases hg with hg | hg
                  · exact HO16.out.base_le hg
                  · exact HO26.out.base_le hg
                rcases hto with e2 | e2
                · have := HNK.out g (.inr (.inr (.inr (.inr (.inr (by rw [← e2]; exact e))))))
                  omega
                · have := e2 g e; omega)
              clear hW7 hk7 hto HAP2
              go_wp2_with (first
                | (refine wl_load_row rfl 27 _ rfl y rfl (recC r A1 c1 A2 c2) HY7.out Try.underlying27 rfl sizeRec ?_)
                | (refine wl_buildR rfl _ rfl r A1 c1 A2 c2 rfl ?_))
              intro g w8 g1 hb8 hk8
              have HB8 := Lib.hid hb8
              have HW8 := Lib.hid (HW7.out.keep0 hk8)
              have HO18 := Lib.hid ((HO17.out.keep hk8 (fun _ _ => id)).low K.out.size)
              have HO28 := Lib.hid ((HO27.out.keep hk8 (fun _ _ => id)).low K.out.size)
              clear hb8 hk8
              go_wp2_with (refine wl_appendRM rfl _ _ rfl w.heap.size (.slice Aa rows.length ca) rows rfl HW8.out.all ⟨r, A1, c1, A2, c2⟩ HO18.out HO28.out g 1 rfl HB8.out (by omega) HW8.out.kept.size ?_)
              intro al' w9 hr9 hk9 ho9
              have HW9 := Lib.hid (HW8.out.more hr9 hk9 HAPT.out HRM.out)
              clear hr9 hk9 ho9
              go_wp2
              go_meet
              exact ⟨q, lv', tv', L', D, R', rows ++ [⟨r, A1, c1, A2, c2⟩], js, by rw [HT2.out], rfl, rfl, HW9.out, by rw [List.map_append]; exact HI2.out⟩
            · have HAP2 := Lib.hid (show Calls Try.prog 22 #[.pointer (some ⟨q, 0, none⟩), .agg (recC r A1 c1 A2 c2)] w6 (fun e w' => e = .returned (.tuple #[.int .i64 0, .int .i64 5]) ∧ ∃ lv' tv', KpW w w' p ms mo q lv' tv' L D rows (.slice Aa rows.length ca)) from by
                have h := HAP.out
                rw [he] at h
                exact h.mono (fun e w' ⟨h1, lv', tv', h2, _⟩ => ⟨h1, lv', tv', h2⟩))
              clear he HAP HST
              go_wp2_with (refine wl_load_row rfl 27 _ rfl y rfl (recC r A1 c1 A2 c2) HY6.out Try.underlying27 rfl sizeRec ?_)
              refine HAP2.out.mono ?_
              rintro e w7 ⟨rfl, lv', tv', hW7⟩
              have HW7 := Lib.hid hW7
              clear hW7 HAP2
              go_wp2
              go_meet
              exact ⟨q, lv', tv', L, D, R, rows, js, rfl, rfl, rfl, HW7.out, HI.out.up (Nat.le_succ i)⟩
        · by_cases h3 : n % 6 = 3
          · have z0 : ((n : Int) % 6 == 0) = false := by simp; omega
            have z1 : ((n : Int) % 6 == 1) = false := by simp; omega
            have z2 : ((n : Int) % 6 == 2) = false := by simp; omega
            have z3 : ((n : Int) % 6 == 3) = true := by simp; omega
            have HFO := Lib.hid (HW.out.force HI.out)
            obtain ⟨f1, f2, f3⟩ := keep_force HI.out
            rw [f1] at HFO
            have HT2 := Lib.hid f2
            have HI2 := Lib.hid f3
            clear h3 hA f1 f2 f3
            go_wp2_with fail
            refine HFO.out.mono ?_
            rintro e w4 ⟨rfl, tv', hW4⟩
            have HW4 := Lib.hid hW4
            clear hW4 HFO
            go_wp2
            go_meet
            exact ⟨q, lv, tv', (L.force D).1, (L.force D).2.1, R, rows, R.length, by rw [HT2.out], rfl, by rw [HRL.out], HW4.out, HI2.out.up (Nat.le_succ i)⟩
          · by_cases h4 : n % 6 = 4
            · have z0 : ((n : Int) % 6 == 0) = false := by simp; omega
              have z1 : ((n : Int) % 6 == 1) = false := by simp; omega
              have z2 : ((n : Int) % 6 == 2) = false := by simp; omega
              have z3 : ((n : Int) % 6 == 3) = false := by simp; omega
              have z4 : ((n : Int) % 6 == 4) = true := by simp; omega
              clear h3 h4 hA
              have HOL := Lib.hid (oldest_any wr q p lv tv L HW.out.log.hq)
              have HFR := Lib.hid (HW.out.from HI.out)
              go_wp2_with fail
              refine HOL.out.mono ?_
              rintro e wx ⟨rfl, rfl⟩
              go_wp2_with fail
              refine HFR.out.mono ?_
              rintro e w4 ⟨hk4, v, rows2, rfl, hrv, hrm⟩
              have HW4 := Lib.hid (HW.out.keep0 hk4)
              have hl2 : rows2.length = R.length := by
                have := congrArg List.length hrm
                simpa using this
              obtain ⟨A2, cc2, rfl, hcc2, -, hrd⟩ := (RecsM.recs hrv).slice
              have hl2' : rows2.length = rows.length := by rw [hl2, HRL.out]
              have HRD := Lib.hid hrd
              have HRM := Lib.hid hrm
              have hjs : js ≤ rows.length := by have := HI.out.jl; have := HRL.out; omega
              obtain ⟨kk, hkk⟩ : ∃ kk, kk = js / 2 := ⟨_, rfl⟩
              have hmin : min (js : Int) (rows.length : Int) / 2 = (kk : Int) := by omega
              have HKK := Lib.hid hkk
              have kjs : kk ≤ js := by omega
              have jsb : js ≤ 60 := by omega
              rw [hl2']
              clear hk4 hrv hrm hrd hl2 HOL HFR hl2' hkk
              by_cases hk0 : 0 < kk
              · have k0 : (0 : Int) < (kk : Int) := by omega
                have k1 : (kk : Int) < (rows.length : Int) := by have := HKK.out; omega
                have k2 : (0 : Int) ≤ (kk : Int) := by omega
                obtain ⟨hk2, t1, t2⟩ := keep_trim HI.out (by rw [← HKK.out]; exact hk0)
                obtain ⟨aa, haa⟩ : ∃ aa, aa = (R[js / 2]).lsn := ⟨_, rfl⟩
                rw [← haa, ← HKK.out] at t1 t2
                obtain ⟨L2, hL2⟩ : ∃ L2, L2 = ({ L with oldest := aa, lsns := L.lsns.drop kk } : LogM) := ⟨_, rfl⟩
                have HT2 := Lib.hid (show L2.turn = L.turn from by rw [hL2])
                rw [← hL2] at t1 t2
                have HI2 := Lib.hid t2
                have HTR := Lib.hid (HW4.out.trim HI.out aa)
                rw [t1] at HTR
                have hkr : kk < rows2.length := by
                  have := congrArg List.length HRM.out
                  have e2 := HKK.out
                  simp at this
                  omega
                obtain ⟨gg, oo, rfl, hcell⟩ := HRD.out kk hkr
                have cl := hcell 0 (.int .i64 rows2[kk].r.lsn) rfl
                have el : rows2[kk].r.lsn = aa := by
                  rw [haa]
                  have h1 : (rows2.map (fun x => x.r))[kk]? = R[kk]? := by rw [HRM.out]
                  rw [List.getElem?_map, List.getElem?_eq_getElem hkr] at h1
                  have e2 := HKK.out
                  have h2 : R[kk]? = some R[js / 2] := by rw [List.getElem?_eq_getElem (by omega)]; congr 2
                  rw [h2] at h1
                  exact congrArg RecM.lsn (Option.some.inj h1)
                rw [el, Nat.add_zero] at cl
                clear t1 t2 hL2 haa hk2 hcell el hkr hjs
                go_wp2_with fail
                refine HTR.out.mono ?_
                rintro e w5 ⟨rfl, lv', hW5⟩
                have HW5 := Lib.hid hW5
                clear hW5 HTR cl
                go_wp2_with (refine wl_val rfl (exec_slRL _ _ kk rfl Aa rows.length ca (kk : Int) rfl rfl rfl (by omega) _) ?_)
                go_wp2
                go_meet
                exact ⟨q, lv', tv, L2, D, R.drop kk, rows.drop kk, js - kk, by rw [HT2.out], rfl, by go_num, by
                  have h := HW5.out.all.drop kk (by omega)
                  exact HW5.out.sub h (fun x hx => List.mem_of_mem_drop hx), by rw [List.map_drop]; exact HI2.out.up (Nat.le_succ i)⟩
              · have k0 : ¬ (0 : Int) < (kk : Int) := by omega
                clear hjs
                go_wp2
                go_meet
                exact ⟨q, lv, tv, L, D, R, rows, js, rfl, rfl, rfl, HW4.out, HI.out.up (Nat.le_succ i)⟩
            · have z0 : ((n : Int) % 6 == 0) = false := by simp; omega
              have z1 : ((n : Int) % 6 == 1) = false := by simp; omega
              have z2 : ((n : Int) % 6 == 2) = false := by simp; omega
              have z3 : ((n : Int) % 6 == 3) = false := by simp; omega
              have z4 : ((n : Int) % 6 == 4) = false := by simp; omega
              clear h3 h4 hA
              have HOL := Lib.hid (oldest_any wr q p lv tv L HW.out.log.hq)
              obtain ⟨aN, haN⟩ : ∃ aN : Int, 1 + (n : Int) / 6 % 5 = aN := ⟨_, rfl⟩
              have HAR := Lib.hid (HW.out.arm aN (by omega))
              have HKC := Lib.hid (fun fs => keep_crash HI.out (show i < 100 by omega) aN fs)
              have HFX := Lib.hid (fun (wz : World) (hz : KpW w wz p ms mo q lv tv L (D.arm aN) rows (.slice Aa rows.length ca)) => hz.force HI.out)
              obtain ⟨X, hX⟩ : ∃ X, X = L.force (D.arm aN) := ⟨_, rfl⟩
              rw [← hX] at HKC HFX
              obtain ⟨js', hjs'⟩ : ∃ js', js' = (if X.2.2 = 0 then R.length else js) := ⟨_, rfl⟩
              have HJS := Lib.hid hjs'
              have HC := Lib.hid (show X.2.2 = 0 ∨ X.2.2 = 8 from by obtain ⟨_, _, h, _⟩ := HKC.out []; exact h)
              obtain ⟨L5, hL5⟩ : ∃ L5, L5 = X.1 := ⟨_, rfl⟩
              obtain ⟨D5, hD5⟩ : ∃ D5, D5 = X.2.1 := ⟨_, rfl⟩
              obtain ⟨EC, hEC⟩ : ∃ EC, EC = X.2.2 := ⟨_, rfl⟩
              rw [← hEC] at HJS HC HKC HFX
              rw [← hD5] at HKC HFX
              rw [← hL5] at HFX
              have tb0 : 0 ≤ L.turn := by obtain ⟨B, hB⟩ := HI.out.log; have := hB.t1; omega
              have tb1 : L.turn < 1000 := by have := HI.out.turn; omega
              clear hX hjs' hL5 hD5 hEC
              go_wp2_with fail
              refine HOL.out.mono ?_
              rintro e wx ⟨rfl, rfl⟩
              go_wp2_with fail
              refine HAR.out.mono ?_
              rintro e w4 ⟨rfl, hW4⟩
              have HFO := Lib.hid (HFX.out w4 hW4)
              clear hW4 HOL HAR HFX haN
              go_wp2_with fail
              refine HFO.out.mono ?_
              rintro e w5 ⟨rfl, tv5, hW5⟩
              have HW5 := Lib.hid hW5
              clear hW5 HFO
              go_upto_if 67 with fail
              go_cut [10] from 65 to 69 (fun sf wx => sf = .int .i64 (js' : Nat) ∧ w5 = wx)
              case first =>
                rcases HC.out with hc | hc
                · have HJ := Lib.hid (show (rows.length : Nat) = js' from by rw [HJS.out, if_pos hc, HRL.out])
                  subst hc
                  go_wp2
                  go_meet
                  exact ⟨by rw [HJ.out], rfl⟩
                · have HJ := Lib.hid (show js = js' from by rw [HJS.out, if_neg (by rw [hc]; decide)])
                  subst hc
                  go_wp2
                  go_meet
                  exact ⟨by rw [HJ.out], rfl⟩
              case rest =>
                obtain ⟨rfl, rfl⟩ := hcut
                have HD := Lib.hid (show ∀ h : i < fl.length, ∃ fb fo FA2 c2, FA = some ⟨fb, fo, none⟩ ∧ w5.cell? ⟨fb, fo + i, none⟩ = some (.slice FA2 (fl[i]).length c2) ∧ RdF w5 FA2 fl[i] ∧ (fl[i] ≠ [] → ∀ b off, FA2 = some ⟨b, off, none⟩ → b ≠ p) from fun hf1 => by
                  obtain ⟨fb, fo, hFA, hfc⟩ := HF.out (by intro e; simp [e] at hf1)
                  obtain ⟨FA2, c2, d0, hfd, hfm⟩ := hfc i fl[i] (by simp [hf1])
                  have lfb := block_lt_of_cell d0
                  simp only at lfb
                  refine ⟨fb, fo, FA2, c2, hFA, (World.cell?_of_block (HW5.out.kept.block fb lfb id)).trans d0, RdF.kept0 hfd HW5.out.kept, fun hne b off e => ?_⟩
                  obtain ⟨b', off', e', hcc⟩ := hfd hne
                  rw [e'] at e
                  cases e
                  obtain ⟨y, ys, hys⟩ := List.exists_cons_of_ne_nil hne
                  have := block_lt_of_cell (hcc 0 y (by rw [hys]; rfl)).1
                  simp only at this
                  have h2 := HW5.out.fresh p (.inr (.inl rfl))
                  omega)
                obtain ⟨bb, hbb⟩ : ∃ bb, bb = decide (i < fl.length ∧ (fl.getD i []).length < 50) := ⟨_, rfl⟩
                have HBB := Lib.hid hbb
                clear hbb
                go_upto_region 22 with fail
                go_cut [81] from 70 to 81 (fun v wx => v = .bool bb ∧ w5 = wx)
                case first =>
                  by_cases hf1 : i < fl.length
                  · obtain ⟨fb, fo, FA2, c2, hFA, d1, -, -⟩ := HD.out hf1
                    have egd : fl.getD i [] = fl[i] := by rw [List.getD_eq_getElem?_getD, List.getElem?_eq_getElem hf1]; rfl
                    rw [egd] at HBB
                    generalize fl[i] = fs at d1 HBB
                    subst hFA
                    clear HD egd
                    have f0 : (i : Int) < (fl.length : Int) := by omega
                    by_cases hf2 : fs.length < 50
                    · have f1 : (fs.length : Int) < 50 := by omega
                      have HB2 := Lib.hid (show bb = true from by rw [HBB.out]; exact decide_eq_true ⟨hf1, hf2⟩)
                      go_wp2
                      go_meet
                      exact ⟨by rw [HB2.out], rfl⟩
                    · have f1 : ¬ (fs.length : Int) < 50 := by omega
                      have HB2 := Lib.hid (show bb = false from by rw [HBB.out]; exact decide_eq_false (fun h => hf2 h.2))
                      go_wp2
                      go_meet
                      exact ⟨by rw [HB2.out], rfl⟩
                  · have f0 : ¬ (i : Int) < (fl.length : Int) := by omega
                    have HB2 := Lib.hid (show bb = false from by rw [HBB.out]; exact decide_eq_false (fun h => hf1 h.1))
                    go_wp2
                    go_meet
                    exact ⟨by rw [HB2.out], rfl⟩
                case rest =>
                obtain ⟨rfl, rfl⟩ := hcut
                go_upto_if 81 with fail
                go_cut [19, 81] from 70 to 85 (fun v _ wx => ∃ fs A c, v = .slice A (List.length (α := Int × UInt8) fs) c ∧ RdF w5 A fs ∧ (fs ≠ [] → ∀ b off, A = some ⟨b, off, none⟩ → b ≠ p) ∧ fs.length ≤ 4611686018427387904 ∧ w5 = wx)
                case first =>
                  cases hb : bb with
                  | true =>
                    obtain ⟨hf1, hfl⟩ : i < fl.length ∧ (fl.getD i []).length < 50 := of_decide_eq_true (HBB.out.symm.trans hb)
                    obtain ⟨fb, fo, FA2, c2, hFA, d1, h1, h2⟩ := HD.out hf1
                    have egd : fl.getD i [] = fl[i] := by rw [List.getD_eq_getElem?_getD, List.getElem?_eq_getElem hf1]; rfl
                    rw [egd] at hfl
                    have f0 : (i : Int) < (fl.length : Int) := by omega
                    have HFD := Lib.hid h1
                    have HAP := Lib.hid h2
                    generalize fl[i] = fs at d1 HFD HAP hfl
                    subst hb
                    subst hFA
                    clear HD egd h1 h2 HBB
                    go_wp2
                    go_meet
                    exact ⟨fs, FA2, c2, rfl, HFD.out, HAP.out, by omega, rfl⟩
                  | false =>
                    subst hb
                    clear HD HBB
                    go_wp2
                    go_meet
                    exact ⟨[], none, 0, rfl, fun h => absurd rfl h, fun h => absurd rfl h, by decide, rfl⟩
                case rest =>
                  obtain ⟨fs, FA2, c2, rfl, hrf2, hap2, hln2, rfl⟩ := hcut
                  obtain ⟨jq, ejq, _, hbad, hch, L3, D3, k, hop, hk1, hk2, hI3, ho3, ht3⟩ := HKC.out fs
                  rw [← HJS.out] at ejq
                  subst ejq
                  have HWK := Lib.hid (HW5.out.wake FA2 c2 fs hrf2 hap2 hln2)
                  have HBAD := Lib.hid hbad
                  have HCH := Lib.hid hch
                  have HOP := Lib.hid hop
                  have HI3 := Lib.hid hI3
                  have HO3 := Lib.hid ho3
                  have HT3 := Lib.hid ht3
                  have hk2' : k ≤ rows.length := by rw [HRL.out]; exact hk2
                  have c0 : ¬ (k : Int) < (jq : Int) := by omega
                  have c1 : ¬ (rows.length : Int) < (k : Int) := by omega
                  clear hbad hch hop hI3 ho3 ht3 HKC hrf2 hap2 hln2 hk2
                  go_wp2_with fail
                  refine HWK.out.mono ?_
                  rintro e w6 ⟨rfl, hW6⟩
                  have HOP2 := Lib.hid (hW6.open HBAD.out HCH.out HOP.out)
                  clear hW6 HWK HBAD HCH HOP
                  go_wp2_with fail
                  refine HOP2.out.mono ?_
                  rintro e w7 ⟨q', lv', tv', rfl, hW7⟩
                  have HW7 := Lib.hid hW7
                  have HFR := Lib.hid (hW7.from HI3.out)
                  rw [HO3.out] at HFR
                  clear hW7 HOP2
                  go_wp2_with fail
                  refine HFR.out.mono ?_
                  rintro e w8 ⟨hk8, v, rows2, rfl, hrv, hrm⟩
                  have HW8 := Lib.hid (HW7.out.keep0 hk8)
                  obtain ⟨A8, c8, rfl, -, -, -⟩ := (RecsM.recs hrv).slice
                  have hl8 : rows2.length = k := by
                    have := congrArg List.length hrm
                    have h2 := HRL.out
                    simp at this
                    omega
                  rw [hl8]
                  clear hk8 hrv hrm hl8 HFR
                  go_wp2_with (refine wl_val rfl (exec_slRH _ _ k rfl Aa rows.length ca (k : Int) rfl rfl rfl (by omega) _) ?_)
                  go_wp2
                  go_meet
                  exact ⟨q', lv', tv', L3, D3, R.take k, rows.take k, k, by rw [HT3.out], rfl, rfl, HW8.out.sub (HW8.out.all.take k (by omega)) (fun x hx => List.mem_of_mem_take hx), by rw [List.map_take]; exact HI3.out⟩
      case rest =>
        clear HW HI K HRL hrf hca
        obtain ⟨q, lv, tv, L, D, R, rows, js, rfl, rfl, rfl, hW, hI⟩ := hcut
        obtain ⟨Ab, cb, rfl, hcb, -, -⟩ := hW.all.slice
        have HW := Lib.hid hW
        have HI := Lib.hid hI
        have HOL := Lib.hid (oldest_any wc q p lv tv L hW.log.hq)
        have HFR := Lib.hid (hW.from hI)
        clear hW hI
        go_wp2_with fail
        refine HOL.out.mono ?_
        rintro e wx ⟨rfl, rfl⟩
        go_wp2_with fail
        refine HFR.out.mono ?_
        rintro e w4 ⟨hk4, v, rows2, rfl, hrv, hrm⟩
        have HW4 := Lib.hid (HW.out.keep0 hk4)
        have HR2 := Lib.hid (RecsM.recs hrv)
        have hl2 : rows2.length = rows.length := by
          have h1 := congrArg List.length hrm
          have h2 := congrArg List.length HI.out.al
          simp at h1 h2
          omega
        have hrf : rows.length ≤ 60 := by
          have h2 := congrArg List.length HI.out.al
          have h3 := HI.out.few
          simp at h2
          omega
        have HAT := Lib.hid (show ∀ k (h1 : k < rows2.length) (h2 : k < rows.length), stripR rows2[k].r = stripR rows[k].r ∧ rows[k].r.old.length ≤ 200 ∧ rows[k].r.new.length ≤ 200 from fun k h1 h2 => by
          have e1 : (rows2.map (fun x => x.r))[k]? = R[k]? := by rw [hrm]
          have e2 : (rows.map (fun x => x.r))[k]? = (R.map stripR)[k]? := by rw [HI.out.al]
          rw [List.getElem?_map, List.getElem?_eq_getElem h1] at e1
          rw [List.getElem?_map, List.getElem?_eq_getElem h2, List.getElem?_map, ← e1] at e2
          have e3 : rows[k].r = stripR rows2[k].r := Option.some.inj e2
          refine ⟨by rw [e3]; rfl, HW.out.small _ (List.getElem_mem h2)⟩)
        obtain ⟨A2, c2, rfl, -, -, hc2⟩ := HR2.out.slice
        obtain ⟨A3, c3, e3, -, -, hc3⟩ := HW4.out.all.slice
        have HC2 := Lib.hid hc2
        have HC3 := Lib.hid (show ∀ k (hk : k < rows.length), ∃ g off, Ab = some ⟨g, off, none⟩ ∧ ∀ j u, (recC rows[k].r rows[k].A1 rows[k].c1 rows[k].A2 rows[k].c2)[j]? = some u → w4.cell? ⟨g, off + k * 10 + j, none⟩ = some u from by
          injection e3 with e3
          rw [e3]; exact hc3)
        have HL2 := Lib.hid hl2
        rw [hl2]
        clear hk4 hrv hrm hl2 e3 hc2 hc3 HOL HFR HW
        go_wp2_with fail
        go_loopw [24] (fun kv wz => ∃ k, k ≤ rows.length ∧ kv = .int .i64 (k : Nat) ∧ Kept (fun _ => False) w4 wz) (fun kv wz => rows.length - (intOf kv).toNat)
        case atStart => exact ⟨0, Nat.zero_le _, rfl, Kept.refl _ _⟩
        case round =>
          obtain ⟨k, hk, rfl, hkz⟩ := hrel
          have HKZ := Lib.hid hkz
          clear hkz
          by_cases hkl : k < rows.length
          · have k0 : (0 : Int) ≤ (k : Int) := by omega
            have k1 : (k : Int) < (rows.length : Int) := by omega
            have hkl2 : k < rows2.length := by rw [HL2.out]; exact hkl
            obtain ⟨ga, oa, rfl, ca4⟩ := HC2.out k hkl2
            obtain ⟨gb, ob, rfl, cb4⟩ := HC3.out k hkl
            obtain ⟨st, sm1, sm2⟩ := HAT.out k hkl2 hkl
            obtain ⟨oa1, oa2⟩ := HR2.out.own _ (List.getElem_mem hkl2)
            obtain ⟨ob1, ob2⟩ := HW4.out.all.own _ (List.getElem_mem hkl)
            generalize rows2[k] = x2 at ca4 st oa1 oa2
            generalize rows[k] = x1 at cb4 st ob1 ob2 sm1 sm2
            go_wp2_with fail
            obtain ⟨T, f, hne, hT0, hT3, hT4⟩ := class_anyL wr
            have HT0 := Lib.hid hT0
            have HT3 := Lib.hid hT3
            have HKF := Lib.hid (fun n => HKZ.out.trans0 (hT4 n))
            have HG1 := Lib.hid (show ∀ w, (∃ n : T, w = f n) → ∀ (j : Nat) u, (recC x2.r x2.A1 x2.c1 x2.A2 x2.c2)[j]? = some u → w.cell? ⟨ga, oa + k * 10 + j, none⟩ = some u from by
              rintro _ ⟨n, rfl⟩ j u hu
              have h1 := ca4 j u hu
              have lb := block_lt_of_cell h1
              simp only at lb
              exact (World.cell?_of_block ((HKF.out n).block ga lb id)).trans h1)
            have HG2 := Lib.hid (show ∀ w, (∃ n : T, w = f n) → ∀ (j : Nat) u, (recC x1.r x1.A1 x1.c1 x1.A2 x1.c2)[j]? = some u → w.cell? ⟨gb, ob + k * 10 + j, none⟩ = some u from by
              rintro _ ⟨n, rfl⟩ j u hu
              have h1 := cb4 j u hu
              have lb := block_lt_of_cell h1
              simp only at lb
              exact (World.cell?_of_block ((HKF.out n).block gb lb id)).trans h1)
            have eo : x1.r.old = x2.r.old := (congrArg RecM.old st).symm
            have en : x1.r.new = x2.r.new := (congrArg RecM.new st).symm
            have HAL := Lib.hid (fun n => alike_any x2.r x1.r x2.A1 x2.A2 x1.A1 x1.A2 x2.c1 x2.c2 x1.c1 x1.c2 (f n) st (oa1.keep (HKF.out n) (fun _ _ => id)).rd (ob1.keep (HKF.out n) (fun _ _ => id)).rd (oa2.keep (HKF.out n) (fun _ _ => id)).rd (ob2.keep (HKF.out n) (fun _ _ => id)).rd (by rw [← eo]; omega) (by rw [← en]; omega))
            clear hT0 hT3 hT4 eo en ca4 cb4 oa1 oa2 ob1 ob2 st sm1 sm2
            refine wp_region_quiet_clsL (C := fun w' => ∃ n : T, w' = f n) (by kernel_rfl) (by kernel_rfl) HT0.out ?_
            iterate 3 (go_big_quiet_step (fail))
            refine wq_load_midL rfl 27 _ rfl ga (oa + k * 10) rfl (recC x2.r x2.A1 x2.c1 x2.A2 x2.c2) HG1.out Try.underlying27 rfl sizeRec ?_
            simp only [Act.put, List.setIfInBounds_toArray, List.set_cons_zero, List.set_cons_succ]
            iterate 3 (go_big_quiet_step (fail))
            refine wq_load_midL rfl 27 _ rfl gb (ob + k * 10) rfl (recC x1.r x1.A1 x1.c1 x1.A2 x1.c2) HG2.out Try.underlying27 rfl sizeRec ?_
            simp only [Act.put, List.setIfInBounds_toArray, List.set_cons_zero, List.set_cons_succ]
            repeat (go_big_quiet_step (first | (go_at_call 36; exact (HAL.out _).mono (fun _ _ h => ⟨h.1, HT3.out _ _ h.2⟩))))
            refine wpQuiet_nil ?_
            intro _ hw'
            obtain ⟨nq, hw''⟩ := hw'
            subst hw''
            have HK9 := Lib.hid (HKF.out nq)
            generalize f nq = w9 at HK9 ⊢
            go_wp2
            go_roundw
            case rel => exact ⟨k + 1, by omega, by go_num, HK9.out⟩
            case measure => simp [intOf]; omega
          · have k1 : ¬ (k : Int) < (rows.length : Int) := by omega
            have HWz := Lib.hid (HW4.out.keep0 HKZ.out)
            go_wp2
            go_roundw
            case rel => exact ⟨i + 1, by omega, by go_num, q, lv, tv, L, D, R, rows, js, rfl, rfl, rfl, HWz.out, HI.out⟩
            case measure => simp [intOf]; omega
    · have i1 : ¬ (i : Int) < (l.length : Int) := by omega
      go_wp2
      go_ret
      exact ⟨rfl, K.out⟩
end Go.Proofs.Ytbolbddjmmfepaa
