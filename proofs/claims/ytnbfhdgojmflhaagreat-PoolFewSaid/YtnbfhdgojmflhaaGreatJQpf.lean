/-
  No statement is proved here: a part of what the claim's last text rests on.
-/
import Derived.Test.YtnbfhdgojmflhaaGreatJQpu
import Derived.Test.YtnbfhdgojmflhaaGreatJQrl
import Derived.Test.YtnbfhdgojmflhaaGreatJQap
namespace Go.Proofs.YtnbfhdgojmflhaaGreat
open Go.RowKit
section
variable {w w' w1 wr : World} {a b : Adr} {P Q P' Q' : PoolM} {L M L' M' : LogM} {D E D' E' : DevM}
theorem zeroDeed (wz : World) : (zeroValue 30).run Tryz.prog wz = .ok (.agg (deC ⟨0, 0, 0, 0, [], 0, false⟩ none 0 0 none 0).toArray) wz := (zero_of_info (n := 8) (by kernel_rfl)).1 wz
theorem one_de (y : DeM) (OA : Option Addr) (on oc : Nat) (NA : Option Addr) (nc : Nat) : (deC y OA on oc NA nc).toArray.all (·.oneCell') = true := by
  unfold deC
  simp [Value.oneCell']
set_option maxRecDepth 100000 in
set_option maxHeartbeats 3200000 in
theorem few_any (w : World) (A : Option Addr) (c : Nat) (l : List DeM) (hl : RdDe w A l) (hlm : l.length ≤ maxLen) : Calls Tryz.prog 3 #[.slice A l.length c] w fun e w' => e = .returned (.bool true) ∧ Kept (fun _ => False) w w' := by
  have HL := Lib.hid hl
  clear hl
  obtain ⟨n, hn⟩ : ∃ n, n = l.length := ⟨_, rfl⟩
  have HN := Lib.hid hn
  rw [← hn] at hlm ⊢
  have e63 : maxLen = 9223372036854775807 := rfl
  clear hn
  go_enter Tryz.func3, Tryz.ntmps3
  go_wp2_with fail
  refine (awake11_any w).mono ?_
  rintro e w1 ⟨rfl, hk1⟩
  have HK1 := Lib.hid hk1
  clear hk1
  by_cases h80 : 80 < (n : Int)
  · go_wp2
    go_ret
    exact ⟨rfl, HK1.out⟩
  · go_wp2_with fail
    refine (begin11_any w1 30 8 (by decide) (by decide) (by decide) (by decide) open42 (by rw [chain42]; decide)).mono ?_
    rintro e w2 ⟨rg, a, rfl, hr, hk2, hrg, hfr⟩
    go_wp2_with fail
    refine (begin11_any w2 30 40 (by decide) (by decide) (by decide) (by decide) open42 (by rw [chain42]; decide)).mono ?_
    rintro e w3 ⟨rh, b, rfl, hr3, hk3, hrh, hfr3⟩
    have HT := Lib.hid (show TwoR w w3 rg a (newPool 12 30 8) rigL0 (newM (12 + 30)) rh b (newPool 12 30 40) rigL0 (newM (12 + 30)) from
      let t := TwoR.start hr hk2 hfr hr3 hk3 hfr3
      ⟨t.s, t.t, t.ap, HK1.out.trans0 t.kp, fun x hx => by have := t.fa x hx; have := HK1.out.size; omega, fun x hx => by have := t.fb x hx; have := HK1.out.size; omega⟩)
    clear hr hk2 hfr hr3 hk3 hfr3
    unfold ptrV
    go_wp2_with fail
    go_loopw [5] (fun i wr => ∃ (k : Nat) (a : Adr) (P : PoolM) (L : LogM) (D : DevM) (b : Adr) (Q : PoolM) (M : LogM) (E : DevM), i = .int .i64 k ∧ k ≤ n ∧ TwoR w wr rg a P L D rh b Q M E ∧ FewI k P L D Q M E) (fun i _ => n - (intOf i).toNat)
    case atStart => exact ⟨0, a, _, _, _, b, _, _, _, rfl, Nat.zero_le _, HT.out, FewI.start⟩
    case round =>
      clear HT
      obtain ⟨k, a, P, L, D, b, Q, M, E, rfl, hk, hT, hF⟩ := hrel
      have HT := Lib.hid hT
      have HF := Lib.hid hF
      clear hT hF
      by_cases hkn : k < n
      · have hkl : k < l.length := by rw [← HN.out]; exact hkn
        obtain ⟨y, hy⟩ : ∃ y, l[k]? = some y := ⟨_, List.getElem?_eq_getElem hkl⟩
        obtain ⟨gA, oA, hA, hrow⟩ := HL.out (by rintro rfl; simp at hkl)
        obtain ⟨OA, on, oc, NA, nc, hcells, hrd, ho1, ho2, ho3, ho4, hnl⟩ := hrow k y hy
        have hkni : (k : Int) < (n : Int) := by omega
        subst hA
        have HRD := Lib.hid (hrd.kept HT.out.kp (fun _ _ _ _ => id))
        have HNA := Lib.hid (show 0 < y.new.length → ∀ b o, NA = some ⟨b, o, none⟩ → b < w.heap.size from fun h0 b o e => by
          obtain ⟨b', o', e', hc⟩ := hrd.cell h0
          rw [e'] at e
          injection e with e
          injection e with e
          subst e
          exact block_lt_of_cell hc)
        have HC := Lib.hid (show ∀ j v, (deC y OA on oc NA nc).toArray[j]? = some v → wr.cell? ⟨gA, (oA + k * 8) + j, none⟩ = some v from fun j v hv => by
          have hj : j < 8 := by
            have := (Array.getElem?_eq_some_iff.1 hv).1
            simpa [deC] using this
          have h1 := hcells j hj
          rw [show (deC y OA on oc NA nc)[j]? = some v by simpa using hv] at h1
          exact (World.cell?_of_block (HT.out.kp.block _ (block_lt_of_cell h1) id)).trans h1)
        clear hy hrow hcells hrd hkl
        go_wp2_with (first
          | refine wl_load_mid rfl 30 _ rfl gA (oA + k * 8) rfl (deC y OA on oc NA nc).toArray HC.out Tryz.underlying30 rfl (by kernel_rfl) ?_
          | refine wl_alloc' rfl 30 rfl (deC ⟨0, 0, 0, 0, [], 0, false⟩ none 0 0 none 0).toArray zeroDeed ?_)
        intro db w4 l1 l2 hb4 hk4
        refine wl_store_row rfl 30 _ _ rfl db (deC y OA on oc NA nc).toArray _ rfl rfl hb4 (by kernel_rfl) rfl (one_de _ _ _ _ _ _) ?_
        intro w5 hb5 hk5
        have hk45 : Kept (fun _ => False) wr w5 := hk4.new hk5 (fun z hz => by subst hz; exact l1)
        have HT5 := Lib.hid (HT.out.keep0 hk45)
        have HRD5 := Lib.hid (HRD.out.kept hk45 (fun _ _ _ _ => id))
        have HDB := Lib.hid (show w5.heap[db]? = some (.cells (deC y OA on oc NA nc).toArray 30 (0, 0)) from hb5)
        have d0 : w5.cell? ⟨db, 0, none⟩ = some (.int .i64 y.kind) := cell_blk hb5 rfl
        have d1 : w5.cell? ⟨db, 1, none⟩ = some (.int .i64 y.page) := cell_blk hb5 rfl
        have d5 : w5.cell? ⟨db, 5, none⟩ = some (.slice NA y.new.length nc) := cell_blk hb5 rfl
        have HPK := Lib.hid (pick_any y.page 30 (by decide) w5)
        clear hb4 hk4 hb5 hk5 hk45 l1 l2 HT HRD HC
        go_wp2_with fail
        refine HPK.out.mono ?_
        rintro e wx ⟨rfl, rfl⟩
        obtain ⟨pg, hpg⟩ : ∃ pg, pg = pickM y.page 30 := ⟨_, rfl⟩
        have hpb := pickM_lt (x := y.page) (n := 30) (by decide)
        rw [← hpg] at hpb ⊢
        obtain ⟨pg0, pg1⟩ := hpb
        clear hpg HPK
        go_upto_region 11 with fail
        go_cut [54] from 34 to 54 (fun v wx => w5 = wx ∧ ∃ bb : Bool, v = .bool bb ∧ (bb = true → 0 < y.new.length ∧ y.new.length < 50))
        case first =>
          by_cases t1 : 0 < (y.new.length : Int)
          · by_cases t2 : (y.new.length : Int) < 50
            · go_wp2
              go_meet
              case rel => exact ⟨rfl, _, rfl, fun _ => ⟨by omega, by omega⟩⟩
            · go_wp2
              go_meet
              case rel => exact ⟨rfl, false, rfl, fun h => by cases h⟩
          · go_wp2
            go_meet
            case rel => exact ⟨rfl, false, rfl, fun h => by cases h⟩
        case rest =>
          obtain ⟨rfl, bb, rfl, hbb⟩ := hcut
          go_upto_if 54 with fail
          go_cut [8, 54] from 55 to 90 (fun _ _ wx => ∃ (a : Adr) (P : PoolM) (L : LogM) (D : DevM) (b : Adr) (Q : PoolM) (M : LogM) (E : DevM), TwoR w wx rg a P L D rh b Q M E ∧ FewI (k + 1) P L D Q M E)
          case first =>
            cases bb
            · go_wp2
              go_meet
              case rel => exact ⟨a, P, L, D, b, Q, M, E, HT5.out, HF.out.late (by omega)⟩
            · obtain ⟨hb1, hb2⟩ := hbb rfl
              clear hbb
              have hm0 : y.new ≠ [] := by intro h; rw [h] at hb1; simp at hb1
              have HM0 := Lib.hid hm0
              have e512 : IntKind.i64.wrap (512 - (y.new.length : Int)) = 512 - (y.new.length : Int) := by rw [IntKind.wrap_i64]; omega
              have HPO := Lib.hid (fun (w' : World) => pick_any y.off (512 - y.new.length) (by omega) w')
              obtain ⟨off, hoff⟩ : ∃ off, off = pickM y.off (512 - y.new.length) := ⟨_, rfl⟩
              have hob := pickM_lt (x := y.off) (n := 512 - y.new.length) (by omega)
              rw [← hoff] at hob HPO
              obtain ⟨of0, of1⟩ := hob
              clear hoff hm0
              have BS := fun wz => bSpn pg off NA y.new.length nc wz
              have HS0 := Lib.hid (show (w5.drew).heap[db]? = some (.cells (deC y OA on oc NA nc).toArray 30 (0, 0)) from HDB.out)
              have HDC := Lib.hid (fun (w' : World) (h : w'.heap[db]? = some (.cells (deC y OA on oc NA nc).toArray 30 (0, 0))) => show w'.cell? ⟨db, 3, none⟩ = some (.int .i64 y.off) ∧ w'.cell? ⟨db, 5, none⟩ = some (.slice NA y.new.length nc) from ⟨cell_blk h rfl, cell_blk h rfl⟩)
              go_wp2_with fail
              refine startL 15 (fun w' => w'.heap[db]? = some (.cells (deC y OA on oc NA nc).toArray 30 (0, 0))) (by kernel_rfl) HS0.out (fun hH => ?_)
              simp only [List.length_cons, List.length_nil, List.replicate]
              refine takeL 0 ?_ rfl (by kernel_rfl) (fun _ _ _ h => h) (by rfl) (fun w' hw' => ?_) hH ?_
              rotate_left
              · obtain ⟨c3, c5⟩ := HDC.out w' hw'
                go_simp
                all_goals with_reducible rfl
              simp only [Act.put, List.setIfInBounds_toArray, List.set_cons_zero, List.set_cons_succ]
              refine takeL 1 ?_ rfl (by kernel_rfl) (fun _ _ _ h => h) (by rfl) (fun w' hw' => ?_) hH ?_
              rotate_left
              · obtain ⟨c3, c5⟩ := HDC.out w' hw'
                go_simp
                all_goals with_reducible rfl
              simp only [Act.put, List.setIfInBounds_toArray, List.set_cons_zero, List.set_cons_succ]
              refine takeL 2 ?_ rfl (by kernel_rfl) (fun _ _ _ h => h) (by rfl) (fun w' hw' => ?_) hH ?_
              rotate_left
              · obtain ⟨c3, c5⟩ := HDC.out w' hw'
                go_simp
                all_goals with_reducible rfl
              simp only [Act.put, List.setIfInBounds_toArray, List.set_cons_zero, List.set_cons_succ]
              refine takeL 3 ?_ rfl (by kernel_rfl) (fun _ _ _ h => h) (by rfl) (fun w' hw' => ?_) hH ?_
              rotate_left
              · obtain ⟨c3, c5⟩ := HDC.out w' hw'
                go_simp
                all_goals with_reducible rfl
              simp only [Act.put, List.setIfInBounds_toArray, List.set_cons_zero, List.set_cons_succ]
              refine takeL 4 ?_ rfl (by kernel_rfl) (fun _ _ _ h => h) (by rfl) (fun w' hw' => ?_) hH ?_
              rotate_left
              · obtain ⟨c3, c5⟩ := HDC.out w' hw'
                go_simp
                all_goals with_reducible rfl
              simp only [Act.put, List.setIfInBounds_toArray, List.set_cons_zero, List.set_cons_succ]
              refine takeL 5 ?_ rfl (by kernel_rfl) (fun _ _ _ h => h) (by rfl) (fun w' hw' => ?_) hH ?_
              rotate_left
              · obtain ⟨c3, c5⟩ := HDC.out w' hw'
                go_simp
                all_goals with_reducible rfl
              simp only [Act.put, List.setIfInBounds_toArray, List.set_cons_zero, List.set_cons_succ]
              refine takeL 6 ?_ rfl (by kernel_rfl) (fun _ _ _ h => h) (by rfl) (fun w' hw' => ?_) hH ?_
              rotate_left
              · obtain ⟨c3, c5⟩ := HDC.out w' hw'
                go_simp
                all_goals with_reducible rfl
              simp only [Act.put, List.setIfInBounds_toArray, List.set_cons_zero, List.set_cons_succ]
              refine takeL 7 ?_ rfl (by kernel_rfl) (fun _ _ _ h => h) (by rfl) (fun w' hw' => ?_) hH ?_
              rotate_left
              · obtain ⟨c3, c5⟩ := HDC.out w' hw'
                go_simp
                all_goals with_reducible rfl
              simp only [Act.put, List.setIfInBounds_toArray, List.set_cons_zero, List.set_cons_succ]
              refine takeL 8 ?_ rfl (by kernel_rfl) (fun _ _ _ h => h) (by rfl) (fun w' hw' => ?_) hH ?_
              rotate_left
              · obtain ⟨c3, c5⟩ := HDC.out w' hw'
                go_simp
                all_goals with_reducible rfl
              simp only [Act.put, List.setIfInBounds_toArray, List.set_cons_zero, List.set_cons_succ]
              refine takeC 9 (.int .i64 off) rfl (by kernel_rfl) (fun _ _ _ h => h) (by rfl) (by intro h; cases h) 11 #[.int .i64 y.off, .int .i64 (512 - y.new.length)] (fun w' _ => by go_simp) (fun w' _ => HPO.out w') hH ?_
              simp only [Act.put, List.setIfInBounds_toArray, List.set_cons_zero, List.set_cons_succ]
              refine takeL 10 ?_ rfl (by kernel_rfl) (fun _ _ _ h => h) (by rfl) (fun w' hw' => ?_) hH ?_
              rotate_left
              · obtain ⟨c3, c5⟩ := HDC.out w' hw'
                go_simp
                all_goals with_reducible rfl
              simp only [Act.put, List.setIfInBounds_toArray, List.set_cons_zero, List.set_cons_succ]
              refine takeL 11 ?_ rfl (by kernel_rfl) (fun _ _ _ h => h) (by rfl) (fun w' hw' => ?_) hH ?_
              rotate_left
              · obtain ⟨c3, c5⟩ := HDC.out w' hw'
                go_simp
                all_goals with_reducible rfl
              simp only [Act.put, List.setIfInBounds_toArray, List.set_cons_zero, List.set_cons_succ]
              refine takeL 12 ?_ rfl (by kernel_rfl) (fun _ _ _ h => h) (by rfl) (fun w' hw' => ?_) hH ?_
              rotate_left
              · obtain ⟨c3, c5⟩ := HDC.out w' hw'
                go_simp
                all_goals with_reducible rfl
              simp only [Act.put, List.setIfInBounds_toArray, List.set_cons_zero, List.set_cons_succ]
              refine takeL 13 ?_ rfl (by kernel_rfl) (fun _ _ _ h => h) (by rfl) (fun w' hw' => ?_) hH ?_
              rotate_left
              · have bs := BS w'
                go_simp
                all_goals with_reducible rfl
              simp only [Act.put, List.setIfInBounds_toArray, List.set_cons_zero, List.set_cons_succ]
              refine stepL 14 rfl (by kernel_rfl) (fun K hK => ?_)
              refine step_alloc rfl 28 rfl (spnC 0 0 none 0 0 none 0 0) zeroSpn ?_
              intro sb w6 l1 l2 hb6 hk6
              have HD6 := Lib.hid (hk6.heap hH id)
              refine hK.out _ _ (fun _ => HD6.out) (fun _ => ?_)
              simp only [List.setIfInBounds_toArray, List.set_cons_zero, List.set_cons_succ]
              clear hK K
              refine stepL 15 rfl (by kernel_rfl) (fun K hK => ?_)
              refine step_store_row rfl 28 _ _ rfl sb (spnC pg off none 0 0 NA y.new.length nc) _ rfl rfl hb6 (by kernel_rfl) rfl (one_spn _ _ _ _ _ _ _ _) ?_
              intro w7 hb7 hk7
              refine hK.out _ _ (fun h => absurd rfl h) (fun _ => ?_)
              simp only [List.setIfInBounds_toArray, List.set_cons_zero, List.set_cons_succ]
              clear hK K hH
              refine doneL (by kernel_rfl) ?_ _
              have hk57 : Kept (fun _ => False) w5 w7 := ((Kept.refl (fun _ => False) w5).drew.trans0 hk6).new hk7 (fun z hz => by subst hz; exact l1)
              have HTB := Lib.hid ((HT5.out.keep0 hk57).keep0 ((Kept.refl (fun _ => False) w7).drew))
              have HRB := Lib.hid ((HRD5.out.kept hk57 (fun _ _ _ _ => id)).kept ((Kept.refl (fun _ => False) w7).drew) (fun _ _ _ _ => id))
              have HSB := Lib.hid (show (w7.drew).heap[sb]? = some (.cells (spnC pg off none 0 0 NA y.new.length nc) 28 (0, 0)) from hb7)
              have HNW := Lib.hid (fun b o (e : NA = some ⟨b, o, none⟩) => show b < w.heap.size from HNA.out (by omega) b o e)
              have hsw : w.heap.size ≤ sb := by have := HT5.out.kp.size; exact Nat.le_trans this l1
              clear BS HPO HS0 HDC HD6 hb6 hk6 hb7 hk7 hk57 l1 l2 HT5 HRD5 HDB d0 d1 d5
              obtain ⟨wx, hwx⟩ : ∃ wx, wx = w7.drew := ⟨_, rfl⟩
              have HWX := Lib.hid hwx
              rw [← hwx] at HTB HRB HSB
              clear hwx
              obtain ⟨L1, D1, P2, L2, D2, q1, q2, q3, q4, q5, q6, q7, q8, q9, q10⟩ := rig_put_any HTB.out.s HF.out.i (page := pg) (off := off) (m := y.new) (NA := NA) (nc := nc) pg0 (by rw [HF.out.pb.1]; exact pg1) (by omega) of0 HM0.out (by omega) HF.out.f1.1 (by have := HF.out.fin.1; have := HN.out; omega) HF.out.tu.1 HRB.out (fun b o e _ hK => by have := HNW.out b o e; have := HTB.out.fa b hK; omega)
              have HQ1 := Lib.hid q1
              have HQ2 := Lib.hid q2
              have HQ := Lib.hid (⟨q3, q4, q5, q6, q7, q8⟩ : (∀ p, 0 ≤ p → p < P.blocks → P2.cur D2 p = if p = pg then layO (P.cur D pg) off.toNat y.new else P.cur D p) ∧ P2.blocks = P.blocks ∧ P2.most = P.most ∧ L2.turn = 1 ∧ 1 ≤ L2.fin ∧ L2.fin ≤ L.fin + 1075)
              have HAP := Lib.hid q9
              have HCH := Lib.hid q10
              clear q1 q2 q3 q4 q5 q6 q7 q8 q9 q10
              have HS0 := Lib.hid (show wx.heap[rg]? = some (.cells (rigC a) 37 (0, 0)) ∧ wx.heap[rh]? = some (.cells (rigC b) 37 (0, 0)) ∧ wx.heap[sb]? = some (.cells (spnC pg off none 0 0 NA y.new.length nc) 28 (0, 0)) from ⟨HTB.out.s.hr, HTB.out.t.hr, HSB.out⟩)
              have HC := Lib.hid (fun (w' : World) (h : w'.heap[rg]? = some (.cells (rigC a) 37 (0, 0)) ∧ w'.heap[rh]? = some (.cells (rigC b) 37 (0, 0)) ∧ w'.heap[sb]? = some (.cells (spnC pg off none 0 0 NA y.new.length nc) 28 (0, 0))) => show w'.cell? ⟨rg, 2, none⟩ = some (.pointer (some ⟨a.pb, 0, none⟩)) ∧ w'.cell? ⟨rh, 2, none⟩ = some (.pointer (some ⟨b.pb, 0, none⟩)) ∧ w'.cell? ⟨sb, 0, none⟩ = some (.int .i64 pg) ∧ w'.cell? ⟨sb, 1, none⟩ = some (.int .i64 off) ∧ w'.cell? ⟨sb, 2, none⟩ = some (.slice none 0 0) ∧ w'.cell? ⟨sb, 3, none⟩ = some (.slice NA y.new.length nc) from
                ⟨cell_blk h.1 rfl, cell_blk h.2.1 rfl, cell_blk h.2.2 rfl, cell_blk h.2.2 rfl, cell_blk h.2.2 rfl, cell_blk h.2.2 rfl⟩)
              unfold ptrV at HAP HCH
              go_wp2_with fail
              refine startL 21 (fun w' => w'.heap[rg]? = some (.cells (rigC a) 37 (0, 0)) ∧ w'.heap[rh]? = some (.cells (rigC b) 37 (0, 0)) ∧ w'.heap[sb]? = some (.cells (spnC pg off none 0 0 NA y.new.length nc) 28 (0, 0))) (by kernel_rfl) (by rw [← HWX.out]; exact HS0.out) (fun hH => ?_)
              simp only [List.length_cons, List.length_nil, List.replicate]
              rw [← HWX.out] at hH ⊢
              refine takeL 0 ?_ rfl (by kernel_rfl) (fun _ _ _ h => h) (by rfl) (fun w' hw' => ?_) hH ?_
              rotate_left
              · obtain ⟨c0, c1, c2, c3, c4, c5⟩ := HC.out w' hw'
                go_simp
                all_goals with_reducible rfl
              simp only [Act.put, List.setIfInBounds_toArray, List.set_cons_zero, List.set_cons_succ]
              refine takeL 1 ?_ rfl (by kernel_rfl) (fun _ _ _ h => h) (by rfl) (fun w' hw' => ?_) hH ?_
              rotate_left
              · obtain ⟨c0, c1, c2, c3, c4, c5⟩ := HC.out w' hw'
                go_simp
                all_goals with_reducible rfl
              simp only [Act.put, List.setIfInBounds_toArray, List.set_cons_zero, List.set_cons_succ]
              refine takeL 2 ?_ rfl (by kernel_rfl) (fun _ _ _ h => h) (by rfl) (fun w' hw' => ?_) hH ?_
              rotate_left
              · obtain ⟨c0, c1, c2, c3, c4, c5⟩ := HC.out w' hw'
                go_simp
                all_goals with_reducible rfl
              simp only [Act.put, List.setIfInBounds_toArray, List.set_cons_zero, List.set_cons_succ]
              refine takeL 3 ?_ rfl (by kernel_rfl) (fun _ _ _ h => h) (by rfl) (fun w' hw' => ?_) hH ?_
              rotate_left
              · obtain ⟨c0, c1, c2, c3, c4, c5⟩ := HC.out w' hw'
                go_simp
                all_goals with_reducible rfl
              simp only [Act.put, List.setIfInBounds_toArray, List.set_cons_zero, List.set_cons_succ]
              refine takeL 4 ?_ rfl (by kernel_rfl) (fun _ _ _ h => h) (by rfl) (fun w' hw' => ?_) hH ?_
              rotate_left
              · obtain ⟨c0, c1, c2, c3, c4, c5⟩ := HC.out w' hw'
                go_simp
                all_goals with_reducible rfl
              simp only [Act.put, List.setIfInBounds_toArray, List.set_cons_zero, List.set_cons_succ]
              refine takeL 5 ?_ rfl (by kernel_rfl) (fun _ _ _ h => h) (by rfl) (fun w' hw' => ?_) hH ?_
              rotate_left
              · obtain ⟨c0, c1, c2, c3, c4, c5⟩ := HC.out w' hw'
                go_simp
                all_goals with_reducible rfl
              simp only [Act.put, List.setIfInBounds_toArray, List.set_cons_zero, List.set_cons_succ]
              refine takeL 6 ?_ rfl (by kernel_rfl) (fun _ _ _ h => h) (by rfl) (fun w' hw' => ?_) hH ?_
              rotate_left
              · obtain ⟨c0, c1, c2, c3, c4, c5⟩ := HC.out w' hw'
                go_simp
                all_goals with_reducible rfl
              simp only [Act.put, List.setIfInBounds_toArray, List.set_cons_zero, List.set_cons_succ]
              refine stepL 7 rfl (by kernel_rfl) (fun K hK => ?_)
              go_simp
              refine HAP.out.mono ?_
              rintro e w8 ⟨rfl, a1, ht1, hr1⟩
              have HT8 := Lib.hid (HTB.out.left ht1 hr1)
              have hsb1 : ¬ a.K sb := HTB.out.s.s.notT ⟨_, _, HSB.out⟩ (by decide) (by decide) (by decide) (by decide) (by decide) (by decide) (by decide)
              have HSB8 := Lib.hid (ht1.k.heap HSB.out hsb1)
              have HRB8 := Lib.hid (HRB.out.kept ht1.k (fun b o e _ hK => by have := HNW.out b o e; have := HTB.out.fa b hK; omega))
              have HFX := Lib.hid ht1.fix
              have hch := HCH.out w8 a1 hr1 HRB8.out (fun b o e _ hK => by have := HNW.out b o e; have := HT8.out.fa b hK; omega)
              rw [ht1.fix.pb] at hch
              have HC8 := Lib.hid hch
              clear ht1 hr1 hch HAP HCH
              go_simp
              refine hK.out _ _ (fun _ => ⟨by rw [← rigC_fix HFX.out]; exact HT8.out.s.hr, HT8.out.t.hr, HSB8.out⟩) (fun _ => ?_)
              simp only [List.setIfInBounds_toArray, List.set_cons_zero, List.set_cons_succ]
              clear hK K hH
              refine stepL 8 rfl (by kernel_rfl) (fun K hK => ?_)
              go_simp
              refine HC8.out.mono ?_
              rintro e w9 ⟨rfl, a2, ht2, hr2⟩
              have HT9 := Lib.hid (HT8.out.left ht2 hr2)
              have hsb2 : ¬ a1.K sb := HT8.out.s.s.notT ⟨_, _, HSB8.out⟩ (by decide) (by decide) (by decide) (by decide) (by decide) (by decide) (by decide)
              have HSB9 := Lib.hid (ht2.k.heap HSB8.out hsb2)
              have HRB9 := Lib.hid (HRB8.out.kept ht2.k (fun b o e _ hK => by have := HNW.out b o e; have := HT8.out.fa b hK; omega))
              have HFY := Lib.hid (HFX.out.trans ht2.fix)
              have HH9 := Lib.hid (show w9.heap[rg]? = some (.cells (rigC a) 37 (0, 0)) ∧ w9.heap[rh]? = some (.cells (rigC b) 37 (0, 0)) ∧ w9.heap[sb]? = some (.cells (spnC pg off none 0 0 NA y.new.length nc) 28 (0, 0)) from ⟨by rw [← rigC_fix HFY.out]; exact HT9.out.s.hr, HT9.out.t.hr, HSB9.out⟩)
              obtain ⟨M1, E1, Q2, M2, E2, r1, r2, r3, r4, r5, r6, r7, r8, r9, r10⟩ := rig_put_any HT9.out.t HF.out.j (page := pg) (off := off) (m := y.new) (NA := NA) (nc := nc) pg0 (by rw [HF.out.pb.2]; exact pg1) (by omega) of0 HM0.out (by omega) HF.out.f1.2 (by have := HF.out.fin.2; have := HN.out; omega) HF.out.tu.2 HRB9.out (fun b o e _ hK => by have := HNW.out b o e; have := HT9.out.fb b hK; omega)
              have HFN := Lib.hid (HF.out.put pg0 pg1 HQ2.out r2 HQ.out.1 r3 HQ.out.2.1 r4 HQ.out.2.2.1 HQ.out.2.2.2.1 r6 HQ.out.2.2.2.2.1 r7 HQ.out.2.2.2.2.2 r8)
              have HAP := Lib.hid r9
              have HCH := Lib.hid r10
              clear ht2 hr2 r1 r2 r3 r4 r5 r6 r7 r8 r9 r10 HC8
              unfold ptrV at HAP HCH
              go_simp
              refine hK.out _ _ (fun _ => HH9.out) (fun _ => ?_)
              simp only [List.setIfInBounds_toArray, List.set_cons_zero, List.set_cons_succ]
              clear hK K
              refine takeL 9 ?_ rfl (by kernel_rfl) (fun _ _ _ h => h) (by rfl) (fun w' hw' => ?_) HH9.out ?_
              rotate_left
              · obtain ⟨c0, c1, c2, c3, c4, c5⟩ := HC.out w' hw'
                go_simp
                all_goals with_reducible rfl
              simp only [Act.put, List.setIfInBounds_toArray, List.set_cons_zero, List.set_cons_succ]
              refine takeL 10 ?_ rfl (by kernel_rfl) (fun _ _ _ h => h) (by rfl) (fun w' hw' => ?_) HH9.out ?_
              rotate_left
              · obtain ⟨c0, c1, c2, c3, c4, c5⟩ := HC.out w' hw'
                go_simp
                all_goals with_reducible rfl
              simp only [Act.put, List.setIfInBounds_toArray, List.set_cons_zero, List.set_cons_succ]
              refine takeL 11 ?_ rfl (by kernel_rfl) (fun _ _ _ h => h) (by rfl) (fun w' hw' => ?_) HH9.out ?_
              rotate_left
              · obtain ⟨c0, c1, c2, c3, c4, c5⟩ := HC.out w' hw'
                go_simp
                all_goals with_reducible rfl
              simp only [Act.put, List.setIfInBounds_toArray, List.set_cons_zero, List.set_cons_succ]
              refine takeL 12 ?_ rfl (by kernel_rfl) (fun _ _ _ h => h) (by rfl) (fun w' hw' => ?_) HH9.out ?_
              rotate_left
              · obtain ⟨c0, c1, c2, c3, c4, c5⟩ := HC.out w' hw'
                go_simp
                all_goals with_reducible rfl
              simp only [Act.put, List.setIfInBounds_toArray, List.set_cons_zero, List.set_cons_succ]
              refine takeL 13 ?_ rfl (by kernel_rfl) (fun _ _ _ h => h) (by rfl) (fun w' hw' => ?_) HH9.out ?_
              rotate_left
              · obtain ⟨c0, c1, c2, c3, c4, c5⟩ := HC.out w' hw'
                go_simp
                all_goals with_reducible rfl
              simp only [Act.put, List.setIfInBounds_toArray, List.set_cons_zero, List.set_cons_succ]
              refine takeL 14 ?_ rfl (by kernel_rfl) (fun _ _ _ h => h) (by rfl) (fun w' hw' => ?_) HH9.out ?_
              rotate_left
              · obtain ⟨c0, c1, c2, c3, c4, c5⟩ := HC.out w' hw'
                go_simp
                all_goals with_reducible rfl
              simp only [Act.put, List.setIfInBounds_toArray, List.set_cons_zero, List.set_cons_succ]
              refine takeL 15 ?_ rfl (by kernel_rfl) (fun _ _ _ h => h) (by rfl) (fun w' hw' => ?_) HH9.out ?_
              rotate_left
              · obtain ⟨c0, c1, c2, c3, c4, c5⟩ := HC.out w' hw'
                go_simp
                all_goals with_reducible rfl
              simp only [Act.put, List.setIfInBounds_toArray, List.set_cons_zero, List.set_cons_succ]
              refine takeL 16 ?_ rfl (by kernel_rfl) (fun _ _ _ h => h) (by rfl) (fun w' hw' => ?_) HH9.out ?_
              rotate_left
              · obtain ⟨c0, c1, c2, c3, c4, c5⟩ := HC.out w' hw'
                go_simp
                all_goals with_reducible rfl
              simp only [Act.put, List.setIfInBounds_toArray, List.set_cons_zero, List.set_cons_succ]
              refine takeL 17 ?_ rfl (by kernel_rfl) (fun _ _ _ h => h) (by rfl) (fun w' hw' => ?_) HH9.out ?_
              rotate_left
              · obtain ⟨c0, c1, c2, c3, c4, c5⟩ := HC.out w' hw'
                go_simp
                all_goals with_reducible rfl
              simp only [Act.put, List.setIfInBounds_toArray, List.set_cons_zero, List.set_cons_succ]
              refine stepL 18 rfl (by kernel_rfl) (fun K hK => ?_)
              go_simp
              refine HAP.out.mono ?_
              rintro e w10 ⟨rfl, b1, ht3, hr3⟩
              have HT10 := Lib.hid (HT9.out.right ht3 hr3)
              have hsb3 : ¬ b.K sb := HT9.out.t.s.notT ⟨_, _, HSB9.out⟩ (by decide) (by decide) (by decide) (by decide) (by decide) (by decide) (by decide)
              have HSB10 := Lib.hid (ht3.k.heap HSB9.out hsb3)
              have HRB10 := Lib.hid (HRB9.out.kept ht3.k (fun b' o e _ hK => by have := HNW.out b' o e; have := HT9.out.fb b' hK; omega))
              have HFX3 := Lib.hid ht3.fix
              have hch := HCH.out w10 b1 hr3 HRB10.out (fun b' o e _ hK => by have := HNW.out b' o e; have := HT10.out.fb b' hK; omega)
              rw [ht3.fix.pb] at hch
              have HC10 := Lib.hid hch
              clear ht3 hr3 hch HAP HCH
              go_simp
              refine hK.out _ _ (fun _ => ⟨by rw [← rigC_fix HFY.out]; exact HT10.out.s.hr, by rw [← rigC_fix HFX3.out]; exact HT10.out.t.hr, HSB10.out⟩) (fun _ => ?_)
              simp only [List.setIfInBounds_toArray, List.set_cons_zero, List.set_cons_succ]
              clear hK K
              refine stepL 19 rfl (by kernel_rfl) (fun K hK => ?_)
              go_simp
              refine HC10.out.mono ?_
              rintro e w11 ⟨rfl, b2, ht4, hr4⟩
              have HT11 := Lib.hid (HT10.out.right ht4 hr4)
              have hsb4 : ¬ b1.K sb := HT10.out.t.s.notT ⟨_, _, HSB10.out⟩ (by decide) (by decide) (by decide) (by decide) (by decide) (by decide) (by decide)
              have HSB11 := Lib.hid (ht4.k.heap HSB10.out hsb4)
              have HH11 := Lib.hid (show w11.heap[rg]? = some (.cells (rigC a) 37 (0, 0)) ∧ w11.heap[rh]? = some (.cells (rigC b) 37 (0, 0)) ∧ w11.heap[sb]? = some (.cells (spnC pg off none 0 0 NA y.new.length nc) 28 (0, 0)) from ⟨by rw [← rigC_fix HFY.out]; exact HT11.out.s.hr, by rw [← rigC_fix (HFX3.out.trans ht4.fix)]; exact HT11.out.t.hr, HSB11.out⟩)
              clear ht4 hr4 HC10
              go_simp
              refine hK.out _ _ (fun _ => HH11.out) (fun _ => ?_)
              simp only [List.setIfInBounds_toArray, List.set_cons_zero, List.set_cons_succ]
              clear hK K
              refine takeL 20 ?_ rfl (by kernel_rfl) (fun _ _ _ h => h) (by rfl) (fun w' hw' => ?_) HH11.out ?_
              rotate_left
              · skip
                go_simp
                all_goals with_reducible rfl
              simp only [Act.put, List.setIfInBounds_toArray, List.set_cons_zero, List.set_cons_succ]
              refine stepL 21 rfl (by kernel_rfl) (fun K hK => ?_)
              go_simp
              refine hK.out _ _ (fun h => absurd rfl h) (fun _ => ?_)
              simp only [List.setIfInBounds_toArray, List.set_cons_zero, List.set_cons_succ]
              clear hK K
              refine doneL (by kernel_rfl) ?_ _
              go_wp2
              go_meet
              case rel => exact ⟨a2, P2, L2, D2, b2, Q2, M2, E2, HT11.out, HFN.out⟩
          case rest =>
            clear HT5 HF HRD5 HDB d0 d1 d5 hbb
            obtain ⟨a, P, L, D, b, Q, M, E, hT, hF⟩ := hcut
            have HT := Lib.hid hT
            have HF := Lib.hid hF
            have ca : wc.cell? ⟨rg, 2, none⟩ = some (.pointer (some ⟨a.pb, 0, none⟩)) := cell_blk hT.s.hr rfl
            have HRA := Lib.hid (rig_read hT.s hF.i (page := pg) pg0 (by rw [hF.pb.1]; exact pg1))
            clear hT hF
            go_wp2_with fail
            refine HRA.out.mono ?_
            rintro e w6 ⟨a1, P1, L1, D1, g1, c1, ht1, hr1, hi1, hk1, rfl, ho1, hl1, hn1⟩
            have HT1 := Lib.hid (HT.out.left ht1 hr1)
            have HF1 := Lib.hid (HF.out.readL hi1 hk1)
            have HO1 := Lib.hid ho1
            have HLP := Lib.hid hl1
            have HN1 := Lib.hid hn1
            have hwg := (HO1.out.base_le)
            have cb : w6.cell? ⟨rh, 2, none⟩ = some (.pointer (some ⟨b.pb, 0, none⟩)) := cell_blk HT1.out.t.hr rfl
            have HRB := Lib.hid (rig_read HT1.out.t HF1.out.j (page := pg) pg0 (by rw [HF1.out.pb.2]; exact pg1))
            have HGB := Lib.hid (show ¬ b.K g1 from fun e => by have := HT.out.t.s.lt e; omega)
            clear ht1 hr1 hi1 hk1 ho1 hl1 hn1 HRA
            go_wp2_with fail
            refine HRB.out.mono ?_
            rintro e w7 ⟨b1, Q1, M1, E1, g2, c2, ht2, hr2, hi2, hk2, rfl, ho2, hl2, hn2⟩
            have HT2 := Lib.hid (HT1.out.right ht2 hr2)
            have HF2 := Lib.hid (HF1.out.readR hi2 hk2)
            have HO2 := Lib.hid ho2
            have HO1b := Lib.hid (HO1.out.keep ht2.k HGB.out)
            have hcur : P.cur D pg = Q.cur E pg := HF.out.cur pg pg0 pg1
            have hsm := same_any (some ⟨g1, 0, none⟩) (some ⟨g2, 0, none⟩) c1 c2 (P.cur D pg) (Q.cur E pg) w7 (OwnB.rdq HO1b.out) (OwnB.rdq HO2.out) (by rw [HLP.out]; decide)
            rw [HLP.out, hl2, decide_eq_true hcur] at hsm
            have HSM := Lib.hid hsm
            have hpl : ¬ 8 < (P1.ring.length : Int) := by have h1 := HF2.out.i.pi.len; rw [HF2.out.pm] at h1; omega
            have ca7 : w7.cell? ⟨rg, 2, none⟩ = some (.pointer (some ⟨a1.pb, 0, none⟩)) := cell_blk HT2.out.s.hr rfl
            clear ht2 hr2 hi2 hk2 ho2 hl2 hn2 hcur hsm HRB
            go_wp2_with fail
            refine HSM.out.mono ?_
            rintro e w8 ⟨rfl, hsame⟩
            have HT3 := Lib.hid (HT2.out.keep0 (hsame.kept (fun _ => False)))
            have ca8 : w8.cell? ⟨rg, 2, none⟩ = some (.pointer (some ⟨a1.pb, 0, none⟩)) := cell_blk HT3.out.s.hr rfl
            have HFR := Lib.hid (pframes_any HT3.out.s.s HF2.out.i.pi.n)
            unfold ptrV at HFR
            clear hsame HSM ca7
            go_wp2_with fail
            refine HFR.out.mono ?_
            rintro e wx ⟨rfl, rfl⟩
            go_wp2
            go_roundw
            case rel => exact ⟨k + 1, a1, P1, L1, D1, b1, Q1, M1, E1, by go_num, by omega, HT3.out, HF2.out⟩
            case measure => simp [intOf]; omega
      · have HRA := Lib.hid (rig_read HT.out.s HF.out.i (page := 0) (by decide) (by rw [HF.out.pb.1]; decide))
        have ca : wr.cell? ⟨rg, 2, none⟩ = some (.pointer (some ⟨a.pb, 0, none⟩)) := cell_blk HT.out.s.hr rfl
        go_wp2_with fail
        refine HRA.out.mono ?_
        rintro e w6 ⟨a1, P1, L1, D1, g1, c1, ht1, hr1, hi1, hk1, rfl, ho1, hl1, hn1⟩
        have HT1 := Lib.hid (HT.out.left ht1 hr1)
        have HO1 := Lib.hid ho1
        have HL1 := Lib.hid hl1
        have HN1 := Lib.hid hn1
        have hb1 : wr.heap.size ≤ g1 ∧ g1 < w6.heap.size := by obtain ⟨cur, hb, hh, _⟩ := OwnB.form ho1; exact ⟨hb, heap_lt hh⟩
        have hpb1 : P1.blocks = 30 := by rw [hk1.like.pb]; exact HF.out.pb.1
        have cb : w6.cell? ⟨rg, 2, none⟩ = some (.pointer (some ⟨a1.pb, 0, none⟩)) := cell_blk HT1.out.s.hr rfl
        have HRB := Lib.hid (rig_read HT1.out.s hi1 (page := 0) (by decide) (by rw [hpb1]; decide))
        clear ht1 hr1 hi1 hk1 ho1 hl1 hn1 HRA hpb1
        go_wp2_with fail
        refine HRB.out.mono ?_
        rintro e w7 ⟨a2, P2, L2, D2, g2, c2, ht2, hr2, hi2, hk2, rfl, ho2, hl2, hn2⟩
        have HT2 := Lib.hid (HT1.out.left ht2 hr2)
        have HO2 := Lib.hid ho2
        have HL2 := Lib.hid hl2
        have HO1b := Lib.hid (HO1.out.keep ht2.k HN1.out)
        clear ht2 hr2 hi2 hk2 ho2 hl2 hn2 HRB
        have hb2 : w6.heap.size ≤ g2 ∧ g2 < w7.heap.size := by obtain ⟨cur, hb, hh, _⟩ := OwnB.form HO2.out; exact ⟨hb, heap_lt hh⟩
        have hws := HT.out.kp.size
        have HAP := Lib.hid (apart2_any (w := w7.alloc (.cells #[.slice (some ⟨g1, 0, none⟩) 512 c1, .slice (some ⟨g2, 0, none⟩) 512 c2] 26)) (B := w.heap.size) (gt := w7.heap.size) (ct := 2) (OwnB.keep (OwnB.lowQ HO1b.out hws) ((Kept.refl (fun _ => False) w7).alloc _) id) (OwnB.keep (OwnB.lowQ HO2.out (by omega)) ((Kept.refl (fun _ => False) w7).alloc _) id) HL1.out HL2.out (heap_alloc_new w7 _) (by omega) (by omega) (by omega) (by have := HT2.out.kp.size; simp; omega))
        have HK := Lib.hid (HT2.out.kp.alloc (.cells #[.slice (some ⟨g1, 0, none⟩) 512 c1, .slice (some ⟨g2, 0, none⟩) 512 c2] 26))
        go_wp2_with fail
        refine HAP.out.mono ?_
        rintro e w8 ⟨rfl, hk8⟩
        have HK8 := Lib.hid (HK.out.new hk8 (fun z hz => by rcases hz with rfl | rfl <;> omega))
        clear hk8
        go_wp2
        go_ret
        exact ⟨rfl, HK8.out⟩
end
end Go.Proofs.YtnbfhdgojmflhaaGreat
