/-
  No statement is proved here: a part of what the claim's last text rests on.
-/
import Derived.Test.YtnbfhdgojmflhaaGreatJQaw
namespace Go.Proofs.YtnbfhdgojmflhaaGreat
open Go.RowKit
section
variable {w w' w1 : World} {a : Adr} {P : PoolM} {L : LogM} {D : DevM}
theorem zeroSpn (wz : World) : (zeroValue 28).run Tryz.prog wz = .ok (.agg (spnC 0 0 none 0 0 none 0 0)) wz := (zero_of_info (n := 4) (by kernel_rfl)).1 wz
theorem bSpn (p o : Int) (A : Option Addr) (n c : Nat) (wz : World) : (Instr.build 28 #[(0, .int .i64 p), (1, .int .i64 o), (3, .slice A n c)]).run Tryz.prog wz = .ok (.agg #[.int .i64 p, .int .i64 o, .slice none 0 0, .slice A n c]) wz := run_build wz _ _ _ (by kernel_rfl)
theorem one_spn (p o : Int) (A : Option Addr) (n c : Nat) (B : Option Addr) (m d : Nat) : (spnC p o A n c B m d).all (·.oneCell') = true := by
  unfold spnC
  simp [Value.oneCell']
theorem one_byte {k : Nat} (h : k < 255) : cellsOf [UInt8.ofNat (k + 1)] = #[.int .u8 ((k : Int) + 1)] := by
  have e : (UInt8.ofNat (k + 1)).toNat = k + 1 := by rw [UInt8.toNat_ofNat']; omega
  unfold cellsOf
  simp only [List.map_cons, List.map_nil, e]
  rfl
set_option maxRecDepth 100000 in
set_option maxHeartbeats 1600000 in
theorem awake11_any (w : World) : Calls Tryz.prog 9 #[] w fun e w' => e = .returned (.bool true) ∧ Kept (fun _ => False) w w' := by
  have BS := bSpn
  go_enter Tryz.func9, Tryz.ntmps9
  go_wp2_with fail
  refine (begin11_any w 20 8 (by decide) (by decide) (by decide) (by decide) open32 (by rw [chain32]; decide)).mono ?_
  rintro e w1 ⟨rg, a, rfl, hr, hk, hrg, hfr⟩
  have HR := Lib.hid hr
  have c2 : w1.cell? ⟨rg, 2, none⟩ = some (.pointer (some ⟨a.pb, 0, none⟩)) := cell_blk hr.hr rfl
  have HA := Lib.hid (show AwI w 0 rg a (newPool 12 20 8) rigL0 (newM (12 + 20)) w1 from
    ⟨hr, rig_start (by decide) (by decide) (by decide) (by decide), rfl, rfl, hk, hfr, by decide, by decide, rfl, rfl, (fun f hf => by cases hf), (fun p hp => by omega)⟩)
  clear hr hk hfr HR
  unfold ptrV
  go_wp2_with fail
  go_loopw [2] (fun i wr => ∃ (k : Nat) (a : Adr) (P : PoolM) (L : LogM) (D : DevM), i = .int .i64 k ∧ k ≤ 20 ∧ AwI w k rg a P L D wr) (fun i _ => 20 - (intOf i).toNat)
  case atStart => exact ⟨0, a, _, _, _, rfl, Nat.zero_le _, HA.out⟩
  case round =>
    clear HA c2
    obtain ⟨k, a, P, L, D, rfl, hk, hA⟩ := hrel
    have HA := Lib.hid hA
    clear hA
    by_cases hk20 : k < 20
    · have e1 : IntKind.i64.wrap ((k : Int) + 1) = (k : Int) + 1 := by rw [IntKind.wrap_i64]; omega
      have e8 : IntKind.u8.wrap ((k : Int) + 1) = (k : Int) + 1 := by simp [IntKind.wrap, IntKind.bits, IntKind.signed]; omega
      have hki : (k : Int) < 20 := by omega
      have BS1 := fun A c wz => BS (k : Int) 500 A 1 c wz
      have HOB := Lib.hid (one_byte (k := k) (by omega))
      go_wp2_with (refine wl_alloc' rfl 28 rfl (spnC 0 0 none 0 0 none 0 0) zeroSpn ?_)
      intro sb w2 l1 l2 hb2 hk2
      obtain ⟨nb, hnb⟩ : ∃ nb, nb = wr.heap.size := ⟨_, rfl⟩
      rw [← hnb]
      refine wl_store_row rfl 28 _ _ rfl sb (spnC k 500 none 0 0 (some ⟨nb, 0, none⟩) 1 1) _ rfl rfl hb2 (by kernel_rfl) rfl (one_spn _ _ _ _ _ _ _ _) ?_
      intro w3 hb3 hk3
      have hka : Kept (fun _ => False) wr (wr.alloc (.cells #[.int .u8 ((k : Int) + 1)] 5)) := (Kept.refl _ wr).alloc _
      have hsz : (wr.alloc (.cells #[Value.int .u8 ((k : Int) + 1)] 5)).heap.size = nb + 1 := by rw [hnb]; simp
      have hk23 : Kept (fun _ => False) (wr.alloc (.cells #[.int .u8 ((k : Int) + 1)] 5)) w3 := hk2.new hk3 (fun z hz => by subst hz; rw [hsz, hnb]; exact l1)
      have HK3 := Lib.hid (hka.trans0 hk23)
      have HSB := Lib.hid (show w3.heap[sb]? = some (.cells (spnC k 500 none 0 0 (some ⟨nb, 0, none⟩) 1 1) 28 (0, 0)) from hb3)
      have hnbh : w3.heap[nb]? = some (.cells (cellsOf [UInt8.ofNat (k + 1)]) 5 (0, 0)) := by
        rw [HOB.out]
        refine hk23.heap ?_ id
        rw [hnb]
        exact heap_alloc_new wr _
      have hrd0 := RdB.of_blk hnbh
      obtain ⟨M, hM⟩ : ∃ M, M = [UInt8.ofNat (k + 1)] := ⟨_, rfl⟩
      rw [← hM] at hrd0
      have hML : M.length = 1 := by rw [hM]; rfl
      have hM0 : M ≠ [] := by rw [hM]; simp
      have HM := Lib.hid hM
      have HRD := Lib.hid hrd0
      have HR3 := Lib.hid (HA.out.s.keep0 HK3.out)
      have HNB := Lib.hid hnb
      have hl1 : nb + 1 ≤ sb := by rw [hnb]; exact l1
      clear hnb hrd0 hM hnbh hb3 hb2 hk2 hk3 hka hk23 l1 l2 hsz BS1
      have HS0 := Lib.hid (show (w3.drew).heap[rg]? = some (.cells (rigC a) 37 (0, 0)) ∧ (w3.drew).heap[sb]? = some (.cells (spnC k 500 none 0 0 (some ⟨nb, 0, none⟩) 1 1) 28 (0, 0)) from ⟨HR3.out.hr, HSB.out⟩)
      have HC := Lib.hid (fun (w' : World) (h : w'.heap[rg]? = some (.cells (rigC a) 37 (0, 0)) ∧ w'.heap[sb]? = some (.cells (spnC k 500 none 0 0 (some ⟨nb, 0, none⟩) 1 1) 28 (0, 0))) => show w'.cell? ⟨rg, 2, none⟩ = some (.pointer (some ⟨a.pb, 0, none⟩)) ∧ w'.cell? ⟨sb, 0, none⟩ = some (.int .i64 k) ∧ w'.cell? ⟨sb, 1, none⟩ = some (.int .i64 500) ∧ w'.cell? ⟨sb, 2, none⟩ = some (.slice none 0 0) ∧ w'.cell? ⟨sb, 3, none⟩ = some (.slice (some ⟨nb, 0, none⟩) 1 1) from
        ⟨cell_blk h.1 rfl, cell_blk h.2 rfl, cell_blk h.2 rfl, cell_blk h.2 rfl, cell_blk h.2 rfl⟩)
      have hfresh : ∀ z, a.K z → z < wr.heap.size := fun z hz => HA.out.s.s.lt hz
      have HFR := Lib.hid hfresh
      have HAP := Lib.hid (append1_any (w := w3.drew) (HR3.out.keep0 ((Kept.refl (fun _ => False) w3).drew)) HA.out.i.g (k : Int) 500 (by unfold isI; omega) (by unfold isI; omega) none 0 0 (some ⟨nb, 0, none⟩) M 1 (by omega) (HRD.out.kept ((Kept.refl (fun _ => False) w3).drew) (fun _ _ _ _ => id)) (fun b o e _ hK => by cases e; have := hfresh _ hK; have := HNB.out; omega))
      obtain ⟨L1, D1, q1, q2, q3, q4, q5, q6, q7⟩ := rig_app HA.out.i (chR k 500 M) (chR_right HA.out.fin1 (by have := HA.out.fin; omega) (by rw [HA.out.tu]; decide) (by rw [HA.out.tu]; decide) (by omega) (by omega) (by decide) hM0 (by omega)) (by have := HA.out.fin; omega)
      have HQ1 := Lib.hid q1
      have HQ2 := Lib.hid q2
      have HQ4 := Lib.hid q4
      have HQ7 := Lib.hid q7
      rw [q1, hML] at HAP
      clear q1 q2 q3 q4 q5 q6 q7 hfresh
      unfold ptrV at HAP
      go_wp2_with fail
      refine startL 9 (fun w' => w'.heap[rg]? = some (.cells (rigC a) 37 (0, 0)) ∧ w'.heap[sb]? = some (.cells (spnC k 500 none 0 0 (some ⟨nb, 0, none⟩) 1 1) 28 (0, 0))) (by kernel_rfl) HS0.out (fun hH => ?_)
      simp only [List.length_cons, List.length_nil, List.replicate]
      refine takeL 0 ?_ rfl (by kernel_rfl) (fun _ _ _ h => h) (by rfl) (fun w' hw' => ?_) hH ?_
      rotate_left
      · obtain ⟨c0, d0, d1, d2, d3⟩ := HC.out w' hw'
        go_simp
        all_goals with_reducible rfl
      simp only [Act.put, List.setIfInBounds_toArray, List.set_cons_zero, List.set_cons_succ]
      refine takeL 1 ?_ rfl (by kernel_rfl) (fun _ _ _ h => h) (by rfl) (fun w' hw' => ?_) hH ?_
      rotate_left
      · obtain ⟨c0, d0, d1, d2, d3⟩ := HC.out w' hw'
        go_simp
        all_goals with_reducible rfl
      simp only [Act.put, List.setIfInBounds_toArray, List.set_cons_zero, List.set_cons_succ]
      refine takeL 2 ?_ rfl (by kernel_rfl) (fun _ _ _ h => h) (by rfl) (fun w' hw' => ?_) hH ?_
      rotate_left
      · obtain ⟨c0, d0, d1, d2, d3⟩ := HC.out w' hw'
        go_simp
        all_goals with_reducible rfl
      simp only [Act.put, List.setIfInBounds_toArray, List.set_cons_zero, List.set_cons_succ]
      refine takeL 3 ?_ rfl (by kernel_rfl) (fun _ _ _ h => h) (by rfl) (fun w' hw' => ?_) hH ?_
      rotate_left
      · obtain ⟨c0, d0, d1, d2, d3⟩ := HC.out w' hw'
        go_simp
        all_goals with_reducible rfl
      simp only [Act.put, List.setIfInBounds_toArray, List.set_cons_zero, List.set_cons_succ]
      refine takeL 4 ?_ rfl (by kernel_rfl) (fun _ _ _ h => h) (by rfl) (fun w' hw' => ?_) hH ?_
      rotate_left
      · obtain ⟨c0, d0, d1, d2, d3⟩ := HC.out w' hw'
        go_simp
        all_goals with_reducible rfl
      simp only [Act.put, List.setIfInBounds_toArray, List.set_cons_zero, List.set_cons_succ]
      refine takeL 5 ?_ rfl (by kernel_rfl) (fun _ _ _ h => h) (by rfl) (fun w' hw' => ?_) hH ?_
      rotate_left
      · obtain ⟨c0, d0, d1, d2, d3⟩ := HC.out w' hw'
        go_simp
        all_goals with_reducible rfl
      simp only [Act.put, List.setIfInBounds_toArray, List.set_cons_zero, List.set_cons_succ]
      refine takeL 6 ?_ rfl (by kernel_rfl) (fun _ _ _ h => h) (by rfl) (fun w' hw' => ?_) hH ?_
      rotate_left
      · obtain ⟨c0, d0, d1, d2, d3⟩ := HC.out w' hw'
        go_simp
        all_goals with_reducible rfl
      simp only [Act.put, List.setIfInBounds_toArray, List.set_cons_zero, List.set_cons_succ]
      refine stepL 7 rfl (by kernel_rfl) (fun K hK => ?_)
      go_simp
      refine HAP.out.mono ?_
      rintro e w5 ⟨rfl, a1, ht1, hr1⟩
      have HT1 := Lib.hid (show AdrTo wr a w5 a1 from ((AdrTo.refl wr a).keep0 HK3.out.drew).trans ht1)
      have HR1 := Lib.hid hr1
      have hnbK : ¬ a.K nb := fun e => by have := HFR.out _ e; have := HNB.out; omega
      have hsbK : ¬ a.K sb := fun e => by have := HFR.out _ e; have := HNB.out; omega
      have HSB5 := Lib.hid (ht1.k.heap HS0.out.2 hsbK)
      have hw3 := heap_lt HSB.out
      have hg1 : ∀ z, a1.K z → z = nb ∨ z = sb → False := fun z hz e => by
        rcases ht1.g z hz with h1 | h1
        · rcases e with rfl | rfl
          · exact hnbK h1
          · exact hsbK h1
        · have h2 : w3.heap.size ≤ z := h1
          rcases e with rfl | rfl <;> omega
      have HG1 := Lib.hid hg1
      have hrd5 := (HRD.out.kept ((Kept.refl (fun _ => False) w3).drew) (fun _ _ _ _ => id)).kept ht1.k (fun b o e _ hK => by cases e; exact hnbK hK)
      have hpb := HA.out.pb
      obtain ⟨P2, L2, D2, r1, r2, -, -, -⟩ := rig_change HQ2.out (page := k) (off := 500) (lsn := L.fin) (m := M) (by omega) (by omega) (by decide) hM0 (by omega) HA.out.fin1 HQ4.out
      have HCH := Lib.hid (pchange_any hr1.s HQ2.out.g HQ2.out.pi.n HQ2.out.calm.d HQ2.out.pi.fn (k : Int) 500 none 0 0 (some ⟨nb, 0, none⟩) M 1 L.fin hrd5 (fun b o e _ hK => by cases e; exact hg1 _ hK (.inl rfl)) (fun f hf h0 => by
        obtain ⟨P', L', D', i, f', e', x1, x2, x3, x4, x5⟩ := rig_frame HQ2.out (page := k) (by omega) (by omega)
        rw [e'] at hf
        have hff : f' = f := Option.some.inj (x1.symm.trans hf)
        rw [← hff]
        exact (x4.pi.fr f' (List.mem_of_getElem? x1)).2.2.1))
      unfold PChPost at HCH
      dsimp only at HCH
      rw [r1, hML] at HCH
      unfold ptrV at HCH
      rw [ht1.fix.pb] at HCH
      have HR2 := Lib.hid r1
      clear ht1 hr1 hnbK hsbK hg1 hrd5 hpb r1 r2 HAP
      go_simp
      refine hK.out _ _ (fun _ => ⟨by rw [← rigC_fix HT1.out.fix]; exact HR1.out.hr, HSB5.out⟩) (fun _ => ?_)
      simp only [List.setIfInBounds_toArray, List.set_cons_zero, List.set_cons_succ]
      clear hK K hH
      refine stepL 8 rfl (by kernel_rfl) (fun K hK => ?_)
      go_simp
      refine HCH.out.mono ?_
      rintro e w6 ⟨rfl, a2, f2, s2, k2, g2⟩
      have HT2 := Lib.hid (show AdrTo w5 a1 w6 a2 from ⟨f2, k2, g2⟩)
      have HR6 := Lib.hid (HR1.out.to HT2.out s2)
      have HSB6 := Lib.hid (k2.heap HSB5.out (fun e => HG1.out _ e (.inr rfl)))
      clear f2 s2 k2 g2 HCH
      go_simp
      refine hK.out _ _ (fun _ => ⟨by rw [← rigC_fix (HT1.out.fix.trans HT2.out.fix)]; exact HR6.out.hr, HSB6.out⟩) (fun _ => ?_)
      simp only [List.setIfInBounds_toArray, List.set_cons_zero, List.set_cons_succ]
      clear hK K
      refine stepL 9 rfl (by kernel_rfl) (fun K hK => ?_)
      go_simp
      refine hK.out _ _ (fun h => absurd rfl h) (fun _ => ?_)
      simp only [List.setIfInBounds_toArray, List.set_cons_zero, List.set_cons_succ]
      clear hK K
      refine doneL (by kernel_rfl) ?_ _
      have HNX := Lib.hid (HA.out.next hk20 HT1.out HT2.out HR6.out (by rw [← HM.out]; exact HQ1.out) (by rw [← HM.out]; exact HR2.out))
      go_wp2
      go_roundw
      case rel => exact ⟨k + 1, a2, P2, L2, D2, by go_num, by omega, HNX.out⟩
      case measure => simp [intOf]; omega
    · have hk2 : k = 20 := by omega
      have hA20 := HA.out
      rw [hk2] at hA20
      have HA := Lib.hid hA20
      clear hA20 hk2
      go_wp2_with fail
      go_loopw [4] (fun i wr => ∃ (j : Nat) (a : Adr) (P : PoolM) (L : LogM) (D : DevM), i = .int .i64 j ∧ j ≤ 20 ∧ AwI w 20 rg a P L D wr) (fun i _ => 20 - (intOf i).toNat)
      case atStart => exact ⟨0, a, P, L, D, rfl, Nat.zero_le _, HA.out⟩
      case round =>
        clear HA
        obtain ⟨j, a, P, L, D, rfl, hj, hA⟩ := hrel
        have HA := Lib.hid hA
        have c2 : wr.cell? ⟨rg, 2, none⟩ = some (.pointer (some ⟨a.pb, 0, none⟩)) := cell_blk hA.s.hr rfl
        clear hA
        by_cases hj20 : j < 20
        · have hji : (j : Int) < 20 := by omega
          have e1 : IntKind.i64.wrap ((j : Int) + 1) = (j : Int) + 1 := by rw [IntKind.wrap_i64]; omega
          have e8 : IntKind.u8.wrap ((j : Int) + 1) = (j : Int) + 1 := by simp [IntKind.wrap, IntKind.bits, IntKind.signed]; omega
          have hpb := HA.out.pb
          obtain ⟨P', L', D', i, f, e, x1, x2, x3, x4, x5⟩ := rig_frame HA.out.i (page := j) (by omega) (by omega)
          have hflen : f.b.length = 512 := (x4.pi.fr f (List.mem_of_getElem? x1)).2.2.1
          have hrd := pread_any HA.out.s.s HA.out.i.g HA.out.i.pi.n HA.out.i.calm.d HA.out.i.pi.fn (j : Int) (fun g hg h0 => by
            rw [e] at hg
            have hgg : f = g := Option.some.inj (x1.symm.trans hg)
            rw [← hgg]; exact hflen)
          unfold PReadPost at hrd
          rw [e] at hrd
          have HRD := Lib.hid (show Calls Tryz.prog 14 #[ptrV a.pb, .int .i64 j] wr (fun e w' => ∃ a' g c, AdrTo wr a w' a' ∧ PoolS w' a' P' L' D' ∧ e = .returned (.tuple #[.slice (some ⟨g, 0, none⟩) 512 c, .int .i64 0]) ∧ w'.cell? ⟨g, 500, none⟩ = some (.int .u8 ((j : Int) + 1))) from hrd.mono (fun e' w' hh => by
            obtain ⟨a', f2, A, c, y1, y2, y3, y4, y5, y6⟩ := hh.2 rfl
            have hff : f = f2 := Option.some.inj (x1.symm.trans y3)
            rw [← hff] at y5
            rcases y5.form with ⟨z1, z2⟩ | ⟨g, cap, z1, z2⟩
            · rw [z2] at hflen; simp at hflen
            · rw [hflen] at z1
              injection z1 with z1 _ z3
              refine ⟨a', g, c, y1, y2, by rw [y4, z1], ?_⟩
              have h9 := z2.cellAt (i := 500) (by omega)
              rw [h9, x3, HA.out.cur j hj20, UInt8.toNat_ofNat']
              have : (j + 1) % 2 ^ 8 = j + 1 := by omega
              rw [this]
              rfl))
          have HE := Lib.hid e
          clear e x1 x2 x3 x4 x5 hflen hrd hpb
          unfold ptrV at HRD
          go_wp2_with fail
          refine HRD.out.mono ?_
          rintro e w5 ⟨a1, g, c, ht1, hs1, rfl, c500⟩
          have HNX := Lib.hid (HA.out.read hj20 ht1 hs1 HE.out)
          clear ht1 hs1
          go_wp2
          go_roundw
          case rel => exact ⟨j + 1, a1, P', L', D', by go_num, by omega, HNX.out⟩
          case measure => simp [intOf]; omega
        · have hlen : P.ring.length = 8 := HA.out.len
          have hfr := pframes_any HA.out.s.s HA.out.i.pi.n
          rw [hlen] at hfr
          have HFR := Lib.hid hfr
          obtain ⟨R, B, hL⟩ := HA.out.i.li
          obtain ⟨P', L', D', e, x1, x2, x3, x4, x5, _, _⟩ := flush_well HA.out.i.pi hL HA.out.i.calm
          have hfl := pflush_any HA.out.s.s HA.out.i.g HA.out.i.pi.n
          rw [e] at hfl
          have HFL := Lib.hid hfl
          have HX1 := Lib.hid x1.n
          have HX5 := Lib.hid (rows_none x5)
          unfold ptrV at HFR HFL
          clear hlen hfr hL e x1 x2 x3 x4 x5 hfl
          go_wp2_with fail
          refine HFR.out.mono ?_
          rintro e wx ⟨rfl, rfl⟩
          go_wp2_with fail
          refine HFL.out.mono ?_
          rintro e w5 ⟨rfl, a1, f1, s1, k1, g1⟩
          have HT := Lib.hid (show AdrTo wr a w5 a1 from ⟨f1, k1, g1⟩)
          have HR5 := Lib.hid (HA.out.s.to HT.out s1)
          have hd := pdirty_none s1 HX1.out HX5.out
          rw [f1.pb] at hd
          have HDI := Lib.hid hd
          have c25 : w5.cell? ⟨rg, 2, none⟩ = some (.pointer (some ⟨a.pb, 0, none⟩)) := by rw [← f1.pb]; exact cell_blk HR5.out.hr rfl
          have HK5 := Lib.hid (HA.out.kp.new k1 HA.out.fr)
          unfold ptrV at HDI
          clear f1 s1 k1 g1 hd
          go_wp2_with fail
          refine HDI.out.mono ?_
          rintro e w6 ⟨rfl, hk6⟩
          have HK6 := Lib.hid (HK5.out.trans0 hk6)
          clear hk6
          go_wp2
          go_ret
          exact ⟨rfl, HK6.out⟩
end
end Go.Proofs.YtnbfhdgojmflhaaGreat
namespace Go.Proofs.YtnbfhdgojmflhaaGreat
open Go.RowKit
section
variable {w w' w1 wr : World} {a b : Adr} {P Q P' Q' : PoolM} {L M L' M' : LogM} {D E D' E' : DevM}
structure TwoR (w wr : World) (rg : Nat) (a : Adr) (P : PoolM) (L : LogM) (D : DevM) (rh : Nat) (b : Adr) (Q : PoolM) (M : LogM) (E : DevM) : Prop where
  s : RigS wr rg a P L D
  t : RigS wr rh b Q M E
  ap : ∀ x, a.K x → ¬ b.K x
  kp : Kept (fun _ => False) w wr
  fa : ∀ x, a.K x → w.heap.size ≤ x
  fb : ∀ x, b.K x → w.heap.size ≤ x
theorem RigS.keep {rg : Nat} {S : Nat → Prop} (h : RigS wr rg a P L D) (hk : Kept S wr w1) (hn : ∀ x, a.K x → ¬ S x) (hg : ¬ S rg) : RigS w1 rg a P L D := ⟨h.s.keep hk hn, hk.heap h.hr hg⟩
theorem RigS.far {rg rh : Nat} (h : RigS wr rg a P L D) (k : RigS wr rh b Q M E) : ¬ a.K rh := h.s.notT ⟨_, _, k.hr⟩ (by decide) (by decide) (by decide) (by decide) (by decide) (by decide) (by decide)
variable {rg rh : Nat}
theorem TwoR.keep0 (h : TwoR w wr rg a P L D rh b Q M E) (hk : Kept (fun _ => False) wr w1) : TwoR w w1 rg a P L D rh b Q M E := ⟨h.s.keep0 hk, h.t.keep0 hk, h.ap, h.kp.trans0 hk, h.fa, h.fb⟩
theorem TwoR.left {a1 : Adr} (h : TwoR w wr rg a P L D rh b Q M E) (ht : AdrTo wr a w1 a1) (hs : RigS w1 rg a1 P' L' D') : TwoR w w1 rg a1 P' L' D' rh b Q M E := by
  refine ⟨hs, h.t.keep ht.k (fun x hb ha => h.ap x ha hb) (h.s.far h.t), fun x ha hb => ?_, h.kp.new ht.k h.fa, fun x hx => ?_, h.fb⟩
  · rcases ht.g x ha with h1 | h1
    · exact h.ap x h1 hb
    · have := h.t.s.lt hb; omega
  · rcases ht.g x hx with h1 | h1
    · exact h.fa x h1
    · have := h.kp.size; omega
theorem TwoR.swap (h : TwoR w wr rg a P L D rh b Q M E) : TwoR w wr rh b Q M E rg a P L D := ⟨h.t, h.s, fun x hb ha => h.ap x ha hb, h.kp, h.fb, h.fa⟩
theorem TwoR.right {b1 : Adr} (h : TwoR w wr rg a P L D rh b Q M E) (ht : AdrTo wr b w1 b1) (hs : RigS w1 rh b1 Q' M' E') : TwoR w w1 rg a P L D rh b1 Q' M' E' := (h.swap.left ht hs).swap
theorem TwoR.start {w1 : World} (ha : RigS w1 rg a P L D) (ka : Kept (fun _ => False) w w1) (fa : ∀ x, a.K x → w.heap.size ≤ x) (hb : RigS wr rh b Q M E) (kb : Kept (fun _ => False) w1 wr) (fb : ∀ x, b.K x → w1.heap.size ≤ x) : TwoR w wr rg a P L D rh b Q M E :=
  ⟨ha.keep0 kb, hb, fun x h1 h2 => by have := ha.s.lt h1; have := fb x h2; omega, ka.trans0 kb, fa, fun x hx => by have := fb x hx; have := ka.size; omega⟩
structure FewI (k : Nat) (P : PoolM) (L : LogM) (D : DevM) (Q : PoolM) (M : LogM) (E : DevM) : Prop where
  i : RigI P L D
  j : RigI Q M E
  pb : P.blocks = 30 ∧ Q.blocks = 30
  pm : P.most = 8
  f1 : 1 ≤ L.fin ∧ 1 ≤ M.fin
  fin : L.fin ≤ 1 + 1075 * (k : Int) ∧ M.fin ≤ 1 + 1075 * (k : Int)
  tu : L.turn = 1 ∧ M.turn = 1
  cur : ∀ p, 0 ≤ p → p < 30 → P.cur D p = Q.cur E p
theorem FewI.start : FewI 0 (newPool 12 30 8) rigL0 (newM (12 + 30)) (newPool 12 30 40) rigL0 (newM (12 + 30)) :=
  ⟨rig_start (by decide) (by decide) (by decide) (by decide), rig_start (by decide) (by decide) (by decide) (by decide), ⟨rfl, rfl⟩, rfl, ⟨by decide, by decide⟩, ⟨by decide, by decide⟩, ⟨rfl, rfl⟩, fun p h0 h1 => rfl⟩
theorem FewI.late {k m : Nat} (h : FewI k P L D Q M E) (hkm : k ≤ m) : FewI m P L D Q M E := ⟨h.i, h.j, h.pb, h.pm, h.f1, ⟨by have := h.fin.1; omega, by have := h.fin.2; omega⟩, h.tu, h.cur⟩
theorem FewI.readL {k : Nat} (h : FewI k P L D Q M E) (hp : RigI P' L' D') (hk : Keeps P L D P' L' D') : FewI k P' L' D' Q M E := by
  have hl := hk.like
  refine ⟨hp, h.j, ⟨by rw [hl.pb]; exact h.pb.1, h.pb.2⟩, by rw [hl.pm]; exact h.pm, ⟨by rw [hl.fin]; exact h.f1.1, h.f1.2⟩, ⟨by rw [hl.fin]; exact h.fin.1, h.fin.2⟩, ⟨by rw [hl.lt]; exact h.tu.1, h.tu.2⟩, fun p h0 h1 => ?_⟩
  rw [hk.cur p h0 (by rw [h.pb.1]; exact h1)]
  exact h.cur p h0 h1
theorem FewI.readR {k : Nat} (h : FewI k P L D Q M E) (hp : RigI Q' M' E') (hk : Keeps Q M E Q' M' E') : FewI k P L D Q' M' E' := by
  have hl := hk.like
  refine ⟨h.i, hp, ⟨h.pb.1, by rw [hl.pb]; exact h.pb.2⟩, h.pm, ⟨h.f1.1, by rw [hl.fin]; exact h.f1.2⟩, ⟨h.fin.1, by rw [hl.fin]; exact h.fin.2⟩, ⟨h.tu.1, by rw [hl.lt]; exact h.tu.2⟩, fun p h0 h1 => ?_⟩
  rw [hk.cur p h0 (by rw [h.pb.2]; exact h1)]
  exact h.cur p h0 h1
theorem open42 : openM (newM (12 + 30)) 0 12 1 1 = (some rigL0, newM (12 + 30), 0) := by kernel_rfl
theorem chain42 : chainM (newM (12 + 30)) 0 12 1 4488 4489 1 0 [] = ([], 0) := by kernel_rfl
theorem rig_put (h : RigI P L D) {page off : Int} {m : Bytes} (p0 : 0 ≤ page) (p1 : page < P.blocks) (p2 : page < 65536) (o0 : 0 ≤ off) (m0 : m ≠ []) (o1 : off + m.length ≤ 512) (f1 : 1 ≤ L.fin) (f2 : L.fin ≤ 2999999999999000000) (t : L.turn = 1) :
    ∃ L1 D1 P2 L2 D2, app1M L D (chR page off m) = (L1, D1, L.fin) ∧ RigI P L1 D1 ∧ changeM P L1 D1 page off m L.fin = (P2, L2, D2, 0) ∧ RigI P2 L2 D2 ∧ (∀ p, 0 ≤ p → p < P.blocks → P2.cur D2 p = if p = page then layO (P.cur D page) off.toNat m else P.cur D p) ∧
      P2.blocks = P.blocks ∧ P2.most = P.most ∧ L2.turn = 1 ∧ 1 ≤ L2.fin ∧ L2.fin ≤ L.fin + 1075 := by
  obtain ⟨L1, D1, q1, q2, q3, q4, q5, q6, q7⟩ := rig_app h (chR page off m) (chR_right f1 f2 (by rw [t]; decide) (by rw [t]; decide) p0 p2 o0 m0 o1) f2
  obtain ⟨P2, L2, D2, r1, r2, r3, r4, _⟩ := rig_change q2 p0 p1 o0 m0 o1 f1 q4
  refine ⟨L1, D1, P2, L2, D2, q1, q2, r1, r2, fun p h0 h1 => ?_, r4.pb, r4.pm, by rw [r4.lt, q6, t], by rw [r4.fin]; omega, by rw [r4.fin]; omega⟩
  rw [r3 p h0 h1, q3 page p0, q3 p h0]
theorem rig_read (hs : RigS wr rg a P L D) (hi : RigI P L D) {page : Int} (p0 : 0 ≤ page) (p1 : page < P.blocks) :
    Calls Tryz.prog 14 #[.pointer (some ⟨a.pb, 0, none⟩), .int .i64 page] wr fun e w' => ∃ a' P' L' D' g c, AdrTo wr a w' a' ∧ RigS w' rg a' P' L' D' ∧ RigI P' L' D' ∧ Keeps P L D P' L' D' ∧ e = .returned (.tuple #[.slice (some ⟨g, 0, none⟩) 512 c, .int .i64 0]) ∧
      OwnB w' wr.heap.size g c (P.cur D page) ∧ (P.cur D page).length = 512 ∧ ¬ a'.K g := by
  obtain ⟨P1, L1, D1, i, f, e, x1, x2, x3, x4, x5⟩ := rig_frame hi p0 p1
  have hflen : f.b.length = 512 := (x4.pi.fr f (List.mem_of_getElem? x1)).2.2.1
  have hrd := pread_any hs.s hi.g hi.pi.n hi.calm.d hi.pi.fn page (fun g hg h0 => by
    rw [e] at hg
    have hgg : f = g := Option.some.inj (x1.symm.trans hg)
    rw [← hgg]; exact hflen)
  unfold PReadPost at hrd
  rw [e] at hrd
  refine hrd.mono (fun e' w' hh => ?_)
  obtain ⟨a', f2, A, c, y1, y2, y3, y4, y5, y6⟩ := hh.2 rfl
  have hff : f = f2 := Option.some.inj (x1.symm.trans y3)
  rw [← hff] at y5
  rcases y5.form with ⟨z1, z2⟩ | ⟨g, cap, z1, z2⟩
  · rw [z2] at hflen; simp at hflen
  · rw [hflen] at z1
    injection z1 with z1 _ z3
    subst z1
    subst z3
    exact ⟨a', P1, L1, D1, g, c, y1, hs.to y1 y2, x4, x5, y4, by rw [← x3]; exact z2, by rw [← x3]; exact hflen, y6 g rfl⟩
end
end Go.Proofs.YtnbfhdgojmflhaaGreat
namespace Go.Proofs.YtnbfhdgojmflhaaGreat
open Go.RowKit
theorem step_alloc {P : Program} {ops : Array Oper} {Q : Exit → Act → World → Prop} {E : Prop} {K : Act → World → Prop} {a : Act} {w : World} {o : Oper} (hg : o.guard = none) (t : TypeId) (ho : o.op = .alloc t) (cs : Array Value) (hz : ∀ w, (zeroValue t).run P w = .ok (.agg cs) w)
    (k : ∀ g w', w.heap.size ≤ g → g < w'.heap.size → w'.heap[g]? = some (.cells cs t (0, 0)) → Kept (fun _ => False) w w' → K (a.put o.dst (.pointer (some ⟨g, 0, none⟩))) w') : if Region.wanted o (yielded ops a.tmps) = true then Oper.wp P o a w K Q else E := by
  have hk := k w.heap.size _ (Nat.le_refl _) (by simp) (heap_alloc_new w _) ((Kept.refl _ w).alloc _)
  rw [if_pos (by simp [Region.wanted, hg])]
  unfold Oper.wp
  have hr : (execOp a.eval o).run P w = .ok (.value (.pointer (some ⟨w.heap.size, 0, none⟩))) (w.alloc (.cells cs t (0, 0))) := by
    simp only [execOp, ho, Instr.alloc, newVar, newRow, newObj, Sem.run_bind, Sem.run, Result.andThen, hz w]
    rfl
  rw [hr]
  exact hk
section
variable {w w' w1 wr : World} {a : Adr} {P : PoolM} {L : LogM} {D : DevM}
theorem rig_put_any {rg : Nat} (hs : RigS wr rg a P L D) (h : RigI P L D) {page off : Int} {m : Bytes} {NA : Option Addr} {nc : Nat} (p0 : 0 ≤ page) (p1 : page < P.blocks) (p2 : page < 65536) (o0 : 0 ≤ off) (m0 : m ≠ []) (o1 : off + m.length ≤ 512) (f1 : 1 ≤ L.fin) (f2 : L.fin ≤ 2999999999999000000) (t : L.turn = 1)
    (hm : RdB wr NA m) (hmK : ∀ b o, NA = some ⟨b, o, none⟩ → b < wr.heap.size → ¬ a.K b) :
    ∃ L1 D1 P2 L2 D2, RigI P L1 D1 ∧ RigI P2 L2 D2 ∧ (∀ p, 0 ≤ p → p < P.blocks → P2.cur D2 p = if p = page then layO (P.cur D page) off.toNat m else P.cur D p) ∧
      P2.blocks = P.blocks ∧ P2.most = P.most ∧ L2.turn = 1 ∧ 1 ≤ L2.fin ∧ L2.fin ≤ L.fin + 1075 ∧
      Calls Tryz.prog 13 #[ptrV rg, .agg (spnC page off none 0 0 NA m.length nc)] wr (fun e w' => e = .returned (.int .i64 L.fin) ∧ ∃ a', AdrTo wr a w' a' ∧ RigS w' rg a' P L1 D1) ∧
      (∀ w1 a1, RigS w1 rg a1 P L1 D1 → RdB w1 NA m → (∀ b o, NA = some ⟨b, o, none⟩ → b < w1.heap.size → ¬ a1.K b) →
        Calls Tryz.prog 12 #[ptrV a1.pb, .agg (spnC page off none 0 0 NA m.length nc), .int .i64 L.fin] w1 (fun e w' => e = .returned (.int .i64 0) ∧ ∃ a', AdrTo w1 a1 w' a' ∧ RigS w' rg a' P2 L2 D2)) := by
  obtain ⟨L1, D1, P2, L2, D2, q1, q2, q3, q4, q5, q6, q7, q8, q9, q10⟩ := rig_put h p0 p1 p2 o0 m0 o1 f1 f2 t
  refine ⟨L1, D1, P2, L2, D2, q2, q4, q5, q6, q7, q8, q9, q10, ?_, fun w1 a1 hs1 hm1 hmK1 => ?_⟩
  · have := append1_any hs h.g page off (by unfold isI; omega) (by unfold isI; omega) none 0 0 NA m nc (by omega) hm hmK
    rw [q1] at this
    exact this
  · obtain ⟨Lf, hLf⟩ : ∃ Lf, Lf = L.fin := ⟨_, rfl⟩
    rw [← hLf] at q3 ⊢
    have hch := pchange_any hs1.s q2.g q2.pi.n q2.calm.d q2.pi.fn page off none 0 0 NA m nc Lf hm1 hmK1 (fun f hf h0 => by
      obtain ⟨P', L', D', i, f', e', x1, x2, x3, x4, x5⟩ := rig_frame q2 p0 p1
      rw [e'] at hf
      have hff : f' = f := Option.some.inj (x1.symm.trans hf)
      rw [← hff]
      exact (x4.pi.fr f' (List.mem_of_getElem? x1)).2.2.1)
    unfold PChPost at hch
    dsimp only at hch
    rw [q3] at hch
    refine hch.mono ?_
    rintro e w2 ⟨he, a2, f2, s2, k2, g2⟩
    exact ⟨he, a2, ⟨f2, k2, g2⟩, hs1.to ⟨f2, k2, g2⟩ s2⟩
theorem FewI.put {k : Nat} {P Q P2 Q2 : PoolM} {L M L2 M2 : LogM} {D E D2 E2 : DevM} (h : FewI k P L D Q M E) {page : Int} {off : Nat} {m : Bytes} (p0 : 0 ≤ page) (p1 : page < 30) (i2 : RigI P2 L2 D2) (j2 : RigI Q2 M2 E2)
    (c1 : ∀ p, 0 ≤ p → p < P.blocks → P2.cur D2 p = if p = page then layO (P.cur D page) off m else P.cur D p) (c2 : ∀ p, 0 ≤ p → p < Q.blocks → Q2.cur E2 p = if p = page then layO (Q.cur E page) off m else Q.cur E p)
    (b1 : P2.blocks = P.blocks) (b2 : Q2.blocks = Q.blocks) (m1 : P2.most = P.most) (t1 : L2.turn = 1) (t2 : M2.turn = 1) (f1 : 1 ≤ L2.fin) (f2 : 1 ≤ M2.fin) (g1 : L2.fin ≤ L.fin + 1075) (g2 : M2.fin ≤ M.fin + 1075) : FewI (k + 1) P2 L2 D2 Q2 M2 E2 := by
  have hf := h.fin
  refine ⟨i2, j2, ⟨b1.trans h.pb.1, b2.trans h.pb.2⟩, m1.trans h.pm, ⟨f1, f2⟩, ⟨by omega, by omega⟩, ⟨t1, t2⟩, fun p q0 q1 => ?_⟩
  rw [c1 p q0 (by rw [h.pb.1]; exact q1), c2 p q0 (by rw [h.pb.2]; exact q1), h.cur page p0 p1, h.cur p q0 q1]
end
end Go.Proofs.YtnbfhdgojmflhaaGreat
