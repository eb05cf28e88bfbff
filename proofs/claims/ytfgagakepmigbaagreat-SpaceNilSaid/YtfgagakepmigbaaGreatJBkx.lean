/-
  No statement is proved here.
-/
import Derived.Test.YtfgagakepmigbaaGreatJBkr
import Derived.Test.YtfgagakepmigbaaGreatJBkw
namespace Go.Proofs.YtfgagakepmigbaaGreat
open Go.RowKit
section
variable {w w' w1 : World} {x x' : BAdr} {b b' : BkM} {P P' : PoolM} {L L' : LogM} {D D' : DevM}
end
end Go.Proofs.YtfgagakepmigbaaGreat
namespace Go.Proofs.YtfgagakepmigbaaGreat
open Go.RowKit
def readyM (b : BkM) (P : PoolM) (L : LogM) (D : DevM) : BkM × PoolM × LogM × DevM × Int := if L.room < b.count * 204 then pointM b P L D else (b, P, L, D, 0)
def beginM (b : BkM) (P : PoolM) (L : LogM) (D : DevM) : BkM × PoolM × LogM × DevM × Int :=
  if b.inT = true then (b, P, L, D, 7) else
  if (readyM b P L D).2.2.2.2 ≠ 0 then readyM b P L D else
  ({ (readyM b P L D).1 with inT := true, tx := (readyM b P L D).2.2.1.fin, last := 0, done := [], owed := 35 }, (readyM b P L D).2.1, (readyM b P L D).2.2.1, (readyM b P L D).2.2.2.1, 0)
section
variable {w w' w1 : World} {x x' : BAdr} {b b' : BkM} {P P' : PoolM} {L L' : LogM} {D D' : DevM}
structure PointG (b : BkM) (P : PoolM) (L : LogM) (D : DevM) : Prop where
  g : LogG L
  n : PoolN P
  g2 : LogG (flushM P (L.force D).1 (L.force D).2.1).2.1
  n2 : 2 ≤ (flushM P (L.force D).1 (L.force D).2.1).2.2.1.n
theorem PointG.any (h : BookS w x b P L D) (k : PointG b P L D) : Calls Tryz.prog 42 #[ptrV x.bk] w (BPost w x (pointM b P L D)) := bpoint_any h k.g k.n k.g2 k.n2
set_option maxRecDepth 100000 in
set_option maxHeartbeats 1600000 in
theorem bbegin_any (h : BookS w x b P L D) (hok : LogOk L) (hc0 : 0 ≤ b.count ∧ b.count ≤ 100000) (hrb : -1000000000 ≤ L.room ∧ L.room ≤ 1000000000) (hpt : b.inT = false → L.room < b.count * 204 → PointG b P L D) :
    Calls Tryz.prog 18 #[ptrV x.bk] w (BPost w x (beginM b P L D)) := by
  obtain ⟨V, hV⟩ : ∃ V, V = beginM b P L D := ⟨_, rfl⟩
  obtain ⟨POST, hPOST⟩ : ∃ POST, POST = BPost w x V := ⟨_, rfl⟩
  rw [← hV, ← hPOST]
  have HPO := qh (show ∀ n w' x' b1 P1 L1 D1, V = (b1, P1, L1, D1, n) → BTo w x w' x' → BookS w' x' b1 P1 L1 D1 → POST (.returned (.int .i64 n)) w' from fun n w' x' b1 P1 L1 D1 h1 h2 h3 => by rw [hPOST, h1]; exact ⟨rfl, x', h2, h3⟩)
  have HV := qh hV
  have H := qh h
  have HPT := qh hpt
  have HTH := qh (bthere_any h)
  have HRM := qh (fun (wz : World) (hk : Kept (fun _ => False) w wz) => room_any wz x.a.q x.a.p x.a.lv x.a.tv L (h.keep0 hk).s.log.hq hok)
  obtain ⟨-, -, -, c3, -⟩ := h.cells
  obtain ⟨t, ht⟩ : ∃ t, t = b.inT := ⟨_, rfl⟩
  rw [← ht] at c3
  have HT := qh ht
  obtain ⟨cn, hcn⟩ : ∃ cn, cn = b.count := ⟨_, rfl⟩
  obtain ⟨rm, hrm⟩ : ∃ rm, rm = L.room := ⟨_, rfl⟩
  have HCN := qh hcn
  have HRR := qh hrm
  rw [← hrm] at HRM hrb HPT
  rw [← hcn] at hc0 HPT
  have HC := qh (fun (w' : World) (h : w'.heap[x.bk]? = some (.cells (bookC x b) 30 (0, 0))) => show w'.cell? ⟨x.bk, 1, none⟩ = some (.pointer (some ⟨x.a.q, 0, none⟩)) ∧ w'.cell? ⟨x.bk, 8, none⟩ = some (.int .i64 cn) from by rw [hcn]; exact ⟨cell_blk h rfl, cell_blk h rfl⟩)
  unfold ptrV at HTH ⊢
  clear h hok hpt hV hPOST ht hcn hrm
  go_enter Tryz.func18, Tryz.ntmps18
  go_wp2_with fail
  refine HTH.out.mono ?_
  rintro e wx ⟨rfl, rfl⟩
  cases t
  · have HVV := qh (show V = if (readyM b P L D).2.2.2.2 ≠ 0 then readyM b P L D else ({ (readyM b P L D).1 with inT := true, tx := (readyM b P L D).2.2.1.fin, last := 0, done := [], owed := 35 }, (readyM b P L D).2.1, (readyM b P L D).2.2.1, (readyM b P L D).2.2.2.1, 0) from by
      rw [HV.out]; unfold beginM; rw [if_neg (by rw [← HT.out]; decide)])
    have HS0 := qh (show (w.drew).heap[x.bk]? = some (.cells (bookC x b) 30 (0, 0)) from H.out.hb)
    have ecn : IntKind.i64.wrap (cn * 204) = cn * 204 := by rw [IntKind.wrap_i64]; omega
    go_wp2_with fail
    refine startL 10 (fun w' => w'.heap[x.bk]? = some (.cells (bookC x b) 30 (0, 0))) (by kernel_rfl) HS0.out (fun hH => ?_)
    simp only [List.length_cons, List.length_nil, List.replicate]
    refine tK 0 ?_ (fun w' hw' => ?_) hH ?_
    rotate_left
    · obtain ⟨k1, k8⟩ := HC.out w' hw'
      go_simp <;> with_reducible rfl
    simp only [Act.put, oZa, oZb, oZc]
    refine tK 1 ?_ (fun w' hw' => ?_) hH ?_
    rotate_left
    · obtain ⟨k1, k8⟩ := HC.out w' hw'
      go_simp <;> with_reducible rfl
    simp only [Act.put, oZa, oZb, oZc]
    refine tK 2 ?_ (fun w' hw' => ?_) hH ?_
    rotate_left
    · obtain ⟨k1, k8⟩ := HC.out w' hw'
      go_simp <;> with_reducible rfl
    simp only [Act.put, oZa, oZb, oZc]
    refine tK 3 ?_ (fun w' hw' => ?_) hH ?_
    rotate_left
    · obtain ⟨k1, k8⟩ := HC.out w' hw'
      go_simp <;> with_reducible rfl
    simp only [Act.put, oZa, oZb, oZc]
    refine tK 5 ?_ (fun w' hw' => ?_) hH ?_
    rotate_left
    · obtain ⟨k1, k8⟩ := HC.out w' hw'
      go_simp <;> with_reducible rfl
    simp only [Act.put, oZa, oZb, oZc]
    refine tK 6 ?_ (fun w' hw' => ?_) hH ?_
    rotate_left
    · obtain ⟨k1, k8⟩ := HC.out w' hw'
      go_simp <;> with_reducible rfl
    simp only [Act.put, oZa, oZb, oZc]
    refine tK 7 ?_ (fun w' hw' => ?_) hH ?_
    rotate_left
    · obtain ⟨k1, k8⟩ := HC.out w' hw'
      go_simp <;> with_reducible rfl
    simp only [Act.put, oZa, oZb, oZc]
    refine tK 8 ?_ (fun w' hw' => ?_) hH ?_
    rotate_left
    · obtain ⟨k1, k8⟩ := HC.out w' hw'
      go_simp <;> with_reducible rfl
    simp only [Act.put, oZa, oZb, oZc]
    refine tK 9 ?_ (fun w' hw' => ?_) hH ?_
    rotate_left
    · obtain ⟨k1, k8⟩ := HC.out w' hw'
      go_simp <;> with_reducible rfl
    simp only [Act.put, oZa, oZb, oZc]
    refine stepL 4 rfl (by kernel_rfl) (fun K hK => ?_)
    go_simp
    refine (HRM.out _ ((Kept.refl (fun _ => False) w).drew)).mono ?_
    rintro e w1 ⟨rfl, hsm⟩
    have HK1 := qh (((Kept.refl (fun _ => False) w).drew).trans0 (hsm.kept (fun _ => False)))
    have HS1 := qh (show w1.heap[x.bk]? = some (.cells (bookC x b) 30 (0, 0)) from HK1.out.heap H.out.hb id)
    clear hsm
    go_simp
    refine hK.out _ _ (fun _ => HS1.out) (fun _ => ?_)
    simp only [oZa, oZb, oZc]
    clear hK K hH
    refine stepL 10 rfl (by kernel_rfl) (fun K hK => ?_)
    go_simp
    refine hK.out _ _ (fun h => absurd rfl h) (fun _ => ?_)
    simp only [oZa, oZb, oZc]
    clear hK K
    refine doneL (by kernel_rfl) ?_ _
    have HSB := qh (H.out.keep0 HK1.out)
    have HTB := qh ((BTo.refl w x).keep0 HK1.out)
    go_upto_if 23 with fail
    go_cut [3, 23] from 23 to 28 (fun _ _ wx => ∃ x1 b1 P1 L1 D1, readyM b P L D = (b1, P1, L1, D1, 0) ∧ BTo w x wx x1 ∧ BookS wx x1 b1 P1 L1 D1)
    case first =>
      by_cases hl : rm < cn * 204
      · have HRY := qh (show readyM b P L D = pointM b P L D from by unfold readyM; rw [if_pos (by rw [← HCN.out, ← HRR.out]; exact hl)])
        have HPA := qh ((HPT.out HT.out.symm hl).any HSB.out)
        unfold ptrV at HPA
        go_wp2_with fail
        refine HPA.out.mono ?_
        rintro e w2 ⟨rfl, x2, ht2, hs2⟩
        have HT2 := qh ht2
        have HS2 := qh hs2
        obtain ⟨X, hX⟩ : ∃ X, X = pointM b P L D := ⟨_, rfl⟩
        rw [← hX] at HRY HS2 ⊢
        obtain ⟨b2, P2, L2, D2, n⟩ := X
        dsimp only at HS2 ⊢
        clear ht2 hs2 hX HPA
        by_cases hn : n = 0
        · subst hn
          go_wp2
          go_meet
          case rel => exact ⟨x2, b2, P2, L2, D2, HRY.out, HTB.out.trans HT2.out, HS2.out⟩
        · have hnb : (n != 0) = true := by rw [bne_iff_ne]; exact hn
          have HE := qh (show V = (b2, P2, L2, D2, n) from by rw [HVV.out, HRY.out, if_pos hn])
          clear hn
          go_wp2
          exact HPO.out n _ _ _ _ _ _ HE.out (HTB.out.trans HT2.out) HS2.out
      · have HRY := qh (show readyM b P L D = (b, P, L, D, 0) from by unfold readyM; rw [if_neg (by rw [← HCN.out, ← HRR.out]; exact hl)])
        go_wp2
        go_meet
        case rel => exact ⟨x, b, P, L, D, HRY.out, HTB.out, HSB.out⟩
    case rest =>
      obtain ⟨x1, b1, P1, L1, D1, hry, ht1, hs1⟩ := hcut
      have HT1 := qh ht1
      have HSS := qh hs1
      have HBK := qh ht1.fix.bk
      have HE := qh (show V = ({ b1 with inT := true, tx := L1.fin, last := 0, done := [], owed := 35 }, P1, L1, D1, 0) from by rw [HVV.out, hry, if_neg (fun h => h rfl)])
      obtain ⟨-, q1, -⟩ := hs1.cells
      rw [ht1.fix.bk, ht1.fix.a.q] at q1
      have HEN := qh (show Calls Tryz.prog 43 #[.pointer (some ⟨x.a.q, 0, none⟩)] wc fun e w' => e = .returned (.int .i64 L1.fin) ∧ wc = w' from by
        have := end_any wc x1.a.q x1.a.p x1.a.lv x1.a.tv L1 hs1.s.log.hq
        rwa [ht1.fix.a.q] at this)
      have HB0 := qh (show wc.heap[x.bk]? = some (.cells (bookC x1 b1) 30 (0, 0)) from by rw [← ht1.fix.bk]; exact hs1.hb)
      obtain ⟨lf, hlf⟩ : ∃ lf, lf = L1.fin := ⟨_, rfl⟩
      rw [← hlf] at HEN HE
      clear hry ht1 hs1 hlf
      go_wp2_with fail
      refine HEN.out.mono ?_
      rintro e wy ⟨rfl, rfl⟩
      go_wp2_with (refine wl_store1 rfl _ _ _ rfl x.bk 3 (.bool true) (bookC x1 b1) rfl rfl HB0.out (by kernel_rfl) (by show 3 < 9; decide) rfl ?_)
      intro w3 hb3 hk3
      have HB3 := qh hb3
      have HK3 := qh hk3
      clear hb3 hk3
      go_wp2_with (refine wl_store1 rfl _ _ _ rfl x.bk 4 (.int .i64 lf) _ rfl rfl HB3.out (by kernel_rfl) (by show 4 < 9; decide) rfl ?_)
      intro w4 hb4 hk4
      have HB4 := qh hb4
      have HK4 := qh (HK3.out.trans' hk4)
      clear hb4 hk4 HB3 HK3
      go_wp2_with (refine wl_store1 rfl _ _ _ rfl x.bk 5 (.int .i64 0) _ rfl rfl HB4.out (by kernel_rfl) (by show 5 < 9; decide) rfl ?_)
      intro w5 hb5 hk5
      have HB5 := qh hb5
      have HK5 := qh (HK4.out.trans' hk5)
      clear hb5 hk5 HB4 HK4
      go_wp2_with (refine wl_store1 rfl _ _ _ rfl x.bk 6 (.slice none 0 0) _ rfl rfl HB5.out (by kernel_rfl) (by show 6 < 9; decide) rfl ?_)
      intro w6 hb6 hk6
      have HB6 := qh hb6
      have HK6 := qh (HK5.out.trans' hk6)
      clear hb6 hk6 HB5 HK5
      go_wp2_with (refine wl_store1 rfl _ _ _ rfl x.bk 7 (.int .i64 35) _ rfl rfl HB6.out (by kernel_rfl) (by show 7 < 9; decide) rfl ?_)
      intro w7 hb7 hk7
      have hset := HSS.out.setDone (w' := w7) (v := .slice none 0 0) (b' := { b1 with inT := true, tx := lf, last := 0, done := [], owed := 35 }) (LsV.nil _ _) (by rw [HBK.out]; exact hb7) ((HK6.out.trans' hk7).mono (fun z _ e => .inl (by rw [HBK.out]; exact e))) (.inl rfl)
      have HSET := qh hset
      clear hb7 hk7 hset HB6 HK6
      go_wp2
      exact HPO.out 0 _ _ _ _ _ _ HE.out (HT1.out.trans HSET.out.2) HSET.out.1
  · have HE := qh (show V = (b, P, L, D, 7) from by rw [HV.out]; unfold beginM; rw [if_pos HT.out.symm])
    go_wp2
    exact HPO.out 7 _ x _ _ _ _ HE.out (BTo.refl w x) H.out
end
end Go.Proofs.YtfgagakepmigbaaGreat
namespace Go.Proofs.YtfgagakepmigbaaGreat
open Go.RowKit
section
variable {w w' w1 : World} {p ms mo : Nat} {D D' : DevM} {P : PoolM} {L : LogM} {a : Adr}
def bkNew (n : Int) : BkM := ⟨false, 0, 0, [], 0, n⟩
theorem bBk (u v z : Option Addr) (n : Int) (wz : World) : (Instr.build 30 #[(0, .pointer u), (1, .pointer v), (2, .pointer z), (8, .int .i64 n)]).run Tryz.prog wz = .ok (.agg #[.pointer u, .pointer v, .pointer z, .bool false, .int .i64 0, .int .i64 0, .slice none 0 0, .int .i64 0, .int .i64 n]) wz := run_build wz _ _ _ (by kernel_rfl)
theorem bnew_ok (h : PoolS w a P L D) (hn : 2 ≤ D.n) (hm : (readMas D).2 = 0) (hf : L.fin ≠ 0) (hp : P.blocks ≠ 0) (hq : P.blocks = (placeQ D.n).2.1) :
    Calls Tryz.prog 78 #[ptrV a.p, ptrV a.q, ptrV a.pb] w fun e w' => ∃ bk, e = .returned (ptrV bk) ∧ Kept (fun _ => False) w w' ∧ w.heap.size ≤ bk ∧ BookS w' ⟨a, bk, .slice none 0 0⟩ (bkNew (placeQ D.n).2.2.2) P L D := by
  have HR := qh (readMas_any h.log.dev hn)
  have HB := qh (fun (w' : World) (hk : Kept (fun _ => False) w w') => blocks_any (h.log.dev.keep hk id id id))
  have HE := qh (fun (w' : World) (hk : Kept (fun _ => False) w w') => end_any w' a.q a.p a.lv a.tv L (h.keep hk (fun _ _ => id)).log.hq)
  have HPG := qh (fun (w' : World) (hk : Kept (fun _ => False) w w') => ppages_any (h.keep hk (fun _ _ => id)))
  have H := qh h
  obtain ⟨V, hV⟩ : ∃ V, V = readMas D := ⟨_, rfl⟩
  rw [← hV] at HR hm
  obtain ⟨m, n⟩ := V
  dsimp only at HR hm
  subst hm
  obtain ⟨N, hN⟩ : ∃ N, N = D.n := ⟨_, rfl⟩
  rw [← hN] at HB hq ⊢
  have HBB := bBk
  obtain ⟨lf, hlf⟩ : ∃ lf, lf = L.fin := ⟨_, rfl⟩
  rw [← hlf] at HE hf
  obtain ⟨pbs, hpbs⟩ : ∃ pbs, pbs = P.blocks := ⟨_, rfl⟩
  rw [← hpbs] at HPG hp hq
  have hf1 : (lf == 0) = false := by rw [beq_eq_false_iff_ne]; exact hf
  have hp1 : (pbs == 0) = false := by rw [beq_eq_false_iff_ne]; exact hp
  have HPL := qh (place_any N)
  obtain ⟨Q, hQ⟩ : ∃ Q, Q = placeQ N := ⟨_, rfl⟩
  rw [← hQ] at hq HPL ⊢
  obtain ⟨q1, q2, q3, q4⟩ := Q
  dsimp only at hq HPL ⊢
  subst hq
  unfold ptrV at HPG ⊢
  clear h hN hn hV hf hp hlf hpbs hQ
  go_enter Tryz.func78, Tryz.ntmps78
  go_wp2_with fail
  refine HR.out.mono ?_
  rintro e w1 ⟨rfl, hk1⟩
  have HK1 := qh hk1
  clear hk1 HR
  go_wp2_with (refine wl_alloc' rfl 103 rfl (masC zM) zeroMas ?_)
  intro pr w2 l2 m2 hb2 hk2
  have HP2 := qh hb2
  have HK2 := qh (HK1.out.trans0 hk2)
  have HL2 := qh (show w.heap.size ≤ pr from Nat.le_trans HK1.out.size l2)
  clear hb2 hk2 l2 m2
  go_wp2_with (refine wl_store_row rfl 103 _ _ rfl pr (masC m) (masC zM) rfl rfl HP2.out sizeMas rfl (one_mas _) ?_)
  intro w3 hb3 hk3
  have HK3 := qh (HK2.out.new hk3 (fun z hz => by subst hz; exact HL2.out))
  clear hb3 hk3
  go_wp2_with fail
  refine (HB.out w3 HK3.out).mono ?_
  rintro e wx ⟨rfl, rfl⟩
  go_wp2_with fail
  refine (HPL.out w3).mono ?_
  rintro e wx ⟨rfl, rfl⟩
  go_wp2_with fail
  refine (HE.out w3 HK3.out).mono ?_
  rintro e wx ⟨rfl, rfl⟩
  go_wp2_with fail
  refine (HPG.out w3 HK3.out).mono ?_
  rintro e wx ⟨rfl, rfl⟩
  go_wp2_with fail
  refine (HPG.out w3 HK3.out).mono ?_
  rintro e wx ⟨rfl, rfl⟩
  go_wp2_with (refine wl_box rfl 30 _ rfl (.agg #[.pointer (some ⟨a.p, 0, none⟩), .pointer (some ⟨a.q, 0, none⟩), .pointer (some ⟨a.pb, 0, none⟩), .bool false, .int .i64 0, .int .i64 0, .slice none 0 0, .int .i64 0, .int .i64 q4]) rfl ?_)
  intro bk w4 l4 m4 hb4 hk4
  have HB4 := qh (show w4.heap[bk]? = some (.cells (bookC ⟨a, bk, .slice none 0 0⟩ (bkNew q4)) 30 (0, 0)) from hb4)
  have HK4 := qh (HK3.out.trans0 hk4)
  have HL4 := qh (show w.heap.size ≤ bk from Nat.le_trans HK3.out.size l4)
  clear hb4 hk4 l4 m4
  go_wp2
  go_ret
  exact ⟨bk, rfl, HK4.out, HL4.out, ⟨H.out.keep HK4.out (fun _ _ => id), HB4.out, LsV.nil _ _, fun z hz => by cases hz⟩⟩
end
end Go.Proofs.YtfgagakepmigbaaGreat
