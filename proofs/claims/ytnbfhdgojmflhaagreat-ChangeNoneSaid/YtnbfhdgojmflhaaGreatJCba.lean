/-
  No statement is proved here: a part of what the claim's last text rests on.
-/
import Derived.Test.YtnbfhdgojmflhaaGreatJSmb
namespace Go.Proofs.YtnbfhdgojmflhaaGreat
open Go.RowKit
def rg12C (x : BAdr) : Array Value := #[ptrV x.a.p, ptrV x.a.q, ptrV x.a.pb, ptrV x.bk]
structure Rg12 (w : World) (rg : Nat) (x : BAdr) (S : BkA) (g : Nat) : Prop where
  b : BkW w x S g
  h : w.heap[rg]? = some (.cells (rg12C x) 53 (0, 0))
section
variable {w w' : World} {rg : Nat} {x x' : BAdr} {S S' : BkA} {g g' : Nat}
theorem BkW.notK (h : BkW w x S g) {y : Nat} {t : TypeId} (hx : IsT w y t) (t1 : t ≠ 171) (t2 : t ≠ 154) (t3 : t ≠ 107) (t4 : t ≠ 109) (t5 : t ≠ 113) (t6 : t ≠ 5) (t7 : t ≠ 2) (t8 : t ≠ 65) : ¬ x.K y := by
  obtain ⟨b, P, L, D, h1, h2⟩ := h
  exact h1.notT hx t1 t2 t3 t4 t5 t6 t7 t8
theorem BkW.lt (h : BkW w x S g) {z : Nat} (hz : x.K z) : z < w.heap.size := by
  obtain ⟨b, P, L, D, h1, h2⟩ := h
  exact h1.lt hz
theorem Rg12.ne (h : Rg12 w rg x S g) : ¬ x.K rg := h.b.notK ⟨_, _, h.h⟩ (by decide) (by decide) (by decide) (by decide) (by decide) (by decide) (by decide) (by decide)
theorem rg12_fix (h : x.Fix x') : rg12C x' = rg12C x := by unfold rg12C; rw [h.a.p, h.a.q, h.a.pb, h.bk]
theorem Rg12.to (h : Rg12 w rg x S g) (ht : BTo w x w' x') (hb : BkW w' x' S' g') : Rg12 w' rg x' S' g' := ⟨hb, by rw [rg12_fix ht.fix]; exact ht.k.heap h.h h.ne⟩
theorem Rg12.keep0 (h : Rg12 w rg x S g) (hk : Kept (fun _ => False) w w') : Rg12 w' rg x S g := ⟨h.b.keep0 hk, hk.heap h.h id⟩
theorem Rg12.cell (h : Rg12 w rg x S g) : w.cell? ⟨rg, 3, none⟩ = some (.pointer (some ⟨x.bk, 0, none⟩)) := cell_blk h.h rfl
theorem bRg12 (p : Nat) (wz : World) : (Instr.build 53 #[(0, .pointer (some ⟨p, 0, none⟩))]).run Tryz.prog wz = .ok (.agg #[.pointer (some ⟨p, 0, none⟩), .pointer none, .pointer none, .pointer none]) wz := run_build wz _ _ _ (by kernel_rfl)
set_option maxRecDepth 100000 in
set_option maxHeartbeats 3200000 in
theorem begin12_any (w : World) (n frames : Int) (n0 : 24 ≤ n) (n1 : n ≤ 65536) (f0 : 8 ≤ frames) (f1 : frames ≤ 1024) :
    Calls Tryz.prog 19 #[.int .i64 n, .int .i64 frames] w fun e w' => ∃ rg x, e = .returned (.tuple #[ptrV rg, .bool true]) ∧ Rg12 w' rg x (freshA n) 0 ∧ Kept (fun _ => False) w w' ∧ w.heap.size ≤ rg ∧ ∀ z, x.K z → w.heap.size ≤ z := by
  obtain ⟨D, hfm, hfd⟩ := fmt_is n0
  obtain ⟨o1, o2, o3, o4⟩ := hfd.opened n0 n1 (T := 2) (by decide) (by decide)
  have hpl := placeQ_is n0 n1
  have hbook := fresh_book (frames := frames) hfd.c hfd.n n0 n1 o4 hfd.z hfd.mas (by decide) (by decide) f0 f1
  obtain ⟨F, hF⟩ : ∃ F, F = n - n / 2 := ⟨_, rfl⟩
  obtain ⟨C, hC⟩ : ∃ C, C = n / 2 := ⟨_, rfl⟩
  obtain ⟨Pg, hPg⟩ : ∃ Pg, Pg = n - 2 - n / 2 := ⟨_, rfl⟩
  rw [← hF, ← hC] at o1 o2 o3 o4
  rw [← hPg, ← hF, ← hC] at hpl hbook
  have HNUM := Lib.hid (⟨hF, hC, hPg⟩ : F = n - n / 2 ∧ C = n / 2 ∧ Pg = n - 2 - n / 2)
  have HFM := Lib.hid hfm
  have HFD := Lib.hid hfd
  have HO := Lib.hid (⟨o1, o2, o3⟩ : ¬ badM D.n F C 1 2 ∧ openM D F C 1 2 = (some (newL F C 2), D, 0) ∧ (chainM D F C 2 (C * 408 - 408).toNat ((C * 408 - 408).toNat + 1) 1 0 []).1.length ≤ 1000000)
  have HPL := Lib.hid hpl
  have HBOOK := Lib.hid hbook
  have BR := bRg12
  clear hfm hfd o1 o2 o3 o4 hpl hbook hF hC hPg
  go_enter Tryz.func19, Tryz.ntmps19
  go_wp2_with fail
  refine (new_ok n (by omega) n1 w).mono ?_
  rintro e w2 ⟨p, ms, mo, rfl, hD, hk2, lp, lms, lmo⟩
  have BR1 := BR p
  have HD := Lib.hid hD
  have HK2 := Lib.hid hk2
  have HLP := Lib.hid (⟨lp, lms, lmo⟩ : w.heap.size ≤ p ∧ w.heap.size ≤ ms ∧ w.heap.size ≤ mo)
  clear hD hk2 BR lp lms lmo
  go_wp2_with (refine wl_box rfl 53 _ rfl (.agg #[.pointer (some ⟨p, 0, none⟩), .pointer none, .pointer none, .pointer none]) rfl ?_)
  intro rg w3 l3 m3 hb3 hk3
  have HD3 := Lib.hid (HD.out.keep hk3 id id id)
  have HR3 := Lib.hid (show w3.heap[rg]? = some (.cells #[.pointer (some ⟨p, 0, none⟩), .pointer none, .pointer none, .pointer none] 53 (0, 0)) from hb3)
  have HK3 := Lib.hid (HK2.out.trans0 hk3)
  have HLR := Lib.hid (show w.heap.size ≤ rg from by have := HK2.out.size; omega)
  have HNE := Lib.hid (show rg ≠ p ∧ rg ≠ ms ∧ rg ≠ mo from by
    have h1 := heap_lt HD.out.hp
    have h2 := HD.out.hs.lt
    have h3 := HD.out.ho.lt
    omega)
  clear hb3 hk3 l3 m3 BR1
  have c0 : w3.cell? ⟨rg, 0, none⟩ = some (.pointer (some ⟨p, 0, none⟩)) := cell_blk HR3.out rfl
  go_wp2_with fail
  have hfa := format_any HD3.out (⟨rfl, rfl, by show 1 ≤ n; omega⟩ : Calm (newM n)) (by show 24 ≤ n; exact n0)
  rw [HFM.out] at hfa
  refine hfa.mono ?_
  rintro e w4 ⟨rfl, hd4, hk4⟩
  have HD4 := Lib.hid hd4
  have HR4 := Lib.hid (hk4.heap HR3.out (by have := HNE.out; omega))
  have HK4 := Lib.hid (HK3.out.new hk4 (fun z hz => by have := HLP.out; omega))
  clear hd4 hk4 hfa c0
  go_wp2_with fail
  have hpa := place_any n w4
  rw [HPL.out] at hpa
  refine hpa.mono ?_
  rintro e wx ⟨rfl, rfl⟩
  have c0 : w4.cell? ⟨rg, 0, none⟩ = some (.pointer (some ⟨p, 0, none⟩)) := cell_blk HR4.out rfl
  clear hpa
  go_wp2_with fail
  have hoa := open_ok w4 p ms mo D HD4.out F C 1 2 HO.out.1 HO.out.2.2
  rw [HO.out.2.1] at hoa
  refine hoa.mono ?_
  intro e w5 hp5
  obtain ⟨hk5, -, hy⟩ := hp5
  obtain ⟨q, lv, tv, rfl, hs5, hq, hlv, htv⟩ := hy (newL F C 2) rfl
  have HS5 := Lib.hid hs5
  have HR5 := Lib.hid (hk5.heap HR4.out (by have := HNE.out; omega))
  have HK5 := Lib.hid (HK4.out.new hk5 (fun z hz => by have := HLP.out; omega))
  have HLQ := Lib.hid (show w.heap.size ≤ q ∧ (∀ x, lv.ownBlock = some x → w.heap.size ≤ x) ∧ (∀ x, tv.ownBlock = some x → w.heap.size ≤ x) from by
    have := HK4.out.size
    exact ⟨by omega, fun x h => by have := hlv x h; omega, fun x h => by have := htv x h; omega⟩)
  have HNR := Lib.hid (show ∀ x, LogK q p ms mo lv tv x → x ≠ rg from by
    have h1 := heap_lt HR4.out
    have h2 := HNE.out
    rintro x (rfl | rfl | rfl | rfl | h | h)
    · omega
    · omega
    · omega
    · omega
    · have := hlv x h; omega
    · have := htv x h; omega)
  clear hy hs5 hk5 hq hlv htv hoa c0
  go_wp2_with (refine wl_store1 rfl _ _ _ rfl rg 1 (.pointer (some ⟨q, 0, none⟩)) #[.pointer (some ⟨p, 0, none⟩), .pointer none, .pointer none, .pointer none] rfl rfl HR5.out (by kernel_rfl) (by show 1 < 4; decide) rfl ?_)
  intro w6 hb6 hk6
  have HR6 := Lib.hid (show w6.heap[rg]? = some (.cells #[.pointer (some ⟨p, 0, none⟩), .pointer (some ⟨q, 0, none⟩), .pointer none, .pointer none] 53 (0, 0)) from hb6)
  have HS6 := Lib.hid (HS5.out.keep hk6 (fun x hx => HNR.out x hx))
  have HK6 := Lib.hid (HK5.out.new hk6 (fun z hz => by subst hz; exact HLR.out))
  clear hb6 hk6 HS5 HR5 HD4 HR4 HD3 HR3 HD HK2 HK3 HK4 HK5
  have HPN := Lib.hid (pnew_any (HS6.out.keep ((Kept.refl (fun _ => False) w6).drew) (fun _ _ => id)) (by show (1 : Int) ≠ 0; decide) (first := 2) (blocks := Pg) (most := frames) (by omega) (by have := HNUM.out; omega) (by have := HNUM.out; rw [HFD.out.n]; omega) f0 f1)
  unfold ptrV at HPN
  have HCE := Lib.hid (fun (w' : World) (h : w'.heap[rg]? = some (.cells #[.pointer (some ⟨p, 0, none⟩), .pointer (some ⟨q, 0, none⟩), .pointer none, .pointer none] 53 (0, 0))) => show w'.cell? ⟨rg, 0, none⟩ = some (.pointer (some ⟨p, 0, none⟩)) ∧ w'.cell? ⟨rg, 1, none⟩ = some (.pointer (some ⟨q, 0, none⟩)) from ⟨cell_blk h rfl, cell_blk h rfl⟩)
  have HR6d := Lib.hid (show w6.drew.heap[rg]? = some (.cells #[.pointer (some ⟨p, 0, none⟩), .pointer (some ⟨q, 0, none⟩), .pointer none, .pointer none] 53 (0, 0)) from HR6.out)
  go_wp2_with fail
  refine startL 15 (fun w' => w'.heap[rg]? = some (.cells #[.pointer (some ⟨p, 0, none⟩), .pointer (some ⟨q, 0, none⟩), .pointer none, .pointer none] 53 (0, 0))) (by kernel_rfl) HR6d.out (fun hH => ?_)
  simp only [List.length_cons, List.length_nil, List.replicate]
  refine takeL 0 ?_ rfl (by kernel_rfl) (fun _ _ _ h => h) (by rfl) (fun w' hw' => ?_) hH ?_
  rotate_left
  · obtain ⟨c0, c1⟩ := HCE.out w' hw'
    go_simp <;> with_reducible rfl
  simp only [Act.put, oZa, oZb, oZc]
  refine takeL 1 ?_ rfl (by kernel_rfl) (fun _ _ _ h => h) (by rfl) (fun w' hw' => ?_) hH ?_
  rotate_left
  · obtain ⟨c0, c1⟩ := HCE.out w' hw'
    go_simp <;> with_reducible rfl
  simp only [Act.put, oZa, oZb, oZc]
  refine takeL 2 ?_ rfl (by kernel_rfl) (fun _ _ _ h => h) (by rfl) (fun w' hw' => ?_) hH ?_
  rotate_left
  · obtain ⟨c0, c1⟩ := HCE.out w' hw'
    go_simp <;> with_reducible rfl
  simp only [Act.put, oZa, oZb, oZc]
  refine takeL 3 ?_ rfl (by kernel_rfl) (fun _ _ _ h => h) (by rfl) (fun w' hw' => ?_) hH ?_
  rotate_left
  · obtain ⟨c0, c1⟩ := HCE.out w' hw'
    go_simp <;> with_reducible rfl
  simp only [Act.put, oZa, oZb, oZc]
  refine takeL 4 ?_ rfl (by kernel_rfl) (fun _ _ _ h => h) (by rfl) (fun w' hw' => ?_) hH ?_
  rotate_left
  · obtain ⟨c0, c1⟩ := HCE.out w' hw'
    go_simp <;> with_reducible rfl
  simp only [Act.put, oZa, oZb, oZc]
  refine takeL 5 ?_ rfl (by kernel_rfl) (fun _ _ _ h => h) (by rfl) (fun w' hw' => ?_) hH ?_
  rotate_left
  · obtain ⟨c0, c1⟩ := HCE.out w' hw'
    go_simp <;> with_reducible rfl
  simp only [Act.put, oZa, oZb, oZc]
  refine takeL 6 ?_ rfl (by kernel_rfl) (fun _ _ _ h => h) (by rfl) (fun w' hw' => ?_) hH ?_
  rotate_left
  · obtain ⟨c0, c1⟩ := HCE.out w' hw'
    go_simp <;> with_reducible rfl
  simp only [Act.put, oZa, oZb, oZc]
  refine takeL 7 ?_ rfl (by kernel_rfl) (fun _ _ _ h => h) (by rfl) (fun w' hw' => ?_) hH ?_
  rotate_left
  · obtain ⟨c0, c1⟩ := HCE.out w' hw'
    go_simp <;> with_reducible rfl
  simp only [Act.put, oZa, oZb, oZc]
  refine takeL 8 ?_ rfl (by kernel_rfl) (fun _ _ _ h => h) (by rfl) (fun w' hw' => ?_) hH ?_
  rotate_left
  · obtain ⟨c0, c1⟩ := HCE.out w' hw'
    go_simp <;> with_reducible rfl
  simp only [Act.put, oZa, oZb, oZc]
  refine takeL 9 ?_ rfl (by kernel_rfl) (fun _ _ _ h => h) (by rfl) (fun w' hw' => ?_) hH ?_
  rotate_left
  · obtain ⟨c0, c1⟩ := HCE.out w' hw'
    go_simp <;> with_reducible rfl
  simp only [Act.put, oZa, oZb, oZc]
  refine takeL 10 ?_ rfl (by kernel_rfl) (fun _ _ _ h => h) (by rfl) (fun w' hw' => ?_) hH ?_
  rotate_left
  · obtain ⟨c0, c1⟩ := HCE.out w' hw'
    go_simp <;> with_reducible rfl
  simp only [Act.put, oZa, oZb, oZc]
  refine takeL 11 ?_ rfl (by kernel_rfl) (fun _ _ _ h => h) (by rfl) (fun w' hw' => ?_) hH ?_
  rotate_left
  · obtain ⟨c0, c1⟩ := HCE.out w' hw'
    go_simp <;> with_reducible rfl
  simp only [Act.put, oZa, oZb, oZc]
  refine stepL 12 rfl (by kernel_rfl) (fun K hK => ?_)
  go_simp
  refine HPN.out.mono ?_
  rintro e w7 ⟨a, rfl, aq, ap, ams, amo, alv, atv, arv, axs, lpb, lmb, hs7, hk7⟩
  have HS7 := Lib.hid hs7
  have HR7 := Lib.hid (hk7.heap HR6d.out id)
  have HK7 := Lib.hid (HK6.out.drew.trans0 hk7)
  have HA := Lib.hid (⟨aq, ap, ams, amo, alv, atv, arv, axs⟩ : a.q = q ∧ a.p = p ∧ a.ms = ms ∧ a.mo = mo ∧ a.lv = lv ∧ a.tv = tv ∧ a.rv = .slice none 0 0 ∧ a.xs = [])
  have HLB := Lib.hid (show w.heap.size ≤ a.pb ∧ w.heap.size ≤ a.mb ∧ rg < a.pb ∧ rg < a.mb from by
    have h1 := HK6.out.size
    have h2 := heap_lt HR6.out
    have e : w6.drew.heap.size = w6.heap.size := rfl
    omega)
  clear aq ap ams amo alv atv arv axs lpb lmb hs7 hk7 HPN hH
  go_simp
  refine hK.out _ _ (fun _ => HR7.out) (fun _ => ?_)
  simp only [oZa, oZb, oZc]
  clear hK K
  refine takeL 13 ?_ rfl (by kernel_rfl) (fun _ _ _ h => h) (by rfl) (fun w' hw' => ?_) HR7.out ?_
  rotate_left
  · skip
    go_simp <;> with_reducible rfl
  simp only [Act.put, oZa, oZb, oZc]
  refine takeL 14 ?_ rfl (by kernel_rfl) (fun _ _ _ h => h) (by rfl) (fun w' hw' => ?_) HR7.out ?_
  rotate_left
  · skip
    go_simp <;> with_reducible rfl
  simp only [Act.put, oZa, oZb, oZc]
  refine stepL 15 rfl (by kernel_rfl) (fun K hK => ?_)
  refine step_store1 rfl _ _ _ rfl rg 2 (.pointer (some ⟨a.pb, 0, none⟩)) #[.pointer (some ⟨p, 0, none⟩), .pointer (some ⟨q, 0, none⟩), .pointer none, .pointer none] rfl rfl HR7.out (by kernel_rfl) (by show 2 < 4; decide) rfl ?_
  intro w8 hb8 hk8
  have HR8 := Lib.hid (show w8.heap[rg]? = some (.cells #[.pointer (some ⟨p, 0, none⟩), .pointer (some ⟨q, 0, none⟩), .pointer (some ⟨a.pb, 0, none⟩), .pointer none] 53 (0, 0)) from hb8)
  have HNA := Lib.hid (show ∀ z, a.K z → z ≠ rg from by
    obtain ⟨aq, ap, ams, amo, alv, atv, arv, axs⟩ := HA.out
    have h1 := HLB.out
    rintro z (hz | hz | hz | hz | ⟨y, hy, _⟩)
    · refine HNR.out z ?_
      unfold Adr.logK at hz
      rw [aq, ap, ams, amo, alv, atv] at hz
      exact hz
    · omega
    · omega
    · rw [arv] at hz; cases hz
    · rw [axs] at hy; cases hy)
  have HFA := Lib.hid (show ∀ z, a.K z → w.heap.size ≤ z from by
    obtain ⟨aq, ap, ams, amo, alv, atv, arv, axs⟩ := HA.out
    have h1 := HLB.out
    have h2 := HLQ.out
    have h3 := HLP.out
    rintro z (hz | hz | hz | hz | ⟨y, hy, _⟩)
    · unfold Adr.logK at hz
      rw [aq, ap, ams, amo, alv, atv] at hz
      rcases hz with rfl | rfl | rfl | rfl | h | h
      · exact h2.1
      · omega
      · omega
      · omega
      · exact h2.2.1 z h
      · exact h2.2.2 z h
    · omega
    · omega
    · rw [arv] at hz; cases hz
    · rw [axs] at hy; cases hy)
  have HS8 := Lib.hid (HS7.out.keep hk8 (fun z hz => HNA.out z hz))
  have HK8 := Lib.hid (HK7.out.new hk8 (fun z hz => by subst hz; exact HLR.out))
  clear hb8 hk8 HR7 HS7 HK7 HR6 HR6d HS6 HCE HNR HLQ HLP HNE HK6
  refine hK.out _ _ (fun h => absurd rfl h) (fun _ => ?_)
  simp only [oZa, oZb, oZc]
  clear hK K
  refine doneL (by kernel_rfl) ?_ _
  have HCF := Lib.hid (fun (w' : World) (h : w'.heap[rg]? = some (.cells #[.pointer (some ⟨p, 0, none⟩), .pointer (some ⟨q, 0, none⟩), .pointer (some ⟨a.pb, 0, none⟩), .pointer none] 53 (0, 0))) => show w'.cell? ⟨rg, 0, none⟩ = some (.pointer (some ⟨p, 0, none⟩)) ∧ w'.cell? ⟨rg, 1, none⟩ = some (.pointer (some ⟨q, 0, none⟩)) ∧ w'.cell? ⟨rg, 2, none⟩ = some (.pointer (some ⟨a.pb, 0, none⟩)) from ⟨cell_blk h rfl, cell_blk h rfl, cell_blk h rfl⟩)
  have HR8d := Lib.hid (show w8.drew.heap[rg]? = some (.cells #[.pointer (some ⟨p, 0, none⟩), .pointer (some ⟨q, 0, none⟩), .pointer (some ⟨a.pb, 0, none⟩), .pointer none] 53 (0, 0)) from HR8.out)
  have HNB := Lib.hid (show Calls Tryz.prog 35 #[.pointer (some ⟨p, 0, none⟩), .pointer (some ⟨q, 0, none⟩), .pointer (some ⟨a.pb, 0, none⟩)] w8.drew fun e w' => ∃ bk, e = .returned (ptrV bk) ∧ Kept (fun _ => False) w8.drew w' ∧ w8.drew.heap.size ≤ bk ∧ BookS w' ⟨a, bk, .slice none 0 0⟩ (bkNew C) (newPool 2 Pg frames) (newL F C 2) D from by
    obtain ⟨aq, ap, ams, amo, alv, atv, arv, axs⟩ := HA.out
    have := bnew_ok (HS8.out.keep ((Kept.refl (fun _ => False) w8).drew) (fun _ _ => id)) (by rw [HFD.out.n]; omega) (by rw [HFD.out.mas]) (by show (1 : Int) ≠ 0; decide) (by show Pg ≠ 0; have := HNUM.out; omega) (by rw [HFD.out.n, HPL.out]; rfl)
    rw [HFD.out.n, HPL.out] at this
    unfold ptrV at this
    rw [aq, ap] at this
    exact this)
  go_wp2_with fail
  refine startL 16 (fun w' => w'.heap[rg]? = some (.cells #[.pointer (some ⟨p, 0, none⟩), .pointer (some ⟨q, 0, none⟩), .pointer (some ⟨a.pb, 0, none⟩), .pointer none] 53 (0, 0))) (by kernel_rfl) HR8d.out (fun hH => ?_)
  simp only [List.length_cons, List.length_nil, List.replicate]
  refine takeL 0 ?_ rfl (by kernel_rfl) (fun _ _ _ h => h) (by rfl) (fun w' hw' => ?_) hH ?_
  rotate_left
  · obtain ⟨c0, c1, c2⟩ := HCF.out w' hw'
    go_simp <;> with_reducible rfl
  simp only [Act.put, oZa, oZb, oZc]
  refine takeL 1 ?_ rfl (by kernel_rfl) (fun _ _ _ h => h) (by rfl) (fun w' hw' => ?_) hH ?_
  rotate_left
  · obtain ⟨c0, c1, c2⟩ := HCF.out w' hw'
    go_simp <;> with_reducible rfl
  simp only [Act.put, oZa, oZb, oZc]
  refine takeL 2 ?_ rfl (by kernel_rfl) (fun _ _ _ h => h) (by rfl) (fun w' hw' => ?_) hH ?_
  rotate_left
  · obtain ⟨c0, c1, c2⟩ := HCF.out w' hw'
    go_simp <;> with_reducible rfl
  simp only [Act.put, oZa, oZb, oZc]
  refine takeL 3 ?_ rfl (by kernel_rfl) (fun _ _ _ h => h) (by rfl) (fun w' hw' => ?_) hH ?_
  rotate_left
  · obtain ⟨c0, c1, c2⟩ := HCF.out w' hw'
    go_simp <;> with_reducible rfl
  simp only [Act.put, oZa, oZb, oZc]
  refine takeL 4 ?_ rfl (by kernel_rfl) (fun _ _ _ h => h) (by rfl) (fun w' hw' => ?_) hH ?_
  rotate_left
  · obtain ⟨c0, c1, c2⟩ := HCF.out w' hw'
    go_simp <;> with_reducible rfl
  simp only [Act.put, oZa, oZb, oZc]
  refine takeL 5 ?_ rfl (by kernel_rfl) (fun _ _ _ h => h) (by rfl) (fun w' hw' => ?_) hH ?_
  rotate_left
  · obtain ⟨c0, c1, c2⟩ := HCF.out w' hw'
    go_simp <;> with_reducible rfl
  simp only [Act.put, oZa, oZb, oZc]
  refine takeL 6 ?_ rfl (by kernel_rfl) (fun _ _ _ h => h) (by rfl) (fun w' hw' => ?_) hH ?_
  rotate_left
  · obtain ⟨c0, c1, c2⟩ := HCF.out w' hw'
    go_simp <;> with_reducible rfl
  simp only [Act.put, oZa, oZb, oZc]
  refine takeL 7 ?_ rfl (by kernel_rfl) (fun _ _ _ h => h) (by rfl) (fun w' hw' => ?_) hH ?_
  rotate_left
  · obtain ⟨c0, c1, c2⟩ := HCF.out w' hw'
    go_simp <;> with_reducible rfl
  simp only [Act.put, oZa, oZb, oZc]
  refine takeL 8 ?_ rfl (by kernel_rfl) (fun _ _ _ h => h) (by rfl) (fun w' hw' => ?_) hH ?_
  rotate_left
  · obtain ⟨c0, c1, c2⟩ := HCF.out w' hw'
    go_simp <;> with_reducible rfl
  simp only [Act.put, oZa, oZb, oZc]
  refine takeL 9 ?_ rfl (by kernel_rfl) (fun _ _ _ h => h) (by rfl) (fun w' hw' => ?_) hH ?_
  rotate_left
  · obtain ⟨c0, c1, c2⟩ := HCF.out w' hw'
    go_simp <;> with_reducible rfl
  simp only [Act.put, oZa, oZb, oZc]
  refine takeL 10 ?_ rfl (by kernel_rfl) (fun _ _ _ h => h) (by rfl) (fun w' hw' => ?_) hH ?_
  rotate_left
  · obtain ⟨c0, c1, c2⟩ := HCF.out w' hw'
    go_simp <;> with_reducible rfl
  simp only [Act.put, oZa, oZb, oZc]
  refine takeL 11 ?_ rfl (by kernel_rfl) (fun _ _ _ h => h) (by rfl) (fun w' hw' => ?_) hH ?_
  rotate_left
  · obtain ⟨c0, c1, c2⟩ := HCF.out w' hw'
    go_simp <;> with_reducible rfl
  simp only [Act.put, oZa, oZb, oZc]
  refine takeL 12 ?_ rfl (by kernel_rfl) (fun _ _ _ h => h) (by rfl) (fun w' hw' => ?_) hH ?_
  rotate_left
  · obtain ⟨c0, c1, c2⟩ := HCF.out w' hw'
    go_simp <;> with_reducible rfl
  simp only [Act.put, oZa, oZb, oZc]
  refine stepL 13 rfl (by kernel_rfl) (fun K hK => ?_)
  go_simp
  refine HNB.out.mono ?_
  rintro e w9 ⟨bk, rfl, hk9, hbk, hs9⟩
  have HB9 := Lib.hid (⟨_, _, _, _, hs9, HBOOK.out⟩ : BkW w9 ⟨a, bk, .slice none 0 0⟩ (freshA n) 0)
  have HR9 := Lib.hid (hk9.heap HR8d.out id)
  have HK9 := Lib.hid (HK8.out.drew.trans0 hk9)
  have HLK := Lib.hid (show w.heap.size ≤ bk ∧ rg < bk from by
    have h1 := HK8.out.size
    have h2 := heap_lt HR8.out
    have e : w8.drew.heap.size = w8.heap.size := rfl
    omega)
  clear hs9 hk9 hbk HNB hH
  unfold ptrV
  go_simp
  refine hK.out _ _ (fun _ => HR9.out) (fun _ => ?_)
  simp only [oZa, oZb, oZc]
  clear hK K
  refine takeL 14 ?_ rfl (by kernel_rfl) (fun _ _ _ h => h) (by rfl) (fun w' hw' => ?_) HR9.out ?_
  rotate_left
  · skip
    go_simp <;> with_reducible rfl
  simp only [Act.put, oZa, oZb, oZc]
  refine takeL 15 ?_ rfl (by kernel_rfl) (fun _ _ _ h => h) (by rfl) (fun w' hw' => ?_) HR9.out ?_
  rotate_left
  · skip
    go_simp <;> with_reducible rfl
  simp only [Act.put, oZa, oZb, oZc]
  refine stepL 16 rfl (by kernel_rfl) (fun K hK => ?_)
  refine step_store1 rfl _ _ _ rfl rg 3 (.pointer (some ⟨bk, 0, none⟩)) #[.pointer (some ⟨p, 0, none⟩), .pointer (some ⟨q, 0, none⟩), .pointer (some ⟨a.pb, 0, none⟩), .pointer none] rfl rfl HR9.out (by kernel_rfl) (by show 3 < 4; decide) rfl ?_
  intro w10 hb10 hk10
  have HNK := Lib.hid (show ∀ z, (⟨a, bk, .slice none 0 0⟩ : BAdr).K z → z ≠ rg from by
    have := HLK.out
    rintro z (hz | hz | hz)
    · exact HNA.out z hz
    · have : z = bk := hz
      omega
    · cases hz)
  have HG := Lib.hid (show Rg12 w10 rg ⟨a, bk, .slice none 0 0⟩ (freshA n) 0 from ⟨BkW.keep HB9.out hk10 HNK.out, by
    obtain ⟨aq, ap, -⟩ := HA.out
    have e : rg12C ⟨a, bk, .slice none 0 0⟩ = #[.pointer (some ⟨p, 0, none⟩), .pointer (some ⟨q, 0, none⟩), .pointer (some ⟨a.pb, 0, none⟩), .pointer (some ⟨bk, 0, none⟩)] := by
      unfold rg12C ptrV; rw [ap, aq]
    rw [e]
    exact hb10⟩)
  have HR10 := Lib.hid (show w10.cell? ⟨rg, 3, none⟩ = some (.pointer (some ⟨bk, 0, none⟩)) from cell_blk hb10 rfl)
  have HK10 := Lib.hid (HK9.out.new hk10 (fun z hz => by subst hz; exact HLR.out))
  clear hb10 hk10 HR9 HB9 HK9 HR8 HR8d HS8 HK8 HCF
  refine hK.out _ _ (fun h => absurd rfl h) (fun _ => ?_)
  simp only [oZa, oZb, oZc]
  clear hK K
  refine doneL (by kernel_rfl) ?_ _
  have d3 := HR10.out
  go_wp2_with fail
  go_quiet (fail)
  go_wp2
  go_ret2
  refine ⟨rg, ⟨a, bk, .slice none 0 0⟩, rfl, HG.out.keep0 ((Kept.refl _ _).drewN _), ?_, HLR.out, ?_⟩
  · exact HK10.out.drewN _
  · rintro z (hz | hz | hz)
    · exact HFA.out z hz
    · have := HLK.out
      have : z = bk := hz
      omega
    · cases hz
end
end Go.Proofs.YtnbfhdgojmflhaaGreat
