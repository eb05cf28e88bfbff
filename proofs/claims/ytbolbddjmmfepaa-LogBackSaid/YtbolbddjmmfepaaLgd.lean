/-
  No statement is proved here: 'begin' and 'stale' of log.
-/
import Derived.Test.YtbolbddjmmfepaaLgc
namespace Go.Proofs.Ytbolbddjmmfepaa
open Go.RowKit

set_option maxRecDepth 100000 in
set_option maxHeartbeats 1600000 in
theorem begin_any (w : World) (q p ms mo : Nat) (lv tv : Value) (L : LogM) (D : DevM) (h : LogQ w q p lv tv L) (hd : DevAt w p ms mo D) (hok : LogOk L) :
    Calls Try.prog 66 #[.pointer (some ⟨q, 0, none⟩)] w fun e w' => ∃ A n c, e = .returned (.int .i64 (L.begin D).2) ∧ LogQ w' q p lv (.slice A n c) (L.begin D).1 ∧ OwnV w' w.heap.size (.slice A n c) (L.begin D).1.tail ∧ Kept (fun x => x = q) w w' := by
  have QLT := Lib.hid (heap_lt h)
  have hF := secF_in (a := L.safe)
  have s0 := hok.s0
  have s1 := hok.s1
  obtain ⟨d, hd'⟩ : ∃ d : Nat, L.safe - secF L.safe = (d : Int) := ⟨(L.safe - secF L.safe).toNat, by omega⟩
  obtain ⟨f, hf⟩ : ∃ f, f = secF L.safe := ⟨_, rfl⟩
  obtain ⟨X, hX⟩ : ∃ X, X = stretchM D L.first L.count d (d + 1) f [] := ⟨_, rfl⟩
  have e1 : L.begin D = ({ L with beg := f, tail := X.1 }, X.2) := by
    unfold LogM.begin
    rw [hd', Int.toNat_natCast, ← hf, ← hX]
  rw [e1]
  have hf0 : 1 ≤ f := by rw [hf]; unfold secF; omega
  have c5 : w.cell? ⟨q, 6, none⟩ = some (.int .i64 L.safe) := cell_blk h rfl
  have HSEC := Lib.hid (sector_any w q p lv tv L h hok L.safe s0 (by omega))
  rw [← hf] at HSEC hF hd'
  obtain ⟨S, hS⟩ : ∃ S, S = L.safe := ⟨_, rfl⟩
  rw [← hS] at c5 HSEC hd' hF
  have hS2 : S ≤ 3000000000000000000 := by omega
  have hk1 : Kept (fun x => x = q) w (w.setCell ⟨q, 9, none⟩ (.int .i64 f)) := Kept.cell _ _ _ _
  have HQ1 := Lib.hid (show LogQ (w.setCell ⟨q, 9, none⟩ (.int .i64 f)) q p lv tv { L with beg := f } from set_blk h 9 (.int .i64 f))
  have fr := free_blk h 9
  have HK1 := Lib.hid hk1
  have nq : p ≠ q ∧ ms ≠ q ∧ mo ≠ q := by
    refine ⟨?_, ?_, ?_⟩
    · rintro rfl
      have := hd.hp
      unfold LogQ at h
      rw [h] at this
      cases this
    · rintro rfl
      obtain ⟨_, _, hh, _⟩ := hd.hs
      unfold LogQ at h
      rw [h] at hh
      cases hh
    · rintro rfl
      obtain ⟨_, _, hh, _⟩ := hd.ho
      unfold LogQ at h
      rw [h] at hh
      cases hh
  have HD1 := Lib.hid (hd.keep hk1 nq.1 nq.2.1 nq.2.2)
  have HST := Lib.hid (stretch_any (w.setCell ⟨q, 9, none⟩ (.int .i64 f)) q p ms mo lv tv { L with beg := f } D HQ1.out HD1.out ⟨hok.f0, hok.f1, hok.c0, hok.c1, hok.o0, hok.o1, hok.e1, hok.s0, hok.s1⟩ f hf0 (by omega) d (by omega))
  have c9 : w.cell? ⟨q, 9, none⟩ = some (.int .i64 L.beg) := cell_blk h rfl
  have c6' : (w.setCell ⟨q, 9, none⟩ (.int .i64 f)).cell? ⟨q, 6, none⟩ = some (.int .i64 S) := by rw [hS]; exact cell_blk HQ1.out rfl
  have hsub : IntKind.i64.wrap (S - f) = (d : Int) := by rw [IntKind.wrap_i64]; omega
  rw [← hX] at HST
  clear hX e1 hd hk1 h hS nq hf
  go_enter Try.func66, Try.ntmps66
  go_wp2_with fail
  refine HSEC.out.mono ?_
  rintro e wx ⟨rfl, rfl⟩
  go_wp2_with fail
  refine HST.out.mono ?_
  intro e w2 hp
  obtain ⟨hk2, A, n, c, rfl, ho2⟩ := hp
  have HQ2 := Lib.hid (hk2.heap HQ1.out id)
  have HO2 := Lib.hid ho2
  have HK2 := Lib.hid (HK1.out.trans0 hk2)
  clear hk2 ho2 HST
  go_wp2_with (refine wl_store1 rfl 23 _ _ rfl q 8 (.slice A n c) (logC p lv tv { L with beg := f }) rfl rfl HQ2.out (by kernel_rfl) (by show 8 < 10; decide) rfl ?_)
  intro w3 hb3 hk3
  have HQ3 := Lib.hid hb3
  have HK3 := Lib.hid (HK2.out.trans' hk3)
  have qlt : q < w.heap.size := QLT.out
  have HO3 := Lib.hid (HO2.out.keep hk3 (fun x hx e => by have h1 := (HO2.out.base_le hx).1; have h2 := HK1.out.size; omega))
  clear hb3 hk3
  go_wp2
  go_ret
  refine ⟨A, n, c, rfl, HQ3.out, HO3.out.low (HK1.out.size), HK3.out⟩
set_option maxRecDepth 100000 in
set_option maxHeartbeats 1600000 in
theorem stale_any (w : World) (q p ms mo : Nat) (lv tv : Value) (L : LogM) (D : DevM) (h : LogQ w q p lv tv L) (hd : DevAt w p ms mo D) (hok : LogOk L) :
    Calls Try.prog 67 #[.pointer (some ⟨q, 0, none⟩)] w fun e w' => e = .returned (.tuple #[.bool (L.stale D).1, .int .i64 (L.stale D).2]) ∧ Kept (fun _ => False) w w' := by
  have hF := secF_in (a := L.fin)
  have s0 : 1 ≤ L.fin := by have := hok.o0; have := hok.o1; omega
  have s1 := hok.e1
  have c5 : w.cell? ⟨q, 5, none⟩ = some (.int .i64 L.fin) := cell_blk h rfl
  have c0 : w.cell? ⟨q, 0, none⟩ = some (.pointer (some ⟨p, 0, none⟩)) := cell_blk h rfl
  have HSEC := Lib.hid (sector_any w q p lv tv L h hok L.fin s0 (by omega))
  by_cases hf : secF L.fin = L.fin
  · by_cases hm : D.mayE (secB L.first L.count L.fin) = 0
    · have e1 : L.stale D = (decide (sgn (valN (cut (secP D L.first L.count L.fin) 0 8) 0) = L.fin), 0) := by
        unfold LogM.stale
        rw [if_neg (by simp [hf]), if_neg (by simp [hm])]
      have HRD := Lib.hid (read_ok hd _ hm)
      have hO := secO_in (a := L.fin) hok.c0
      have lb : (D.latest (secB L.first L.count L.fin)).length = 512 := hd.len _
      have hPe : cut (secP D L.first L.count L.fin) 0 8 = ((D.latest (secB L.first L.count L.fin)).drop (secO L.count L.fin).toNat).take 8 := by
        unfold secP cut
        rw [List.drop_zero, List.take_take]
        rfl
      rw [e1, hPe]
      obtain ⟨O, hO'⟩ : ∃ O : Nat, secO L.count L.fin = (O : Int) := ⟨(secO L.count L.fin).toNat, by omega⟩
      rw [hO'] at HSEC
      rw [hO', Int.toNat_natCast]
      rw [hf] at HSEC
      have hO448 : O ≤ 448 := by omega
      obtain ⟨B, hB⟩ : ∃ B, B = secB L.first L.count L.fin := ⟨_, rfl⟩
      rw [← hB] at HSEC HRD lb ⊢
      obtain ⟨V, hV⟩ : ∃ V, V = sgn (valN (((D.latest B).drop O).take 8) 0) := ⟨_, rfl⟩
      have VV := Lib.hid hV.symm
      rw [← hV]
      obtain ⟨F, hFF⟩ : ∃ F, F = L.fin := ⟨_, rfl⟩
      rw [← hFF] at HSEC c5 ⊢
      have LB := Lib.hid lb
      clear hO hPe hO' hB hV hf hm e1 lb hd h hF hFF
      go_enter Try.func67, Try.ntmps67
      go_wp2_with fail
      refine HSEC.out.mono ?_
      rintro e wx ⟨rfl, rfl⟩
      go_wp2_with fail
      refine HRD.out.mono ?_
      rintro e w2 ⟨g2, k2, rfl, hb2, hk2⟩
      have hk512 : 512 ≤ k2 := by
        obtain ⟨cur, _, _, h5, _⟩ := hb2.form
        rw [LB.out] at h5; exact h5
      have hr2 : RdB w2 (some ⟨g2, 0, none⟩) (D.latest B) := OwnV.rd (n := (D.latest B).length) (c := k2) hb2
      have HPR := Lib.hid (hr2.sl O k2 (by rw [LB.out]; exact hk512))
      have HK2 := Lib.hid hk2
      clear hr2 hb2 hk2 HRD HSEC
      go_wp2_with (first
        | (refine wl_val rfl (exec_slL _ _ O rfl (some ⟨g2, 0, none⟩) 512 k2 _ rfl rfl rfl (by omega) _) ?_)
        | (go_at_call 47; refine (read_at _ (512 - O) (k2 - O) ((D.latest B).drop O) 8 _ (by rw [List.length_drop, LB.out]) HPR.out (by decide) (by omega) (by omega)).mono ?_; rw [VV.out]; rintro e wx ⟨rfl, rfl⟩))
      go_ret2
      refine ⟨?_, HK2.out⟩
      have : (V == F) = decide (V = F) := by
        by_cases h : V = F
        · rw [h]; simp
        · rw [decide_eq_false h, beq_eq_false_iff_ne]; exact h
      rw [← this]
      rfl
    · have e1 : L.stale D = (false, D.mayE (secB L.first L.count L.fin)) := by
        unfold LogM.stale
        rw [if_neg (by simp [hf]), if_pos hm]
      have HRD := Lib.hid (read_no hd _ hm)
      have hmb : (D.mayE (secB L.first L.count L.fin) != 0) = true := by simpa using hm
      rw [e1]
      rw [hf] at HSEC
      obtain ⟨E, hE⟩ : ∃ E, E = D.mayE (secB L.first L.count L.fin) := ⟨_, rfl⟩
      rw [← hE] at HRD hmb ⊢
      clear hE hm e1 hf hF h hd
      go_enter Try.func67, Try.ntmps67
      go_wp2_with fail
      refine HSEC.out.mono ?_
      rintro e wx ⟨rfl, rfl⟩
      go_wp2_with (go_at_call 59; refine HRD.out.mono ?_; rintro e w2 ⟨rfl, rfl⟩)
      go_ret2
      exact ⟨rfl, Kept.refl _ _⟩
  · have e1 : L.stale D = (false, 0) := by
      unfold LogM.stale
      rw [if_pos hf]
    rw [e1]
    have hfb : (secF L.fin != L.fin) = true := by simpa using hf
    clear e1 hf hd h
    go_enter Try.func67, Try.ntmps67
    go_wp2_with fail
    refine HSEC.out.mono ?_
    rintro e wx ⟨rfl, rfl⟩
    go_wp2
    go_ret2
    exact ⟨rfl, Kept.refl _ _⟩
end Go.Proofs.Ytbolbddjmmfepaa
