/-
  No statement is proved here: chapter 10's 'awake' answers true.
-/
import Derived.Test.YtbolbddjmmfepaaAwk
namespace Go.Proofs.Ytbolbddjmmfepaa
open Go.RowKit

theorem bAw3 (wz : World) : (Instr.build 27 #[(2, .int .u8 3), (3, .int .i64 7)]).run Try.prog wz = .ok (.agg (recC (awR 3 7) none 0 none 0)) wz := run_build wz _ _ _ (by kernel_rfl)
theorem bAw4 (wz : World) : (Instr.build 27 #[(2, .int .u8 4), (3, .int .i64 8)]).run Try.prog wz = .ok (.agg (recC (awR 4 8) none 0 none 0)) wz := run_build wz _ _ _ (by kernel_rfl)
theorem rd_nil (w : World) (A : Option Addr) : RdB w A [] := fun h => absurd rfl h
theorem awR_ok (k : UInt8) (t : Int) (h : isI t) : RecOk (awR k t) := ⟨zero_isI, zero_isI, h, zero_isI, zero_isI, zero_isI, zero_isI⟩
theorem awO0 : LogOk awL0 := ⟨by decide, by decide, by decide, by decide, by decide, by decide, by decide, by decide, by decide⟩
theorem awO1 : LogOk awL1 := ⟨by decide, by decide, by decide, by decide, by decide, by decide, by decide, by decide, by decide⟩
theorem awO2 : LogOk awL2 := ⟨by decide, by decide, by decide, by decide, by decide, by decide, by decide, by decide, by decide⟩
theorem awO4 : LogOk awL4 := ⟨by decide, by decide, by decide, by decide, by decide, by decide, by decide, by decide, by decide⟩
theorem awB1 : LogB awL1 := ⟨by kernel_rfl, by decide, by decide⟩
theorem awB4 : LogB awL4 := ⟨by kernel_rfl, by decide, by decide⟩
theorem awLR4 : LogR awL4 := by
  have hl : awL4.lsns = [1] := rfl
  refine ⟨fun i j h1 h2 => ?_, fun k hk => ?_, fun k hk => ?_, fun k hk => ?_, by decide⟩
  · rw [hl] at h2; simp at h2; omega
  · rw [hl] at hk ⊢; simp at hk; subst hk; decide
  · rw [hl] at hk; simp at hk
  · rw [hl] at hk ⊢
    have : k = 0 := by simpa using hk
    subst this
    decide
set_option maxRecDepth 100000 in
set_option maxHeartbeats 3200000 in
theorem awake_any (w : World) : Calls Try.prog 7 #[] w fun e w' => e = .returned (.bool true) ∧ Kept (fun _ => False) w w' := by
  have B3 := bAw3
  have B4 := bAw4
  go_enter Try.func7, Try.ntmps7
  go_wp2_with fail
  refine (new_ok 8 (by decide) (by decide) w).mono ?_
  rintro e w1 ⟨p, ms, mo, rfl, hd, hk1, hp, hms, hmo⟩
  have HD := Lib.hid hd
  have HK1 := Lib.hid hk1
  clear hd hk1
  go_wp2_with fail
  refine (show Calls Try.prog 31 #[.pointer (some ⟨p, 0, none⟩), .int .i64 2, .int .i64 5, .int .i64 1, .int .i64 1] w1 (OpenPost w1 p ms mo (some awL0, newM 8, 0)) from by
    have := open_ok w1 p ms mo (newM 8) HD.out 2 5 1 1 (by decide) (by rw [show ((5 : Int) * 408 - 408).toNat = 1632 from rfl, aw_all0]; decide)
    rwa [aw_open] at this).mono ?_
  intro e w2 hp2
  obtain ⟨hk2, -, hy⟩ := hp2
  obtain ⟨q, lv0, tv0, rfl, hs2, hq, hlv, htv⟩ := hy awL0 rfl
  have pk : ∀ x, x = p ∨ x = ms ∨ x = mo → w.heap.size ≤ x := by rintro x (rfl | rfl | rfl) <;> assumption
  have HK2 := Lib.hid (HK1.out.new hk2 pk)
  have HS2 := Lib.hid hs2
  have n1 := HK1.out.size
  have hq' : w.heap.size ≤ q := by omega
  have FL2 := Lib.hid (show (∀ x, lv0.ownBlock = some x → w.heap.size ≤ x) ∧ (∀ x, tv0.ownBlock = some x → w.heap.size ≤ x) from ⟨fun x hx => by have := hlv x hx; omega, fun x hx => by have := htv x hx; omega⟩)
  have PK := Lib.hid pk
  clear hk2 hs2 hy hlv htv hq pk
  go_wp2_with fail
  refine (show Calls Try.prog 22 #[.pointer (some ⟨q, 0, none⟩), .agg (recC (awR 3 7) none 0 none 0)] w2 (AppPost w2 q p ms mo lv0 tv0 awL0 (newM 8) (awR 3 7)) from
    append_any w2 q p ms mo lv0 tv0 awL0 (newM 8) HS2.out awO0 (by unfold isI; decide) (by decide) (by decide) (awR 3 7) none 0 none 0 (awR_ok 3 7 (by unfold isI; decide)) (by decide) (by decide) (rd_nil _ _) (rd_nil _ _)).mono ?_
  intro e w3 hp3
  unfold AppPost at hp3
  rw [aw_app1] at hp3
  obtain ⟨rfl, lv1, tv1, hs3, hk3, hl3, ht3⟩ := hp3
  have HK3 := Lib.hid (HK2.out.new hk3 (fun x hx => by rcases hx with rfl | h | h; exact hq'; exact FL2.out.1 x h; exact FL2.out.2 x h))
  have n2 := HK2.out.size
  have FL3 := Lib.hid (show (∀ x, lv1.ownBlock = some x → w.heap.size ≤ x) ∧ (∀ x, tv1.ownBlock = some x → w.heap.size ≤ x) from
    ⟨fun x hx => by rcases hl3 with h | h; exact FL2.out.1 x (h ▸ hx); have := h x hx; omega, fun x hx => by rcases ht3 with h | h; exact FL2.out.2 x (h ▸ hx); have := h x hx; omega⟩)
  have HS3 := Lib.hid hs3
  clear hs3 hk3 hl3 ht3
  go_wp2_with fail
  refine (force_any w3 q p ms mo lv1 tv1 awL1 (newM 8) HS3.out awO1 awB1 (by decide) (by decide) (by decide +kernel)).mono ?_
  intro e w4 hp4
  unfold ForcePost at hp4
  rw [aw_force] at hp4
  obtain ⟨rfl, tv2, hs4, hk4, ht4⟩ := hp4
  have HK4 := Lib.hid (HK3.out.new hk4 (fun x hx => by rcases hx with rfl | h; exact hq'; exact PK.out x h))
  have n3 := HK3.out.size
  have FL4 := Lib.hid (show (∀ x, lv1.ownBlock = some x → w.heap.size ≤ x) ∧ (∀ x, tv2.ownBlock = some x → w.heap.size ≤ x) from
    ⟨FL3.out.1, fun x hx => by rcases ht4 with h | h; exact FL3.out.2 x (h ▸ hx); have := h x hx; omega⟩)
  have HS4 := Lib.hid hs4
  clear hs4 hk4 ht4
  go_wp2_with fail
  refine (show Calls Try.prog 22 #[.pointer (some ⟨q, 0, none⟩), .agg (recC (awR 4 8) none 0 none 0)] w4 (AppPost w4 q p ms mo lv1 tv2 awL2 awD1 (awR 4 8)) from
    append_any w4 q p ms mo lv1 tv2 awL2 awD1 HS4.out awO2 (by unfold isI; decide) (by decide +kernel) (by decide) (awR 4 8) none 0 none 0 (awR_ok 4 8 (by unfold isI; decide)) (by decide) (by decide) (rd_nil _ _) (rd_nil _ _)).mono ?_
  intro e w5 hp5
  unfold AppPost at hp5
  rw [aw_app2] at hp5
  obtain ⟨rfl, lv3, tv3, hs5, hk5, hl5, ht5⟩ := hp5
  have HK5 := Lib.hid (HK4.out.new hk5 (fun x hx => by rcases hx with rfl | h | h; exact hq'; exact FL4.out.1 x h; exact FL4.out.2 x h))
  have HS5 := Lib.hid hs5
  have HSA := Lib.hid (safe_any w5 q p lv3 tv3 awL3 HS5.out.hq)
  have HEN := Lib.hid (end_any w5 q p lv3 tv3 awL3 HS5.out.hq)
  clear hs5 hk5 hl5 ht5 B3 B4
  go_wp2_with fail
  refine HSA.out.mono ?_
  rintro e wx ⟨rfl, rfl⟩
  go_wp2_with fail
  refine HEN.out.mono ?_
  rintro e wx ⟨rfl, rfl⟩
  go_wp2_with fail
  refine (wake_any HS5.out.dev none 0 [] (fun h => absurd rfl h) (fun h => absurd rfl h) (by decide)).mono ?_
  rintro e w6 ⟨rfl, hd6, hk6⟩
  have HK6 := Lib.hid (HK5.out.new hk6 PK.out)
  have HD6 := Lib.hid hd6
  clear hd6 hk6 HSA HEN
  go_wp2_with fail
  refine (show Calls Try.prog 31 #[.pointer (some ⟨p, 0, none⟩), .int .i64 2, .int .i64 5, .int .i64 1, .int .i64 2] w6 (OpenPost w6 p ms mo (some awL4, awD1.wake [], 0)) from by
    have := open_ok w6 p ms mo (awD1.wake []) HD6.out 2 5 1 2 (by decide) (by rw [show ((5 : Int) * 408 - 408).toNat = 1632 from rfl, aw_all1]; decide +kernel)
    rwa [aw_open2] at this).mono ?_
  intro e w7 hp7
  obtain ⟨hk7, -, hy⟩ := hp7
  obtain ⟨q2, lv7, tv7, rfl, hs7, hq2, -, -⟩ := hy awL4 rfl
  have HK7 := Lib.hid (HK6.out.new hk7 PK.out)
  have HS7 := Lib.hid hs7
  have HEN := Lib.hid (end_any w7 q2 p lv7 tv7 awL4 hs7.hq)
  clear hk7 hs7 hy
  go_wp2_with fail
  refine HEN.out.mono ?_
  rintro e wx ⟨rfl, rfl⟩
  go_wp2_with fail
  refine (read_any' w7 q2 p ms mo lv7 tv7 awL4 (awD1.wake []) HS7.out awO4 awB4 awLR4 1).mono ?_
  intro e w8 hp8
  obtain ⟨hk8, -, hp8⟩ := hp8
  rw [aw_read] at hp8
  obtain ⟨A1, c1, A2, c2, rfl, -⟩ := hp8 _ rfl
  have HK8 := Lib.hid (HK7.out.trans0 hk8)
  have HS8 := Lib.hid (HS7.out.keep hk8 (fun _ _ => id))
  clear hk8 hp8
  go_wp2_with (refine wl_alloc' rfl 27 rfl zRecC zeroRec ?_)
  intro y w9 y1 y2 hb9 hk9
  refine wl_store_row rfl 27 _ _ rfl y (recC ⟨1, 1, 3, 7, 0, 0, 0, 0, [], []⟩ A1 c1 A2 c2) _ rfl rfl hb9 sizeRec rfl (one_recC _ _ _ _ _) ?_
  intro w10 hb10 hk10
  have HY := Lib.hid hb10
  have hk910 : Kept (fun _ => False) w8 w10 := hk9.new hk10 (by rintro x rfl; exact y1)
  have HK10 := Lib.hid (HK8.out.trans0 hk910)
  have HS10 := Lib.hid (HS8.out.keep hk910 (fun _ _ => id))
  have cy1 : w10.cell? ⟨y, 1, none⟩ = some (.int .i64 1) := cell_blk hb10 rfl
  have cy2 : w10.cell? ⟨y, 2, none⟩ = some (.int .u8 3) := cell_blk hb10 rfl
  have cy3 : w10.cell? ⟨y, 3, none⟩ = some (.int .i64 7) := cell_blk hb10 rfl
  clear hb9 hk9 hb10 hk10 hk910
  go_wp2_with fail
  refine (from_any w10 q2 p ms mo lv7 tv7 awL4 (awD1.wake []) HS10.out awO4 awB4 awLR4 1).mono ?_
  intro e w11 hp11
  obtain ⟨hk11, v, rows, rfl, hrv, hrm⟩ := hp11
  rw [aw_from] at hrm
  have hrl : rows.length = 1 := by
    have := congrArg List.length hrm
    simpa using this
  obtain ⟨Av, cv, hv⟩ : ∃ A c, v = .slice A 1 c := by
    rcases hrv.row.2 with ⟨h1, h2⟩ | ⟨g, cap, cur, h1, _⟩
    · rw [hrl] at h2; cases h2
    · rw [hrl] at h1; exact ⟨_, _, h1⟩
  subst hv
  have HK11 := Lib.hid (HK10.out.trans0 hk11)
  clear hk11 hrv hrm hrl
  go_wp2
  go_ret
  exact ⟨rfl, HK11.out⟩
end Go.Proofs.Ytbolbddjmmfepaa
