/-
  No statement is proved here: a step of a device's life: Sync, Arm, Read, Wake; and any step.
-/
import Derived.Test.YtjhbkamgmldkmaaStep
namespace Go.Proofs.Ytjhbkamgmldkmaa
open Go.RowKit

section
variable {B : Nat} {w w' : World} {p ms mo q : Nat} {M I : Nat → Prop} {D : DevM} {R : RefM} {k : Nat}
theorem OwnB.rdx {base g cap : Nat} {l : Bytes} {w : World} (h : OwnB w base g cap l) : RdB w (some ⟨g, 0, none⟩) l := fun _ => ⟨g, 0, rfl, fun j u hu => by
  have hj := (Array.getElem?_eq_some_iff.1 hu).1
  rw [size_cellsOf] at hj
  rw [cellsOf_at hj] at hu
  cases hu
  rw [Nat.zero_add]
  exact h.cellAt hj⟩
set_option maxHeartbeats 1000000 in
theorem step_sync (h : Both B w p ms mo q M I D R k) (x : DoM) (FA : Option Addr) (c : Nat) (hop : pickM x.op 8 = 3) :
    Calls Try.prog 18 #[.pointer (some ⟨p, 0, none⟩), .pointer (some ⟨q, 0, none⟩), x.val FA c] w (StepPost B w p ms mo q M I (k + 1)) := by
  have HP := Lib.hid (fun w => pick_any x.op 8 (by omega) w)
  have H := Lib.hid h
  unfold DoM.val
  clear h
  rw [hop] at HP
  clear hop
  go_enter Try.func18, Try.ntmps18
  go_wp2_with (refine wl_box rfl _ _ rfl (.agg #[.int .i64 x.op, .int .i64 x.blk, .int .i64 x.n, .int .u8 x.byte.toNat, .slice FA x.fates.length c]) rfl ?_)
  intro g1 w1 n1 m1 hb1 hk1
  have c0 : w1.cell? ⟨g1, 0, none⟩ = some (.int .i64 x.op) := cell_blk hb1 rfl
  have H1 := Lib.hid (H.out.kept0 hk1)
  have HK1 := Lib.hid hk1
  clear hk1 hb1
  go_wp2_with fail
  refine (HP.out _).mono ?_
  rintro e wx ⟨rfl, rfl⟩
  go_wp2_with fail
  refine (sync_any H1.out.hd).mono ?_
  rintro e w2 ⟨rfl, hD2, hk2⟩
  have HD2 := Lib.hid hD2
  have HRA2 := Lib.hid (H1.out.hr.kept hk2 (fun y hy e => (H1.out.dm y e).1 hy) (fun y hy e => (H1.out.dm y e).2.1 hy))
  have HK2 := Lib.hid hk2
  clear hD2 hk2
  go_wp2_with fail
  refine (rsync_any HRA2.out).mono ?_
  rintro e w3 ⟨rfl, hRA3, hk3⟩
  have HRA3 := Lib.hid hRA3
  have HK3 := Lib.hid hk3
  clear hRA3 hk3
  obtain ⟨he, hs⟩ := H.out.sim.sync H.out.hr.lt.2.2.2.1
  have HS := Lib.hid hs
  have hb : (D.syncR.1 == R.syncR.1) = true := by simp [he]
  clear he hs
  go_wp2
  go_ret
  refine ⟨M, I, _, _, rfl, ⟨HD2.out.keep HK3.out (H.out.dm p (.inl rfl)).1 (H.out.dm ms (.inr (.inl rfl))).1 (H.out.dm mo (.inr (.inr rfl))).1, HRA3.out, HS.out, H.out.dm, H.out.nm, by rw [sync_len]; have := H.out.len; omega⟩, ?_, fun _ h => .inl h, fun _ h => .inl h⟩
  exact ((HK1.out.mono (T := footB p ms mo M) (fun _ _ e => e.elim)).trans HK2.out (fun y _ e => e.elim .inl (fun e => .inr (e.elim .inl (fun e => .inr (.inl e)))))).trans HK3.out (fun y _ e => .inr (.inr (.inr e)))

set_option maxHeartbeats 1000000 in
theorem step_arm (h : Both B w p ms mo q M I D R k) (x : DoM) (FA : Option Addr) (c : Nat) (hop : pickM x.op 8 = 4) (hn : x.n ≤ 9223372036854775807) :
    Calls Try.prog 18 #[.pointer (some ⟨p, 0, none⟩), .pointer (some ⟨q, 0, none⟩), x.val FA c] w (StepPost B w p ms mo q M I (k + 1)) := by
  have HP := Lib.hid (fun w => pick_any x.op 8 (by omega) w)
  have H := Lib.hid h
  unfold DoM.val
  clear h
  rw [hop] at HP
  clear hop
  go_enter Try.func18, Try.ntmps18
  go_wp2_with (refine wl_box rfl _ _ rfl (.agg #[.int .i64 x.op, .int .i64 x.blk, .int .i64 x.n, .int .u8 x.byte.toNat, .slice FA x.fates.length c]) rfl ?_)
  intro g1 w1 n1 m1 hb1 hk1
  have c0 : w1.cell? ⟨g1, 0, none⟩ = some (.int .i64 x.op) := cell_blk hb1 rfl
  have c2 : w1.cell? ⟨g1, 2, none⟩ = some (.int .i64 x.n) := cell_blk hb1 rfl
  have H1 := Lib.hid (H.out.kept0 hk1)
  have HK1 := Lib.hid hk1
  have HN := Lib.hid hn
  clear hk1 hb1 hn
  go_wp2_with fail
  refine (HP.out _).mono ?_
  rintro e wx ⟨rfl, rfl⟩
  go_wp2_with fail
  refine (arm_any H1.out.hd x.n HN.out).mono ?_
  rintro e w2 ⟨rfl, hD2, hk2⟩
  have HD2 := Lib.hid hD2
  have HRA2 := Lib.hid (H1.out.hr.kept hk2 (fun y hy e => (H1.out.dm y (.inl e)).1 hy) (fun y hy e => (H1.out.dm y (.inl e)).2.1 hy))
  have d2 := (World.cell?_of_block (hk2.block g1 m1 (fun e => by have := H.out.lt g1 (.inl (.inl e)); omega))).trans c2
  have HK2 := Lib.hid hk2
  clear hD2 hk2
  obtain ⟨v, cs, hP2⟩ := HRA2.out.parts
  go_wp2_with fail
  refine (rarm_any hP2 x.n HN.out).mono ?_
  rintro e w3 ⟨rfl, hP3, hk3⟩
  have HP3 := Lib.hid hP3
  have HK3 := Lib.hid (hk3.mono (T := M) (fun y _ e => e ▸ hP2.mq))
  clear hP3 hk3 hP2
  go_wp2
  go_ret
  refine ⟨M, I, _, _, rfl, ⟨HD2.out.keep HK3.out (H.out.dm p (.inl rfl)).1 (H.out.dm ms (.inr (.inl rfl))).1 (H.out.dm mo (.inr (.inr rfl))).1, ⟨v, cs, HP3.out⟩, H.out.sim.arm x.n, H.out.dm, H.out.nm, by rw [arm_len]; have := H.out.len; omega⟩, ?_, fun _ h => .inl h, fun _ h => .inl h⟩
  exact ((HK1.out.mono (T := footB p ms mo M) (fun _ _ e => e.elim)).trans HK2.out (fun y _ e => .inl e)).trans HK3.out (fun y _ e => .inr (.inr (.inr e)))

/-- What both devices read, and that it is the same. -/
theorem two_reads (h : Both B w p ms mo q M I D R k) (n : Int) : ∃ (A A' : Option Addr) (l : Bytes) (e : Int),
    (∀ w, Both B w p ms mo q M I D R k → Calls Try.prog 16 #[.pointer (some ⟨p, 0, none⟩), .int .i64 n] w fun x w' => ∃ A c, x = .returned (.tuple #[.slice A l.length c, .int .i64 e]) ∧ RdB w' A l ∧ Kept (fun _ => False) w w') ∧
    (∀ w, Both B w p ms mo q M I D R k → Calls Try.prog 42 #[.pointer (some ⟨q, 0, none⟩), .int .i64 n] w fun x w' => ∃ A c, x = .returned (.tuple #[.slice A l.length c, .int .i64 e]) ∧ RdB w' A l ∧ Kept (fun _ => False) w w') ∧ l.length ≤ 512 := by
  by_cases hm : R.mayE n = 0
  · refine ⟨none, none, D.latest n, 0, fun w h => ?_, fun w h => ?_, by rw [h.hd.len]; omega⟩
    · have hl := h.hd.len n
      refine (read_ok h.hd n (by rw [h.sim.mayE]; exact hm)).mono ?_
      rintro x w' ⟨g, cap, rfl, ho, hk⟩
      exact ⟨some ⟨g, 0, none⟩, cap, by rw [hl], ho.rdx, hk⟩
    · have hl := h.hd.len n
      obtain ⟨v, cs, hP⟩ := h.hr.parts
      refine (rread_ok hP n hm).mono ?_
      rintro x w' ⟨g, cap, rfl, ho, hk⟩
      rw [← h.sim.latest n] at ho
      exact ⟨some ⟨g, 0, none⟩, cap, by rw [hl], ho.rdx, hk⟩
  · refine ⟨none, none, [], R.mayE n, fun w h => ?_, fun w h => ?_, by simp⟩
    · have e := h.sim.mayE n
      refine (read_no h.hd n (by rw [e]; exact hm)).mono ?_
      rintro x w' ⟨rfl, rfl⟩
      exact ⟨none, 0, by rw [e]; rfl, fun h => absurd rfl h, Kept.refl _ _⟩
    · obtain ⟨v, cs, hP⟩ := h.hr.parts
      refine (rread_no hP n hm).mono ?_
      rintro x w' ⟨rfl, rfl⟩
      exact ⟨none, 0, rfl, fun h => absurd rfl h, Kept.refl _ _⟩

set_option maxHeartbeats 1000000 in
theorem step_read (h : Both B w p ms mo q M I D R k) (x : DoM) (FA : Option Addr) (c : Nat) (hop : pickM x.op 8 = 5 ∨ pickM x.op 8 = 6) :
    Calls Try.prog 18 #[.pointer (some ⟨p, 0, none⟩), .pointer (some ⟨q, 0, none⟩), x.val FA c] w (StepPost B w p ms mo q M I (k + 1)) := by
  have HP := Lib.hid (fun w => pick_any x.op 8 (by omega) w)
  have H := Lib.hid h
  obtain ⟨_, _, l, er, hr1, hr2, hl⟩ := two_reads h x.blk
  have HR1 := Lib.hid hr1
  have HR2 := Lib.hid hr2
  unfold DoM.val
  clear h hr1 hr2
  rcases hop with ho | ho
  all_goals (
    rw [ho] at HP
    clear ho
    go_enter Try.func18, Try.ntmps18
    go_wp2_with (refine wl_box rfl _ _ rfl (.agg #[.int .i64 x.op, .int .i64 x.blk, .int .i64 x.n, .int .u8 x.byte.toNat, .slice FA x.fates.length c]) rfl ?_)
    intro g1 w1 n1 m1 hb1 hk1
    have c0 : w1.cell? ⟨g1, 0, none⟩ = some (.int .i64 x.op) := cell_blk hb1 rfl
    have c1 : w1.cell? ⟨g1, 1, none⟩ = some (.int .i64 x.blk) := cell_blk hb1 rfl
    have H1 := Lib.hid (H.out.kept0 hk1)
    have HK1 := Lib.hid hk1
    clear hk1 hb1
    go_wp2_with fail
    refine (HP.out _).mono ?_
    rintro e wx ⟨rfl, rfl⟩
    go_wp2_with fail
    refine (HR1.out _ H1.out).mono ?_
    rintro e w2 ⟨A2, cc2, rfl, hb2, hk2⟩
    have H2 := Lib.hid (H1.out.kept0 hk2)
    have d1 := (World.cell?_of_block (hk2.block g1 m1 id)).trans c1
    have HK2 := Lib.hid (HK1.out.trans0 hk2)
    have HB2 := Lib.hid hb2
    clear hk2 hb2
    go_wp2_with fail
    refine (HR2.out _ H2.out).mono ?_
    rintro e w3 ⟨A3, cc3, rfl, hb3, hk3⟩
    have H3 := Lib.hid (H2.out.kept0 hk3)
    have HK3 := Lib.hid (HK2.out.trans0 hk3)
    have HB3 := Lib.hid hb3
    have HB2' := Lib.hid (HB2.out.kept hk3 (fun _ _ _ _ => id))
    clear hk3 hb3
    go_wp2_with fail
    refine (same_any A2 A3 cc2 cc3 l l _ HB2'.out HB3.out (by omega)).mono ?_
    rintro e w4 ⟨rfl, hs4⟩
    have hd : decide (l = l) = true := by simp
    have H4 := Lib.hid (H3.out.kept0 (hs4.kept (fun _ => False)))
    have HK4 := Lib.hid (HK3.out.trans0 (hs4.kept (fun _ => False)))
    clear hs4
    go_wp2
    go_ret
    exact ⟨M, I, D, R, rfl, H4.out.more, HK4.out.mono (fun _ _ e => e.elim), fun _ h => .inl h, fun _ h => .inl h⟩)

set_option maxHeartbeats 1000000 in
theorem step_wake (h : Both B w p ms mo q M I D R k) (x : DoM) (FA : Option Addr) (c : Nat) (hop : pickM x.op 8 = 7) (hB : B ≤ w.heap.size) (hf : RdF w FA x.fates) (hfb : x.fates ≠ [] → ∀ b off, FA = some ⟨b, off, none⟩ → b < B) (hl : x.fates.length ≤ 1000) :
    Calls Try.prog 18 #[.pointer (some ⟨p, 0, none⟩), .pointer (some ⟨q, 0, none⟩), x.val FA c] w (StepPost B w p ms mo q M I (k + 1)) := by
  have HP := Lib.hid (fun w => pick_any x.op 8 (by omega) w)
  have H := Lib.hid h
  have HF := Lib.hid hf
  have HFB := Lib.hid hfb
  have HB := Lib.hid hB
  unfold DoM.val
  clear h hf hfb hB
  rw [hop] at HP
  clear hop
  go_enter Try.func18, Try.ntmps18
  go_wp2_with (refine wl_box rfl _ _ rfl (.agg #[.int .i64 x.op, .int .i64 x.blk, .int .i64 x.n, .int .u8 x.byte.toNat, .slice FA x.fates.length c]) rfl ?_)
  intro g1 w1 n1 m1 hb1 hk1
  have c0 : w1.cell? ⟨g1, 0, none⟩ = some (.int .i64 x.op) := cell_blk hb1 rfl
  have c4 : w1.cell? ⟨g1, 4, none⟩ = some (.slice FA x.fates.length c) := cell_blk hb1 rfl
  have H1 := Lib.hid (H.out.kept0 hk1)
  have HK1 := Lib.hid hk1
  have HF1 := Lib.hid (HF.out.kept hk1 (fun _ _ _ _ _ => id))
  clear hk1 hb1
  go_wp2_with fail
  refine (HP.out _).mono ?_
  rintro e wx ⟨rfl, rfl⟩
  go_wp2_with fail
  refine (lentF_any FA c x.fates _ HF1.out (by omega)).mono ?_
  rintro e w2 ⟨g2, cap2, rfl, ho2, hk2⟩
  have H2 := Lib.hid (H1.out.kept0 hk2)
  have HK2 := Lib.hid (HK1.out.trans0 hk2)
  have HF2 := Lib.hid (HF1.out.kept hk2 (fun _ _ _ _ _ => id))
  have HO2 := Lib.hid ho2
  have d4 := (World.cell?_of_block (hk2.block g1 m1 id)).trans c4
  have n2 : w1.heap.size ≤ g2 := by obtain ⟨cur, h, _⟩ := ho2.form; exact h
  have m2 := hk2.size
  have HL := Lib.hid H.out.lt
  have hg2 : ∀ y, footB p ms mo M y → y ≠ g2 := fun y hy e => by have := HL.out y (.inl hy); have := HK1.out.size; omega
  have HG2 := Lib.hid hg2
  clear ho2 hk2 hg2
  go_wp2_with fail
  refine (wake_any H2.out.hd (some ⟨g2, 0, none⟩) cap2 x.fates (lentF_rd HO2.out) (by rintro - b off e; cases e; exact fun e => HG2.out _ (.inl rfl) e.symm) (by omega)).mono ?_
  rintro e w3 ⟨rfl, hD3, hk3⟩
  have s1 := HK1.out.size
  have HD3 := Lib.hid hD3
  have HRA3 := Lib.hid (H2.out.hr.kept hk3 (fun y hy e => (H2.out.dm y e).1 hy) (fun y hy e => (H2.out.dm y e).2.1 hy))
  have hne : ∀ y, (y = p ∨ y = ms ∨ y = mo) → footB p ms mo M y := fun y e => e.elim .inl (fun e => .inr (e.elim .inl (fun e => .inr (.inl e))))
  have d4' := (World.cell?_of_block (hk3.block g1 (by omega) (fun e => by have := HL.out g1 (.inl (hne g1 e)); omega))).trans d4
  have HO3 := Lib.hid (HO2.out.keep hk3 (fun e => HG2.out g2 (hne g2 e) rfl))
  have HBF := Lib.hid (show ∀ y, footB p ms mo M y → B ≤ y from by
    rintro y (e | e | e | e)
    · exact (H.out.dm y (.inl e)).2.2
    · exact (H.out.dm y (.inr (.inl e))).2.2
    · exact (H.out.dm y (.inr (.inr e))).2.2
    · exact H.out.nm y (.inl e))
  have HF3 := Lib.hid (HF2.out.kept hk3 (fun hn b off e _ hs => by have := HFB.out hn b off e; have := HBF.out b (hne b hs); omega))
  have HNE := Lib.hid hne
  have HK3 := Lib.hid hk3
  clear hD3 hk3 hne
  go_wp2_with fail
  refine (rwake_any HRA3.out FA c x.fates HF3.out (fun hn b off e hs => by have := HFB.out hn b off e; have := HBF.out b (.inr (.inr (.inr hs))); omega) (by omega)).mono ?_
  rintro e w4 ⟨I', rfl, hRA4, hk4, hI4⟩
  have HRA4 := Lib.hid hRA4
  have HI4 := Lib.hid hI4
  have HK4 := Lib.hid hk4
  have d4'' := (World.cell?_of_block (hk4.block g1 (by have := HK3.out.size; omega) (fun e => by have := HL.out g1 (.inl (.inr (.inr (.inr e)))); omega))).trans d4'
  have HO4 := Lib.hid (HO3.out.keep hk4 (fun e => HG2.out g2 (.inr (.inr (.inr e))) rfl))
  have HF4 := Lib.hid (HF3.out.kept hk4 (fun hn b off e _ hs => by have := HFB.out hn b off e; have := HBF.out b (.inr (.inr (.inr hs))); omega))
  clear hRA4 hI4 hk4 d4 d4' c0 c4
  go_wp2_with fail
  refine (keptF_any FA g2 w1.heap.size cap2 c x.fates _ HF4.out HO4.out (by omega)).mono ?_
  rintro e w5 ⟨rfl, hk5⟩
  have HK5 := Lib.hid hk5
  clear hk5
  go_wp2
  go_ret
  have s3 := HK3.out.size
  refine ⟨M, I', _, _, rfl, ⟨(HD3.out.keep HK4.out (H.out.dm p (.inl rfl)).1 (H.out.dm ms (.inr (.inl rfl))).1 (H.out.dm mo (.inr (.inr rfl))).1).keep HK5.out id id id, HRA4.out.kept HK5.out (fun _ _ => id) (fun _ _ => id), H.out.sim.wake x.fates, ?_, ?_, by rw [wake_len]; have := H.out.len; omega⟩, ?_, fun _ h => .inl h, ?_⟩
  · intro y hy
    refine ⟨(H.out.dm y hy).1, fun e => ?_, (H.out.dm y hy).2.2⟩
    rcases HI4.out y e with e | e
    · exact (H.out.dm y hy).2.1 e
    · have := HL.out y (.inl (HNE.out y hy)); omega
  · rintro y (e | e)
    · exact H.out.nm y (.inl e)
    · rcases HI4.out y e with e | e
      · exact H.out.nm y (.inr e)
      · have := HB.out; omega
  · exact (((HK2.out.mono (T := footB p ms mo M) (fun _ _ e => e.elim)).trans HK3.out (fun y _ e => HNE.out y e)).trans HK4.out (fun y _ e => .inr (.inr (.inr e)))).trans0 HK5.out
  · intro y e
    rcases HI4.out y e with e | e
    · exact .inl e
    · right; omega
theorem step_any (h : Both B w p ms mo q M I D R k) (x : DoM) (FA : Option Addr) (c : Nat) (hB : B ≤ w.heap.size) (hk : k ≤ 1000) (hn : x.n ≤ 9223372036854775807) (hf : RdF w FA x.fates) (hfb : x.fates ≠ [] → ∀ b off, FA = some ⟨b, off, none⟩ → b < B) (hl : x.fates.length ≤ 1000) :
    Calls Try.prog 18 #[.pointer (some ⟨p, 0, none⟩), .pointer (some ⟨q, 0, none⟩), x.val FA c] w (StepPost B w p ms mo q M I (k + 1)) := by
  have hp := pickM_lt (x := x.op) (n := 8) (by omega)
  rcases (show (pickM x.op 8 = 0 ∨ pickM x.op 8 = 1 ∨ pickM x.op 8 = 2) ∨ pickM x.op 8 = 3 ∨ pickM x.op 8 = 4 ∨ (pickM x.op 8 = 5 ∨ pickM x.op 8 = 6) ∨ pickM x.op 8 = 7 by omega) with h1 | h1 | h1 | h1 | h1
  · exact step_write h x FA c hB hk h1
  · exact step_sync h x FA c h1
  · exact step_arm h x FA c h1 hn
  · exact step_read h x FA c h1
  · exact step_wake h x FA c h1 hB hf hfb hl
end
end Go.Proofs.Ytjhbkamgmldkmaa
