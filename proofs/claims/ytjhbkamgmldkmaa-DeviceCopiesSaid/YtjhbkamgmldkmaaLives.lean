/-
  DeviceLives: the walk: parchmentlaw01.DeviceLives returns true, whatever the number of blocks and the steps.
-/
import Derived.Test.YtjhbkamgmldkmaaStepb
import Derived.Test.YtjhbkamgmldkmaaReadd
namespace Go.Proofs.Ytjhbkamgmldkmaa
open Go.RowKit

theorem RdDo.take' {w : World} {A : Option Addr} {l : List DoM} (h : RdDo w A l) (n : Nat) : RdDo w A (l.take n) := by
  intro hne
  obtain ⟨b, off, hA, hc⟩ := h (by rintro rfl; simp at hne)
  refine ⟨b, off, hA, fun i x hx => hc i x ?_⟩
  rw [List.getElem?_take] at hx
  split at hx
  · exact hx
  · cases hx
theorem RdDo.at_ {w wr : World} {A : Option Addr} {l : List DoM} (h : RdDo w A l) (hk : Kept (fun _ => False) w wr) {k : Nat} {x : DoM} (hx : l[k]? = some x) :
    ∃ b off FA c, A = some ⟨b, off, none⟩ ∧ (∀ (j : Nat) (v : Value), (x.val FA c).cells[j]? = some v → wr.cell? ⟨b, off + k * 5 + j, none⟩ = some v) ∧ RdF wr FA x.fates ∧ (x.fates ≠ [] → ∀ b' off', FA = some ⟨b', off', none⟩ → b' < w.heap.size) ∧ x.n ≤ 9223372036854775807 := by
  obtain ⟨b, off, hA, hc⟩ := h (by rintro rfl; simp at hx)
  obtain ⟨h0, h1, h2, h3, FA, c, h4, h5, h6, h7⟩ := hc k x hx
  have tr : ∀ o v, w.cell? ⟨b, o, none⟩ = some v → wr.cell? ⟨b, o, none⟩ = some v := fun o v hv => (World.cell?_of_block (hk.block b (block_lt_of_cell hv) id)).trans hv
  refine ⟨b, off, FA, c, hA, fun j v hv => ?_, h5.kept hk (fun _ _ _ _ _ => id), fun hne b' off' e => ?_, h7⟩
  · match j, hv with
    | 0, hv => cases hv; exact tr _ _ h0
    | 1, hv => cases hv; exact tr _ _ h1
    | 2, hv => cases hv; exact tr _ _ h2
    | 3, hv => cases hv; exact tr _ _ h3
    | 4, hv => cases hv; exact tr _ _ h4
    | n + 5, hv => simp [DoM.val, Value.cells] at hv
  · obtain ⟨b2, off2, e2, hc2⟩ := h5 hne
    rw [e] at e2
    cases e2
    match hf : x.fates, hne with
    | y :: _, _ => exact block_lt_of_cell (hc2 0 y (by rw [hf]; rfl)).1
theorem RdDo.kept0 {w wr : World} {A : Option Addr} {l : List DoM} (h : RdDo w A l) (hk : Kept (fun _ => False) w wr) : RdDo wr A l := by
  intro hne
  obtain ⟨b, off, e, hc⟩ := h hne
  refine ⟨b, off, e, fun i x hx => ?_⟩
  obtain ⟨h0, h1, h2, h3, FA, cf, h4, h5, h6, h7⟩ := hc i x hx
  have tr : ∀ o v, w.cell? ⟨b, o, none⟩ = some v → wr.cell? ⟨b, o, none⟩ = some v := fun o v hv => (World.cell?_of_block (hk.block b (block_lt_of_cell hv) id)).trans hv
  exact ⟨tr _ _ h0, tr _ _ h1, tr _ _ h2, tr _ _ h3, FA, cf, tr _ _ h4, h5.kept hk (fun _ _ _ _ _ => id), h6, h7⟩
section
variable {B : Nat} {w w' : World} {p ms mo q : Nat} {M I : Nat → Prop} {D : DevM} {R : RefM} {k : Nat}
theorem Both.foot (h : Both B w p ms mo q M I D R k) : ∀ x, footB p ms mo M x → B ≤ x := by
  rintro y (e | e | e | e)
  · exact (h.dm y (.inl e)).2.2
  · exact (h.dm y (.inr (.inl e))).2.2
  · exact (h.dm y (.inr (.inr e))).2.2
  · exact h.nm y (.inl e)
theorem rdown_sim (h : Both B w p ms mo q M I D R k) : Calls Try.prog 20 #[.pointer (some ⟨q, 0, none⟩)] w fun e w' => e = .returned (.bool D.down) ∧ w = w' := by
  rw [h.sim.off]; exact rdown_any h.hr
theorem rblocks_sim (h : Both B w p ms mo q M I D R k) : Calls Try.prog 45 #[.pointer (some ⟨q, 0, none⟩)] w fun e w' => e = .returned (.int .i64 D.n) ∧ w = w' := by
  rw [h.sim.n]; exact rblocks_any h.hr
set_option maxHeartbeats 1000000 in
theorem like_any (h : Both B w p ms mo q M I D R k) (A : Option Addr) (c : Nat) (l : List DoM) (hl : RdDo w A l) (hlen : l.length ≤ 1000) :
    Calls Try.prog 21 #[.pointer (some ⟨p, 0, none⟩), .pointer (some ⟨q, 0, none⟩), .slice A l.length c] w fun e w' => e = .returned (.bool true) ∧ Kept (fun _ => False) w w' := by
  have H := Lib.hid h
  have HL := Lib.hid hl
  have H1 := Lib.hid (down_any h.hd)
  have H2 := Lib.hid (rdown_sim h)
  have H3 := Lib.hid (blocks_any h.hd)
  have H4 := Lib.hid (rblocks_sim h)
  clear h hl
  go_enter Try.func21, Try.ntmps21
  go_wp2_with (first
    | (go_at_call 19; refine H1.out.mono ?_; rintro e wx ⟨rfl, rfl⟩)
    | (go_at_call 20; refine H2.out.mono ?_; rintro e wx ⟨rfl, rfl⟩)
    | (go_at_call 23; refine H3.out.mono ?_; rintro e wx ⟨rfl, rfl⟩)
    | (go_at_call 45; refine H4.out.mono ?_; rintro e wx ⟨rfl, rfl⟩))
  clear H1 H2 H3 H4
  go_loopw [7] (fun i wr => ∃ k : Nat, k ≤ l.length ∧ i = .int .i64 k ∧ Kept (fun _ => False) w wr) (fun i _ => l.length - (intOf i).toNat)
  case atStart => exact ⟨0, Nat.zero_le _, rfl, Kept.refl _ _⟩
  case round =>
    obtain ⟨k, hk, rfl, hkr⟩ := hrel
    have HK := Lib.hid hkr
    have Hr := Lib.hid (H.out.kept0 hkr)
    by_cases hlt : k < l.length
    · obtain ⟨b, off, FA, cf, rfl, hc, _, _, _⟩ := HL.out.at_ hkr (List.getElem?_eq_getElem hlt)
      generalize l[k] = x at hc
      have e1 : wr.cell? ⟨b, off + k * 5 + 1, none⟩ = some (.int .i64 x.blk) := hc 1 _ rfl
      obtain ⟨_, _, lb, er, hr1, hr2, hlb⟩ := two_reads Hr.out x.blk
      have HR1 := Lib.hid hr1
      have HR2 := Lib.hid hr2
      have i0 : (0 : Int) ≤ (k : Int) := by omega
      have i1 : (k : Int) < (l.length : Int) := by omega
      clear hc hr1 hr2 hkr
      go_wp2_with fail
      refine (HR1.out _ Hr.out).mono ?_
      rintro e w2 ⟨A2, cc2, rfl, hb2, hk2⟩
      have H2 := Lib.hid (Hr.out.kept0 hk2)
      have d1 := (World.cell?_of_block (hk2.block b (block_lt_of_cell e1) id)).trans e1
      have HK2 := Lib.hid (HK.out.trans0 hk2)
      have HB2 := Lib.hid hb2
      clear hk2 hb2
      go_wp2_with fail
      refine (HR2.out _ H2.out).mono ?_
      rintro e w3 ⟨A3, cc3, rfl, hb3, hk3⟩
      have HK3 := Lib.hid (HK2.out.trans0 hk3)
      have HB3 := Lib.hid hb3
      have HB2' := Lib.hid (HB2.out.kept hk3 (fun _ _ _ _ => id))
      clear hk3 hb3
      go_wp2_with fail
      refine (same_any A2 A3 cc2 cc3 lb lb _ HB2'.out HB3.out (by omega)).mono ?_
      rintro e w4 ⟨rfl, hs4⟩
      have hd : decide (lb = lb) = true := by simp
      have HK4 := Lib.hid (HK3.out.trans0 (hs4.kept (fun _ => False)))
      clear hs4
      go_wp2
      go_roundw
      case rel => exact ⟨k + 1, by omega, by go_num, HK4.out⟩
      case measure => simp [intOf]; omega
    · have hge : ¬ ((k : Int) < (l.length : Int)) := by omega
      clear hkr
      go_wp2
      go_ret
      exact ⟨rfl, HK.out⟩
/-- Both devices woken, of nothing. -/
theorem both_wake (h : Both B w p ms mo q M I D R k) (hB : B ≤ w.heap.size) : Calls Try.prog 15 #[.pointer (some ⟨p, 0, none⟩), .slice none 0 0] w fun e w1 => e = .returned (.tuple #[]) ∧
    Calls Try.prog 22 #[.pointer (some ⟨q, 0, none⟩), .slice none 0 0] w1 fun e w' => e = .returned (.tuple #[]) ∧ ∃ I', Both B w' p ms mo q M I' (D.wake []) (R.wake []) k ∧ Kept (footB p ms mo M) w w' ∧ (∀ y, I' y → I y ∨ w.heap.size ≤ y) := by
  refine (wake_any h.hd none 0 [] (fun h => absurd rfl h) (fun h => absurd rfl h) (by decide)).mono ?_
  rintro e w1 ⟨rfl, hD1, hk1⟩
  refine ⟨rfl, ?_⟩
  have hR1 := h.hr.kept hk1 (fun y hy e => (h.dm y e).1 hy) (fun y hy e => (h.dm y e).2.1 hy)
  refine (rwake_any hR1 none 0 [] (fun h => absurd rfl h) (fun h => absurd rfl h) (by decide)).mono ?_
  rintro e w2 ⟨I', rfl, hR2, hk2, hI⟩
  have s1 := hk1.size
  have hlt := h.lt
  refine ⟨rfl, I', ⟨hD1.keep hk2 (h.dm p (.inl rfl)).1 (h.dm ms (.inr (.inl rfl))).1 (h.dm mo (.inr (.inr rfl))).1, hR2, h.sim.wake [], ?_, ?_, by rw [wake_len]; exact h.len⟩, ?_, ?_⟩
  · intro y hy
    refine ⟨(h.dm y hy).1, fun e => ?_, (h.dm y hy).2.2⟩
    rcases hI y e with e | e
    · exact (h.dm y hy).2.1 e
    · have := hlt y (.inl (hy.elim .inl (fun h => .inr (h.elim .inl (fun h => .inr (.inl h)))))); omega
  · rintro y (e | e)
    · exact h.nm y (.inl e)
    · rcases hI y e with e | e
      · exact h.nm y (.inr e)
      · omega
  · exact (hk1.mono (T := footB p ms mo M) (fun y _ e => e.elim .inl (fun e => .inr (e.elim .inl (fun e => .inr (.inl e)))))).trans hk2 (fun y _ e => .inr (.inr (.inr e)))
  · intro y e
    rcases hI y e with e | e
    · exact .inl e
    · right; omega
end

set_option maxRecDepth 100000 in
set_option maxHeartbeats 2000000 in
theorem lives_any (n : Int) (A : Option Addr) (c : Nat) (l : List DoM) (w : World) (hl : RdDo w A l) (hcap : l.length ≤ c) :
    Calls Try.prog 4 #[.int .i64 n, .slice A l.length c] w fun e w' => e = .returned (.bool true) ∧ Kept (fun _ => False) w w' := by
  by_cases hn : 1 ≤ n ∧ n ≤ 65536
  case' neg =>
    have HN := Lib.hid (fun w => new_no n (by omega) w)
    have HN2 := Lib.hid (fun w => rnew_no n (by omega) w)
    have g2 : l.length > 80 → (80 : Int) ≤ (c : Int) := by omega
    have g3 := Lib.hid hl
    clear hl hcap hn
    by_cases h80 : l.length ≤ 80
    case' pos =>
      have g1 : ¬ (80 : Int) < (l.length : Int) := by omega
      clear h80 g2
    case' neg =>
      have g1 : (80 : Int) < (l.length : Int) := by omega
      have g2' := g2 (by omega)
      clear h80 g2
    all_goals (
      go_enter Try.func4, Try.ntmps4
      go_wp2_with (first
        | (go_at_call 10; refine (HN.out _).mono ?_; rintro e wx ⟨rfl, rfl⟩)
        | (go_at_call 17; refine (HN2.out _).mono ?_; rintro e wx ⟨rfl, rfl⟩)
        | (go_at_call 9; refine (awake_any _).mono ?_; rintro e w1 ⟨rfl, hk1⟩))
      go_ret
      exact ⟨rfl, hk1⟩)
  case' pos =>
    by_cases h80 : l.length ≤ 80
    case' pos =>
      have HL := Lib.hid hl
      clear hl hcap
      have g1 : ¬ (80 : Int) < (l.length : Int) := by omega
      go_enter Try.func4, Try.ntmps4
      go_wp2_with fail
      refine (new_ok n hn.1 hn.2 _).mono ?_
      clear g1
    case' neg =>
      have HL := Lib.hid (hl.take' 80)
      have g1 : (80 : Int) < (l.length : Int) := by omega
      have g2 : (80 : Int) ≤ (c : Int) := by omega
      have hlen : (l.take 80).length = 80 := by rw [List.length_take]; omega
      have hsome : ∃ b off, A = some ⟨b, off, none⟩ := by
        obtain ⟨b, off, hA, _⟩ := hl (by rintro rfl; simp at g1)
        exact ⟨b, off, hA⟩
      clear hl hcap
      obtain ⟨b0, off0, rfl⟩ := hsome
      generalize l.take 80 = l2 at *
      have Hlen := Lib.hid hlen
      clear hlen
      go_enter Try.func4, Try.ntmps4
      go_wp2_with fail
      refine (new_ok n hn.1 hn.2 _).mono ?_
      rw [← Hlen.out]
      have h80' : l2.length ≤ 80 := by rw [Hlen.out]; omega
      clear h80 g1 g2 Hlen
      generalize some (⟨b0, off0, none⟩ : Addr) = A at *
      generalize l.length = ll at *
      clear l
      revert l2
      intro l h80 HL
    all_goals
      rintro e w1 ⟨p, ms, mo, rfl, hD1, hk1, lp, lms, lmo⟩
      have HD1 := Lib.hid hD1
      have HK1 := Lib.hid hk1
      clear hD1 hk1
      go_wp2_with fail
      refine (rnew_ok n hn.1 hn.2 _).mono ?_
      rintro e w2 ⟨q, rfl, hR2, hk2, lq⟩
      have HB2 := Lib.hid (show Both w.heap.size w2 p ms mo q (fun x => x = q) (fun _ => False) (newM n) (newR n) 0 from
        ⟨HD1.out.keep hk2 id id id, hR2, sim_new n, (by
          have l1 := heap_lt HD1.out.hp
          have l2 := HD1.out.hs.lt
          have l3 := HD1.out.ho.lt
          rintro x (rfl | rfl | rfl)
          · exact ⟨by omega, id, lp⟩
          · exact ⟨by omega, id, lms⟩
          · exact ⟨by omega, id, lmo⟩), (by
          have := HK1.out.size
          rintro x (rfl | h)
          · omega
          · exact h.elim), Nat.le_refl _⟩)
      have HK2 := Lib.hid (HK1.out.trans0 hk2)
      clear hR2 hk2 lp lms lmo lq HD1 HK1 hn
      go_wp2
      go_loopw [7] (fun i wr => ∃ (k : Nat) (M I : Nat → Prop) (D : DevM) (R : RefM), k ≤ l.length ∧ i = .int .i64 k ∧ Both w.heap.size wr p ms mo q M I D R k ∧ Kept (fun _ => False) w wr) (fun i _ => l.length - (intOf i).toNat)
      case atStart => exact ⟨0, _, _, _, _, Nat.zero_le _, rfl, HB2.out, HK2.out⟩
      case round =>
        obtain ⟨k, M, I, D, R, hk, rfl, hb, hkr⟩ := hrel
        have Hr := Lib.hid hb
        have HK := Lib.hid hkr
        have szr := hkr.size
        clear HB2 HK2 hb
        by_cases hlt : k < l.length
        · obtain ⟨b, off, FA, cf, rfl, hc, hf, hfb, hxn⟩ := HL.out.at_ hkr (List.getElem?_eq_getElem hlt)
          generalize l[k] = x at hc hf hfb hxn
          have e4 : wr.cell? ⟨b, off + k * 5 + 4, none⟩ = some (.slice FA x.fates.length cf) := hc 4 _ rfl
          have i0 : (0 : Int) ≤ (k : Int) := by omega
          have i1 : (k : Int) < (l.length : Int) := by omega
          have HC := Lib.hid hc
          have HF := Lib.hid hf
          have HFB := Lib.hid hfb
          have HXN := Lib.hid hxn
          clear hc hf hfb hxn hkr
          by_cases h1000 : x.fates.length ≤ 1000
          · have g5 : ¬ (1000 : Int) < (x.fates.length : Int) := by omega
            go_wp2_with (refine wl_load_mid rfl 31 _ rfl b (off + k * 5) rfl #[.int .i64 x.op, .int .i64 x.blk, .int .i64 x.n, .int .u8 x.byte.toNat, .slice FA x.fates.length cf] HC.out Try.underlying31 rfl infoDo ?_)
            refine (step_any Hr.out x FA cf szr (by omega) HXN.out HF.out HFB.out h1000).mono ?_
            rintro e w3 ⟨M', I', D', R', rfl, hb3, hk3, -, -⟩
            have HK3 := Lib.hid (HK.out.new hk3 Hr.out.foot)
            have HB3 := Lib.hid hb3
            have HD3 := Lib.hid (down_any hb3.hd)
            have HR3 := Lib.hid (rdown_sim hb3)
            clear hb3 hk3 e4 g5
            go_wp2_with (first
              | (go_at_call 19; refine HD3.out.mono ?_; rintro e wx ⟨rfl, rfl⟩)
              | (go_at_call 20; refine HR3.out.mono ?_; rintro e wx ⟨rfl, rfl⟩))
            go_roundw
            case rel => exact ⟨k + 1, M', I', D', R', by omega, by go_num, HB3.out, HK3.out⟩
            case measure => simp [intOf]; omega
          · have g5 : (1000 : Int) < (x.fates.length : Int) := by omega
            go_wp2_with (go_at_call 9; refine (awake_any _).mono ?_; rintro e w3 ⟨rfl, hk3⟩)
            go_ret
            exact ⟨rfl, HK.out.trans0 hk3⟩
        · have hge : ¬ ((k : Int) < (l.length : Int)) := by omega
          have HL1 := Lib.hid (like_any Hr.out A c l (HL.out.kept0 hkr) (by omega))
          clear hkr
          go_wp2_with fail
          refine HL1.out.mono ?_
          rintro e w3 ⟨rfl, hk3⟩
          have H3 := Lib.hid (Hr.out.kept0 hk3)
          have HK3 := Lib.hid (HK.out.trans0 hk3)
          clear hk3 HL1
          go_wp2_with fail
          refine (both_wake H3.out HK3.out.size).mono ?_
          rintro e w4 ⟨rfl, hw4⟩
          have HW4 := Lib.hid hw4
          clear hw4
          go_wp2_with fail
          refine HW4.out.mono ?_
          rintro e w5 ⟨rfl, I5, hb5, hk5, -⟩
          have H5 := Lib.hid hb5
          have HK5 := Lib.hid (HK3.out.new hk5 H3.out.foot)
          have HL5 := Lib.hid (like_any hb5 A c l (HL.out.kept0 HK5.out) (by omega))
          clear hb5 hk5 HW4
          go_wp2_with (first
            | (go_at_call 21; refine HL5.out.mono ?_; rintro e w6 ⟨rfl, hk6⟩)
            | (go_at_call 9; refine (awake_any _).mono ?_; rintro e w7 ⟨rfl, hk7⟩))
          go_ret
          exact ⟨rfl, (HK5.out.trans0 hk6).trans0 hk7⟩
end Go.Proofs.Ytjhbkamgmldkmaa
