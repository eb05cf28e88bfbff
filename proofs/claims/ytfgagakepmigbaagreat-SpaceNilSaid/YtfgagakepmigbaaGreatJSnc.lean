/-
  PROVED: parchmentlaw14.SpaceNil returns true for every page. No condition.
-/
import Derived.Test.YtfgagakepmigbaaGreatJRoc
import Derived.Test.YtfgagakepmigbaaGreatJPgl
import Derived.Test.YtfgagakepmigbaaGreatJSmd
import Derived.Test.YtfgagakepmigbaaGreatJSwk
import Derived.Test.YtfgagakepmigbaaGreatJSwj
import Derived.Test.YtfgagakepmigbaaGreatJBkx
import Derived.Test.YtfgagakepmigbaaGreatRows
import Derived.ChangeOld
import Derived.Carry
namespace Go.Proofs.YtfgagakepmigbaaGreat
open Go.RowKit
structure Bk (w0 w : World) (x : BAdr) (S : BkA) (g : Nat) : Prop where
  b : BkW w x S g
  k : Kept (fun _ => False) w0 w
  lk : ∀ z, x.K z → w0.heap.size ≤ z
section
variable {w0 w w' : World} {x x' : BAdr} {S S' : BkA} {g g' : Nat}
theorem Bk.to (h : Bk w0 w x S g) (ht : BTo w x w' x') (hb : BkW w' x' S' g') : Bk w0 w' x' S' g' :=
  ⟨hb, h.k.new ht.k h.lk, fun z hz => by rcases ht.g z hz with h1 | h1; exact h.lk z h1; exact Nat.le_trans h.k.size h1⟩
theorem Bk.keep0 (h : Bk w0 w x S g) (hk : Kept (fun _ => False) w w') : Bk w0 w' x S g := ⟨h.b.keep0 hk, h.k.trans0 hk, h.lk⟩
theorem Bk.keep {T : Nat → Prop} (h : Bk w0 w x S g) (hk : Kept T w w') (hT : ∀ z, T z → w0.heap.size ≤ z) (h2 : ∀ z, x.K z → ¬ T z) : Bk w0 w' x S g :=
  ⟨BkW.keep h.b hk h2, h.k.new hk hT, h.lk⟩
set_option maxRecDepth 100000 in
set_option maxHeartbeats 3200000 in
theorem book_any (w : World) (blocks spread : Int) (s0 : 0 ≤ spread) (s1 : spread ≤ 60000) :
    Calls Tryz.prog 16 #[.int .i64 blocks, .int .i64 spread] w fun e w' => ∃ x, e = .returned (ptrV x.bk) ∧ Bk w w' x (freshA (24 + pickM blocks (spread + 1))) 1 := by
  obtain ⟨q0, q1⟩ := pickM_lt (x := blocks) (n := spread + 1) (by omega)
  obtain ⟨n, hn⟩ : ∃ n, n = pickM blocks (spread + 1) := ⟨_, rfl⟩
  have hp := fun w => pick_any blocks (spread + 1) (by omega) w
  rw [← hn] at q0 q1 ⊢
  have HP := qh (show ∀ w, _ from fun w => by have := hp w; rw [← hn] at this; exact this)
  have e1 : wrap64 (spread + 1) = spread + 1 := by unfold wrap64; omega
  have e2 : wrap64 (24 + n) = 24 + n := by unfold wrap64; omega
  obtain ⟨D, hfm, hfd⟩ := fmt_is (n := 24 + n) (by omega)
  have HFM := qh hfm
  have HFD := qh hfd
  clear hn hp hfm hfd
  go_enter Tryz.func16, Tryz.ntmps16
  go_wp2_with fail
  refine (HP.out w).mono ?_
  rintro e wx ⟨rfl, rfl⟩
  go_wp2_with fail
  refine (new_ok (24 + n) (by omega) (by omega) w).mono ?_
  rintro e w2 ⟨p, ms, mo, rfl, hD, hk2, lp, lms, lmo⟩
  have HD := qh hD
  have HK2 := qh hk2
  have HLP := qh (⟨lp, lms, lmo⟩ : w.heap.size ≤ p ∧ w.heap.size ≤ ms ∧ w.heap.size ≤ mo)
  clear hD hk2 lp lms lmo
  go_wp2_with fail
  have hfa := format_any HD.out (⟨rfl, rfl, by show 1 ≤ 24 + n; omega⟩ : Calm (newM (24 + n))) (by show 24 ≤ 24 + n; omega)
  rw [HFM.out] at hfa
  refine hfa.mono ?_
  rintro e w4 ⟨rfl, hd4, hk4⟩
  have HD4 := qh hd4
  have HK4 := qh (HK2.out.new hk4 (fun z hz => by have := HLP.out; omega))
  clear hd4 hk4 hfa
  go_wp2_with fail
  have hro := ropen_any HD4.out (n := 24 + n) (frames := 8) HFD.out (by omega) (by omega) (by decide) (by decide)
  unfold ptrV at hro
  refine hro.mono ?_
  rintro e w5 ⟨x, rfl, h1, h2, h3⟩
  have HB := qh (show Bk w w5 x (freshA (24 + n)) 1 from ⟨h1, HK4.out.new h2 (fun z hz => by have := HLP.out; omega), fun z hz => by
    have h4 := HLP.out
    have h5 := HK4.out.size
    rcases h3 z hz with h | h | h | h <;> omega⟩)
  clear h1 h2 h3 hro
  go_wp2_with (refine wl_alloc' rfl 76 rfl (tldC 0 0 0 0) zeroTld ?_)
  intro gt w6 l6 m6 hb6 hk6
  have HB6 := qh (HB.out.keep0 hk6)
  have HNT := qh (show ¬ x.K gt from fun hK => by have := HB.out.b.lt hK; omega)
  have HLT := qh (Nat.le_trans HB.out.k.size l6)
  have HT6 := qh hb6
  clear hb6 hk6 l6 m6
  go_wp2_with (refine wl_store_row rfl 76 _ _ rfl gt (tldC 0 0 0 0) (tldC 0 0 0 0) rfl rfl HT6.out sizeTld rfl (one_tld _ _ _ _) ?_)
  intro w7 hb7 hk7
  have HB7 := qh (HB6.out.keep hk7 (fun z hz => by subst hz; exact HLT.out) (fun z hz e => HNT.out (by rw [← e]; exact hz)))
  clear hb7 hk7 HT6
  go_wp2
  go_ret
  exact ⟨x, rfl, HB7.out⟩
end
end Go.Proofs.YtfgagakepmigbaaGreat
namespace Go.Proofs.YtfgagakepmigbaaGreat
open Go.RowKit
theorem put_ok {S : BkA} (hT : S.inT = true) {p : Int} (h0 : 0 ≤ p) (h1 : p < S.pages) {d : Bytes} (hd : d.length = 512) {k : Nat} (hk : difN (S.now p) d 512 ≤ k) (hs : 97 * (k : Int) ≤ S.slack) :
    S.put p d = (S.aft p d, 0) ∧ S.slack - 97 * (k : Int) ≤ (S.aft p d).slack := by
  have hc := put_cost (S.now p) d hd
  refine ⟨?_, by rw [aft_slack]; omega⟩
  rcases put_cases hT h0 h1 hd with h | h
  · omega
  · exact h.2
structure RelC (S : BkA) (Z : SpM) (c : Int) : Prop where
  r : Rel S Z
  t : S.inT = true
  z : ∀ p, ownS S.pages ≤ p → p < S.pages → S.now p = zeros 512
  s : c ≤ S.slack
section
variable {S : BkA} {Z : SpM} {c : Int}
theorem RelC.low (h : RelC S Z c) {c' : Int} (hc : c' ≤ c) : RelC S Z c' := ⟨h.r, h.t, h.z, by have := h.s; omega⟩
theorem RelC.own (h : RelC S Z c) : 2 ≤ ownS S.pages ∧ ownS S.pages ≤ 17 ∧ ownS S.pages < S.pages := own_is h.r.r.p0 h.r.r.p1
theorem RelC.take (h : RelC S Z (c + 97)) (hc : 0 ≤ c) : ∃ S', S.take = (S', Z.take.2) ∧ RelC S' Z.take.1 c := by
  obtain ⟨⟨m1, m2⟩, m3, m4⟩ := h.r.take h.t
  obtain ⟨o1, o2, o3⟩ := h.own
  by_cases ctk : Z.tk = []
  · have e1 : S.take = (S, 0, 4) := by
      unfold BkA.take
      rw [h.t, if_neg (show ¬ (true = false) by decide), if_pos (h.r.tk0.1 ctk)]
    have e2 : Z.take = (Z, 0, 4) := by
      unfold SpM.take
      rw [h.r.inT, h.t, if_neg (show ¬ (true = false) by decide), if_pos ctk]
    exact ⟨S, by rw [e1, e2], by rw [e2]; exact h.low (by omega)⟩
  · cases hq : Z.freeQ with
    | none =>
      have e1 : S.take = (S, 0, 5) := by
        unfold BkA.take
        rw [h.t, if_neg (show ¬ (true = false) by decide), if_neg (fun e => ctk (h.r.tk0.2 e)), h.r.freeQ ctk, hq]
      have e2 : Z.take = (Z, 0, 5) := by
        unfold SpM.take
        rw [h.r.inT, h.t, if_neg (show ¬ (true = false) by decide), if_neg ctk, hq]
      exact ⟨S, by rw [e1, e2], by rw [e2]; exact h.low (by omega)⟩
    | some q =>
      obtain ⟨q1, q2, q3⟩ := freeQ_some hq
      rw [h.r.pg] at q1
      rcases h.r.r.is with ⟨a, b⟩ | ⟨a, b, c', d, e⟩
      · exact absurd a ctk
      · have hqo : ownS S.pages ≤ q := by
          refine Int.not_lt.1 fun hlt => ?_
          have := e q hlt
          unfold SpM.at at q2
          rw [q2] at this; cases this
        have hm := map_is q1
        have hz := h.z q hqo (by omega)
        have hml : (S.now (mapP q)).length = 512 := h.r.r.len _ (by omega) (by omega)
        obtain ⟨p1, p2⟩ := put_ok (S := S) h.t (p := (q : Int)) (by omega) (by omega) (lenL_zeros 512) (k := 0) (by rw [hz, difN_self]; exact Nat.le_refl 0) (by have := h.s; omega)
        obtain ⟨S1, hS1⟩ : ∃ S1, S1 = S.aft q (zeros 512) := ⟨_, rfl⟩
        have n1 : S1.now (mapP q) = S.now (mapP q) := by rw [hS1, aft_now, if_neg (by omega)]
        have t1 : S1.inT = true := by rw [hS1]; exact h.t
        have g1 : S1.pages = S.pages := by rw [hS1]; rfl
        rw [← hS1] at p1 p2
        obtain ⟨p3, p4⟩ := put_ok (S := S1) t1 (p := mapP q) (by omega) (by rw [g1]; omega) (d := setP (S.now (mapP q)) (q % 4096)) (by rw [setP_len]; exact hml) (k := 1) (by
          rw [n1]
          refine Nat.le_trans (difN_one _ _ _ 512) ?_
          split <;> omega) (by have := h.s; omega)
        have e1 : S.take = (S1.aft (mapP q) (setP (S.now (mapP q)) (q % 4096)), (q : Int), 0) := by
          unfold BkA.take BkA.takeAt thenA
          rw [h.t, if_neg (show ¬ (true = false) by decide), if_neg (fun e => ctk (h.r.tk0.2 e)), h.r.freeQ ctk, hq]
          dsimp only
          rw [p1]
          dsimp only
          rw [if_neg (fun h => h rfl), p3]
          rfl
        have e2 : Z.take = ({ Z with tk := Z.tk.set q true }, (q : Int), 0) := by
          unfold SpM.take
          rw [h.r.inT, h.t, if_neg (show ¬ (true = false) by decide), if_neg ctk, hq]
        rw [e1, e2] at m2
        dsimp only at m2
        refine ⟨_, by rw [e1, e2], ?_⟩
        rw [e2]
        refine ⟨?_, t1, fun p x0 x1 => ?_, ?_⟩
        · rcases m2 with ⟨w, _⟩ | ⟨_, w⟩
          · cases w
          · exact w
        · rw [aft_pages, g1] at x0 x1
          rw [aft_now, if_neg (by omega), hS1, aft_now]
          split
          · rfl
          · exact h.z p x0 x1
        · have := h.s; omega
theorem RelC.give (h : RelC S Z (c + 97)) (hc : 0 ≤ c) (q : Int) : ∃ S', S.give q = (S', (Z.give q).2) ∧ RelC S' (Z.give q).1 c := by
  obtain ⟨m1, m2⟩ := h.r.give h.t q
  obtain ⟨o1, o2, o3⟩ := h.own
  by_cases hc4 : (Z.give q).2 = 0
  · have hz : ∃ d, d.length = 512 ∧ (mapP q.toNat) < ownS S.pages ∧ 1 ≤ mapP q.toNat ∧ S.give q = S.put (mapP q.toNat) d ∧ difN (S.now (mapP q.toNat)) d 512 ≤ 1 := by
      unfold SpM.give at hc4
      rw [h.r.inT, h.t, if_neg (show ¬ (true = false) by decide)] at hc4
      by_cases ctk : Z.tk = []
      · rw [if_pos ctk] at hc4; cases hc4
      · rw [if_neg ctk] at hc4
        by_cases cq : q < ownS Z.pages ∨ Z.pages ≤ q ∨ Z.at q.toNat = false
        · rw [if_pos cq] at hc4; cases hc4
        · rw [h.r.pg] at cq
          have hm := map_is (pages := S.pages) (q := q.toNat) (by omega)
          have hml : (S.now (mapP q.toNat)).length = 512 := h.r.r.len _ (by omega) (by omega)
          refine ⟨clrP (S.now (mapP q.toNat)) (q.toNat % 4096), by rw [clrP_len]; exact hml, hm.2, hm.1, ?_, ?_⟩
          · unfold BkA.give
            have ht : (S.taken q).1 = true := by
              rw [h.r.taken q]
              unfold SpM.taken
              rw [if_neg ctk, h.r.pg, decide_eq_true (by omega)]
              cases hat : Z.at q.toNat
              · exact absurd (.inr (.inr hat)) cq
              · rfl
            rw [h.t, if_neg (show ¬ (true = false) by decide), if_neg (fun e => ctk (h.r.tk0.2 e)), if_neg (by rw [ht]; rintro (x | x); cases x; omega)]
          · refine Nat.le_trans (difN_one _ _ _ 512) ?_
            split <;> omega
    obtain ⟨d, d1, d2, d3, d4, d5⟩ := hz
    obtain ⟨p1, p2⟩ := put_ok (S := S) h.t (p := mapP q.toNat) (by omega) (by omega) d1 d5 (by have := h.s; omega)
    rw [d4, p1] at m2 ⊢
    rw [hc4] at m2 ⊢
    refine ⟨_, rfl, ?_, h.t, fun p x0 x1 => ?_, by have := h.s; omega⟩
    · rcases m2 with ⟨w, _⟩ | ⟨_, w⟩
      · cases w
      · exact w
    · rw [aft_pages] at x0 x1
      rw [aft_now, if_neg (by omega)]; exact h.z p x0 x1
  · have he : S.give q = (S, (Z.give q).2) ∧ (Z.give q).1 = Z := by
      unfold BkA.give
      unfold SpM.give at hc4 ⊢
      rw [h.r.inT, h.t, if_neg (show ¬ (true = false) by decide)] at hc4 ⊢
      rw [if_neg (show ¬ (true = false) by decide)]
      by_cases ctk : Z.tk = []
      · rw [if_pos ctk, if_pos (h.r.tk0.1 ctk)]; exact ⟨rfl, rfl⟩
      · rw [if_neg ctk] at hc4 ⊢
        rw [if_neg (fun e => ctk (h.r.tk0.2 e)), h.r.taken q]
        unfold SpM.taken
        rw [if_neg ctk]
        by_cases cq : q < ownS Z.pages ∨ Z.pages ≤ q ∨ Z.at q.toNat = false
        · rw [if_pos cq]
          refine ⟨if_pos ?_, rfl⟩
          rw [h.r.pg] at cq ⊢
          rcases cq with cq | cq | cq
          · exact .inr cq
          · left; rw [decide_eq_false (by omega)]; rfl
          · left; show (_ && Z.at q.toNat) = false; rw [cq, Bool.and_false]
        · rw [if_neg cq] at hc4
          exact absurd rfl hc4
    refine ⟨S, he.1, ?_⟩
    rw [he.2]
    exact h.low (by omega)
end
end Go.Proofs.YtfgagakepmigbaaGreat
namespace Go.Proofs.YtfgagakepmigbaaGreat
open Go.RowKit
set_option maxRecDepth 100000 in
theorem own_cost : ((List.range 18).all fun o => decide (difN (zeros 512) (ownP o) 512 ≤ 3)) = true := by decide +kernel
set_option maxRecDepth 100000 in
theorem hdr_cost : difN (zeros 512) hdrP 512 ≤ 6 := by decide +kernel
theorem maps_z (own : Nat) : ∀ (n i : Nat) (S : BkA), 2 ≤ i → S.inT = true → ((i + n : Nat) : Int) ≤ S.pages → (∀ p, 0 ≤ p → p < S.pages → (i : Int) ≤ p → S.now p = zeros 512) → 0 ≤ S.slack → (mapsM own n i S).2 = 0 ∧ S.slack ≤ (mapsM own n i S).1.slack
  | 0, _, _, _, _, _, _, _ => ⟨rfl, Int.le_refl _⟩
  | n + 1, i, S, hi, hT, hp, hz, hs => by
    obtain ⟨p1, p2⟩ := put_ok (S := S) hT (p := (i : Int)) (by omega) (by omega) (lenL_zeros 512) (k := 0) (by rw [hz i (by omega) (by omega) (Int.le_refl _), difN_self]; exact Nat.le_refl 0) (by omega)
    unfold mapsM thenA
    rw [if_neg (show ¬ i = 1 by omega), p1]
    dsimp only
    rw [if_neg (fun h => h rfl)]
    have ih := maps_z own n (i + 1) (S.aft i (zeros 512)) (by omega) hT (by rw [aft_pages]; omega) (fun p h0 h1 h2 => by
      rw [aft_pages] at h1
      rw [aft_now, if_neg (by omega)]; exact hz p h0 h1 (by omega)) (by omega)
    exact ⟨ih.1, by omega⟩
section
variable {S : BkA} {Z : SpM} {c : Int}
theorem RelC.format (h : Rel S Z) (hT : S.inT = true) (hz : ∀ p, 0 ≤ p → p < S.pages → S.now p = zeros 512) (hc : 0 ≤ c) (hs : c + 900 ≤ S.slack) : ∃ S', S.format = (S', 0) ∧ RelC S' Z.format.1 c ∧ Puts S S' := by
  obtain ⟨o1, o2, o3⟩ := own_is h.r.p0 h.r.p1
  have hp0 := h.r.p0
  obtain ⟨m1, m2⟩ := h.format hT
  obtain ⟨own, hown⟩ : ∃ own : Nat, ownS S.pages = own := ⟨(ownS S.pages).toNat, by omega⟩
  have hoc : difN (zeros 512) (ownP own) 512 ≤ 3 := of_decide_eq_true (List.all_eq_true.1 own_cost own (List.mem_range.2 (by omega)))
  obtain ⟨n, hn⟩ : ∃ n, own = n + 2 := ⟨own - 2, by omega⟩
  have z0 : Z.format.2 = 0 := by
    unfold SpM.format
    rw [h.inT, hT, if_neg (show ¬ (true = false) by decide), h.pg, if_neg (by omega)]
  have hfo : S.format = thenA (mapsM own (n + 1) 1 S) fun S1 => S1.put 0 hdrP := by
    unfold BkA.format
    rw [hT, if_neg (show ¬ (true = false) by decide), if_neg (by omega), hown, Int.toNat_natCast, show own - 1 = n + 1 by omega]
  obtain ⟨a1, a2⟩ := put_ok (S := S) hT (p := ((1 : Nat) : Int)) (by omega) (by omega) (d := ownP own) (ownP_len own) (k := 3) (by rw [hz _ (by omega) (by omega)]; exact hoc) (by omega)
  obtain ⟨S1, hS1⟩ : ∃ S1, S1 = S.aft ((1 : Nat) : Int) (ownP own) := ⟨_, rfl⟩
  have g1 : S1.pages = S.pages := by rw [hS1]; rfl
  have t1 : S1.inT = true := by rw [hS1]; exact hT
  rw [← hS1] at a1 a2
  have hm1 : mapsM own (n + 1) 1 S = mapsM own n 2 S1 := by
    show thenA (S.put ((1 : Nat) : Int) (if 1 = 1 then ownP own else zeros 512)) (mapsM own n 2) = _
    unfold thenA
    rw [if_pos rfl, a1]
    dsimp only
    rw [if_neg (fun h => h rfl)]
  have hz1 : ∀ p, 0 ≤ p → p < S1.pages → (2 : Int) ≤ p → S1.now p = zeros 512 := fun p h0 h1 h2 => by
    rw [g1] at h1
    rw [hS1, aft_now, if_neg (by omega)]; exact hz p h0 h1
  obtain ⟨b1, b2⟩ := maps_z own n 2 S1 (Nat.le_refl 2) t1 (by rw [g1]; omega) hz1 (by omega)
  obtain ⟨c1, c2⟩ := maps_is own n 2 S1 t1 (by rw [g1]; omega)
  rw [hm1] at hfo
  generalize mapsM own n 2 S1 = X at hfo b1 b2 c1 c2
  obtain ⟨S2, e2⟩ := X
  dsimp only at b1 b2 c1 c2
  subst b1
  have c3 := c2.resolve_left (fun e => by cases e)
  have g2 : S2.pages = S.pages := by rw [c1.pages, g1]
  have t2 : S2.inT = true := c1.inT.trans t1
  have n0 : S2.now 0 = zeros 512 := by
    rw [c3.2 0, if_neg (by omega), hS1, aft_now, if_neg (by decide)]
    exact hz 0 (by omega) (by omega)
  obtain ⟨d1, d2⟩ := put_ok (S := S2) t2 (p := 0) (by omega) (by omega) (d := hdrP) hdrP_len (k := 6) (by rw [n0]; exact hdr_cost) (by omega)
  have e : S.format = (S2.aft 0 hdrP, 0) := by
    rw [hfo]
    unfold thenA
    dsimp only
    rw [if_neg (fun h => h rfl), d1]
  rw [e] at m1 m2 ⊢
  dsimp only at m1 m2
  refine ⟨_, rfl, ⟨?_, t2, fun p x0 x1 => ?_, by omega⟩, m1⟩
  · rcases m2 with ⟨w, _⟩ | ⟨_, w⟩
    · cases w
    · exact w
  · rw [aft_pages, g2] at x0 x1
    rw [aft_now, if_neg (by omega), c3.2 p, if_neg (by omega), hS1, aft_now, if_neg (by omega)]
    exact hz p (by omega) (by omega)
end
theorem relc_made {n : Int} (n0 : 24 ≤ n) (n1 : n ≤ 65536) : ∃ S1 S2, (freshA n).begin = (S1, 0) ∧ S1.format = (S2, 0) ∧ S2.pages = n - 2 - n / 2 ∧ RelC S2 (SpM.format ⟨n - 2 - n / 2, true, [], List.replicate 8 0⟩).1 (n / 2 * 204 - 935) := by
  obtain ⟨S1, e1, a1, a2, a3, a4⟩ : ∃ S1, (freshA n).begin = (S1, 0) ∧ (S1.now = fun _ => zeros 512) ∧ S1.n = n ∧ S1.inT = true ∧ n / 2 * 204 - 35 ≤ S1.slack := by
    unfold BkA.begin
    rw [if_neg (by show ¬ false = true; decide)]
    refine ⟨_, rfl, rfl, rfl, rfl, ?_⟩
    unfold BkA.slack
    dsimp only
    rw [show (freshA n).n = n from rfl, show (freshA n).room = n / 2 * 408 - 408 from rfl]
    split <;> omega
  have hr := rel_fresh n0 n1
  have hr1 : Rel S1 ⟨n - 2 - n / 2, true, [], List.replicate 8 0⟩ := ⟨by unfold BkA.pages; rw [a2], a3.symm, by
    have := hr.r
    rw [show S1.now = (freshA n).now from a1, show S1.pages = (freshA n).pages from by unfold BkA.pages; rw [a2]; rfl]
    exact this⟩
  obtain ⟨S2, e2, h2, h3⟩ := RelC.format hr1 a3 (fun p _ _ => by rw [a1]) (show 0 ≤ n / 2 * 204 - 935 by omega) (by omega)
  exact ⟨S1, S2, e1, e2, by rw [h3.pages]; unfold BkA.pages; rw [a2], h2⟩
end Go.Proofs.YtfgagakepmigbaaGreat
namespace Go.Proofs.YtfgagakepmigbaaGreat
open Go.RowKit
def zNew : SpM := (SpM.format ⟨34, true, [], List.replicate 8 0⟩).1
section
variable {w0 w w' : World} {x x' : BAdr} {S S' : BkA} {g g' : Nat}
set_option maxRecDepth 100000 in
theorem formatted_any (w : World) : Calls Tryz.prog 10 #[] w fun e w' => ∃ x S, e = .returned (ptrV x.bk) ∧ Bk w w' x S 22 ∧ S.pages = 34 ∧ RelC S zNew 6409 := by
  obtain ⟨S1, S2, e1, e2, e3, e4⟩ := relc_made (n := 72) (by decide) (by decide)
  have E1 := Lib.hid e1
  have E2 := Lib.hid e2
  have E3 := qh (show S2.pages = 34 from e3)
  have E4 := qh (show RelC S2 zNew 6409 from e4)
  clear e1 e2 e3 e4
  go_enter Tryz.func10, Tryz.ntmps10
  go_wp2_with fail
  refine (book_any w 48 48 (by decide) (by decide)).mono ?_
  rintro e w1 ⟨x, rfl, hb⟩
  have H1 := qh (show Bk w w1 x (freshA 72) 1 from hb)
  clear hb
  unfold ptrV
  go_wp2_with fail
  have hb := abegin_any H1.out.b (by decide)
  rw [E1.out] at hb
  refine hb.mono ?_
  rintro e w2 ⟨rfl, x2, h1, h2⟩
  have H2 := qh (H1.out.to h1 h2)
  have HBK := qh (show x2.bk = x.bk from h1.fix.bk)
  clear h1 h2 hb H1 E1
  go_wp2_with fail
  have hb := sformat_any H2.out.b (by decide)
  unfold ptrV at hb
  rw [HBK.out, E2.out] at hb
  refine hb.mono ?_
  rintro e w3 ⟨rfl, x3, h1, h2⟩
  have H3 := qh (H2.out.to h1 h2)
  have HBK3 := qh (show x3.bk = x.bk from h1.fix.bk.trans HBK.out)
  clear h1 h2 hb H2 E2
  go_wp2
  go_ret
  exact ⟨x3, S2, by rw [HBK3.out]; rfl, H3.out, E3.out, E4.out⟩
set_option maxRecDepth 100000 in
set_option maxHeartbeats 1600000 in
theorem awake14_any (w : World) : Calls Tryz.prog 8 #[] w fun e w' => e = .returned (.bool true) ∧ Kept (fun _ => False) w w' := by
  go_enter Tryz.func8, Tryz.ntmps8
  go_wp2_with fail
  refine (formatted_any w).mono ?_
  rintro e w1 ⟨x, S, rfl, h1, h2, h3⟩
  obtain ⟨S1, a1, a2⟩ := (h3.low (c' := 6312 + 97) (by decide)).take (by decide)
  obtain ⟨S2, b1, b2⟩ := (a2.low (c' := 6215 + 97) (by decide)).take (by decide)
  obtain ⟨S3, c1, c2⟩ := (b2.low (c' := 6118 + 97) (by decide)).give (by decide) 2
  obtain ⟨S4, d1, d2⟩ := (c2.low (c' := 6021 + 97) (by decide)).take (by decide)
  obtain ⟨S5, f1, f2⟩ := (d2.low (c' := 5924 + 97) (by decide)).give (by decide) 0
  obtain ⟨S6, g1, g2⟩ := (f2.low (c' := 5827 + 97) (by decide)).give (by decide) 9
  have A1 := qh (show S.take = (S1, 2, 0) from a1)
  have B1 := qh (show S1.take = (S2, 3, 0) from b1)
  have C1 := qh (show S2.give 2 = (S3, 0) from c1)
  have D1 := qh (show S3.take = (S4, 2, 0) from d1)
  have D2 := qh (show S4.free = (30, 0) from d2.r.free)
  have F1 := qh (show S4.give 0 = (S5, 2) from f1)
  have G1 := qh (show S5.give 9 = (S6, 2) from g1)
  have D3 := qh (show S4.pages = 34 from d2.r.pg.symm)
  have H1 := qh h1
  clear h1 h2 h3 a1 a2 b1 b2 c1 c2 d1 d2 f1 f2 g1 g2
  unfold ptrV
  go_wp2_with fail
  have hb := stake_any H1.out.b (by decide)
  unfold ptrV at hb
  refine hb.mono ?_
  rintro e w2 ⟨rfl, x2, h1, h2⟩
  have H2 := qh (H1.out.to h1 h2)
  have HBK2 := qh (show x2.bk = x.bk from h1.fix.bk)
  clear h1 h2 hb H1
  rw [A1.out] at H2 ⊢
  go_wp2_with fail
  have hb := stake_any H2.out.b (by decide)
  unfold ptrV at hb
  rw [HBK2.out] at hb
  refine hb.mono ?_
  rintro e w3 ⟨rfl, x3, h1, h2⟩
  have H3 := qh (H2.out.to h1 h2)
  have HBK3 := qh (show x3.bk = x.bk from h1.fix.bk.trans HBK2.out)
  clear h1 h2 hb H2
  rw [B1.out] at H3 ⊢
  go_wp2_with fail
  have hb := sgive_any H3.out.b (by decide) 2
  unfold ptrV at hb
  rw [HBK3.out] at hb
  refine hb.mono ?_
  rintro e w4 ⟨rfl, x4, h1, h2⟩
  have H4 := qh (H3.out.to h1 h2)
  have HBK4 := qh (show x4.bk = x.bk from h1.fix.bk.trans HBK3.out)
  clear h1 h2 hb H3
  rw [C1.out] at H4 ⊢
  go_wp2_with fail
  have hb := stake_any H4.out.b (by decide)
  unfold ptrV at hb
  rw [HBK4.out] at hb
  refine hb.mono ?_
  rintro e w5 ⟨rfl, x5, h1, h2⟩
  have H5 := qh (H4.out.to h1 h2)
  have HBK5 := qh (show x5.bk = x.bk from h1.fix.bk.trans HBK4.out)
  clear h1 h2 hb H4
  rw [D1.out] at H5 ⊢
  go_wp2_with fail
  have hb := sfree_any H5.out.b
  unfold ptrV at hb
  rw [HBK5.out] at hb
  refine hb.mono ?_
  rintro e w6 ⟨rfl, x6, h1, h2⟩
  have H6 := qh (H5.out.to h1 h2)
  have HBK6 := qh (show x6.bk = x.bk from h1.fix.bk.trans HBK5.out)
  clear h1 h2 hb H5
  rw [D2.out]
  dsimp only
  go_wp2_with fail
  have hb := apages_any H6.out.b
  unfold ptrV at hb
  rw [HBK6.out] at hb
  rw [D3.out] at hb
  refine hb.mono ?_
  rintro e wx ⟨rfl, rfl⟩
  clear hb
  go_wp2_with fail
  have hb := sgive_any H6.out.b (by decide) 0
  unfold ptrV at hb
  rw [HBK6.out] at hb
  refine hb.mono ?_
  rintro e w7 ⟨rfl, x7, h1, h2⟩
  have H7 := qh (H6.out.to h1 h2)
  have HBK7 := qh (show x7.bk = x.bk from h1.fix.bk.trans HBK6.out)
  clear h1 h2 hb H6
  rw [F1.out] at H7 ⊢
  go_wp2_with fail
  have hb := sgive_any H7.out.b (by decide) 9
  unfold ptrV at hb
  rw [HBK7.out] at hb
  refine hb.mono ?_
  rintro e w8 ⟨rfl, x8, h1, h2⟩
  have H8 := qh (H7.out.to h1 h2)
  have HBK8 := qh (show x8.bk = x.bk from h1.fix.bk.trans HBK7.out)
  clear h1 h2 hb H7
  rw [G1.out] at H8 ⊢
  go_wp2
  go_ret
  exact ⟨rfl, H8.out.k⟩
end
end Go.Proofs.YtfgagakepmigbaaGreat
namespace Go.Proofs.YtfgagakepmigbaaGreat
open Go.RowKit
def zBk : Array Value := #[.pointer none, .pointer none, .pointer none, .bool false, .int .i64 0, .int .i64 0, .slice none 0 0, .int .i64 0, .int .i64 0]
def NoBk (w : World) (A : Option Addr) : Prop := A = none ∨ ∃ g, A = some ⟨g, 0, none⟩ ∧ w.heap[g]? = some (.cells zBk 30 (0, 0))
theorem NoBk.keep {w w' : World} {A : Option Addr} (h : NoBk w A) (hk : Kept (fun _ => False) w w') : NoBk w' A := by
  rcases h with h | ⟨g, h1, h2⟩
  · exact .inl h
  · exact .inr ⟨g, h1, hk.heap h2 id⟩
section
variable {w w' : World} {A : Option Addr}
theorem nb_there (h : NoBk w A) : Calls Tryz.prog 40 #[.pointer A] w fun e w' => e = .returned (.bool false) ∧ w = w' := by
  rcases h with rfl | ⟨g, rfl, hg⟩
  · go_enter Tryz.func40, Tryz.ntmps40
    go_wp2
    go_ret
    exact ⟨rfl, rfl⟩
  · have c0 : w.cell? ⟨g, 0, none⟩ = some (.pointer none) := cell_blk hg rfl
    clear hg
    go_enter Tryz.func40, Tryz.ntmps40
    go_wp2
    go_ret
    exact ⟨rfl, rfl⟩
theorem nb_Pages (h : NoBk w A) : Calls Tryz.prog 29 #[.pointer A] w fun e w' => e = .returned (.int .i64 0) ∧ w = w' := by
  have HT := qh (nb_there h)
  clear h
  go_enter Tryz.func29, Tryz.ntmps29
  go_wp2_with fail
  refine HT.out.mono ?_
  rintro e wx ⟨rfl, rfl⟩
  go_wp2
  go_ret
  exact ⟨rfl, rfl⟩
theorem nb_Page (h : NoBk w A) (n : Int) : Calls Tryz.prog 23 #[.pointer A, .int .i64 n] w fun e w' => e = .returned (.tuple #[.slice none 0 0, .int .i64 1]) ∧ w = w' := by
  have HT := qh (nb_there h)
  clear h
  go_enter Tryz.func23, Tryz.ntmps23
  go_wp2_with fail
  refine HT.out.mono ?_
  rintro e wx ⟨rfl, rfl⟩
  go_wp2
  refine bodyPost_ret (results_tmp2 rfl _ _ _) rfl ?_
  exact ⟨rfl, rfl⟩
end
end Go.Proofs.YtfgagakepmigbaaGreat
namespace Go.Proofs.YtfgagakepmigbaaGreat
open Go.RowKit
section
variable {w w' : World} {A : Option Addr}
theorem ns_state (h : NoBk w A) : Calls Tryz.prog 32 #[.pointer A] w fun e w' => e = .returned (.int .i64 1) ∧ w = w' := by
  have HT := qh (nb_Pages h)
  clear h
  go_enter Tryz.func32, Tryz.ntmps32
  go_wp2_with fail
  refine HT.out.mono ?_
  rintro e wx ⟨rfl, rfl⟩
  go_wp2
  go_ret
  exact ⟨rfl, rfl⟩
theorem ns_head (h : NoBk w A) : Calls Tryz.prog 31 #[.pointer A] w fun e w' => e = .returned (.tuple #[.slice none 0 0, .int .i64 1]) ∧ w = w' := by
  have HT := qh (nb_Page h 0)
  clear h
  go_enter Tryz.func31, Tryz.ntmps31
  go_wp2_with fail
  refine HT.out.mono ?_
  rintro e wx ⟨rfl, rfl⟩
  go_wp2
  go_ret2
  exact ⟨rfl, rfl⟩
theorem ns_Format (h : NoBk w A) : Calls Tryz.prog 17 #[.pointer A] w fun e w' => e = .returned (.int .i64 1) ∧ w = w' := by
  have HT := qh (ns_state h)
  clear h
  go_enter Tryz.func17, Tryz.ntmps17
  go_wp2_with fail
  refine HT.out.mono ?_
  rintro e wx ⟨rfl, rfl⟩
  go_wp2
  go_ret
  exact ⟨rfl, rfl⟩
theorem ns_Free (h : NoBk w A) : Calls Tryz.prog 11 #[.pointer A] w fun e w' => e = .returned (.tuple #[.int .i64 0, .int .i64 1]) ∧ w = w' := by
  have HT := qh (ns_head h)
  clear h
  go_enter Tryz.func11, Tryz.ntmps11
  go_wp2_with fail
  refine HT.out.mono ?_
  rintro e wx ⟨rfl, rfl⟩
  go_wp2
  go_ret2
  exact ⟨rfl, rfl⟩
theorem ns_Taken (h : NoBk w A) (q : Int) : Calls Tryz.prog 30 #[.pointer A, .int .i64 q] w fun e w' => e = .returned (.tuple #[.bool false, .int .i64 1]) ∧ w = w' := by
  have HT := qh (ns_head h)
  clear h
  go_enter Tryz.func30, Tryz.ntmps30
  go_wp2_with fail
  refine HT.out.mono ?_
  rintro e wx ⟨rfl, rfl⟩
  go_wp2
  go_ret2
  exact ⟨rfl, rfl⟩
theorem ns_Root (h : NoBk w A) (q : Int) : Calls Tryz.prog 15 #[.pointer A, .int .i64 q] w fun e w' => e = .returned (.tuple #[.int .i64 0, .int .i64 1]) ∧ w = w' := by
  have HT := qh (nb_Pages h)
  clear h
  go_enter Tryz.func15, Tryz.ntmps15
  go_wp2_with fail
  refine HT.out.mono ?_
  rintro e wx ⟨rfl, rfl⟩
  go_wp2
  go_ret2
  exact ⟨rfl, rfl⟩
theorem ns_SetRoot (h : NoBk w A) (q p : Int) : Calls Tryz.prog 14 #[.pointer A, .int .i64 q, .int .i64 p] w fun e w' => e = .returned (.int .i64 1) ∧ w = w' := by
  have HT := qh (ns_state h)
  clear h
  go_enter Tryz.func14, Tryz.ntmps14
  go_wp2_with fail
  refine HT.out.mono ?_
  rintro e wx ⟨rfl, rfl⟩
  go_wp2
  go_ret
  exact ⟨rfl, rfl⟩
theorem ns_Give (h : NoBk w A) (q : Int) : Calls Tryz.prog 13 #[.pointer A, .int .i64 q] w fun e w' => e = .returned (.int .i64 1) ∧ Kept (fun _ => False) w w' := by
  have HS := qh (fun (w' : World) (hk : Kept (fun _ => False) w w') => ns_state (h.keep hk))
  clear h
  go_enter Tryz.func13, Tryz.ntmps13
  go_wp2_with (refine wl_box rfl 24 _ rfl (.pointer A) rfl ?_)
  intro gb w1 l1 m1 hb1 hk1
  have HB1 := qh (show w1.heap[gb]? = some (.cells #[.pointer A] 24 (0, 0)) from hb1)
  have HK1 := qh hk1
  clear hb1 hk1 l1 m1
  go_wp2_with (refine wl_box rfl 3 _ rfl (.int .i64 q) rfl ?_)
  intro gp w2 l2 m2 hb2 hk2
  have HK2 := qh (HK1.out.trans0 hk2)
  have d0 : w2.cell? ⟨gb, 0, none⟩ = some (.pointer A) := cell_blk (hk2.heap HB1.out id) rfl
  clear hb2 hk2 l2 m2 HB1 HK1
  go_wp2_with fail
  refine (HS.out w2 HK2.out).mono ?_
  rintro e wx ⟨rfl, rfl⟩
  go_wp2
  go_ret
  exact ⟨rfl, HK2.out⟩
set_option maxRecDepth 100000 in
theorem ns_Take (h : NoBk w A) : Calls Tryz.prog 12 #[.pointer A] w fun e w' => e = .returned (.tuple #[.int .i64 0, .int .i64 1]) ∧ Kept (fun _ => False) w w' := by
  have HS := qh (fun (w' : World) (hk : Kept (fun _ => False) w w') => ns_state (h.keep hk))
  obtain ⟨POST, hPOST⟩ : ∃ POST : Ending → World → Prop, POST = fun e w' => e = .returned (.tuple #[.int .i64 0, .int .i64 1]) ∧ Kept (fun _ => False) w w' := ⟨_, rfl⟩
  rw [← hPOST]
  have HPO := qh (show ∀ w', Kept (fun _ => False) w w' → POST (.returned (.tuple #[.int .i64 0, .int .i64 1])) w' from fun w' hk => by rw [hPOST]; exact ⟨rfl, hk⟩)
  clear h hPOST
  go_enter Tryz.func12, Tryz.ntmps12
  go_wp2_with (refine wl_box rfl 24 _ rfl (.pointer A) rfl ?_)
  intro gb w1 l1 m1 hb1 hk1
  have d0 : w1.cell? ⟨gb, 0, none⟩ = some (.pointer A) := cell_blk hb1 rfl
  have HK1 := qh hk1
  clear hb1 hk1 l1 m1
  go_wp2_with fail
  go_step3
  go_wp2_with fail
  refine (HS.out w1 HK1.out).mono ?_
  rintro e wx ⟨rfl, rfl⟩
  go_wp2
  exact HPO.out _ HK1.out
set_option maxRecDepth 100000 in
set_option maxHeartbeats 1600000 in
theorem none14_any (h : NoBk w A) (q : Int) : Calls Tryz.prog 9 #[.pointer A, .int .i64 q] w fun e w' => e = .returned (.bool true) ∧ Kept (fun _ => False) w w' := by
  have HN := qh (fun (w' : World) (hk : Kept (fun _ => False) w w') => h.keep hk)
  clear h
  go_enter Tryz.func9, Tryz.ntmps9
  go_wp2_with fail
  refine (ns_Take (HN.out w (.refl _ _))).mono ?_
  rintro e w1 ⟨rfl, hk1⟩
  have HK1 := qh hk1
  clear hk1
  go_wp2_with fail
  refine (ns_Free (HN.out w1 HK1.out)).mono ?_
  rintro e wx ⟨rfl, rfl⟩
  go_wp2_with fail
  refine (ns_Taken (HN.out w1 HK1.out) q).mono ?_
  rintro e wx ⟨rfl, rfl⟩
  go_wp2_with fail
  refine (ns_Root (HN.out w1 HK1.out) 0).mono ?_
  rintro e wx ⟨rfl, rfl⟩
  go_wp2_with fail
  refine (ns_Format (HN.out w1 HK1.out)).mono ?_
  rintro e wx ⟨rfl, rfl⟩
  go_wp2_with fail
  refine (ns_Give (HN.out w1 HK1.out) q).mono ?_
  rintro e w2 ⟨rfl, hk2⟩
  have HK2 := qh (HK1.out.trans0 hk2)
  clear hk2
  go_wp2_with fail
  refine (ns_SetRoot (HN.out w2 HK2.out) 0 q).mono ?_
  rintro e wx ⟨rfl, rfl⟩
  go_wp2
  go_ret
  exact ⟨rfl, HK2.out⟩
end
end Go.Proofs.YtfgagakepmigbaaGreat
namespace Go.Proofs.YtfgagakepmigbaaGreat.spaceNil
open Go.ChangeShapes Go.WideShapes Go.ChangeAt Go.RowKit
theorem bBk0 (wz : World) : (Instr.build 30 #[]).run Tryz.prog wz = .ok (.agg zBk) wz := run_build wz _ _ _ (by kernel_rfl)
set_option maxRecDepth 100000 in
theorem spaceNil_any (w : World) (q : Int) : Calls Tryz.prog 3 #[.int .i64 q] w fun e w' => e = .returned (.bool true) ∧ Kept (fun _ => False) w w' := by
  have B0 := bBk0
  go_enter Tryz.func3, Tryz.ntmps3
  go_wp2_with fail
  refine (awake14_any w).mono ?_
  rintro e w1 ⟨rfl, hk1⟩
  have HK1 := qh hk1
  clear hk1
  go_wp2_with fail
  refine (none14_any (A := none) (.inl rfl) q).mono ?_
  rintro e w2 ⟨rfl, hk2⟩
  have HK2 := qh (HK1.out.trans0 hk2)
  clear hk2
  go_wp2_with fail
  have hk3 : Kept (fun _ => False) w2 (w2.alloc (.cells zBk 30)) := (Kept.refl _ w2).alloc _
  refine (none14_any (w := w2.alloc (.cells zBk 30)) (A := some ⟨w2.heap.size, 0, none⟩) (.inr ⟨w2.heap.size, rfl, heap_alloc_new w2 _⟩) q).mono ?_
  rintro e w4 ⟨rfl, hk4⟩
  have HK4 := qh ((HK2.out.trans0 hk3).trans0 hk4)
  clear hk3 hk4
  go_wp2
  go_ret
  exact ⟨rfl, HK4.out⟩
theorem own : ownKnob (Tryz.prog).godebug = none := by kernel_rfl
theorem laidOut : laidOutB Tryz.prog = true := by kernel_rfl
set_option maxRecDepth 100000 in
theorem lifted (os : Os) (started : os.Started) (H : Type) (enc : TypeId × Value → H) :
    ReturnsInHanded {} Tryz.checked os 3 .any (Rows.spaceNilSpec.pre6 enc Tryz.prog Tryz.f3 Rows.spaceNilRow.domain false) (Rows.spaceNilSpec.post enc Tryz.prog Tryz.f3 false true false false) := by
  refine returnsInHanded_of_change (C := Tryz.checked) own started (by kernel_rfl) Tryz.func3
    (ChangeSpec.witness6 (enc := enc) (C := Tryz.checked) false ⟨#[], #[.int .i64 0], []⟩ 8 (by kernel_rfl) (by kernel_rfl) (by kernel_rfl) (by kernel_rfl)) ?_
  intro W base args ds gs before hval0 hW hcnd _
  have hW' := hW
  obtain ⟨p, q, hA0, hV, rfl, hfz, hnd⟩ := hW
  have hA : DataW.TrodAll enc Tryz.prog W 0 (fun _ => true) true Tryz.f3.params.toList args.toList ds p := hA0
  have hval : ∀ (j : Nat) t v, Tryz.f3.params[j]? = some t → args[j]? = some v → Value.okWide Tryz.prog W .any base t v := hval0
  rw [Tryz.params3] at hA hval
  obtain ⟨v0, vs0, d0, ds0, p0, q0, hargs, rfl, rfl, h0, r0⟩ := trodAll_cons hA
  obtain ⟨rfl, rfl, rfl⟩ := trodAll_nil r0
  obtain rfl : args = #[v0] := by cases args; simp_all
  obtain ⟨rfl, rfl⟩ := trodVars_none hV
  have k0 := h0
  have lt0 : ∀ x ∈ p0, x.block < W.heap.size := by obtain ⟨m, hm⟩ := k0; exact DataW.trod_lt m _ _ _ hm
  obtain ⟨n0, rfl⟩ := okWide_int Tryz.underlying3 (hval 0 3 v0 rfl rfl)
  clear hA0 hval0
  refine (spaceNil_any W n0).mono fun e W' ⟨he, hk⟩ => ?_
  have bel : Below W.heap.size W W' := hk.below (Nat.le_refl _) (fun _ _ h => h)
  subst he
  exact ⟨_, rfl, _, _, _, [], _, [], hW', trodAll_mk1 (shut_bool Tryz.underlying4 _), (trodAll_cons_mk (Below.trod laidOut (by kernel_rfl) (of_decide_eq_true (by kernel_rfl)) k0 bel lt0) trodAll_mk0), rfl, bel.frame _, fun h => by cases h⟩
theorem over : Rows.spaceNilRow.holds Tryz.pinned (OpenSpec.ofChange Rows.spaceNilSpec) :=
  OpenClaim.holds_of_wide 3 Tryz.f3 rfl rfl rfl rfl rfl rfl rfl ⟨rfl, rfl, rfl, rfl, rfl⟩ rfl rfl rfl rfl rfl (by kernel_rfl) Tryz.func3 (by kernel_rfl)
    (of_decide_eq_true (by kernel_rfl)) (by unfold Func.isWrapper; first | (rw [if_pos (by decide +kernel)]; kernel_rfl) | (rw [if_neg (by decide +kernel)]; exact ⟨rfl, rfl⟩))
    (fun os started H enc _ => lifted os started H enc)
theorem proved : Rows.SpaceNilSaid := over
#print axioms proved
end Go.Proofs.YtfgagakepmigbaaGreat.spaceNil
