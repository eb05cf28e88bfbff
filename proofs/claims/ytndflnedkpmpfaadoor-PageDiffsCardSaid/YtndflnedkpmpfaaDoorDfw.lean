/-
  No statement is proved here: PageDiffs's walk.
-/
import Derived.Test.YtndflnedkpmpfaaDoorDif
import Derived.Test.YtndflnedkpmpfaaDoorSpd
import Derived.Test.YtndflnedkpmpfaaDoorPtu
namespace Go.Proofs.YtndflnedkpmpfaaDoor
open Go.RowKit

theorem lent_takeD (l : Bytes) (n : Nat) : (lentL l n).take l.length = l := by
  unfold lentL
  rw [List.take_append_of_le_length (Nat.le_refl _), List.take_length]
def two {α : Type} (x y : α) (k : Nat) : α := if k = 0 then x else y
theorem gsOf_len (L : List SpD) : (gsOf L).length = 2 * L.length := by
  unfold gsOf
  induction L with
  | nil => rfl
  | cons s L ih => rw [List.flatMap_cons, List.length_append, ih, List.length_cons]; simp; omega
theorem spBs_len (L : List SpD) : (L.flatMap spB).length = 2 * L.length := by
  induction L with
  | nil => rfl
  | cons s L ih => rw [List.flatMap_cons, List.length_append, ih, List.length_cons]; simp [spB]; omega
set_option maxRecDepth 100000 in
set_option maxHeartbeats 1000000 in
/-- ApartSpans, of two answers. -/
theorem apartTwo (w : World) (B0 M gt ct : Nat) (a b : Bytes) (G0 G1 : Option Addr) (c0 c1 : Nat) (L0 L1 : List SpD) (t0 : w.cell? ⟨gt, 0, none⟩ = some (.slice G0 L0.length c0)) (t1 : w.cell? ⟨gt, 1, none⟩ = some (.slice G1 L1.length c1))
    (r0 : OwnSp w B0 (.slice G0 L0.length c0) L0) (r1 : OwnSp w M (.slice G1 L1.length c1) L1) (s0 : SegsAt w B0 a b L0) (s1 : SegsAt w M a b L1) (m0 : L0.map (fun s => (s.f, s.t)) = dM a b) (m1 : L1.map (fun s => (s.f, s.t)) = dM a b)
    (hM : ∀ x ∈ gsOf L0, x < M) (hMg : ∀ x, ob G0 = some x → x < M) (hBM : B0 ≤ M) (n0 : GsN L0) (n1 : GsN L1) (ha : a.length ≤ 1000000) (hb : b.length ≤ 1000000) (hB : B0 ≤ w.heap.size) :
    Calls Tryd.prog 18 #[.slice (some ⟨gt, 0, none⟩) 2 ct] w fun e w' => e = .returned (.bool true) ∧ Kept (fun x => B0 ≤ x) w w' := by
  have l0 : L0.length ≤ 57 := by have := congrArg List.length m0; rw [List.length_map] at this; rw [this]; exact dM_len a b
  have l1 : L1.length ≤ 57 := by have := congrArg List.length m1; rw [List.length_map] at this; rw [this]; exact dM_len a b
  have two_le : ∀ k, k < 2 → k = 0 ∨ k = 1 := fun k hk => by omega
  have g1 : ∀ x, ob G1 = some x → M ≤ x := fun x hx => by
    unfold OwnSp at r1
    exact (row_blk r1 (by rw [ownBlock_slice]; exact hx)).1
  refine apartSpans_any w B0 gt ct a b 2 (two G0 G1) (two L0.length L1.length) (two c0 c1) (two L0 L1) ?_ ?_ ?_ ?_ ?_ ha hb ?_ ?_ ?_ (by decide) hB ?_ ?_
  · intro k hk
    rcases two_le k hk with rfl | rfl
    · exact t0
    · exact t1
  · intro k hk
    rcases two_le k hk with rfl | rfl
    · exact r0
    · exact r1.low hBM
  · intro k hk
    rcases two_le k hk with rfl | rfl <;> rfl
  · intro k hk
    rcases two_le k hk with rfl | rfl
    · exact s0
    · exact s1.low hBM
  · intro k hk
    rcases two_le k hk with rfl | rfl
    · exact dM_segs m0
    · exact dM_segs m1
  · intro i j x hi hj h1 h2
    rcases two_le i hi with rfl | rfl <;> rcases two_le j hj with rfl | rfl
    · rfl
    · have := hMg x h1
      have := g1 x h2
      omega
    · have := hMg x h2
      have := g1 x h1
      omega
    · rfl
  · show (gsOf L0 ++ (gsOf L1 ++ [])).Nodup
    rw [List.append_nil]
    refine List.nodup_append.2 ⟨n0, n1, fun x hx y hy => ?_⟩
    have := hM x hx
    have := (s1.lt y hy).1
    omega
  · show (gsOf L0 ++ (gsOf L1 ++ [])).length ≤ 1000
    rw [List.append_nil, List.length_append, gsOf_len, gsOf_len]
    omega
  · intro k hk
    rcases two_le k hk with rfl | rfl
    · show L0.length ≤ 1000; omega
    · show L1.length ≤ 1000; omega
  · intro k hk
    have h3 : k = 0 ∨ k = 1 ∨ k = 2 := by omega
    rcases h3 with rfl | rfl | rfl
    · show 0 ≤ 100000; omega
    · show (L0.flatMap spB ++ []).length ≤ 100000
      rw [List.append_nil, spBs_len]; omega
    · show (L0.flatMap spB ++ (L1.flatMap spB ++ [])).length ≤ 100000
      rw [List.append_nil, List.length_append, spBs_len, spBs_len]; omega
set_option maxRecDepth 100000 in
set_option maxHeartbeats 4000000 in
theorem pageDiffs_any (A B : Option Addr) (ac bc : Nat) (a b : Bytes) (w : World) (ha : RdB w A a) (hb : RdB w B b) (hac : a.length ≤ ac) (hac2 : ac ≤ 9223372036854775807) (hbc : b.length ≤ bc) (hbc2 : bc ≤ 9223372036854775807) :
    Calls Tryd.prog 4 #[.slice A a.length ac, .slice B b.length bc] w fun e w' => e = .returned (.bool true) ∧ Kept (fun _ => False) w w' := by
  have HA := Lib.hid ha
  have HB := Lib.hid hb
  clear ha hb
  by_cases hl : 5000 < a.length
  · have i1 : (5000 : Int) < (a.length : Int) := by omega
    have HW := Lib.hid (awake_any w)
    go_enter Tryd.func4, Tryd.ntmps4
    go_wp2_with (go_at_call 8; refine HW.out.mono ?_; rintro e w1 ⟨rfl, hk⟩)
    go_ret
    exact ⟨rfl, hk⟩
  · have i1 : ¬ (5000 : Int) < (a.length : Int) := by omega
    by_cases hl2 : 5000 < b.length
    · have i2 : (5000 : Int) < (b.length : Int) := by omega
      have HW := Lib.hid (awake_any w)
      go_enter Tryd.func4, Tryd.ntmps4
      go_wp2_with (go_at_call 8; refine HW.out.mono ?_; rintro e w1 ⟨rfl, hk⟩)
      go_ret
      exact ⟨rfl, hk⟩
    · have i2 : ¬ (5000 : Int) < (b.length : Int) := by omega
      have HX := Lib.hid (lentB_any A ac a w HA.out (by omega))
      go_enter Tryd.func4, Tryd.ntmps4
      go_wp2_with fail
      refine HX.out.mono ?_
      rintro e w1 ⟨gx, cx, rfl, hox, hk1⟩
      have X1 := Lib.hid hox
      have bx1 := hox.ltg
      have K1 := Lib.hid hk1
      have HY := Lib.hid (lentB_any B bc b w1 (HB.out.kept hk1 (fun _ _ _ _ => id)) (by omega))
      have z1 := hk1.size
      clear hox hk1 HX
      go_wp2_with fail
      refine HY.out.mono ?_
      rintro e w2 ⟨gy, cy, rfl, hoy, hk2⟩
      have X2 := Lib.hid (X1.out.kept hk2)
      have Y2 := Lib.hid hoy
      have K2 := Lib.hid (K1.out.trans0 hk2)
      have z2 := hk2.size
      have bx := X2.out.ltg
      have bY := hoy.ltg
      have rx : RdB w2 (some ⟨gx, 0, none⟩) a := by have := X2.out.rdp.take a.length; rwa [lent_takeD] at this
      have ry : RdB w2 (some ⟨gy, 0, none⟩) b := by have := hoy.rdp.take b.length; rwa [lent_takeD] at this
      have capx : a.length ≤ cx ∧ cx ≤ 9223372036854775807 := by
        obtain ⟨cur, -, -, h1, h2, -⟩ := X2.out.form
        rw [len_lentL] at h1
        exact ⟨by omega, h2⟩
      have capy : b.length ≤ cy ∧ cy ≤ 9223372036854775807 := by
        obtain ⟨cur, -, -, h1, h2, -⟩ := hoy.form
        rw [len_lentL] at h1
        exact ⟨by omega, h2⟩
      have HD := Lib.hid (fun wz (hz : Kept (fun _ => False) w2 wz) => diff_all (some ⟨gx, 0, none⟩) (some ⟨gy, 0, none⟩) cx cy a b wz (rx.kept hz (fun _ _ _ _ => id)) (ry.kept hz (fun _ _ _ _ => id)) capx.1 capx.2 capy.1 capy.2)
      clear hoy hk2 HY rx ry capx capy X1 K1
      go_wp2_with fail
      refine (HD.out w2 (Kept.refl _ _)).mono ?_
      rintro e w3 ⟨v0, L0, rfl, ho0, hs0, hm0, hn0, hk3⟩
      obtain ⟨G0, c0, rfl, -⟩ := ho0.view
      have O0 := Lib.hid ho0
      have S0 := Lib.hid hs0
      have M0 := Lib.hid hm0
      have N0 := Lib.hid hn0
      have J3 := Lib.hid hk3
      have z3 := hk3.size
      have HB0 := Lib.hid (show (∀ x ∈ gsOf L0, x < w3.heap.size) ∧ ∀ x, ob G0 = some x → x < w3.heap.size from ⟨fun x hx => (hs0.lt x hx).2, fun x hx => by
        unfold OwnSp at ho0
        exact (row_blk ho0 (by rw [ownBlock_slice]; exact hx)).2.1⟩)
      clear ho0 hs0 hm0 hn0 hk3
      go_wp2_with fail
      refine (HD.out w3 J3.out).mono ?_
      rintro e w4 ⟨v1, L1, rfl, ho1, hs1, hm1, hn1, hk4⟩
      obtain ⟨G1, c1, rfl, -⟩ := ho1.view
      have J4 := Lib.hid (J3.out.trans0 hk4)
      have O04 := Lib.hid (O0.out.kept hk4 (fun _ h => h.elim))
      have S04 := Lib.hid (S0.out.keep hk4 (fun _ _ _ _ => id))
      have O1 := Lib.hid ho1
      have S1 := Lib.hid hs1
      have M1 := Lib.hid hm1
      have N1 := Lib.hid hn1
      have z4 := hk4.size
      clear ho1 hs1 hm1 hn1 hk4 O0 S0
      go_wp2_with fail
      refine (keptB_any A gx w.heap.size cx ac a w4 (HA.out.kept (K2.out.trans0 J4.out) (fun _ _ _ _ => id)) (X2.out.kept J4.out) (by omega)).mono ?_
      rintro e w5 ⟨rfl, hs⟩
      have F5 := Lib.hid (hs.kept (fun _ => False))
      have J5 := Lib.hid (J4.out.trans0 (hs.kept _))
      clear hs
      go_wp2_with fail
      refine (keptB_any B gy w1.heap.size cy bc b w5 (HB.out.kept (K2.out.trans0 J5.out) (fun _ _ _ _ => id)) (Y2.out.kept J5.out) (by omega)).mono ?_
      rintro e w6 ⟨rfl, hs⟩
      have F6 := Lib.hid (F5.out.trans0 (hs.kept (fun _ => False)))
      have J6 := Lib.hid (J5.out.trans0 (hs.kept _))
      clear hs F5 J5
      go_wp2_with fail
      refine (overB_any gx w.heap.size cx (lentL a 12) w6 a.length (X2.out.kept J6.out) (by rw [len_lentL]) (by omega)).mono ?_
      rintro e w7 ⟨rfl, hk7⟩
      have F7 := Lib.hid ((F6.out.mono (T := fun x => x < w2.heap.size) (fun _ _ e => e.elim)).trans hk7 (fun x _ e => by rw [e]; exact bx.2))
      have G7 := Lib.hid ((J6.out.mono (T := fun x => x = gx) (fun _ _ e => e.elim)).trans' hk7)
      have K7 := Lib.hid ((K2.out.trans0 J6.out).new hk7 (fun x e => by rw [e]; exact bx.1))
      have Y7 := Lib.hid ((Y2.out.kept J6.out).keep hk7 (by omega))
      clear hk7
      go_wp2_with fail
      refine (overB_any gy w1.heap.size cy (lentL b 12) w7 b.length Y7.out (by rw [len_lentL]) (by omega)).mono ?_
      rintro e w8 ⟨rfl, hk8⟩
      have F8 := Lib.hid (F7.out.trans hk8 (fun x _ e => by rw [e]; exact bY.2))
      have K8 := Lib.hid (K7.out.new hk8 (fun x e => by rw [e]; omega))
      have z8 := F8.out.size
      clear hk8 Y7 F7 K7 G7
      have O08 := Lib.hid (O04.out.kept F8.out (fun x h => h))
      have S08 := Lib.hid (S04.out.keep F8.out (fun x _ _ hb h => by have h' : x < w2.heap.size := h; omega))
      have O18 := Lib.hid (O1.out.kept F8.out (fun x h => by have h' : x < w2.heap.size := h; omega))
      have S18 := Lib.hid (S1.out.keep F8.out (fun x _ _ hb h => by have h' : x < w2.heap.size := h; omega))
      clear O04 S04 O1 S1 F6 J6 F8 J4 J3 HD
      go_wp2_with fail
      refine (rdiff_all A B ac bc a b w8 (HA.out.kept K8.out (fun _ _ _ _ => id)) (HB.out.kept K8.out (fun _ _ _ _ => id)) hac hac2 hbc hbc2).mono ?_
      rintro e w9 ⟨v2, L2, rfl, ho2, hs2, hm2, hk9⟩
      have O09 := Lib.hid (O08.out.kept hk9 (fun _ h => h.elim))
      have S09 := Lib.hid (S08.out.keep hk9 (fun _ _ _ _ => id))
      have J9 := Lib.hid hk9
      have K9 := Lib.hid (K8.out.trans0 hk9)
      have HSS := Lib.hid (sameSpans_all a b _ _ L0 L2 _ _ w9 O09.out S09.out ho2 hs2 M0.out hm2)
      have z9 := hk9.size
      clear ho2 hs2 hm2 hk9
      go_wp2_with fail
      refine HSS.out.mono ?_
      rintro e wa ⟨rfl, hka⟩
      have JA := Lib.hid (J9.out.trans0 hka)
      have KA := Lib.hid (K9.out.trans0 hka)
      have za := hka.size
      clear hka HSS
      have hb0 := heap_alloc_new wa (.cells #[.slice G0 L0.length c0, .slice G1 L1.length c1] 31)
      have ka : Kept (fun _ => False) wa (wa.alloc (.cells #[.slice G0 L0.length c0, .slice G1 L1.length c1] 31)) := (Kept.refl _ _).alloc _
      have KB := Lib.hid (KA.out.trans0 ka)
      have JB := Lib.hid (JA.out.trans0 ka)
      have HAP := Lib.hid (apartTwo (wa.alloc (.cells #[.slice G0 L0.length c0, .slice G1 L1.length c1] 31)) w2.heap.size w3.heap.size wa.heap.size 2 a b G0 G1 c0 c1 L0 L1 (cell_blk hb0 (i := 0) rfl) (cell_blk hb0 (i := 1) rfl)
        (O08.out.kept JB.out (fun _ h => h.elim)) (O18.out.kept JB.out (fun _ h => h.elim)) (S08.out.keep JB.out (fun _ _ _ _ => id)) (S18.out.keep JB.out (fun _ _ _ _ => id)) M0.out M1.out HB0.out.1 HB0.out.2 z3 N0.out N1.out (by omega) (by omega) (by have := ka.size; omega))
      clear hb0 ka
      go_wp2_with fail
      refine HAP.out.mono ?_
      rintro e wc ⟨rfl, hkc⟩
      have KC := Lib.hid (KB.out.new hkc (fun x e => by omega))
      clear hkc
      go_wp2_with fail
      refine (awake_any wc).mono ?_
      rintro e wd ⟨rfl, hkd⟩
      have KD := Lib.hid (KC.out.trans0 hkd)
      clear hkd
      go_wp2
      go_ret
      exact ⟨rfl, KD.out⟩
end Go.Proofs.YtndflnedkpmpfaaDoor
