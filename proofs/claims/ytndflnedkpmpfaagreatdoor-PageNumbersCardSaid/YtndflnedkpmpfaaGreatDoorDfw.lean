/-
  No statement is proved here: the contract of the kit's SameSpans, of two rows of the spans by which a and b differ.
  No statement is proved here: Diff and the document's Diff, of any two rows of bytes.
  No statement is proved here: PageDiffs's walk.
-/
import Derived.Test.YtndflnedkpmpfaaGreatDoorSms
import Derived.Test.YtndflnedkpmpfaaGreatDoorPtu
import Derived.Test.YtndflnedkpmpfaaGreatDoorSpl
import Derived.Test.YtndflnedkpmpfaaGreatDoorSpd
namespace Go.Proofs.YtndflnedkpmpfaaGreatDoor
open Go.RowKit

set_option maxRecDepth 100000 in
set_option maxHeartbeats 2000000 in
theorem sameSpans_any (a b : Bytes) (v1 v2 : Value) (L1 L2 : List SpD) (B1 B2 : Nat) (w : World) (h1 : OwnSp w B1 v1 L1) (s1 : SegsAt w B1 a b L1) (h2 : OwnSp w B2 v2 L2) (s2 : SegsAt w B2 a b L2) (la : a.length = 512) (lb : b.length = 512)
    (m1 : L1.map (fun s => (s.f, s.t)) = diffM a b) (m2 : L2.map (fun s => (s.f, s.t)) = diffM a b) :
    Calls Tryz.prog 31 #[v1, v2] w fun e w' => e = .returned (.bool true) ∧ Kept (fun _ => False) w w' := by
  obtain ⟨G1, cap1, rfl, V1⟩ := h1.view
  obtain ⟨G2, cap2, rfl, V2⟩ := h2.view
  have hle : L1.length = L2.length := by
    have h := congrArg List.length (m1.trans m2.symm)
    rwa [List.length_map, List.length_map] at h
  obtain ⟨N, hN⟩ : ∃ N, L1.length = N := ⟨_, rfl⟩
  have hNb : N ≤ 513 := by
    have h := congrArg List.length m1
    rw [List.length_map, hN] at h
    have h2 := stD_len a b 512
    unfold diffM putD at h
    split at h
    · simp at h; omega
    · omega
  have HN := Lib.hid hN
  have HN2 := Lib.hid (show L2.length = N from hle.symm.trans hN)
  have HLA := Lib.hid la
  have HLB := Lib.hid lb
  have HM1 := Lib.hid m1
  have HM2 := Lib.hid m2
  have HV1 := Lib.hid V1
  have HV2 := Lib.hid V2
  have HS1 := Lib.hid s1
  have HS2 := Lib.hid s2
  clear h1 h2 s1 s2 la lb m1 m2 V1 V2
  rw [← hle, hN]
  clear hN hle
  go_enter Tryz.func31, Tryz.ntmps31
  go_wp2
  go_loopw [5] (fun v wr => ∃ k : Nat, k ≤ N ∧ v = .int .i64 k ∧ Kept (fun _ => False) w wr) (fun v _ => N - (intOf v).toNat)
  case atStart => exact ⟨0, by omega, rfl, Kept.refl _ _⟩
  case round =>
    obtain ⟨k, hk, rfl, hkr⟩ := hrel
    have K := Lib.hid hkr
    clear hkr
    by_cases hlt : k < N
    · have HLT := Lib.hid hlt
      have i0 : (0 : Int) ≤ (k : Int) := by omega
      have i1 : (k : Int) < (N : Int) := by omega
      obtain ⟨x, hx⟩ : ∃ x, L1[k]? = some x := ⟨_, List.getElem?_eq_getElem (by rw [HN.out]; exact hlt)⟩
      obtain ⟨y, hy⟩ : ∃ y, L2[k]? = some y := ⟨_, List.getElem?_eq_getElem (by rw [HN2.out]; exact hlt)⟩
      have e1 : (diffM a b)[k]? = some (x.f, x.t) := by rw [← HM1.out, List.getElem?_map, hx]; rfl
      have e2 : (diffM a b)[k]? = some (y.f, y.t) := by rw [← HM2.out, List.getElem?_map, hy]; rfl
      have exy : (x.f, x.t) = (y.f, y.t) := Option.some.inj (e1.symm.trans e2)
      have hgo := (diffM_good a b).ok _ (List.mem_of_getElem? e1)
      obtain ⟨p1, p2⟩ := HS1.out x (List.mem_of_getElem? hx)
      obtain ⟨p3, p4⟩ := HS2.out y (List.mem_of_getElem? hy)
      obtain ⟨ga, rfl, hga, ca⟩ := HV1.out k x hx
      obtain ⟨gb, rfl, hgb, cb⟩ := HV2.out k y hy
      obtain ⟨f, t, g1, c1, g2, c2⟩ := x
      obtain ⟨f', t', g3, c3, g4, c4⟩ := y
      simp only [Prod.mk.injEq] at exy
      obtain ⟨rfl, rfl⟩ := exy
      have ht : t ≤ 512 := hgo.2.1
      have l1 : (segB a (f, t)).length = t - f := segB_len (s := (f, t)) (by rw [HLA.out]; exact ht)
      have l2 : (segB b (f, t)).length = t - f := segB_len (s := (f, t)) (by rw [HLB.out]; exact ht)
      have hcall := fun (wz : World) (hz : Kept (fun _ => False) w wz) => sameSpan_any 0 f (some ⟨g1, 0, none⟩) (some ⟨g2, 0, none⟩) (some ⟨g3, 0, none⟩) (some ⟨g4, 0, none⟩) c1 c2 c3 c4 (segB a (f, t)) (segB b (f, t)) wz (p1.kept hz).rdp (p3.kept hz).rdp (p2.kept hz).rdp (p4.kept hz).rdp (by omega) (by omega)
      rw [l1, l2] at hcall
      have HC := Lib.hid hcall
      have QA := Lib.hid (show ∀ j u, #[Value.int .i64 0, .int .i64 f, .slice (some ⟨g1, 0, none⟩) (t - f) c1, .slice (some ⟨g2, 0, none⟩) (t - f) c2][j]? = some u → (wr.drew).cell? ⟨ga, k * 4 + j, none⟩ = some u from fun j u hu => (World.cell?_of_block ((K.out.drew).block _ hga id)).trans (ca j u (by simpa [spVals] using hu)))
      have QB := Lib.hid (show ∀ j u, #[Value.int .i64 0, .int .i64 f, .slice (some ⟨g3, 0, none⟩) (t - f) c3, .slice (some ⟨g4, 0, none⟩) (t - f) c4][j]? = some u → (wr.drew).cell? ⟨gb, k * 4 + j, none⟩ = some u from fun j u hu => (World.cell?_of_block ((K.out.drew).block _ hgb id)).trans (cb j u (by simpa [spVals] using hu)))
      clear hcall p1 p2 p3 p4 ca cb l1 l2 e1 e2 hgo hx hy
      go_wp2
      refine wp_region_still_tail 8 (by kernel_rfl) (by kernel_rfl) ?_
      simp only [List.take_succ_cons, List.take_zero, List.drop_succ_cons, List.drop_zero]
      iterate 3 still_step
      refine ws_load_mid rfl 46 _ rfl ga (k * 4) rfl _ QA.out Tryz.underlying46 rfl (by kernel_rfl) ?_
      iterate 3 still_step
      refine ws_load_mid rfl 46 _ rfl gb (k * 4) rfl _ QB.out Tryz.underlying46 rfl (by kernel_rfl) ?_
      refine wpStill_nil ?_
      have KD := Lib.hid (K.out.drew)
      go_frame
      go_wp2_with fail
      refine (HC.out _ KD.out).mono ?_
      rintro e w5 ⟨rfl, hk5⟩
      have K5 := Lib.hid (KD.out.trans0 hk5)
      clear hk5
      go_frame
      go_wp2
      go_roundw
      case rel => exact ⟨k + 1, HLT.out, by go_num, K5.out⟩
      case measure =>
        have := HLT.out
        simp [intOf]; omega
    · have hge : ¬ (k : Int) < (N : Int) := by omega
      go_wp2
      go_ret
      exact ⟨rfl, K.out⟩
end Go.Proofs.YtndflnedkpmpfaaGreatDoor
namespace Go.Proofs.YtndflnedkpmpfaaGreatDoor
open Go.RowKit

def dM (a b : Bytes) : Sp := if a.length = 512 ∧ b.length = 512 then diffM a b else []
theorem dM_ok (a b : Bytes) : ∀ s ∈ dM a b, s.1 < s.2 ∧ s.2 ≤ a.length ∧ s.2 ≤ b.length := by
  intro s hs
  unfold dM at hs
  split at hs
  · rename_i h
    have := (diffM_good a b).ok s hs
    exact ⟨this.1, by rw [h.1]; exact this.2.1, by rw [h.2]; exact this.2.1⟩
  · cases hs
theorem dM_len (a b : Bytes) : (dM a b).length ≤ 57 := by
  unfold dM
  split
  · exact diffM_len a b
  · simp
theorem dM_segs {a b : Bytes} {L : List SpD} (h : L.map (fun s => (s.f, s.t)) = dM a b) : ∀ s ∈ L, (segB a (s.f, s.t)).length = s.t - s.f ∧ (segB b (s.f, s.t)).length = s.t - s.f := by
  intro s hs
  have hm : (s.f, s.t) ∈ dM a b := by rw [← h]; exact List.mem_map.2 ⟨s, hs, rfl⟩
  obtain ⟨h1, h2, h3⟩ := dM_ok a b _ hm
  exact ⟨segB_len (s := (s.f, s.t)) h2, segB_len (s := (s.f, s.t)) h3⟩
theorem OwnSp.none (w : World) (B : Nat) : OwnSp w B (.slice none 0 0) [] := ⟨rfl, .inl ⟨rfl, rfl⟩⟩
theorem diff_all (A B : Option Addr) (ac bc : Nat) (a b : Bytes) (w : World) (ha : RdB w A a) (hb : RdB w B b) (hac : a.length ≤ ac) (hac2 : ac ≤ 9223372036854775807) (hbc : b.length ≤ bc) (hbc2 : bc ≤ 9223372036854775807) :
    Calls Tryz.prog 13 #[.slice A a.length ac, .slice B b.length bc] w fun e w' => ∃ v L, e = .returned v ∧ OwnSp w' w.heap.size v L ∧ SegsAt w' w.heap.size a b L ∧ L.map (fun s => (s.f, s.t)) = dM a b ∧ GsN L ∧ Kept (fun _ => False) w w' := by
  by_cases h : a.length = 512 ∧ b.length = 512
  · have e : dM a b = diffM a b := by unfold dM; rw [if_pos h]
    obtain ⟨la, lb⟩ := h
    rw [e, la, lb]
    exact diff_anyN A B ac bc a b w ha hb la lb (by omega) hac2 (by omega) hbc2
  · have e : dM a b = [] := by unfold dM; rw [if_neg h]
    refine (diff_none A B a.length b.length ac bc w h).mono ?_
    rintro _ w' ⟨rfl, hk⟩
    exact ⟨_, [], rfl, OwnSp.none _ _, (fun _ hs => by cases hs), e.symm, List.nodup_nil, hk⟩
/-- One of them is no page. -/
theorem rdiff_none (A B : Option Addr) (n m ac bc : Nat) (w : World) (h : ¬ (n = 512 ∧ m = 512)) :
    Calls Tryz.prog 32 #[.slice A n ac, .slice B m bc] w fun e w' => e = .returned (.slice none 0 0) ∧ Kept (fun _ => False) w w' := by
  by_cases h1 : n = 512
  · have h2 : ¬ m = 512 := fun e => h ⟨h1, e⟩
    subst h1
    have e2 : ((m : Int) != 512) = true := by rw [bne_iff_ne]; omega
    clear h
    go_enter Tryz.func32, Tryz.ntmps32
    go_wp2
    go_ret
    exact ⟨rfl, Kept.refl _ _⟩
  · have e2 : ((n : Int) != 512) = true := by rw [bne_iff_ne]; omega
    clear h
    go_enter Tryz.func32, Tryz.ntmps32
    go_wp2
    go_ret
    exact ⟨rfl, Kept.refl _ _⟩
theorem rdiff_all (A B : Option Addr) (ac bc : Nat) (a b : Bytes) (w : World) (ha : RdB w A a) (hb : RdB w B b) (hac : a.length ≤ ac) (hac2 : ac ≤ 9223372036854775807) (hbc : b.length ≤ bc) (hbc2 : bc ≤ 9223372036854775807) :
    Calls Tryz.prog 32 #[.slice A a.length ac, .slice B b.length bc] w fun e w' => ∃ v L, e = .returned v ∧ OwnSp w' w.heap.size v L ∧ SegsAt w' w.heap.size a b L ∧ L.map (fun s => (s.f, s.t)) = dM a b ∧ Kept (fun _ => False) w w' := by
  by_cases h : a.length = 512 ∧ b.length = 512
  · have e : dM a b = diffM a b := by unfold dM; rw [if_pos h]
    obtain ⟨la, lb⟩ := h
    rw [e, la, lb]
    exact rdiff_any A B ac bc a b w ha hb la lb (by omega) hac2 (by omega) hbc2
  · have e : dM a b = [] := by unfold dM; rw [if_neg h]
    refine (rdiff_none A B a.length b.length ac bc w h).mono ?_
    rintro _ w' ⟨rfl, hk⟩
    exact ⟨_, [], rfl, OwnSp.none _ _, (fun _ hs => by cases hs), e.symm, hk⟩
theorem sameSpans_nil (A1 A2 : Option Addr) (c1 c2 : Nat) (w : World) :
    Calls Tryz.prog 31 #[.slice A1 0 c1, .slice A2 0 c2] w fun e w' => e = .returned (.bool true) ∧ Kept (fun _ => False) w w' := by
  go_enter Tryz.func31, Tryz.ntmps31
  go_wp2
  go_loopw [5] (fun v wr => v = .int .i64 0 ∧ Kept (fun _ => False) w wr) (fun _ _ => 0)
  case atStart => exact ⟨rfl, Kept.refl _ _⟩
  case round =>
    obtain ⟨rfl, hk⟩ := hrel
    go_wp2
    go_ret
    exact ⟨rfl, hk⟩
theorem sameSpans_all (a b : Bytes) (v1 v2 : Value) (L1 L2 : List SpD) (B1 B2 : Nat) (w : World) (h1 : OwnSp w B1 v1 L1) (s1 : SegsAt w B1 a b L1) (h2 : OwnSp w B2 v2 L2) (s2 : SegsAt w B2 a b L2)
    (m1 : L1.map (fun s => (s.f, s.t)) = dM a b) (m2 : L2.map (fun s => (s.f, s.t)) = dM a b) :
    Calls Tryz.prog 31 #[v1, v2] w fun e w' => e = .returned (.bool true) ∧ Kept (fun _ => False) w w' := by
  by_cases h : a.length = 512 ∧ b.length = 512
  · have e : dM a b = diffM a b := by unfold dM; rw [if_pos h]
    rw [e] at m1 m2
    exact sameSpans_any a b v1 v2 L1 L2 B1 B2 w h1 s1 h2 s2 h.1 h.2 m1 m2
  · have e : dM a b = [] := by unfold dM; rw [if_neg h]
    rw [e] at m1 m2
    have e1 := List.map_eq_nil_iff.1 m1
    have e2 := List.map_eq_nil_iff.1 m2
    subst e1
    subst e2
    obtain ⟨G1, cap1, rfl, -⟩ := h1.view
    obtain ⟨G2, cap2, rfl, -⟩ := h2.view
    exact sameSpans_nil G1 G2 cap1 cap2 w
end Go.Proofs.YtndflnedkpmpfaaGreatDoor
namespace Go.Proofs.YtndflnedkpmpfaaGreatDoor
open Go.RowKit

theorem lent_takeD (l : Bytes) (n : Nat) : (lentL l n).take l.length = l := by
  unfold lentL
  rw [List.take_append_of_le_length (Nat.le_refl _), List.take_length]
def two {α : Type} (x y : α) (k : Nat) : α := if k = 0 then x else y
theorem gsOf_len (L : List SpD) : (gsOf L).length = 2 * L.length := by
  unfold gsOf
  induction L with
  | nil => rfl
  | cons s L ih => rw [List.flatMap_cons, List.length_append, ih, List.length_cons]; simp; omega
theorem spBs_len (L : List SpD) : (L.flatMap spB).length = 2 * L.length := by
  induction L with
  | nil => rfl
  | cons s L ih => rw [List.flatMap_cons, List.length_append, ih, List.length_cons]; simp [spB]; omega
set_option maxRecDepth 100000 in
set_option maxHeartbeats 1000000 in
/-- ApartSpans, of two answers. -/
theorem apartTwo (w : World) (B0 M gt ct : Nat) (a b : Bytes) (G0 G1 : Option Addr) (c0 c1 : Nat) (L0 L1 : List SpD) (t0 : w.cell? ⟨gt, 0, none⟩ = some (.slice G0 L0.length c0)) (t1 : w.cell? ⟨gt, 1, none⟩ = some (.slice G1 L1.length c1))
    (r0 : OwnSp w B0 (.slice G0 L0.length c0) L0) (r1 : OwnSp w M (.slice G1 L1.length c1) L1) (s0 : SegsAt w B0 a b L0) (s1 : SegsAt w M a b L1) (m0 : L0.map (fun s => (s.f, s.t)) = dM a b) (m1 : L1.map (fun s => (s.f, s.t)) = dM a b)
    (hM : ∀ x ∈ gsOf L0, x < M) (hMg : ∀ x, ob G0 = some x → x < M) (hBM : B0 ≤ M) (n0 : GsN L0) (n1 : GsN L1) (ha : a.length ≤ 1000000) (hb : b.length ≤ 1000000) (hB : B0 ≤ w.heap.size) :
    Calls Tryz.prog 33 #[.slice (some ⟨gt, 0, none⟩) 2 ct] w fun e w' => e = .returned (.bool true) ∧ Kept (fun x => B0 ≤ x) w w' := by
  have l0 : L0.length ≤ 57 := by have := congrArg List.length m0; rw [List.length_map] at this; rw [this]; exact dM_len a b
  have l1 : L1.length ≤ 57 := by have := congrArg List.length m1; rw [List.length_map] at this; rw [this]; exact dM_len a b
  have two_le : ∀ k, k < 2 → k = 0 ∨ k = 1 := fun k hk => by omega
  have g1 : ∀ x, ob G1 = some x → M ≤ x := fun x hx => by
    unfold OwnSp at r1
    exact (row_blk r1 (by rw [ownBlock_slice]; exact hx)).1
  refine apartSpans_any w B0 gt ct a b 2 (two G0 G1) (two L0.length L1.length) (two c0 c1) (two L0 L1) ?_ ?_ ?_ ?_ ?_ ha hb ?_ ?_ ?_ (by decide) hB ?_ ?_
  · intro k hk
    rcases two_le k hk with rfl | rfl
    · exact t0
    · exact t1
  · intro k hk
    rcases two_le k hk with rfl | rfl
    · exact r0
    · exact r1.low hBM
  · intro k hk
    rcases two_le k hk with rfl | rfl <;> rfl
  · intro k hk
    rcases two_le k hk with rfl | rfl
    · exact s0
    · exact s1.low hBM
  · intro k hk
    rcases two_le k hk with rfl | rfl
    · exact dM_segs m0
    · exact dM_segs m1
  · intro i j x hi hj h1 h2
    rcases two_le i hi with rfl | rfl <;> rcases two_le j hj with rfl | rfl
    · rfl
    · have := hMg x h1
      have := g1 x h2
      omega
    · have := hMg x h2
      have := g1 x h1
      omega
    · rfl
  · show (gsOf L0 ++ (gsOf L1 ++ [])).Nodup
    rw [List.append_nil]
    refine List.nodup_append.2 ⟨n0, n1, fun x hx y hy => ?_⟩
    have := hM x hx
    have := (s1.lt y hy).1
    omega
  · show (gsOf L0 ++ (gsOf L1 ++ [])).length ≤ 1000
    rw [List.append_nil, List.length_append, gsOf_len, gsOf_len]
    omega
  · intro k hk
    rcases two_le k hk with rfl | rfl
    · show L0.length ≤ 1000; omega
    · show L1.length ≤ 1000; omega
  · intro k hk
    have h3 : k = 0 ∨ k = 1 ∨ k = 2 := by omega
    rcases h3 with rfl | rfl | rfl
    · show 0 ≤ 100000; omega
    · show (L0.flatMap spB ++ []).length ≤ 100000
      rw [List.append_nil, spBs_len]; omega
    · show (L0.flatMap spB ++ (L1.flatMap spB ++ [])).length ≤ 100000
      rw [List.append_nil, List.length_append, spBs_len, spBs_len]; omega
set_option maxRecDepth 100000 in
set_option maxHeartbeats 4000000 in
theorem pageDiffs_any (A B : Option Addr) (ac bc : Nat) (a b : Bytes) (w : World) (ha : RdB w A a) (hb : RdB w B b) (hac : a.length ≤ ac) (hac2 : ac ≤ 9223372036854775807) (hbc : b.length ≤ bc) (hbc2 : bc ≤ 9223372036854775807) :
    Calls Tryz.prog 14 #[.slice A a.length ac, .slice B b.length bc] w fun e w' => e = .returned (.bool true) ∧ Kept (fun _ => False) w w' := by
  have HA := Lib.hid ha
  have HB := Lib.hid hb
  clear ha hb
  by_cases hl : 5000 < a.length
  · have i1 : (5000 : Int) < (a.length : Int) := by omega
    have HW := Lib.hid (awake_any w)
    go_enter Tryz.func14, Tryz.ntmps14
    go_wp2_with (go_at_call 15; refine HW.out.mono ?_; rintro e w1 ⟨rfl, hk⟩)
    go_ret
    exact ⟨rfl, hk⟩
  · have i1 : ¬ (5000 : Int) < (a.length : Int) := by omega
    by_cases hl2 : 5000 < b.length
    · have i2 : (5000 : Int) < (b.length : Int) := by omega
      have HW := Lib.hid (awake_any w)
      go_enter Tryz.func14, Tryz.ntmps14
      go_wp2_with (go_at_call 15; refine HW.out.mono ?_; rintro e w1 ⟨rfl, hk⟩)
      go_ret
      exact ⟨rfl, hk⟩
    · have i2 : ¬ (5000 : Int) < (b.length : Int) := by omega
      have HX := Lib.hid (lentB_any A ac a w HA.out (by omega))
      go_enter Tryz.func14, Tryz.ntmps14
      go_wp2_with fail
      refine HX.out.mono ?_
      rintro e w1 ⟨gx, cx, rfl, hox, hk1⟩
      have X1 := Lib.hid hox
      have bx1 := hox.ltg
      have K1 := Lib.hid hk1
      have HY := Lib.hid (lentB_any B bc b w1 (HB.out.kept hk1 (fun _ _ _ _ => id)) (by omega))
      have z1 := hk1.size
      clear hox hk1 HX
      go_wp2_with fail
      refine HY.out.mono ?_
      rintro e w2 ⟨gy, cy, rfl, hoy, hk2⟩
      have X2 := Lib.hid (X1.out.kept hk2)
      have Y2 := Lib.hid hoy
      have K2 := Lib.hid (K1.out.trans0 hk2)
      have z2 := hk2.size
      have bx := X2.out.ltg
      have bY := hoy.ltg
      have rx : RdB w2 (some ⟨gx, 0, none⟩) a := by have := X2.out.rdp.take a.length; rwa [lent_takeD] at this
      have ry : RdB w2 (some ⟨gy, 0, none⟩) b := by have := hoy.rdp.take b.length; rwa [lent_takeD] at this
      have capx : a.length ≤ cx ∧ cx ≤ 9223372036854775807 := by
        obtain ⟨cur, -, -, h1, h2, -⟩ := X2.out.form
        rw [len_lentL] at h1
        exact ⟨by omega, h2⟩
      have capy : b.length ≤ cy ∧ cy ≤ 9223372036854775807 := by
        obtain ⟨cur, -, -, h1, h2, -⟩ := hoy.form
        rw [len_lentL] at h1
        exact ⟨by omega, h2⟩
      have HD := Lib.hid (fun wz (hz : Kept (fun _ => False) w2 wz) => diff_all (some ⟨gx, 0, none⟩) (some ⟨gy, 0, none⟩) cx cy a b wz (rx.kept hz (fun _ _ _ _ => id)) (ry.kept hz (fun _ _ _ _ => id)) capx.1 capx.2 capy.1 capy.2)
      clear hoy hk2 HY rx ry capx capy X1 K1
      go_wp2_with fail
      refine (HD.out w2 (Kept.refl _ _)).mono ?_
      rintro e w3 ⟨v0, L0, rfl, ho0, hs0, hm0, hn0, hk3⟩
      obtain ⟨G0, c0, rfl, -⟩ := ho0.view
      have O0 := Lib.hid ho0
      have S0 := Lib.hid hs0
      have M0 := Lib.hid hm0
      have N0 := Lib.hid hn0
      have J3 := Lib.hid hk3
      have z3 := hk3.size
      have HB0 := Lib.hid (show (∀ x ∈ gsOf L0, x < w3.heap.size) ∧ ∀ x, ob G0 = some x → x < w3.heap.size from ⟨fun x hx => (hs0.lt x hx).2, fun x hx => by
        unfold OwnSp at ho0
        exact (row_blk ho0 (by rw [ownBlock_slice]; exact hx)).2.1⟩)
      clear ho0 hs0 hm0 hn0 hk3
      go_wp2_with fail
      refine (HD.out w3 J3.out).mono ?_
      rintro e w4 ⟨v1, L1, rfl, ho1, hs1, hm1, hn1, hk4⟩
      obtain ⟨G1, c1, rfl, -⟩ := ho1.view
      have J4 := Lib.hid (J3.out.trans0 hk4)
      have O04 := Lib.hid (O0.out.kept hk4 (fun _ h => h.elim))
      have S04 := Lib.hid (S0.out.keep hk4 (fun _ _ _ _ => id))
      have O1 := Lib.hid ho1
      have S1 := Lib.hid hs1
      have M1 := Lib.hid hm1
      have N1 := Lib.hid hn1
      have z4 := hk4.size
      clear ho1 hs1 hm1 hn1 hk4 O0 S0
      go_wp2_with fail
      refine (keptB_any A gx w.heap.size cx ac a w4 (HA.out.kept (K2.out.trans0 J4.out) (fun _ _ _ _ => id)) (X2.out.kept J4.out) (by omega)).mono ?_
      rintro e w5 ⟨rfl, hs⟩
      have F5 := Lib.hid (hs.kept (fun _ => False))
      have J5 := Lib.hid (J4.out.trans0 (hs.kept _))
      clear hs
      go_wp2_with fail
      refine (keptB_any B gy w1.heap.size cy bc b w5 (HB.out.kept (K2.out.trans0 J5.out) (fun _ _ _ _ => id)) (Y2.out.kept J5.out) (by omega)).mono ?_
      rintro e w6 ⟨rfl, hs⟩
      have F6 := Lib.hid (F5.out.trans0 (hs.kept (fun _ => False)))
      have J6 := Lib.hid (J5.out.trans0 (hs.kept _))
      clear hs F5 J5
      go_wp2_with fail
      refine (overB_any gx w.heap.size cx (lentL a 12) w6 a.length (X2.out.kept J6.out) (by rw [len_lentL]) (by omega)).mono ?_
      rintro e w7 ⟨rfl, hk7⟩
      have F7 := Lib.hid ((F6.out.mono (T := fun x => x < w2.heap.size) (fun _ _ e => e.elim)).trans hk7 (fun x _ e => by rw [e]; exact bx.2))
      have G7 := Lib.hid ((J6.out.mono (T := fun x => x = gx) (fun _ _ e => e.elim)).trans' hk7)
      have K7 := Lib.hid ((K2.out.trans0 J6.out).new hk7 (fun x e => by rw [e]; exact bx.1))
      have Y7 := Lib.hid ((Y2.out.kept J6.out).keep hk7 (by omega))
      clear hk7
      go_wp2_with fail
      refine (overB_any gy w1.heap.size cy (lentL b 12) w7 b.length Y7.out (by rw [len_lentL]) (by omega)).mono ?_
      rintro e w8 ⟨rfl, hk8⟩
      have F8 := Lib.hid (F7.out.trans hk8 (fun x _ e => by rw [e]; exact bY.2))
      have K8 := Lib.hid (K7.out.new hk8 (fun x e => by rw [e]; omega))
      have z8 := F8.out.size
      clear hk8 Y7 F7 K7 G7
      have O08 := Lib.hid (O04.out.kept F8.out (fun x h => h))
      have S08 := Lib.hid (S04.out.keep F8.out (fun x _ _ hb h => by have h' : x < w2.heap.size := h; omega))
      have O18 := Lib.hid (O1.out.kept F8.out (fun x h => by have h' : x < w2.heap.size := h; omega))
      have S18 := Lib.hid (S1.out.keep F8.out (fun x _ _ hb h => by have h' : x < w2.heap.size := h; omega))
      clear O04 S04 O1 S1 F6 J6 F8 J4 J3 HD
      go_wp2_with fail
      refine (rdiff_all A B ac bc a b w8 (HA.out.kept K8.out (fun _ _ _ _ => id)) (HB.out.kept K8.out (fun _ _ _ _ => id)) hac hac2 hbc hbc2).mono ?_
      rintro e w9 ⟨v2, L2, rfl, ho2, hs2, hm2, hk9⟩
      have O09 := Lib.hid (O08.out.kept hk9 (fun _ h => h.elim))
      have S09 := Lib.hid (S08.out.keep hk9 (fun _ _ _ _ => id))
      have J9 := Lib.hid hk9
      have K9 := Lib.hid (K8.out.trans0 hk9)
      have HSS := Lib.hid (sameSpans_all a b _ _ L0 L2 _ _ w9 O09.out S09.out ho2 hs2 M0.out hm2)
      have z9 := hk9.size
      clear ho2 hs2 hm2 hk9
      go_wp2_with fail
      refine HSS.out.mono ?_
      rintro e wa ⟨rfl, hka⟩
      have JA := Lib.hid (J9.out.trans0 hka)
      have KA := Lib.hid (K9.out.trans0 hka)
      have za := hka.size
      clear hka HSS
      have hb0 := heap_alloc_new wa (.cells #[.slice G0 L0.length c0, .slice G1 L1.length c1] 34)
      have ka : Kept (fun _ => False) wa (wa.alloc (.cells #[.slice G0 L0.length c0, .slice G1 L1.length c1] 34)) := (Kept.refl _ _).alloc _
      have KB := Lib.hid (KA.out.trans0 ka)
      have JB := Lib.hid (JA.out.trans0 ka)
      have HAP := Lib.hid (apartTwo (wa.alloc (.cells #[.slice G0 L0.length c0, .slice G1 L1.length c1] 34)) w2.heap.size w3.heap.size wa.heap.size 2 a b G0 G1 c0 c1 L0 L1 (cell_blk hb0 (i := 0) rfl) (cell_blk hb0 (i := 1) rfl)
        (O08.out.kept JB.out (fun _ h => h.elim)) (O18.out.kept JB.out (fun _ h => h.elim)) (S08.out.keep JB.out (fun _ _ _ _ => id)) (S18.out.keep JB.out (fun _ _ _ _ => id)) M0.out M1.out HB0.out.1 HB0.out.2 z3 N0.out N1.out (by omega) (by omega) (by have := ka.size; omega))
      clear hb0 ka
      go_wp2_with fail
      refine HAP.out.mono ?_
      rintro e wc ⟨rfl, hkc⟩
      have KC := Lib.hid (KB.out.new hkc (fun x e => by omega))
      clear hkc
      go_wp2_with fail
      refine (awake_any wc).mono ?_
      rintro e wd ⟨rfl, hkd⟩
      have KD := Lib.hid (KC.out.trans0 hkd)
      clear hkd
      go_wp2
      go_ret
      exact ⟨rfl, KD.out⟩
end Go.Proofs.YtndflnedkpmpfaaGreatDoor
