/-
  No statement is proved here: the contract of the kit's SameSpans, of two rows of the spans by which a and b differ.
-/
import Derived.Test.YtndflnedkpmpfaaDoorSms
import Derived.Test.YtndflnedkpmpfaaDoorPtu
namespace Go.Proofs.YtndflnedkpmpfaaDoor
open Go.RowKit

set_option maxRecDepth 100000 in
set_option maxHeartbeats 2000000 in
theorem sameSpans_any (a b : Bytes) (v1 v2 : Value) (L1 L2 : List SpD) (B1 B2 : Nat) (w : World) (h1 : OwnSp w B1 v1 L1) (s1 : SegsAt w B1 a b L1) (h2 : OwnSp w B2 v2 L2) (s2 : SegsAt w B2 a b L2) (la : a.length = 512) (lb : b.length = 512)
    (m1 : L1.map (fun s => (s.f, s.t)) = diffM a b) (m2 : L2.map (fun s => (s.f, s.t)) = diffM a b) :
    Calls Tryd.prog 16 #[v1, v2] w fun e w' => e = .returned (.bool true) ∧ Kept (fun _ => False) w w' := by
  obtain ⟨G1, cap1, rfl, V1⟩ := h1.view
  obtain ⟨G2, cap2, rfl, V2⟩ := h2.view
  have hle : L1.length = L2.length := by
    have h := congrArg List.length (m1.trans m2.symm)
    rwa [List.length_map, List.length_map] at h
  obtain ⟨N, hN⟩ : ∃ N, L1.length = N := ⟨_, rfl⟩
  have hNb : N ≤ 513 := by
    have h := congrArg List.length m1
    rw [List.length_map, hN] at h
    have h2 := stD_len a b 512
    unfold diffM putD at h
    split at h
    · simp at h; omega
    · omega
  have HN := Lib.hid hN
  have HN2 := Lib.hid (show L2.length = N from hle.symm.trans hN)
  have HLA := Lib.hid la
  have HLB := Lib.hid lb
  have HM1 := Lib.hid m1
  have HM2 := Lib.hid m2
  have HV1 := Lib.hid V1
  have HV2 := Lib.hid V2
  have HS1 := Lib.hid s1
  have HS2 := Lib.hid s2
  clear h1 h2 s1 s2 la lb m1 m2 V1 V2
  rw [← hle, hN]
  clear hN hle
  go_enter Tryd.func16, Tryd.ntmps16
  go_wp2
  go_loopw [5] (fun v wr => ∃ k : Nat, k ≤ N ∧ v = .int .i64 k ∧ Kept (fun _ => False) w wr) (fun v _ => N - (intOf v).toNat)
  case atStart => exact ⟨0, by omega, rfl, Kept.refl _ _⟩
  case round =>
    obtain ⟨k, hk, rfl, hkr⟩ := hrel
    have K := Lib.hid hkr
    clear hkr
    by_cases hlt : k < N
    · have HLT := Lib.hid hlt
      have i0 : (0 : Int) ≤ (k : Int) := by omega
      have i1 : (k : Int) < (N : Int) := by omega
      obtain ⟨x, hx⟩ : ∃ x, L1[k]? = some x := ⟨_, List.getElem?_eq_getElem (by rw [HN.out]; exact hlt)⟩
      obtain ⟨y, hy⟩ : ∃ y, L2[k]? = some y := ⟨_, List.getElem?_eq_getElem (by rw [HN2.out]; exact hlt)⟩
      have e1 : (diffM a b)[k]? = some (x.f, x.t) := by rw [← HM1.out, List.getElem?_map, hx]; rfl
      have e2 : (diffM a b)[k]? = some (y.f, y.t) := by rw [← HM2.out, List.getElem?_map, hy]; rfl
      have exy : (x.f, x.t) = (y.f, y.t) := Option.some.inj (e1.symm.trans e2)
      have hgo := (diffM_good a b).ok _ (List.mem_of_getElem? e1)
      obtain ⟨p1, p2⟩ := HS1.out x (List.mem_of_getElem? hx)
      obtain ⟨p3, p4⟩ := HS2.out y (List.mem_of_getElem? hy)
      obtain ⟨ga, rfl, hga, ca⟩ := HV1.out k x hx
      obtain ⟨gb, rfl, hgb, cb⟩ := HV2.out k y hy
      obtain ⟨f, t, g1, c1, g2, c2⟩ := x
      obtain ⟨f', t', g3, c3, g4, c4⟩ := y
      simp only [Prod.mk.injEq] at exy
      obtain ⟨rfl, rfl⟩ := exy
      have ht : t ≤ 512 := hgo.2.1
      have l1 : (segB a (f, t)).length = t - f := segB_len (s := (f, t)) (by rw [HLA.out]; exact ht)
      have l2 : (segB b (f, t)).length = t - f := segB_len (s := (f, t)) (by rw [HLB.out]; exact ht)
      have hcall := fun (wz : World) (hz : Kept (fun _ => False) w wz) => sameSpan_any 0 f (some ⟨g1, 0, none⟩) (some ⟨g2, 0, none⟩) (some ⟨g3, 0, none⟩) (some ⟨g4, 0, none⟩) c1 c2 c3 c4 (segB a (f, t)) (segB b (f, t)) wz (p1.kept hz).rdp (p3.kept hz).rdp (p2.kept hz).rdp (p4.kept hz).rdp (by omega) (by omega)
      rw [l1, l2] at hcall
      have HC := Lib.hid hcall
      have QA := Lib.hid (show ∀ j u, #[Value.int .i64 0, .int .i64 f, .slice (some ⟨g1, 0, none⟩) (t - f) c1, .slice (some ⟨g2, 0, none⟩) (t - f) c2][j]? = some u → (wr.drew).cell? ⟨ga, k * 4 + j, none⟩ = some u from fun j u hu => (World.cell?_of_block ((K.out.drew).block _ hga id)).trans (ca j u (by simpa [spVals] using hu)))
      have QB := Lib.hid (show ∀ j u, #[Value.int .i64 0, .int .i64 f, .slice (some ⟨g3, 0, none⟩) (t - f) c3, .slice (some ⟨g4, 0, none⟩) (t - f) c4][j]? = some u → (wr.drew).cell? ⟨gb, k * 4 + j, none⟩ = some u from fun j u hu => (World.cell?_of_block ((K.out.drew).block _ hgb id)).trans (cb j u (by simpa [spVals] using hu)))
      clear hcall p1 p2 p3 p4 ca cb l1 l2 e1 e2 hgo hx hy
      go_wp2
      refine wp_region_still_tail 8 (by kernel_rfl) (by kernel_rfl) ?_
      simp only [List.take_succ_cons, List.take_zero, List.drop_succ_cons, List.drop_zero]
      iterate 3 still_step
      refine ws_load_mid rfl 38 _ rfl ga (k * 4) rfl _ QA.out Tryd.underlying38 rfl (by kernel_rfl) ?_
      iterate 3 still_step
      refine ws_load_mid rfl 38 _ rfl gb (k * 4) rfl _ QB.out Tryd.underlying38 rfl (by kernel_rfl) ?_
      refine wpStill_nil ?_
      have KD := Lib.hid (K.out.drew)
      go_frame
      go_wp2_with fail
      refine (HC.out _ KD.out).mono ?_
      rintro e w5 ⟨rfl, hk5⟩
      have K5 := Lib.hid (KD.out.trans0 hk5)
      clear hk5
      go_frame
      go_wp2
      go_roundw
      case rel => exact ⟨k + 1, HLT.out, by go_num, K5.out⟩
      case measure =>
        have := HLT.out
        simp [intOf]; omega
    · have hge : ¬ (k : Int) < (N : Int) := by omega
      go_wp2
      go_ret
      exact ⟨rfl, K.out⟩
end Go.Proofs.YtndflnedkpmpfaaDoor
