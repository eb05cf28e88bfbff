/-
  No statement is proved here: the kit's CopyBytes; lemmas for PageTurned.
-/
import Derived.Test.YtndflnedkpmpfaaGreatDoorPdg
namespace Go.Proofs.YtndflnedkpmpfaaGreatDoor
open Go.RowKit

theorem nil_row (w : World) (base : Nat) (e : TypeId) (size : Nat) : w.ownsRow base e size (.slice none 0 0) 0 [] := ⟨by simp, .inl ⟨rfl, rfl⟩⟩
theorem copyB_any (A : Option Addr) (c : Nat) (l : Bytes) (w : World) (h : RdB w A l) (hl : l.length ≤ 1000000) :
    Calls Tryz.prog 26 #[.slice A l.length c] w fun e w' => ∃ G cap, e = .returned (.slice G l.length cap) ∧ ((l = [] ∧ G = none ∧ cap = 0) ∨ ∃ g, G = some ⟨g, 0, none⟩ ∧ OwnB w' w.heap.size g cap l) ∧ Kept (fun _ => False) w w' := by
  have e63 : maxLen = 9223372036854775807 := rfl
  by_cases h0 : l = []
  · subst h0
    clear h
    go_enter Tryz.func26, Tryz.ntmps26
    go_wp2_with (at_builtin; refine wl_append0 rfl _ _ 22 rfl w.heap.size 5 Tryz.underlying22 info5 (.slice none 0 0) 0 [] rfl (nil_row _ _ _ _) A c rfl ?_)
    go_ret
    exact ⟨none, 0, rfl, .inl ⟨by simp, rfl, rfl⟩, Kept.refl _ _⟩
  · obtain ⟨b, off, rfl, hc⟩ := h h0
    have hp : 0 < l.length := List.length_pos_iff.2 h0
    have HC := Lib.hid hc
    clear h hc h0
    go_enter Tryz.func26, Tryz.ntmps26
    go_wp2_with (at_builtin; refine wl_append rfl _ _ 22 rfl w.heap.size 5 Tryz.underlying22 info5 rfl (by omega) (.slice none 0 0) 0 [] rfl (nil_row _ _ _ _) b off l.length c (cellsOf l).toList rfl (by rw [cellsOf_len, Nat.mul_one]) (fun j u hu => HC.out j u (by simpa using hu)) (fun u hu => (Array.all_eq_true_iff_forall_mem.1 (one_cellsOf l)) u (by simpa using hu)) hp (by omega) (by omega) (Nat.le_refl _) ?_)
    intro g cap w' ho hk _ _
    have HO := Lib.hid (show OwnB w' w.heap.size g cap l from by unfold OwnB; simpa using ho)
    have HK := Lib.hid (hk.mono (T := fun _ => False) (fun x _ e => by simp [Value.ownBlock] at e))
    clear ho hk
    go_wp2
    go_ret
    exact ⟨_, cap, by simp, .inr ⟨g, rfl, HO.out⟩, HK.out⟩
theorem rowSp_get : ∀ (L : List SpD) (k j : Nat) (s : SpD), L[k]? = some s → j < 4 → (rowSp L)[k * 4 + j]? = (spVals s)[j]?
  | [], k, _, _, h, _ => by simp at h
  | s :: L, 0, j, u, h, hj => by
    simp at h
    subst h
    have : rowSp (s :: L) = spVals s ++ rowSp L := by simp [rowSp]
    rw [this, List.getElem?_append_left (by simp [spVals]; omega)]
    simp
  | s :: L, k + 1, j, u, h, hj => by
    have : rowSp (s :: L) = spVals s ++ rowSp L := by simp [rowSp]
    rw [this, List.getElem?_append_right (by simp [spVals]; omega), show (k + 1) * 4 + j - (spVals s).length = k * 4 + j by simp [spVals]; omega]
    exact rowSp_get L k j u (by simpa using h) hj
theorem OwnSp.at {w : World} {base : Nat} {v : Value} {L : List SpD} (h : OwnSp w base v L) (h0 : L ≠ []) : ∃ g cap, v = .slice (some ⟨g, 0, none⟩) L.length cap ∧ base ≤ g ∧ g < w.heap.size ∧ L.length ≤ cap ∧
    ∀ k s, L[k]? = some s → ∀ j u, (spVals s)[j]? = some u → w.cell? ⟨g, k * 4 + j, none⟩ = some u := by
  obtain ⟨h1, h | ⟨g, cap, cur, hv, hg, hh, hle, -, hc, ht⟩⟩ := h
  · exact absurd (List.eq_nil_of_length_eq_zero h.2) h0
  · refine ⟨g, cap, hv, hg, heap_lt hh, hle, fun k s hk j u hu => cell_blk hh ?_⟩
    have hj : j < 4 := by
      have := (List.getElem?_eq_some_iff.1 hu).1
      simpa [spVals] using this
    have e := rowSp_get L k j s hk hj
    rw [hu, ← ht] at e
    rw [List.getElem?_take] at e
    split at e
    · rwa [Array.getElem?_toList] at e
    · simp at e
theorem OwnSp.view {w : World} {base : Nat} {v : Value} {L : List SpD} (h : OwnSp w base v L) : ∃ G cap, v = .slice G L.length cap ∧
    ∀ k s, L[k]? = some s → ∃ g, G = some ⟨g, 0, none⟩ ∧ g < w.heap.size ∧ ∀ j u, (spVals s)[j]? = some u → w.cell? ⟨g, k * 4 + j, none⟩ = some u := by
  by_cases h0 : L = []
  · subst h0
    obtain ⟨-, ⟨h, -⟩ | ⟨g, cap, -, h, -⟩⟩ := h
    · exact ⟨_, _, h, fun k s hk => by simp at hk⟩
    · exact ⟨_, _, h, fun k s hk => by simp at hk⟩
  · obtain ⟨g, cap, hv, -, hg, -, hc⟩ := h.at h0
    exact ⟨_, _, hv, fun k s hk => ⟨g, rfl, hg, hc k s hk⟩⟩
theorem copy512 (A : Option Addr) (c : Nat) (l : Bytes) (w : World) (h : RdB w A l) (hl : l.length = 512) :
    Calls Tryz.prog 26 #[.slice A 512 c] w fun e w' => ∃ g cap, e = .returned (.slice (some ⟨g, 0, none⟩) 512 cap) ∧ OwnB w' w.heap.size g cap l ∧ 512 ≤ cap ∧ cap ≤ 9223372036854775807 ∧ Kept (fun _ => False) w w' := by
  have := copyB_any A c l w h (by omega)
  rw [hl] at this
  refine this.mono ?_
  rintro e w' ⟨G, cap, rfl, ⟨rfl, -⟩ | ⟨g, rfl, ho⟩, hk⟩
  · simp at hl
  · obtain ⟨cur, -, -, h1, h2, -⟩ := ho.form
    exact ⟨g, cap, rfl, ho, by omega, h2, hk⟩
theorem DGood.symm {a b : Bytes} {i : Nat} {S : Sp} (h : DGood a b i S) : DGood b a i S :=
  ⟨fun s hs => ⟨(h.ok s hs).1, (h.ok s hs).2.1, fun e => (h.ok s hs).2.2.1 e.symm, fun e => (h.ok s hs).2.2.2 e.symm⟩, h.far, fun j hj => (h.cov j hj).imp_left Eq.symm⟩
/-- Where the span ahead of number k ends. -/
def lastOf (S : Sp) : Nat → Int
  | 0 => -8
  | k + 1 => ((S.getD k (0, 0)).2 : Int)
theorem good_at {a b : Bytes} {S : Sp} (h : DGood a b 512 S) {k : Nat} {s : Nat × Nat} (hk : S[k]? = some s) : SpOk a b 512 s ∧ lastOf S k + 8 ≤ s.1 ∧ -8 ≤ lastOf S k ∧ lastOf S k ≤ 512 ∧ lastOf S (k + 1) = s.2 ∧ S.take (k + 1) = S.take k ++ [s] := by
  obtain ⟨hlt, rfl⟩ := List.getElem?_eq_some_iff.1 hk
  refine ⟨h.ok _ (List.getElem_mem hlt), ?_, ?_, ?_, ?_, ?_⟩
  · cases k with
    | zero => simp only [lastOf]; omega
    | succ k =>
      have := List.pairwise_iff_getElem.1 h.far k (k + 1) (by omega) hlt (by omega)
      unfold Apart8 at this
      simp only [lastOf, List.getD_eq_getElem?_getD, List.getElem?_eq_getElem (show k < S.length by omega), Option.getD_some]
      omega
  · cases k with
    | zero => simp only [lastOf]; omega
    | succ k => simp only [lastOf]; omega
  · cases k with
    | zero => simp only [lastOf]; omega
    | succ k =>
      have := (h.ok _ (List.getElem_mem (show k < S.length by omega))).2.1
      simp only [lastOf, List.getD_eq_getElem?_getD, List.getElem?_eq_getElem (show k < S.length by omega), Option.getD_some]
      omega
  · simp only [lastOf, List.getD_eq_getElem?_getD, hk, Option.getD_some]
  · rw [List.take_add_one, hk]; rfl
end Go.Proofs.YtndflnedkpmpfaaGreatDoor
