/-
  No statement is proved here: the document's Diff, with no program in sight.
  No statement is proved here: the contract of the document's Diff.
-/
import Derived.Test.YtndflnedkpmpfaaGreatDoorPdf
import Derived.Test.YtndflnedkpmpfaaGreatDoorPdg
import Derived.Deep.CutRange
import Derived.BigQuiet
namespace Go.Proofs.YtndflnedkpmpfaaGreatDoor

theorem stD_succ (a b : Bytes) (i : Nat) : stD a b (i + 1) = nextD a b i (stD a b i).1 (stD a b i).2.1 (stD a b i).2.2 := rfl
/-- The document's spans and last place, ahead of place i. -/
def rS (a b : Bytes) (i : Nat) : Sp := putD (stD a b i).1 (stD a b i).2.1 (stD a b i).2.2
def rL (a b : Bytes) (i : Nat) : Int := if (stD a b i).2.1 < 0 then -100 else ((stD a b i).2.2 : Int) - 1
theorem rS_full (a b : Bytes) : rS a b 512 = diffM a b := rfl
theorem rS_zero (a b : Bytes) : rS a b 0 = [] := rfl
theorem rL_zero (a b : Bytes) : rL a b 0 = -100 := rfl
section
variable {a b : Bytes} {i : Nat}
theorem rS_same (h : bAt a i = bAt b i) : rS a b (i + 1) = rS a b i ∧ rL a b (i + 1) = rL a b i := by
  unfold rS rL
  rw [stD_succ]
  unfold nextD
  rw [if_pos h]
  exact ⟨rfl, rfl⟩
theorem rS_new (h : bAt a i ≠ bAt b i) (h8 : (8 : Int) ≤ i - rL a b i - 1) : rS a b (i + 1) = rS a b i ++ [(i, i + 1)] ∧ rL a b (i + 1) = i := by
  have hc : (stD a b i).2.1 < 0 ∨ (8 : Int) ≤ (i : Int) - (stD a b i).2.2 := by
    unfold rL at h8
    split at h8
    · left; assumption
    · right; omega
  unfold rS rL
  rw [stD_succ]
  unfold nextD
  rw [if_neg h, if_pos hc]
  refine ⟨?_, ?_⟩
  · show putD (putD _ _ _) (i : Int) (i + 1) = _
    conv => lhs; unfold putD
    rw [if_pos (by omega), Int.toNat_natCast]
    rfl
  · show (if (i : Int) < 0 then (-100 : Int) else ((i + 1 : Nat) : Int) - 1) = i
    rw [if_neg (by omega)]
    omega
theorem rS_more (h : bAt a i ≠ bAt b i) (h8 : ¬ (8 : Int) ≤ i - rL a b i - 1) : ∃ n t S, n < t ∧ t ≤ i ∧ rS a b i = S ++ [(n, t)] ∧ rS a b (i + 1) = S ++ [(n, i + 1)] ∧ rL a b (i + 1) = i := by
  have hd := stD_inv a b i
  have hc : ¬ ((stD a b i).2.1 < 0 ∨ (8 : Int) ≤ (i : Int) - (stD a b i).2.2) := by
    unfold rL at h8
    split at h8
    · omega
    · omega
  unfold rS rL
  rw [stD_succ]
  unfold nextD
  rw [if_neg h, if_neg hc]
  rcases hd.cur with ⟨hf, -⟩ | ⟨n, hf, hn, -⟩
  · omega
  · refine ⟨n, (stD a b i).2.2, (stD a b i).1, hn.1, hn.2.1, ?_, ?_, ?_⟩
    · unfold putD; rw [if_pos (by omega), hf]; rfl
    · show putD (stD a b i).1 (stD a b i).2.1 (i + 1) = _
      unfold putD; rw [if_pos (by omega), hf]; rfl
    · show (if (stD a b i).2.1 < 0 then (-100 : Int) else ((i + 1 : Nat) : Int) - 1) = i
      rw [if_neg (by omega)]
      omega
end
theorem rS_len (a b : Bytes) (i : Nat) : (rS a b i).length ≤ i + 1 := by
  have := stD_len a b i
  unfold rS putD
  split
  · rw [List.length_append]; simp; omega
  · omega
theorem rL_bd (a b : Bytes) (i : Nat) : -100 ≤ rL a b i ∧ rL a b i ≤ i := by
  have hd := stD_inv a b i
  unfold rL
  split
  · omega
  · rcases hd.cur with ⟨hf, -⟩ | ⟨n, hf, hn, -⟩
    · omega
    · have := hn.2.1
      simp only at this
      omega
end Go.Proofs.YtndflnedkpmpfaaGreatDoor
namespace Go.Proofs.YtndflnedkpmpfaaGreatDoor
open Go.RowKit

/-- A row of spans, the last one's bytes of any kind. -/
def OwnX (w : World) (base g cap : Nat) (L : List SpD) (n : Nat) (X Y : Value) : Prop := w.ownsRow base 46 4 (.slice (some ⟨g, 0, none⟩) (L.length + 1) cap) (L.length + 1) (rowSp L ++ [.int .i64 0, .int .i64 n, X, Y])
theorem rowSp_len (L : List SpD) : (rowSp L).length = L.length * 4 := by
  induction L with
  | nil => rfl
  | cons s L ih =>
    show ((spVals s) ++ rowSp L).length = _
    rw [List.length_append, ih, List.length_cons]
    show 4 + L.length * 4 = _
    omega
section
variable {w : World} {base g cap n : Nat} {L : List SpD} {X Y : Value}
theorem OwnX.parts (h : OwnX w base g cap L n X Y) : base ≤ g ∧ g < w.heap.size ∧ L.length + 1 ≤ cap ∧ cap ≤ 9223372036854775807 ∧ ∃ cur, w.heap[g]? = some (.cells cur 46 (0, 0)) ∧ L.length * 4 + 4 ≤ cur.size ∧
    cur[L.length * 4 + 1]? = some (.int .i64 n) ∧
    (∀ w' Z, w'.heap[g]? = some (.cells (cur.setIfInBounds (L.length * 4 + 2) Z) 46 (0, 0)) → OwnX w' base g cap L n Z Y) ∧
    (∀ w' Z, w'.heap[g]? = some (.cells (cur.setIfInBounds (L.length * 4 + 3) Z) 46 (0, 0)) → OwnX w' base g cap L n X Z) := by
  obtain ⟨h1, ⟨h, -⟩ | ⟨g', cap', cur, hv, hb, hh, hle, hm, hc, ht⟩⟩ := h
  · cases h
  · cases hv
    have hl : (rowSp L ++ [.int .i64 0, .int .i64 n, X, Y]).length = L.length * 4 + 4 := by rw [List.length_append, rowSp_len]; rfl
    refine ⟨hb, heap_lt hh, hle, hm, cur, hh, by rw [hc]; omega, ?_, fun w' Z h' => ⟨?_, .inr ⟨g, cap, _, rfl, hb, h', hle, hm, by simpa using hc, ?_⟩⟩, fun w' Z h' => ⟨?_, .inr ⟨g, cap, _, rfl, hb, h', hle, hm, by simpa using hc, ?_⟩⟩⟩
    · have e : (rowSp L ++ [.int .i64 0, .int .i64 n, X, Y])[L.length * 4 + 1]? = some (.int .i64 n) := by
        rw [List.getElem?_append_right (by rw [rowSp_len]; omega), rowSp_len, show L.length * 4 + 1 - L.length * 4 = 1 by omega]
        rfl
      rw [← ht, List.getElem?_take] at e
      split at e
      · rwa [Array.getElem?_toList] at e
      · simp at e
    · rw [List.length_append, rowSp_len]; show L.length * 4 + 4 = _; omega
    · rw [Array.toList_setIfInBounds, List.take_set, ht, List.set_append_right _ _ (by rw [rowSp_len]; omega), rowSp_len, show L.length * 4 + 2 - L.length * 4 = 2 by omega]
      rfl
    · rw [List.length_append, rowSp_len]; show L.length * 4 + 4 = _; omega
    · rw [Array.toList_setIfInBounds, List.take_set, ht, List.set_append_right _ _ (by rw [rowSp_len]; omega), rowSp_len, show L.length * 4 + 3 - L.length * 4 = 3 by omega]
      rfl
end
end Go.Proofs.YtndflnedkpmpfaaGreatDoor
