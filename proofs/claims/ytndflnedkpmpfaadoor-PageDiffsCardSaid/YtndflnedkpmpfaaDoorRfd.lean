/-
  No statement is proved here: the contract of the document's Diff.
-/
import Derived.Test.YtndflnedkpmpfaaDoorRfm
import Derived.Test.YtndflnedkpmpfaaDoorPdg
import Derived.Deep.CutRange
import Derived.BigQuiet
namespace Go.Proofs.YtndflnedkpmpfaaDoor
open Go.RowKit

/-- A row of spans, the last one's bytes of any kind. -/
def OwnX (w : World) (base g cap : Nat) (L : List SpD) (n : Nat) (X Y : Value) : Prop := w.ownsRow base 38 4 (.slice (some ⟨g, 0, none⟩) (L.length + 1) cap) (L.length + 1) (rowSp L ++ [.int .i64 0, .int .i64 n, X, Y])
theorem rowSp_len (L : List SpD) : (rowSp L).length = L.length * 4 := by
  induction L with
  | nil => rfl
  | cons s L ih =>
    show ((spVals s) ++ rowSp L).length = _
    rw [List.length_append, ih, List.length_cons]
    show 4 + L.length * 4 = _
    omega
section
variable {w : World} {base g cap n : Nat} {L : List SpD} {X Y : Value}
theorem OwnX.parts (h : OwnX w base g cap L n X Y) : base ≤ g ∧ g < w.heap.size ∧ L.length + 1 ≤ cap ∧ cap ≤ 9223372036854775807 ∧ ∃ cur, w.heap[g]? = some (.cells cur 38 (0, 0)) ∧ L.length * 4 + 4 ≤ cur.size ∧
    cur[L.length * 4 + 1]? = some (.int .i64 n) ∧
    (∀ w' Z, w'.heap[g]? = some (.cells (cur.setIfInBounds (L.length * 4 + 2) Z) 38 (0, 0)) → OwnX w' base g cap L n Z Y) ∧
    (∀ w' Z, w'.heap[g]? = some (.cells (cur.setIfInBounds (L.length * 4 + 3) Z) 38 (0, 0)) → OwnX w' base g cap L n X Z) := by
  obtain ⟨h1, ⟨h, -⟩ | ⟨g', cap', cur, hv, hb, hh, hle, hm, hc, ht⟩⟩ := h
  · cases h
  · cases hv
    have hl : (rowSp L ++ [.int .i64 0, .int .i64 n, X, Y]).length = L.length * 4 + 4 := by rw [List.length_append, rowSp_len]; rfl
    refine ⟨hb, heap_lt hh, hle, hm, cur, hh, by rw [hc]; omega, ?_, fun w' Z h' => ⟨?_, .inr ⟨g, cap, _, rfl, hb, h', hle, hm, by simpa using hc, ?_⟩⟩, fun w' Z h' => ⟨?_, .inr ⟨g, cap, _, rfl, hb, h', hle, hm, by simpa using hc, ?_⟩⟩⟩
    · have e : (rowSp L ++ [.int .i64 0, .int .i64 n, X, Y])[L.length * 4 + 1]? = some (.int .i64 n) := by
        rw [List.getElem?_append_right (by rw [rowSp_len]; omega), rowSp_len, show L.length * 4 + 1 - L.length * 4 = 1 by omega]
        rfl
      rw [← ht, List.getElem?_take] at e
      split at e
      · rwa [Array.getElem?_toList] at e
      · simp at e
    · rw [List.length_append, rowSp_len]; show L.length * 4 + 4 = _; omega
    · rw [Array.toList_setIfInBounds, List.take_set, ht, List.set_append_right _ _ (by rw [rowSp_len]; omega), rowSp_len, show L.length * 4 + 2 - L.length * 4 = 2 by omega]
      rfl
    · rw [List.length_append, rowSp_len]; show L.length * 4 + 4 = _; omega
    · rw [Array.toList_setIfInBounds, List.take_set, ht, List.set_append_right _ _ (by rw [rowSp_len]; omega), rowSp_len, show L.length * 4 + 3 - L.length * 4 = 3 by omega]
      rfl
end
end Go.Proofs.YtndflnedkpmpfaaDoor
