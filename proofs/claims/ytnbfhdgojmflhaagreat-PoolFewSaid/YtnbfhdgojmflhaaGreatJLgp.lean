/-
  No statement is proved here: a part of what the claim's last text rests on.
-/
import Derived.Test.YtnbfhdgojmflhaaGreatJLgo
import Derived.Great.BuildSlice
namespace Go.Proofs.YtnbfhdgojmflhaaGreat
open Go.RowKit
structure RowR where
  r : RecM
  A1 : Option Addr
  c1 : Nat
  A2 : Option Addr
  c2 : Nat
def rowC (x : RowR) : List Value := (recC x.r x.A1 x.c1 x.A2 x.c2).toList
def rowsC (l : List RowR) : List Value := (l.map rowC).flatten
theorem rowsC_snoc (l : List RowR) (x : RowR) : rowsC (l ++ [x]) = rowsC l ++ rowC x := by simp [rowsC]
structure RecsV (w : World) (base : Nat) (v : Value) (l : List RowR) : Prop where
  row : w.ownsRow base 116 10 v l.length (rowsC l)
  own : ∀ x ∈ l, OwnV w base (.slice x.A1 x.r.old.length x.c1) x.r.old ∧ OwnV w base (.slice x.A2 x.r.new.length x.c2) x.r.new
theorem RecsV.nil (w : World) (base : Nat) : RecsV w base (.slice none 0 0) [] := ⟨⟨rfl, .inl ⟨rfl, rfl⟩⟩, fun x h => by cases h⟩
theorem RecsV.keep {S : Nat → Prop} {w w' : World} {base : Nat} {v : Value} {l : List RowR} (h : RecsV w base v l) (hk : Kept S w w') (hn : ∀ x, v.ownBlock = some x → ¬ S x) (hb : ∀ g cur, base ≤ g → w.heap[g]? = some (.cells cur 5 (0, 0)) → ¬ S g) : RecsV w' base v l := by
  have aux : ∀ (A : Option Addr) (n c : Nat) (b : Bytes), OwnV w base (.slice A n c) b → OwnV w' base (.slice A n c) b := fun A n c b h => by
    refine h.keep hk (fun x hx => ?_)
    rcases h.form with ⟨h1, _⟩ | ⟨g, cap, h1, h2⟩
    · cases h1; cases hx
    · cases h1; cases hx
      obtain ⟨cur, h3, h4, _⟩ := h2.form
      exact hb _ cur h3 h4
  exact ⟨ownsRow_keep h.row hk hn, fun x hx => ⟨aux _ _ _ _ (h.own x hx).1, aux _ _ _ _ (h.own x hx).2⟩⟩
theorem RecsV.keep0 {w w' : World} {base : Nat} {v : Value} {l : List RowR} (h : RecsV w base v l) (hk : Kept (fun _ => False) w w') : RecsV w' base v l := h.keep hk (fun _ _ => id) (fun _ _ _ _ => id)
theorem RecsV.append {w : World} {base : Nat} {v : Value} {l : List RowR} (h : RecsV w base v l) (x : RowR) (h1 : OwnV w base (.slice x.A1 x.r.old.length x.c1) x.r.old) (h2 : OwnV w base (.slice x.A2 x.r.new.length x.c2) x.r.new)
    {w' : World} {v' : Value} (hr : w'.ownsRow base 116 10 v' (l.length + 1) (rowsC l ++ rowC x)) (hk : Kept (fun x => v.ownBlock = some x) w w') : RecsV w' base v' (l ++ [x]) := by
  have nb : ∀ g cur, base ≤ g → w.heap[g]? = some (.cells cur 5 (0, 0)) → ¬ v.ownBlock = some g := fun g cur _ hg e => by
    rcases h.row.2 with ⟨rfl, _⟩ | ⟨g', cap, cur', rfl, _, hg', _⟩
    · cases e
    · cases e
      rw [hg] at hg'
      cases hg'
  have aux : ∀ (A : Option Addr) (n c : Nat) (b : Bytes), OwnV w base (.slice A n c) b → OwnV w' base (.slice A n c) b := fun A n c b h => by
    refine h.keep hk (fun x hx => ?_)
    rcases h.form with ⟨h1, _⟩ | ⟨g, cap, h1, h2⟩
    · cases h1; cases hx
    · cases h1; cases hx
      obtain ⟨cur, h3, h4, _⟩ := h2.form
      exact nb _ cur h3 h4
  refine ⟨by rw [List.length_append, List.length_singleton, rowsC_snoc]; exact hr, fun y hy => ?_⟩
  rcases List.mem_append.1 hy with hy | hy
  · exact ⟨aux _ _ _ _ (h.own y hy).1, aux _ _ _ _ (h.own y hy).2⟩
  · rw [List.mem_singleton] at hy
    subst hy
    exact ⟨aux _ _ _ _ h1, aux _ _ _ _ h2⟩
end Go.Proofs.YtnbfhdgojmflhaaGreat
