/-
  No statement is proved here: how long what a record holds may be, by the form's reach.
-/
import Derived.Test.YtbolbddjmmfepaaReadr
import Derived.SizedLaws
namespace Go.Proofs.Ytbolbddjmmfepaa
open Go.RowKit

section
variable {H : Type} {enc : TypeId × Value → H} {w : World} {base : Nat} {spare : Nat → Bool} {held : Bool}
theorem bytesU8 : (Try.prog).bytesOf 5 = 1 := by kernel_rfl
theorem bytes_w {fuel : Nat} {A : Option Addr} {n c : Nat} {x : DataW H × List MemPlace} (h : DataW.trod enc Try.prog w base spare held fuel 23 [.slice A n c] = some x) (hw : ∀ k ∈ x.1.weights Try.prog 23, k ≤ reachBytes) : n ≤ 140737488355328 := by
  have h47 := reachBytes_lt
  rcases Deep.open_slice Try.underlying23 h with ⟨hcs, _⟩ | ⟨a, len, cap, m, n', D, Pl, hcs, _, hl, hm, hmm, hx, _⟩
  · cases hcs; omega
  · cases hcs
    rw [hx] at hw
    have := hw ((((List.range n).map D).length + (((List.range (m - n)).map fun j => D (n + j))).length) * (Try.prog).bytesOf 5) (by simp [DataW.weights, Try.underlying23])
    rw [bytesU8] at this
    simp at this
    omega
set_option maxRecDepth 100000 in
theorem rec_sized {fuel : Nat} {r : RecM} {A1 : Option Addr} {c1 : Nat} {A2 : Option Addr} {c2 : Nat} {x : DataW H × List MemPlace} (h : DataW.trod enc Try.prog w base spare held fuel 27 (recVal r A1 c1 A2 c2).cells.toList = some x)
    (hw : ∀ k ∈ x.1.weights Try.prog 27, k ≤ reachBytes) : r.old.length ≤ 140737488355328 ∧ r.new.length ≤ 140737488355328 := by
  obtain ⟨xs, n, _, rfl, hl, hxl, hf⟩ := DataW.trod_struct Try.underlying27 h
  have f6 := hf 6 _ rfl
  obtain ⟨y, hy⟩ : ∃ y, xs[6]? = some y := ⟨_, List.getElem?_eq_getElem (by simp [hxl])⟩
  rw [hy] at f6
  obtain ⟨ys, m, _, e6, gl, gxl, gf⟩ := DataW.trod_struct Try.underlying25 f6
  have hwy : ∀ k ∈ y.1.weights Try.prog 25, k ≤ reachBytes := fun k hk => by
    refine hw k ?_
    have := DataW.weights_mem_each (P := Try.prog) (ts := [2, 2, 22, 2, 2, 2, 25]) (ds := xs.map (·.1)) (j := 6) (t := 25) (d := y.1) rfl (by simp [hy]) k hk
    simpa [DataW.weights, Try.underlying27] using this
  subst e6
  have key : ∀ (j : Nat) (z : DataW H × List MemPlace), (j = 2 ∨ j = 3) → ys[j]? = some z → ∀ k ∈ z.1.weights Try.prog 23, k ≤ reachBytes := fun j z hj hz k hk => by
    refine hwy k ?_
    have := DataW.weights_mem_each (P := Try.prog) (ts := [3, 3, 23, 23]) (ds := ys.map (·.1)) (j := j) (t := 23) (d := z.1) (by rcases hj with rfl | rfl <;> rfl) (by simp [hz]) k hk
    simpa [DataW.weights, Try.underlying25] using this
  have g2 := gf 2 _ rfl
  have g3 := gf 3 _ rfl
  obtain ⟨z2, hz2⟩ : ∃ z, ys[2]? = some z := ⟨_, List.getElem?_eq_getElem (by simp [gxl])⟩
  obtain ⟨z3, hz3⟩ : ∃ z, ys[3]? = some z := ⟨_, List.getElem?_eq_getElem (by simp [gxl])⟩
  rw [hz2] at g2
  rw [hz3] at g3
  exact ⟨bytes_w g2 (key 2 z2 (.inl rfl) hz2), bytes_w g3 (key 3 z3 (.inr rfl) hz3)⟩
end
end Go.Proofs.Ytbolbddjmmfepaa
