/-
  No statement is proved here: what an argument of bytes reads as, with its capacity.
-/
import Derived.Test.YtbolbddjmmfepaaRead
namespace Go.Proofs.Ytbolbddjmmfepaa
open Go.RowKit

theorem bytes_arg {H : Type} {enc : TypeId × Value → H} {w : World} {base : Nat} {spare : Nat → Bool} {held : Bool} {A : Option Addr} {n c : Nat} {x : DataW H × List MemPlace}
    (h : ∃ fuel, DataW.trod enc Try.prog w base spare held fuel 23 (Value.slice A n c).cells.toList = some x) :
    ∃ l : Bytes, RdB w A l ∧ n = l.length ∧ l.length ≤ c ∧ c ≤ 9223372036854775807 := by
  obtain ⟨fuel, hf⟩ := h
  have e63 : maxLen = 9223372036854775807 := rfl
  have hcap : n ≤ c ∧ c ≤ 9223372036854775807 := by
    rcases Deep.open_slice Try.underlying23 hf with ⟨h, _⟩ | ⟨a, len, cap, m, n, D, Pl, h, _, hl, hm, _⟩
    · simp [Value.cells] at h; omega
    · simp [Value.cells] at h; omega
  obtain ⟨A', c', l, hcs, _, hl⟩ := open_bytes hf
  simp [Value.cells] at hcs
  obtain ⟨rfl, rfl, rfl⟩ := hcs
  exact ⟨l, hl, rfl, hcap⟩
end Go.Proofs.Ytbolbddjmmfepaa
