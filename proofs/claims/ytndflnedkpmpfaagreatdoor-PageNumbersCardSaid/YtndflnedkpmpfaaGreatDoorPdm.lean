/-
  No statement is proved here: the spans by which two pages differ, with no program in sight.
-/
import Derived.Test.YtndflnedkpmpfaaGreatDoorPgw
namespace Go.Proofs.YtndflnedkpmpfaaGreatDoor

abbrev Sp := List (Nat × Nat)
def putD (o : Sp) (f : Int) (t : Nat) : Sp := if 0 ≤ f then o ++ [(f.toNat, t)] else o
def nextD (a b : Bytes) (i : Nat) (o : Sp) (f : Int) (t : Nat) : Sp × Int × Nat := if bAt a i = bAt b i then (o, f, t) else if f < 0 ∨ (8 : Int) ≤ (i : Int) - t then (putD o f t, i, i + 1) else (o, f, i + 1)
/-- One span: not empty, its ends differ. -/
def SpOk (a b : Bytes) (i : Nat) (s : Nat × Nat) : Prop := s.1 < s.2 ∧ s.2 ≤ i ∧ bAt a s.1 ≠ bAt b s.1 ∧ bAt a (s.2 - 1) ≠ bAt b (s.2 - 1)
def Apart8 (s u : Nat × Nat) : Prop := s.2 + 8 ≤ u.1
structure DInv (a b : Bytes) (i : Nat) (o : Sp) (f : Int) (t : Nat) : Prop where
  ok : ∀ s ∈ o, SpOk a b i s
  far : o.Pairwise Apart8
  cur : (f = -1 ∧ t = 0 ∧ o = []) ∨ ∃ n : Nat, f = n ∧ SpOk a b i (n, t) ∧ ∀ s ∈ o, Apart8 s (n, t)
  cov : ∀ j, j < i → bAt a j = bAt b j ∨ (∃ s ∈ o, s.1 ≤ j ∧ j < s.2) ∨ (0 ≤ f ∧ f ≤ j ∧ j < t)
theorem SpOk.le {a b : Bytes} {i k : Nat} {s : Nat × Nat} (h : SpOk a b i s) (hk : i ≤ k) : SpOk a b k s := ⟨h.1, Nat.le_trans h.2.1 hk, h.2.2⟩
theorem DInv.zero (a b : Bytes) : DInv a b 0 [] (-1) 0 := ⟨fun _ h => by simp at h, List.Pairwise.nil, .inl ⟨rfl, rfl, rfl⟩, fun j h => by omega⟩
/-- What put makes of a state. -/
structure DGood (a b : Bytes) (i : Nat) (o : Sp) : Prop where
  ok : ∀ s ∈ o, SpOk a b i s
  far : o.Pairwise Apart8
  cov : ∀ j, j < i → bAt a j = bAt b j ∨ (∃ s ∈ o, s.1 ≤ j ∧ j < s.2)
theorem DInv.done {a b : Bytes} {i t : Nat} {o : Sp} {f : Int} (h : DInv a b i o f t) : DGood a b i (putD o f t) := by
  rcases h.cur with ⟨rfl, rfl, rfl⟩ | ⟨n, rfl, hn, hf⟩
  · refine ⟨fun s hs => by simp [putD] at hs, by simp [putD], fun j hj => ?_⟩
    rcases h.cov j hj with e | ⟨s, hs, _⟩ | ⟨e, _⟩
    · exact .inl e
    · simp at hs
    · omega
  · have e : putD o n t = o ++ [(n, t)] := by unfold putD; rw [if_pos (by omega)]; simp
    rw [e]
    refine ⟨fun s hs => ?_, ?_, fun j hj => ?_⟩
    · rcases List.mem_append.1 hs with hs | hs
      · exact h.ok s hs
      · simp at hs; subst hs; exact hn
    · rw [List.pairwise_append]
      exact ⟨h.far, by simp, fun s hs u hu => by simp at hu; subst hu; exact hf s hs⟩
    · rcases h.cov j hj with e | ⟨s, hs, h1⟩ | ⟨h0, h1, h2⟩
      · exact .inl e
      · exact .inr ⟨s, List.mem_append.2 (.inl hs), h1⟩
      · exact .inr ⟨(n, t), by simp, by simp; omega⟩
theorem DInv.step {a b : Bytes} {i t : Nat} {o : Sp} {f : Int} (h : DInv a b i o f t) : DInv a b (i + 1) (nextD a b i o f t).1 (nextD a b i o f t).2.1 (nextD a b i o f t).2.2 := by
  unfold nextD
  by_cases he : bAt a i = bAt b i
  · rw [if_pos he]
    refine ⟨fun s hs => (h.ok s hs).le (by omega), h.far, ?_, fun j hj => ?_⟩
    · rcases h.cur with h1 | ⟨n, h1, h2, h3⟩
      · exact .inl h1
      · exact .inr ⟨n, h1, h2.le (by omega), h3⟩
    · by_cases e : j = i
      · subst e; exact .inl he
      · exact h.cov j (by omega)
  · rw [if_neg he]
    by_cases h8 : f < 0 ∨ (8 : Int) ≤ (i : Int) - t
    · rw [if_pos h8]
      have hd := h.done
      refine ⟨fun s hs => (hd.ok s hs).le (by omega), hd.far, .inr ⟨i, rfl, ⟨by simp, by simp, he, by simpa using he⟩, fun s hs => ?_⟩, fun j hj => ?_⟩
      · show s.2 + 8 ≤ i
        rcases h.cur with ⟨rfl, rfl, rfl⟩ | ⟨n, rfl, hn, hf⟩
        · simp [putD] at hs
        · have h8' : (8 : Int) ≤ (i : Int) - t := by omega
          have e : putD o n t = o ++ [(n, t)] := by unfold putD; rw [if_pos (by omega)]; simp
          rw [e] at hs
          rcases List.mem_append.1 hs with hs | hs
          · have := hf s hs
            have h2 := hn.1
            unfold Apart8 at this
            simp at this h2
            omega
          · simp at hs; subst hs; simp; omega
      · by_cases e : j = i
        · subst e; exact .inr (.inr (by simp))
        · rcases hd.cov j (by omega) with e | hs
          · exact .inl e
          · exact .inr (.inl hs)
    · rw [if_neg h8]
      rcases h.cur with ⟨rfl, rfl, rfl⟩ | ⟨n, rfl, hn, hf⟩
      · omega
      · have hn1 := hn.1
        have hn2 := hn.2.1
        simp at hn1 hn2
        refine ⟨fun s hs => (h.ok s hs).le (by omega), h.far, .inr ⟨n, rfl, ⟨by simp; omega, by simp, hn.2.2.1, by simpa using he⟩, fun s hs => hf s hs⟩, fun j hj => ?_⟩
        by_cases e : j = i
        · subst e; exact .inr (.inr (by simp; omega))
        · rcases h.cov j (by omega) with e | hs | ⟨h1, h2, h3⟩
          · exact .inl e
          · exact .inr (.inl hs)
          · exact .inr (.inr ⟨h1, h2, by show j < i + 1; omega⟩)
/-- a, where the spans say so b. -/
def mix (a b : Bytes) (S : Sp) : Bytes := (List.range 512).map fun j => if S.any (fun s => decide (s.1 ≤ j ∧ j < s.2)) then bAt b j else bAt a j
def segB (b : Bytes) (s : Nat × Nat) : Bytes := (b.take s.2).drop s.1
theorem mix_len (a b : Bytes) (S : Sp) : (mix a b S).length = 512 := by simp [mix]
theorem bAt_mix (a b : Bytes) (S : Sp) {j : Nat} (hj : j < 512) : bAt (mix a b S) j = if S.any (fun s => decide (s.1 ≤ j ∧ j < s.2)) then bAt b j else bAt a j := by
  rw [bAt_get (by rw [mix_len]; exact hj)]
  unfold mix
  rw [List.getElem_map, List.getElem_range]
theorem bytes_ext {x y : Bytes} (h : x.length = y.length) (hj : ∀ j, j < x.length → bAt x j = bAt y j) : x = y := by
  refine List.ext_getElem h fun j h1 h2 => ?_
  have := hj j h1
  unfold bAt at this
  simpa [h1, h2] using this
theorem mix_nil {a : Bytes} (b : Bytes) (ha : a.length = 512) : mix a b [] = a :=
  bytes_ext (by rw [mix_len, ha]) fun j hj => by rw [mix_len] at hj; rw [bAt_mix _ _ _ hj]; simp
theorem mix_all {a b : Bytes} {S : Sp} (hb : b.length = 512) (h : DGood a b 512 S) : mix a b S = b :=
  bytes_ext (by rw [mix_len, hb]) fun j hj => by
    rw [mix_len] at hj
    rw [bAt_mix _ _ _ hj]
    split
    · rfl
    · rename_i hn
      rcases h.cov j hj with e | ⟨s, hs, h1⟩
      · exact e
      · exact absurd (List.any_eq_true.2 ⟨s, hs, by simpa using h1⟩) hn
theorem segB_len {b : Bytes} {s : Nat × Nat} (h : s.2 ≤ b.length) : (segB b s).length = s.2 - s.1 := by unfold segB; rw [List.length_drop, List.length_take]; omega
theorem bAt_segB {b : Bytes} {s : Nat × Nat} {j : Nat} (h : s.1 + j < s.2) : bAt (segB b s) j = bAt b (s.1 + j) := by
  unfold bAt segB
  simp only [List.getD_eq_getElem?_getD]
  rw [List.getElem?_drop, List.getElem?_take, if_pos h]
theorem bAt_over {l m : Bytes} {i j : Nat} (hi : i + m.length ≤ l.length) (hj : j < l.length) : bAt (over l i m) j = if i ≤ j ∧ j < i + m.length then bAt m (j - i) else bAt l j := by
  have e : m.take (l.length - i) = m := List.take_of_length_le (by omega)
  unfold over bAt
  rw [e]
  simp only [List.getD_eq_getElem?_getD]
  by_cases h1 : j < i
  · rw [if_neg (by omega), List.getElem?_append_left (by simp; omega), List.getElem?_append_left (by simp; omega), List.getElem?_take, if_pos h1]
  · by_cases h2 : j < i + m.length
    · rw [if_pos (by omega), List.getElem?_append_left (by simp; omega), List.getElem?_append_right (by simp; omega)]
      congr 2
      simp; omega
    · rw [if_neg (by omega), List.getElem?_append_right (by simp; omega), List.getElem?_drop]
      congr 2
      simp; omega
theorem mix_snoc (a b : Bytes) (S : Sp) {s : Nat × Nat} (h1 : s.1 < s.2) (h2 : s.2 ≤ 512) (hb : b.length = 512) : over (mix a b S) s.1 (segB b s) = mix a b (S ++ [s]) := by
  have hl := segB_len (b := b) (s := s) (by omega)
  have ho : (over (mix a b S) s.1 (segB b s)).length = 512 := by rw [over_len (by rw [mix_len]; omega), mix_len]
  refine bytes_ext (by rw [ho, mix_len]) fun j hj => ?_
  rw [ho] at hj
  rw [bAt_over (by rw [mix_len]; omega) (by rw [mix_len]; omega), bAt_mix _ _ _ hj, bAt_mix _ _ _ hj, List.any_append, hl]
  by_cases hc : s.1 ≤ j ∧ j < s.2
  · rw [if_pos (by omega), bAt_segB (by omega), show s.1 + (j - s.1) = j by omega, if_pos (by simp [hc])]
  · rw [if_neg (by omega)]
    have : ([s].any fun s => decide (s.1 ≤ j ∧ j < s.2)) = false := by simp; omega
    rw [this, Bool.or_false]
end Go.Proofs.YtndflnedkpmpfaaGreatDoor
