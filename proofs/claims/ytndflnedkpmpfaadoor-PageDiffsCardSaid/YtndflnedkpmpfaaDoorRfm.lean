/-
  No statement is proved here: the document's Diff, with no program in sight.
-/
import Derived.Test.YtndflnedkpmpfaaDoorPdf
namespace Go.Proofs.YtndflnedkpmpfaaDoor

theorem stD_succ (a b : Bytes) (i : Nat) : stD a b (i + 1) = nextD a b i (stD a b i).1 (stD a b i).2.1 (stD a b i).2.2 := rfl
/-- The document's spans and last place, ahead of place i. -/
def rS (a b : Bytes) (i : Nat) : Sp := putD (stD a b i).1 (stD a b i).2.1 (stD a b i).2.2
def rL (a b : Bytes) (i : Nat) : Int := if (stD a b i).2.1 < 0 then -100 else ((stD a b i).2.2 : Int) - 1
theorem rS_full (a b : Bytes) : rS a b 512 = diffM a b := rfl
theorem rS_zero (a b : Bytes) : rS a b 0 = [] := rfl
theorem rL_zero (a b : Bytes) : rL a b 0 = -100 := rfl
section
variable {a b : Bytes} {i : Nat}
theorem rS_same (h : bAt a i = bAt b i) : rS a b (i + 1) = rS a b i ∧ rL a b (i + 1) = rL a b i := by
  unfold rS rL
  rw [stD_succ]
  unfold nextD
  rw [if_pos h]
  exact ⟨rfl, rfl⟩
theorem rS_new (h : bAt a i ≠ bAt b i) (h8 : (8 : Int) ≤ i - rL a b i - 1) : rS a b (i + 1) = rS a b i ++ [(i, i + 1)] ∧ rL a b (i + 1) = i := by
  have hc : (stD a b i).2.1 < 0 ∨ (8 : Int) ≤ (i : Int) - (stD a b i).2.2 := by
    unfold rL at h8
    split at h8
    · left; assumption
    · right; omega
  unfold rS rL
  rw [stD_succ]
  unfold nextD
  rw [if_neg h, if_pos hc]
  refine ⟨?_, ?_⟩
  · show putD (putD _ _ _) (i : Int) (i + 1) = _
    conv => lhs; unfold putD
    rw [if_pos (by omega), Int.toNat_natCast]
    rfl
  · show (if (i : Int) < 0 then (-100 : Int) else ((i + 1 : Nat) : Int) - 1) = i
    rw [if_neg (by omega)]
    omega
theorem rS_more (h : bAt a i ≠ bAt b i) (h8 : ¬ (8 : Int) ≤ i - rL a b i - 1) : ∃ n t S, n < t ∧ t ≤ i ∧ rS a b i = S ++ [(n, t)] ∧ rS a b (i + 1) = S ++ [(n, i + 1)] ∧ rL a b (i + 1) = i := by
  have hd := stD_inv a b i
  have hc : ¬ ((stD a b i).2.1 < 0 ∨ (8 : Int) ≤ (i : Int) - (stD a b i).2.2) := by
    unfold rL at h8
    split at h8
    · omega
    · omega
  unfold rS rL
  rw [stD_succ]
  unfold nextD
  rw [if_neg h, if_neg hc]
  rcases hd.cur with ⟨hf, -⟩ | ⟨n, hf, hn, -⟩
  · omega
  · refine ⟨n, (stD a b i).2.2, (stD a b i).1, hn.1, hn.2.1, ?_, ?_, ?_⟩
    · unfold putD; rw [if_pos (by omega), hf]; rfl
    · show putD (stD a b i).1 (stD a b i).2.1 (i + 1) = _
      unfold putD; rw [if_pos (by omega), hf]; rfl
    · show (if (stD a b i).2.1 < 0 then (-100 : Int) else ((i + 1 : Nat) : Int) - 1) = i
      rw [if_neg (by omega)]
      omega
end
theorem rS_len (a b : Bytes) (i : Nat) : (rS a b i).length ≤ i + 1 := by
  have := stD_len a b i
  unfold rS putD
  split
  · rw [List.length_append]; simp; omega
  · omega
theorem rL_bd (a b : Bytes) (i : Nat) : -100 ≤ rL a b i ∧ rL a b i ≤ i := by
  have hd := stD_inv a b i
  unfold rL
  split
  · omega
  · rcases hd.cur with ⟨hf, -⟩ | ⟨n, hf, hn, -⟩
    · omega
    · have := hn.2.1
      simp only at this
      omega
end Go.Proofs.YtndflnedkpmpfaaDoor
