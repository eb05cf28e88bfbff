/-
  No statement is proved here: plain lemmas on an armed device.
-/
import Derived.Test.YtjhbkamgmldkmaaLawa
namespace Go.Proofs.Ytjhbkamgmldkmaa
open Go.RowKit

/-- Behind i Writes and Syncs of a device that was armed for n. -/
structure ArmInv (D : DevM) (n i : Int) : Prop where
  n3 : D.n = 3
  dn : D.down = decide (n ≤ i)
  ar : i < n → D.armed = n - i

/-- The answer of the step i. -/
def armE (n i : Int) : Int := if i < n - 1 then 0 else 8
theorem DevM.crash_armed {D : DevM} (h : 0 < D.armed) : D.crash = { D with armed := D.armed - 1, down := D.armed - 1 == 0 } := by simp [DevM.crash, h]
theorem ArmInv.write {D : DevM} {n i : Int} (h : ArmInv D n i) {k : Int} (h0 : 0 ≤ k) (h1 : k < 3) {l : Bytes} (hl : l.length = 512) :
    (D.write k l).1 = armE n i ∧ ArmInv (D.write k l).2 n (i + 1) := by
  unfold DevM.write armE
  by_cases hi : i < n
  · have hd : D.down = false := by rw [h.dn]; simp; omega
    have ha := h.ar hi
    rw [if_neg (by rw [DevM.mayE_ok hd h0 (by rw [h.n3]; exact h1)]; simp), if_neg (by simp [hl])]
    have e : (D.put k l).crash = { D.put k l with armed := D.armed - 1, down := D.armed - 1 == 0 } := DevM.crash_armed (D := D.put k l) (by show 0 < D.armed; omega)
    rw [e]
    refine ⟨?_, h.n3, ?_, ?_⟩
    · show errDown (D.armed - 1 == 0) = _
      unfold errDown
      by_cases h2 : i < n - 1
      · rw [if_pos h2, if_neg (by simp; omega)]
      · rw [if_neg h2, if_pos (by simp; omega)]
    · show (D.armed - 1 == 0) = _
      rw [Bool.eq_iff_iff]; simp; omega
    · intro _; show D.armed - 1 = _; omega
  · have hd : D.down = true := by rw [h.dn]; simp; omega
    rw [if_pos (by rw [DevM.mayE_down hd]; simp), DevM.mayE_down hd, if_neg (by omega)]
    exact ⟨rfl, h.n3, by rw [hd]; symm; simp; omega, fun h => by omega⟩
theorem ArmInv.sync {D : DevM} {n i : Int} (h : ArmInv D n i) : D.syncR.1 = armE n i ∧ ArmInv D.syncR.2 n (i + 1) := by
  unfold DevM.syncR armE
  by_cases hi : i < n
  · have hd : D.down = false := by rw [h.dn]; simp; omega
    have ha := h.ar hi
    rw [if_neg (by rw [DevM.mayE_ok hd (Int.le_refl 0) (by rw [h.n3]; omega)]; simp)]
    have e : D.crash = { D with armed := D.armed - 1, down := D.armed - 1 == 0 } := DevM.crash_armed (by omega)
    rw [e]
    by_cases h2 : i < n - 1
    · rw [if_neg (by simp; omega), if_pos h2]
      exact ⟨rfl, h.n3, (by show (D.armed - 1 == 0) = _; rw [Bool.eq_iff_iff]; simp; omega), fun _ => by show D.armed - 1 = _; omega⟩
    · rw [if_pos (by simp; omega), if_neg h2]
      exact ⟨rfl, h.n3, (by show (D.armed - 1 == 0) = _; rw [Bool.eq_iff_iff]; simp; omega), fun _ => by show D.armed - 1 = _; omega⟩
  · have hd : D.down = true := by rw [h.dn]; simp; omega
    rw [if_pos (by rw [DevM.mayE_down hd]; simp), DevM.mayE_down hd, if_neg (by omega)]
    exact ⟨rfl, h.n3, by rw [hd]; symm; simp; omega, fun h => by omega⟩
theorem ArmInv.start {n : Int} (h : 1 ≤ n) : ArmInv ((newM 3).arm n) n 0 := by
  have e : (newM 3).arm n = { newM 3 with armed := max n 0 } := by simp [DevM.arm, newM]
  rw [e]
  exact ⟨rfl, by show false = _; symm; simp; omega, fun _ => by show max n 0 = _; omega⟩
end Go.Proofs.Ytjhbkamgmldkmaa
