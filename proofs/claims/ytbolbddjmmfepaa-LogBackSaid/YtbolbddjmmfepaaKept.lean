/-
  No statement is proved here: contracts of the verifier's KeptBytes and OverBytes.
-/
import Derived.Test.YtbolbddjmmfepaaLent
namespace Go.Proofs.Ytbolbddjmmfepaa
open Go.RowKit

theorem bAt_lent1 {l : Bytes} {k : Nat} (h : k < l.length) : bAt (lentL l 12) k = bAt l k := by
  unfold lentL
  rw [bAt_get (by simp; omega), bAt_get h, List.getElem_append_left h]
theorem bAt_lent2 {l : Bytes} {k : Nat} (h : l.length ≤ k) (h2 : k < l.length + 12) : bAt (lentL l 12) k = markB 1 ((k : Int) - (l.length : Int)) := by
  unfold lentL
  rw [bAt_get (by simp; omega), List.getElem_append_right h]
  simp only [List.getElem_map, List.getElem_range]
  rw [show ((k - l.length : Nat) : Int) = (k : Int) - (l.length : Int) by omega]
theorem len_append_int (l : Bytes) : (l.length : Int) + 12 = ((l.length + 12 : Nat) : Int) := by omega

set_option maxHeartbeats 1600000 in
theorem keptB_any (A : Option Addr) (g base cap c : Nat) (l : Bytes) (w : World) (h : RdB w A l) (ho : OwnB w base g cap (lentL l 12)) (hl : l.length ≤ 1000000) :
    Calls Try.prog 17 #[.slice (some ⟨g, 0, none⟩) l.length cap, .slice A l.length c] w fun e w' => e = .returned (.bool true) ∧ Same w w' := by
  have H := Lib.hid h
  have HO := Lib.hid ho
  have hcap : l.length + 12 ≤ cap := by
    obtain ⟨cur, _, _, h, _⟩ := ho.form
    rwa [len_lentL] at h
  have hm : cap ≤ 9223372036854775807 := by
    obtain ⟨cur, _, _, _, h, _⟩ := ho.form
    exact h
  clear h ho
  go_enter Try.func17, Try.ntmps17
  go_wp2
  go_loopw [6] (fun i wr => ∃ k : Nat, k ≤ l.length + 12 ∧ i = .int .i64 k ∧ Same w wr) (fun i _ => l.length + 12 - (intOf i).toNat)
  case atStart => exact ⟨0, Nat.zero_le _, rfl, Same.refl _⟩
  case round =>
    obtain ⟨k, hk, rfl, p, rfl⟩ := hrel
    by_cases hlt : k < l.length + 12
    · have c1 := HO.out.cellAt (i := k) (by rw [len_lentL]; exact hlt)
      have i0 : (0 : Int) ≤ (k : Int) := by omega
      have i1 : (k : Int) < (l.length : Int) + 12 := by omega
      by_cases hll : k < l.length
      · rw [bAt_lent1 hll] at c1
        obtain ⟨b', off', hA', c2⟩ := H.out.cell hll
        subst hA'
        have i2 : (k : Int) < (l.length : Int) := by omega
        have hd : decide (l.length ≤ k) = false := by simpa using hll
        go_wp2
        go_quiet (fail)
        go_wp2
        go_roundw
        case rel => exact ⟨k + 1, by omega, by go_num, _, rfl⟩
        case measure => simp [intOf]; omega
      · rw [bAt_lent2 (by omega) hlt] at c1
        have hd1 : decide (k < l.length) = false := by simpa using hll
        have hd2 : decide (l.length ≤ k) = true := by simpa using hll
        have HM := Lib.hid (fun wx => (markByte_any 1 ((k : Int) - (l.length : Int)) (by omega) (by omega) (by omega) (by omega) wx).mono (R' := fun e w' => e = .returned (.int .u8 (markB 1 ((k : Int) - (l.length : Int))).toNat) ∧ w' = wx) (fun _ _ ⟨h, h'⟩ => ⟨h, h'.symm⟩))
        go_wp2
        go_quiet (first | (go_at_call 46; exact (HM.out _).mono (fun _ _ h => ⟨h.1, _, h.2⟩)))
        go_wp2
        go_roundw
        case rel => exact ⟨k + 1, by omega, by go_num, _, rfl⟩
        case measure => simp [intOf]; omega
    · have hge : ¬ ((k : Int) < (l.length : Int) + 12) := by omega
      go_wp2
      go_ret
      exact ⟨rfl, _, rfl⟩

end Go.Proofs.Ytbolbddjmmfepaa
