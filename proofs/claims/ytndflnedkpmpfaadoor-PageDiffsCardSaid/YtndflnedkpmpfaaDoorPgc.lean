/-
  No statement is proved here: contracts of page's functions that read.
-/
import Derived.Test.YtndflnedkpmpfaaDoorPgm
import Derived.Test.YtndflnedkpmpfaaDoorApp
namespace Go.Proofs.YtndflnedkpmpfaaDoor
open Go.RowKit

set_option maxHeartbeats 1000000 in
theorem after_any (A : Option Addr) (c : Nat) (l : Bytes) (w : World) (h : RdB w A l) (hl : l.length ≤ 1000000) (a : Nat) (ha : a ≤ 1000000) :
    Calls Tryd.prog 42 #[.slice A l.length c, .int .i64 a] w fun e w' => e = .returned (.int .i64 (afterM l a)) ∧ Same w w' := by
  by_cases h1 : l.length < a + 2
  · have e : afterM l a = 0 := by unfold afterM; rw [if_pos h1]
    rw [e]
    have i1 : (l.length : Int) < (a : Int) + 2 := by omega
    clear e h h1
    go_enter Tryd.func42, Tryd.ntmps42
    go_wp2
    go_ret
    exact ⟨rfl, Same.refl _⟩
  · obtain ⟨b, off, rfl, d0⟩ := h.cell (k := a) (by omega)
    obtain ⟨b', off', e', d1⟩ := h.cell (k := a + 1) (by omega)
    cases e'
    have HE := Lib.hid (show afterM l a = if l.length < a + 2 + be2 l a then 0 else a + 2 + be2 l a from by unfold afterM; rw [if_neg h1])
    have i1 : ¬ (l.length : Int) < (a : Int) + 2 := by omega
    have i2 : (a : Int) < (l.length : Int) := by omega
    have i3 : (a : Int) + 1 < (l.length : Int) := by omega
    have i0 : (0 : Int) ≤ (a : Int) := by omega
    have HB2 := Lib.hid (show be2 l a = (bAt l a).toNat * 256 + (bAt l (a + 1)).toNat from rfl)
    have hbe := be_bits (bAt l a) (bAt l (a + 1)) (a : Int) (by omega) (by omega)
    rw [← HB2.out] at hbe
    generalize be2 l a = n2 at *
    generalize bAt l a = x0 at *
    generalize bAt l (a + 1) = x1 at *
    clear h h1
    go_enter Tryd.func42, Tryd.ntmps42
    go_wp2
    go_quiet (fail)
    go_wp2
    · go_ret
      refine ⟨ret_int ?_, _, rfl⟩
      rw [HE.out, if_pos (by omega)]
      rfl
    · go_ret
      refine ⟨ret_int ?_, _, rfl⟩
      rw [HE.out, if_neg (by omega)]
      omega
/-- p[i:], as bytes. -/
theorem RdB.drop {w : World} {b off : Nat} {l : Bytes} (h : RdB w (some ⟨b, off, none⟩) l) (i : Nat) : RdB w (some ⟨b, off + i, none⟩) (l.drop i) := by
  intro hne
  have hl : l ≠ [] := by rintro rfl; simp at hne
  obtain ⟨b', off', e, hc⟩ := h hl
  cases e
  refine ⟨b, off + i, rfl, fun j u hu => ?_⟩
  rw [cellsOf_get, List.getElem?_drop] at hu
  have := hc (i + j) u (by rw [cellsOf_get]; exact hu)
  rw [Nat.add_assoc]
  exact this
theorem RdB.take {w : World} {A : Option Addr} {l : Bytes} (h : RdB w A l) (n : Nat) : RdB w A (l.take n) := by
  intro hne
  obtain ⟨b, off, e, hc⟩ := h (by rintro rfl; simp at hne)
  refine ⟨b, off, e, fun j u hu => hc j u ?_⟩
  rw [cellsOf_get, List.getElem?_take] at hu
  split at hu
  · rw [cellsOf_get]; exact hu
  · simp at hu
set_option maxHeartbeats 1000000 in
theorem find_any (A : Option Addr) (c : Nat) (l : Bytes) (w : World) (h : RdB w A l) (hl : l.length ≤ 1000000) (h6 : 6 ≤ l.length) (s : Int) (hs : s ≤ 1000000) :
    Calls Tryd.prog 40 #[.slice A l.length c, .int .i64 s] w fun e w' => e = .returned (.int .i64 (placeM l s.toNat)) ∧ Same w w' := by
  have H := Lib.hid h
  clear h
  go_enter Tryd.func40, Tryd.ntmps40
  go_wp2
  go_loopw [5, 7] (fun a i wr => ∃ k : Nat, k ≤ s.toNat ∧ i = .int .i64 k ∧ a = .int .i64 (placeM l k) ∧ placeM l k ≠ 0 ∧ Same w wr) (fun a i _ => s.toNat - (intOf i).toNat)
  case atStart => exact ⟨0, Nat.zero_le _, rfl, rfl, (show (6 : Nat) ≠ 0 by decide), Same.refl _⟩
  case round =>
    obtain ⟨k, hk, rfl, rfl, hp, hsm⟩ := hrel
    have HS := Lib.hid hsm
    have HP := Lib.hid hp
    by_cases hlt : (k : Int) < s
    · have ha := after_any A c l wr (H.out.kept (hsm.kept (fun _ => False)) (fun _ _ _ _ => id)) hl (placeM l k) (by have := placeM_le l k h6; omega)
      have HA := Lib.hid ha
      have hsucc : placeM l (k + 1) = afterM l (placeM l k) := by
        show (if placeM l k = 0 then 0 else _) = _
        rw [if_neg hp]
      have HSC := Lib.hid hsucc
      clear ha hsucc hp hsm
      generalize placeM l k = pk at *
      have hz : ((afterM l pk : Int) == 0) = decide (afterM l pk = 0) := by
        rw [Bool.eq_iff_iff]; simp
      cases hd : decide (afterM l pk = 0)
      · rw [hd] at hz
        have HD := Lib.hid hd
        clear hd
        go_wp2_with (go_at_call 42; refine HA.out.mono ?_; rintro e wx ⟨rfl, hsx⟩)
        go_roundw
        case rel => exact ⟨k + 1, by omega, by go_num, by rw [HSC.out], by rw [HSC.out]; simpa using HD.out, HS.out.trans hsx⟩
        case measure => simp [intOf]; omega
      · rw [hd] at hz
        have HD := Lib.hid hd
        clear hd
        go_wp2_with (go_at_call 42; refine HA.out.mono ?_; rintro e wx ⟨rfl, hsx⟩)
        go_ret
        refine ⟨ret_int ?_, HS.out.trans hsx⟩
        have h0 : placeM l (k + 1) = 0 := by rw [HSC.out]; simpa using HD.out
        have hmono : ∀ j, placeM l (k + 1 + j) = 0 := by
          intro j
          induction j with
          | zero => exact h0
          | succ j ih =>
            show (if placeM l (k + 1 + j) = 0 then 0 else _) = _
            rw [if_pos ih]
        have := hmono (s.toNat - (k + 1))
        rw [show k + 1 + (s.toNat - (k + 1)) = s.toNat by omega] at this
        rw [this]
        rfl
    · have hge : ¬ ((k : Int) < s) := hlt
      clear hp hsm
      go_wp2
      go_ret
      rw [show s.toNat = k by omega]
      exact ⟨rfl, HS.out⟩
end Go.Proofs.YtndflnedkpmpfaaDoor
