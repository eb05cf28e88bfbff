/-
  No statement is proved here: contracts of the verifier's small functions: Pick, SameBytes, full.
-/
import Derived.Test.YtbolbddjmmfepaaBytes
namespace Go.Proofs.Ytbolbddjmmfepaa
open Go.RowKit

def pickM (x n : Int) : Int := if n < 1 then 0 else x % n
theorem pickM_lt {x n : Int} (h : 1 ≤ n) : 0 ≤ pickM x n ∧ pickM x n < n := by
  unfold pickM; rw [if_neg (by omega)]
  exact ⟨Int.emod_nonneg _ (by omega), Int.emod_lt_of_pos _ (by omega)⟩
theorem pick_any (x n : Int) (hn : n ≤ 9223372036854775807) (w : World) :
    Calls Try.prog 20 #[.int .i64 x, .int .i64 n] w fun e w' => e = .returned (.int .i64 (pickM x n)) ∧ w = w' := by
  by_cases h : n < 1
  · have e : pickM x n = 0 := by simp [pickM, h]
    rw [e]
    clear e
    go_enter Try.func20, Try.ntmps20
    go_wp2
    go_ret
    exact ⟨rfl, rfl⟩
  · have e : pickM x n = x % n := by simp [pickM, h]
    rw [e]
    have t1 : x.tmod n < n := Int.tmod_lt_of_pos x (by omega)
    have t2 : -n < x.tmod n := by
      have := Int.tmod_lt_of_pos (-x) (b := n) (by omega)
      rw [Int.neg_tmod] at this
      omega
    have t3 := Lib.hid (Int.tmod_eq_emod (a := x) (b := n))
    have t4 := Int.emod_nonneg x (show n ≠ 0 by omega)
    have t5 := Int.emod_lt_of_pos x (show 0 < n by omega)
    clear e
    go_enter Try.func20, Try.ntmps20
    go_wp2
    · go_ret
      refine ⟨?_, rfl⟩
      have h3 := t3.out
      split at h3
      · exfalso; omega
      · exact ret_int (by omega)
    · go_ret
      refine ⟨?_, rfl⟩
      have h3 := t3.out
      split at h3
      · exact ret_int (by omega)
      · exact ret_int (by omega)

set_option maxHeartbeats 400000 in
theorem same_any (A A' : Option Addr) (c c' : Nat) (l l' : Bytes) (w : World) (h : RdB w A l) (h' : RdB w A' l') (hl : l.length ≤ 4611686018427387904) :
    Calls Try.prog 14 #[.slice A l.length c, .slice A' l'.length c'] w fun e w' => e = .returned (.bool (decide (l = l'))) ∧ Same w w' := by
  by_cases hn : l.length = l'.length
  · have H := Lib.hid h; have H' := Lib.hid h'
    have HN := Lib.hid hn
    have hne : ((l.length : Int) != (l'.length : Int)) = false := by simp [hn]
    clear h h' hn
    go_enter Try.func14, Try.ntmps14
    go_wp2
    go_loopw [5] (fun i wr => ∃ k : Nat, k ≤ l.length ∧ i = .int .i64 k ∧ l.take k = l'.take k ∧ Same w wr) (fun i _ => l.length - (intOf i).toNat)
    case atStart => exact ⟨0, Nat.zero_le _, rfl, by simp, Same.refl _⟩
    case round =>
      obtain ⟨k, hk, rfl, htk, q, rfl⟩ := hrel
      have HT := Lib.hid htk
      clear htk
      by_cases hlt : k < l.length
      · have hlt' : k < l'.length := by rw [← HN.out]; exact hlt
        obtain ⟨b, off, hA, hc⟩ := H.out.cell hlt
        obtain ⟨b', off', hA', hc'⟩ := H'.out.cell hlt'
        subst hA; subst hA'
        have i0 : (0 : Int) ≤ (k : Int) := by omega
        have i1 : (k : Int) < (l.length : Int) := by omega
        have i2 : (k : Int) < (l'.length : Int) := by omega
        by_cases he : bAt l k = bAt l' k
        · have HS := Lib.hid (take_eq_succ hlt hlt' HT.out he)
          have hb : (((bAt l k).toNat : Int) != ((bAt l' k).toNat : Int)) = false := by simp [he]
          clear he
          go_wp2
          go_quiet (fail)
          go_wp2
          go_roundw
          case rel => exact ⟨k + 1, by omega, by go_num, HS.out, _, rfl⟩
          case measure => simp [intOf]; omega
        · have hd : decide (l = l') = false := by
            rw [decide_eq_false_iff_not]; rintro rfl; exact he rfl
          have HD := Lib.hid hd
          have hb : (((bAt l k).toNat : Int) != ((bAt l' k).toNat : Int)) = true := by
            rw [bne_iff_ne]; intro e; exact he (UInt8.toNat_inj.1 (by omega))
          clear he hd
          go_wp2
          go_quiet (fail)
          go_wp2
          go_ret
          exact ⟨ret_bool HD.out.symm, (Same.refl _).drewN _ |>.trans (by first | exact Same.refl _ | exact ⟨_, rfl⟩)⟩
      · have hd : decide (l = l') = true := by
          rw [decide_eq_true_eq]
          have := HT.out
          rwa [List.take_of_length_le (by omega), List.take_of_length_le (by have := HN.out; omega)] at this
        have HD := Lib.hid hd
        have hge : ¬ ((k : Int) < (l.length : Int)) := by omega
        clear hd
        go_wp2
        go_ret
        exact ⟨ret_bool HD.out.symm, (Same.refl _).drewN _ |>.trans (by first | exact Same.refl _ | exact ⟨_, rfl⟩)⟩
  · have hd : decide (l = l') = false := by rw [decide_eq_false_iff_not]; rintro rfl; exact hn rfl
    rw [hd]
    have hne : ((l.length : Int) != (l'.length : Int)) = true := by rw [bne_iff_ne]; omega
    clear h h' hn hd
    go_enter Try.func14, Try.ntmps14
    go_wp2
    go_ret
    exact ⟨rfl, Same.refl _⟩
end Go.Proofs.Ytbolbddjmmfepaa
