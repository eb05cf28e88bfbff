/-
  No statement is proved here: contracts of page's Check, Count, Room, New and Get, and of bytes.Clone.
-/
import Derived.Test.YtndflnedkpmpfaaDoorPgt
import Derived.Lib.SliceRun
namespace Go.Proofs.YtndflnedkpmpfaaDoor
open Go.RowKit

section
variable (A : Option Addr) (c : Nat) (l : Bytes) (w : World)
theorem check_any (h : RdB w A l) (hl : l.length ≤ 1000000) (hc : l.length ≤ c) (hc2 : c ≤ 9223372036854775807) :
    Calls Tryd.prog 28 #[.slice A l.length c] w fun e w' => e = .returned (.bool (decide (0 < endM l))) ∧ Same w w' := by
  have HE := Lib.hid (end_any A c l w h hl hc hc2)
  generalize endM l = n at *
  clear h
  go_enter Tryd.func28, Tryd.ntmps28
  go_wp2_with (go_at_call 52; refine HE.out.mono ?_; rintro e wx ⟨rfl, hs⟩)
  go_ret
  exact ⟨ret_bool (by first | rfl | (rw [Bool.eq_iff_iff]; simp; done)), hs⟩
theorem room_any (h : RdB w A l) (hl : l.length ≤ 1000000) (hc : l.length ≤ c) (hc2 : c ≤ 9223372036854775807) (he : endM l ≤ l.length) :
    Calls Tryd.prog 31 #[.slice A l.length c] w fun e w' => e = .returned (.int .i64 (roomM l)) ∧ Same w w' := by
  have HE := Lib.hid (end_any A c l w h hl hc hc2)
  have HR := Lib.hid (show roomM l = if endM l = 0 then 0 else l.length - endM l from rfl)
  generalize endM l = n at *
  by_cases h0 : n = 0
  · subst h0
    clear h
    go_enter Tryd.func31, Tryd.ntmps31
    go_wp2_with (go_at_call 52; refine HE.out.mono ?_; rintro e wx ⟨rfl, hs⟩)
    go_ret
    exact ⟨ret_int (by rw [HR.out]; rfl), hs⟩
  · have hz : ((n : Int) == 0) = false := by rw [beq_eq_false_iff_ne]; omega
    clear h
    go_enter Tryd.func31, Tryd.ntmps31
    go_wp2_with (go_at_call 52; refine HE.out.mono ?_; rintro e wx ⟨rfl, hs⟩)
    go_ret
    exact ⟨ret_int (by rw [HR.out, if_neg h0]; omega), hs⟩
theorem endM_len {l : Bytes} (h : endM l ≠ 0) : l.length = 512 := by
  unfold endM at h
  split at h
  · exact absurd rfl h
  · omega
theorem endM_place {l : Bytes} (h : endM l ≠ 0) : placeM l (bAt l 1).toNat = endM l ∧ allZ (l.drop (endM l)) = true := by
  unfold endM at *
  split at h
  · exact absurd rfl h
  · rename_i h5
    rw [if_neg h5]
    split at h
    · exact absurd rfl h
    · rename_i h6
      rw [if_neg h6]
      split at h
      · rename_i h7; rw [if_pos h7]; exact ⟨rfl, h7⟩
      · exact absurd rfl h
theorem endM_le (l : Bytes) : endM l ≤ l.length := by
  by_cases h : endM l = 0
  · omega
  · rw [← (endM_place h).1]; exact placeM_le _ _ (by have := endM_len h; omega)
theorem placeM_zero {l : Bytes} {k : Nat} (h : placeM l k = 0) (j : Nat) : placeM l (k + j) = 0 := by
  induction j with
  | zero => exact h
  | succ j ih =>
    show (if placeM l (k + j) = 0 then 0 else _) = _
    rw [if_pos ih]
theorem placeM_ok {l : Bytes} (h : endM l ≠ 0) {k : Nat} (hk : k ≤ (bAt l 1).toNat) : placeM l k ≠ 0 := by
  intro e
  have := placeM_zero e ((bAt l 1).toNat - k)
  rw [show k + ((bAt l 1).toNat - k) = (bAt l 1).toNat by omega, (endM_place h).1] at this
  exact h this
theorem placeM_succ {l : Bytes} (h : endM l ≠ 0) {k : Nat} (hk : k < (bAt l 1).toNat) : placeM l (k + 1) = afterM l (placeM l k) ∧ placeM l k + 2 ≤ placeM l (k + 1) ∧ placeM l (k + 1) ≤ 512 := by
  have h1 := placeM_ok h (k := k) (by omega)
  have h2 := placeM_ok h (k := k + 1) (by omega)
  have e : placeM l (k + 1) = afterM l (placeM l k) := by
    show (if placeM l k = 0 then 0 else _) = _
    rw [if_neg h1]
  refine ⟨e, ?_, ?_⟩
  · rw [e] at h2 ⊢; exact afterM_ge _ _ h2
  · have := placeM_le l (k + 1) (by have := endM_len h; omega)
    have := endM_len h
    omega
theorem count_any (h : RdB w A l) (hl : l.length ≤ 1000000) (hc : l.length ≤ c) (hc2 : c ≤ 9223372036854775807) :
    Calls Tryd.prog 30 #[.slice A l.length c] w fun e w' => e = .returned (.int .i64 (countM l)) ∧ Same w w' := by
  have HC := Lib.hid (check_any A c l w h hl hc hc2)
  by_cases h0 : endM l = 0
  · have e : countM l = 0 := by unfold countM; rw [if_pos h0]
    have hd : decide (0 < endM l) = false := by rw [h0]; rfl
    rw [hd] at HC
    rw [e]
    clear h e h0 hd
    go_enter Tryd.func30, Tryd.ntmps30
    go_wp2_with (go_at_call 28; refine HC.out.mono ?_; rintro e wx ⟨rfl, hs⟩)
    go_ret
    exact ⟨rfl, hs⟩
  · have e : countM l = (bAt l 1).toNat := by unfold countM; rw [if_neg h0]
    have hd : decide (0 < endM l) = true := by rw [decide_eq_true_eq]; omega
    have h5 := endM_len h0
    rw [hd] at HC
    rw [e]
    obtain ⟨b, off, rfl, d1⟩ := h.cell (k := 1) (by omega)
    have hi1 : (1 : Int) < (l.length : Int) := by omega
    have hb1 := (bAt l 1).toNat_lt
    have hw : wrap64 ((bAt l 1).toNat : Int) = ((bAt l 1).toNat : Int) := by unfold wrap64; omega
    clear h e h0 hd h5
    go_enter Tryd.func30, Tryd.ntmps30
    go_wp2_with fail
    refine HC.out.mono ?_
    rintro e wx ⟨rfl, hs⟩
    have d1' := (World.cell?_of_block ((hs.kept (fun _ => False)).block b (block_lt_of_cell d1) id)).trans d1
    go_wp2
    go_ret
    exact ⟨rfl, hs⟩
end
theorem newP_any (k : UInt8) (w : World) : Calls Tryd.prog 21 #[.int .u8 k.toNat] w fun e w' => ∃ g, e = .returned (.slice (some ⟨g, 0, none⟩) 512 512) ∧ w.heap.size ≤ g ∧ w'.heap[g]? = some (.cells (cellsOf (newP k)) 5 (0, 0)) ∧ Kept (fun _ => False) w w' := by
  go_enter Tryd.func21, Tryd.ntmps21
  go_wp2_with (refine wl_makeB rfl _ _ rfl .i64 .i64 512 512 rfl rfl (Nat.le_refl _) (by decide) ?_)
  intro g w1 n1 m1 hb1 hk1
  have c0 := cell_bytes hb1 (i := 0) (by rw [len_zeros]; omega)
  have f0 := free_blk hb1 0
  have HB := Lib.hid hb1
  clear hb1
  go_wp2
  go_ret
  exact ⟨g, rfl, n1, set_bytes HB.out 0 k, hk1.setCell (p := ⟨g, 0, none⟩) (.inl n1) _⟩
set_option maxHeartbeats 400000 in
theorem clone_any (b off c : Nat) (l : Bytes) (w : World) (h : RdB w (some ⟨b, off, none⟩) l) (hl : l.length ≤ 1000000) :
    Calls Tryd.prog 41 #[.slice (some ⟨b, off, none⟩) l.length c] w fun e w' => ∃ g cap, e = .returned (.slice (some ⟨g, 0, none⟩) l.length cap) ∧ OwnB w' w.heap.size g cap l ∧ Kept (fun _ => False) w w' := by
  have q22 : ∀ (w : World) (a : Option Addr) (n c n' c' : Nat), (binOp .eql 22 (.slice a n c) (.slice none n' c')).run Tryd.prog w = .ok (.bool a.isNone) w := fun w a n c n' c' => Lib.run_eql_slice_nil w _ _ a n c n' c' Tryd.underlying22
  have H := Lib.hid h
  clear h
  go_enter Tryd.func41, Tryd.ntmps41
  go_wp2_with (refine wl_buildSlice0 rfl 22 5 rfl Tryd.underlying22 (by kernel_rfl) ?_)
  intro g1 w1 n1 m1 hb1 hk1
  have HO1 := Lib.hid (show OwnB w1 w.heap.size g1 0 [] from ⟨rfl, .inr ⟨g1, 0, #[], rfl, n1, hb1, Nat.le_refl _, by decide, rfl, rfl⟩⟩)
  have HR1 := Lib.hid (H.out.kept hk1 (fun _ _ _ _ => id))
  have HK1 := Lib.hid hk1
  have s1 := hk1.size
  clear hb1 hk1
  go_wp2_with (at_builtin; refine wl_appendB rfl _ _ rfl w.heap.size g1 0 [] l rfl HO1.out (some ⟨b, off, none⟩) c rfl HR1.out (by simp; omega) s1 ?_)
  intro g2 cap2 w2 ho2 hk2 hat2 m2
  have HO2 := Lib.hid (show OwnB w2 w.heap.size g2 cap2 l from by simpa using ho2)
  have HK2 := Lib.hid (HK1.out.new hk2 (by rintro x rfl; exact n1))
  clear ho2 hk2 hat2
  go_wp2
  go_ret
  refine ⟨g2, cap2, ?_, HO2.out, HK2.out⟩
  first | rfl | (simp; done) | (congr 2; omega)
theorem countM_ok {l : Bytes} (h : endM l ≠ 0) : countM l = (bAt l 1).toNat := by unfold countM; rw [if_neg h]
theorem OwnB.same {w w3 w4 : World} {g cap : Nat} {x : Bytes} (h : Same w w3) (ho : OwnB w4 w3.heap.size g cap x) : OwnB w4 w.heap.size g cap x := by rw [h.heap] at ho; exact ho
set_option maxRecDepth 100000 in
set_option maxHeartbeats 1000000 in
theorem get_any (b off c : Nat) (l : Bytes) (w : World) (h : RdB w (some ⟨b, off, none⟩) l) (hl : l.length ≤ 1000000) (hc : l.length ≤ c) (hc2 : c ≤ 9223372036854775807) (s : Int) :
    Calls Tryd.prog 11 #[.slice (some ⟨b, off, none⟩) l.length c, .int .i64 s] w fun e w' => Kept (fun _ => False) w w' ∧
      ((getM l s = none ∧ e = .returned (.tuple #[.slice none 0 0, .bool false])) ∨ ∃ g cap x, getM l s = some x ∧ e = .returned (.tuple #[.slice (some ⟨g, 0, none⟩) x.length cap, .bool true]) ∧ OwnB w' w.heap.size g cap x) := by
  have HC := Lib.hid (count_any (some ⟨b, off, none⟩) c l w h hl hc hc2)
  by_cases hb : s < 0 ∨ (countM l : Int) ≤ s
  · have HG := Lib.hid (show getM l s = none from by unfold getM; rw [if_pos hb])
    generalize countM l = n at *
    clear h
    by_cases h0 : s < 0
    · clear hb
      go_enter Tryd.func11, Tryd.ntmps11
      go_wp2
      go_ret2
      exact ⟨Kept.refl _ _, .inl ⟨HG.out, rfl⟩⟩
    · have h1 : (n : Int) ≤ s := by omega
      clear hb
      go_enter Tryd.func11, Tryd.ntmps11
      go_wp2_with (go_at_call 30; refine HC.out.mono ?_; rintro e wx ⟨rfl, hs⟩)
      go_ret2
      exact ⟨hs.kept _, .inl ⟨HG.out, rfl⟩⟩
  · have hE : endM l ≠ 0 := by intro e; apply hb; unfold countM; rw [if_pos e]; omega
    have hcn := countM_ok hE
    obtain ⟨k, rfl⟩ : ∃ k : Nat, s = (k : Int) := ⟨s.toNat, by omega⟩
    have hk : k < (bAt l 1).toNat := by omega
    obtain ⟨hs1, hs2, hs3⟩ := placeM_succ hE hk
    have h5 := endM_len hE
    have HG := Lib.hid (show getM l k = some ((l.take (placeM l (k + 1))).drop (placeM l k + 2)) from by unfold getM; rw [if_neg hb, hs1]; simp)
    have H := Lib.hid h
    have hb1 := (bAt l 1).toNat_lt
    have HF := Lib.hid (fun w' (hs : Same w w') => find_any (some ⟨b, off, none⟩) c l w' (h.kept (hs.kept (fun _ => False)) (fun _ _ _ _ => id)) hl (by omega) (k : Int) (by omega))
    rw [Int.toNat_natCast] at HF
    have HA := Lib.hid (fun w' (hs : Same w w') => after_any (some ⟨b, off, none⟩) c l w' (h.kept (hs.kept (fun _ => False)) (fun _ _ _ _ => id)) hl (placeM l k) (by omega))
    rw [← hs1] at HA
    have h1 : ¬ (countM l : Int) ≤ (k : Int) := by omega
    have h0 : ¬ (k : Int) < 0 := by omega
    have j1 : ((placeM l k : Nat) : Int) + 2 ≤ ((placeM l (k + 1) : Nat) : Int) := by omega
    have j2 : ((placeM l (k + 1) : Nat) : Int) ≤ (c : Int) := by omega
    have j3 : (placeM l (k + 1)) ≤ c := by omega
    have j4 : placeM l k + 2 ≤ placeM l (k + 1) := hs2
    have j5 : placeM l (k + 1) ≤ 1000000 := by omega
    have hlen : ((l.take (placeM l (k + 1))).drop (placeM l k + 2)).length = placeM l (k + 1) - (placeM l k + 2) := by rw [List.length_drop, List.length_take]; omega
    have HLN := Lib.hid hlen
    have HRX := Lib.hid (h.take (placeM l (k + 1)))
    generalize placeM l (k + 1) = p2 at *
    generalize placeM l k = p1 at *
    generalize countM l = n at *
    clear h hb hcn hs1 hs2 hs3 hk hE h5
    obtain ⟨x, hx⟩ : ∃ x, x = (l.take p2).drop (p1 + 2) := ⟨_, rfl⟩
    rw [← hx] at hlen HLN HG
    have HRD := Lib.hid (show RdB w (some ⟨b, off + (p1 + 2), none⟩) x from by rw [hx]; exact HRX.out.drop _)
    clear hx HRX
    by_cases hcc : c = p1 + 2
    case' pos =>
      have hx0 : x.length = 0 := by omega
      have HCL := Lib.hid (fun w' (hs : Same w w') => by
        have := clone_any b off 0 x w' (fun hne => absurd (List.eq_nil_of_length_eq_zero hx0) hne) (by omega)
        rw [hx0] at this
        exact this)
      subst hcc
      obtain rfl : p2 = p1 + 2 := by omega
      have HLN := Lib.hid hx0
      clear hx0 hlen j5
    case' neg =>
      have HCL := Lib.hid (fun w' (hs : Same w w') => by
        have := clone_any b (off + (p1 + 2)) (c - (p1 + 2)) x w' (HRD.out.kept (hs.kept (fun _ => False)) (fun _ _ _ _ => id)) (by omega)
        rw [hlen] at this
        exact this)
      have hcc2 : ¬ p1 + 2 = c := fun e => hcc e.symm
      clear hlen
    all_goals
      go_enter Tryd.func11, Tryd.ntmps11
      go_wp2_with fail
      refine HC.out.mono ?_
      rintro e wx ⟨rfl, hs⟩
      have S1 := Lib.hid hs
      clear hs
      go_wp2_with fail
      refine (HF.out _ S1.out).mono ?_
      rintro e w2 ⟨rfl, hs⟩
      have S2 := Lib.hid (S1.out.trans hs)
      clear hs
      go_wp2_with fail
      refine (HA.out _ S2.out).mono ?_
      rintro e w3 ⟨rfl, hs⟩
      have S3 := Lib.hid (S2.out.trans hs)
      clear hs
      go_wp2_with fail
      refine (HCL.out _ S3.out).mono ?_
      rintro e w4 ⟨g, cap, rfl, ho, hk4⟩
      have HO := Lib.hid ho
      have HK4 := Lib.hid hk4
      clear ho hk4
      go_wp2
      go_ret2
      exact ⟨(S3.out.kept _).trans0 HK4.out, .inr ⟨g, cap, x, HG.out, by rw [HLN.out]; rfl, OwnB.same S3.out HO.out⟩⟩
end Go.Proofs.YtndflnedkpmpfaaDoor
