/-
  No statement is proved here: contracts of page's Check, Count, Room, New and Get, and of bytes.Clone.
  No statement is proved here: 'copy' of bytes onto a row of the call's own.
-/
import Derived.Test.YtndflnedkpmpfaaGreatDoorPgt
import Derived.Lib.SliceRun
import Derived.Laws.CopyRow
import Derived.Laws.CopyOwn
namespace Go.Proofs.YtndflnedkpmpfaaGreatDoor
open Go.RowKit

section
variable (A : Option Addr) (c : Nat) (l : Bytes) (w : World)
theorem check_any (h : RdB w A l) (hl : l.length ≤ 1000000) (hc : l.length ≤ c) (hc2 : c ≤ 9223372036854775807) :
    Calls Tryz.prog 19 #[.slice A l.length c] w fun e w' => e = .returned (.bool (decide (0 < endM l))) ∧ Same w w' := by
  have HE := Lib.hid (end_any A c l w h hl hc hc2)
  generalize endM l = n at *
  clear h
  go_enter Tryz.func19, Tryz.ntmps19
  go_wp2_with (go_at_call 16; refine HE.out.mono ?_; rintro e wx ⟨rfl, hs⟩)
  go_ret
  exact ⟨ret_bool (by first | rfl | (rw [Bool.eq_iff_iff]; simp; done)), hs⟩
theorem room_any (h : RdB w A l) (hl : l.length ≤ 1000000) (hc : l.length ≤ c) (hc2 : c ≤ 9223372036854775807) (he : endM l ≤ l.length) :
    Calls Tryz.prog 6 #[.slice A l.length c] w fun e w' => e = .returned (.int .i64 (roomM l)) ∧ Same w w' := by
  have HE := Lib.hid (end_any A c l w h hl hc hc2)
  have HR := Lib.hid (show roomM l = if endM l = 0 then 0 else l.length - endM l from rfl)
  generalize endM l = n at *
  by_cases h0 : n = 0
  · subst h0
    clear h
    go_enter Tryz.func6, Tryz.ntmps6
    go_wp2_with (go_at_call 16; refine HE.out.mono ?_; rintro e wx ⟨rfl, hs⟩)
    go_ret
    exact ⟨ret_int (by rw [HR.out]; rfl), hs⟩
  · have hz : ((n : Int) == 0) = false := by rw [beq_eq_false_iff_ne]; omega
    clear h
    go_enter Tryz.func6, Tryz.ntmps6
    go_wp2_with (go_at_call 16; refine HE.out.mono ?_; rintro e wx ⟨rfl, hs⟩)
    go_ret
    exact ⟨ret_int (by rw [HR.out, if_neg h0]; omega), hs⟩
theorem endM_len {l : Bytes} (h : endM l ≠ 0) : l.length = 512 := by
  unfold endM at h
  split at h
  · exact absurd rfl h
  · omega
theorem endM_place {l : Bytes} (h : endM l ≠ 0) : placeM l (bAt l 1).toNat = endM l ∧ allZ (l.drop (endM l)) = true := by
  unfold endM at *
  split at h
  · exact absurd rfl h
  · rename_i h5
    rw [if_neg h5]
    split at h
    · exact absurd rfl h
    · rename_i h6
      rw [if_neg h6]
      split at h
      · rename_i h7; rw [if_pos h7]; exact ⟨rfl, h7⟩
      · exact absurd rfl h
theorem endM_le (l : Bytes) : endM l ≤ l.length := by
  by_cases h : endM l = 0
  · omega
  · rw [← (endM_place h).1]; exact placeM_le _ _ (by have := endM_len h; omega)
theorem placeM_zero {l : Bytes} {k : Nat} (h : placeM l k = 0) (j : Nat) : placeM l (k + j) = 0 := by
  induction j with
  | zero => exact h
  | succ j ih =>
    show (if placeM l (k + j) = 0 then 0 else _) = _
    rw [if_pos ih]
theorem placeM_ok {l : Bytes} (h : endM l ≠ 0) {k : Nat} (hk : k ≤ (bAt l 1).toNat) : placeM l k ≠ 0 := by
  intro e
  have := placeM_zero e ((bAt l 1).toNat - k)
  rw [show k + ((bAt l 1).toNat - k) = (bAt l 1).toNat by omega, (endM_place h).1] at this
  exact h this
theorem placeM_succ {l : Bytes} (h : endM l ≠ 0) {k : Nat} (hk : k < (bAt l 1).toNat) : placeM l (k + 1) = afterM l (placeM l k) ∧ placeM l k + 2 ≤ placeM l (k + 1) ∧ placeM l (k + 1) ≤ 512 := by
  have h1 := placeM_ok h (k := k) (by omega)
  have h2 := placeM_ok h (k := k + 1) (by omega)
  have e : placeM l (k + 1) = afterM l (placeM l k) := by
    show (if placeM l k = 0 then 0 else _) = _
    rw [if_neg h1]
  refine ⟨e, ?_, ?_⟩
  · rw [e] at h2 ⊢; exact afterM_ge _ _ h2
  · have := placeM_le l (k + 1) (by have := endM_len h; omega)
    have := endM_len h
    omega
theorem count_any (h : RdB w A l) (hl : l.length ≤ 1000000) (hc : l.length ≤ c) (hc2 : c ≤ 9223372036854775807) :
    Calls Tryz.prog 8 #[.slice A l.length c] w fun e w' => e = .returned (.int .i64 (countM l)) ∧ Same w w' := by
  have HC := Lib.hid (check_any A c l w h hl hc hc2)
  by_cases h0 : endM l = 0
  · have e : countM l = 0 := by unfold countM; rw [if_pos h0]
    have hd : decide (0 < endM l) = false := by rw [h0]; rfl
    rw [hd] at HC
    rw [e]
    clear h e h0 hd
    go_enter Tryz.func8, Tryz.ntmps8
    go_wp2_with (go_at_call 19; refine HC.out.mono ?_; rintro e wx ⟨rfl, hs⟩)
    go_ret
    exact ⟨rfl, hs⟩
  · have e : countM l = (bAt l 1).toNat := by unfold countM; rw [if_neg h0]
    have hd : decide (0 < endM l) = true := by rw [decide_eq_true_eq]; omega
    have h5 := endM_len h0
    rw [hd] at HC
    rw [e]
    obtain ⟨b, off, rfl, d1⟩ := h.cell (k := 1) (by omega)
    have hi1 : (1 : Int) < (l.length : Int) := by omega
    have hb1 := (bAt l 1).toNat_lt
    have hw : wrap64 ((bAt l 1).toNat : Int) = ((bAt l 1).toNat : Int) := by unfold wrap64; omega
    clear h e h0 hd h5
    go_enter Tryz.func8, Tryz.ntmps8
    go_wp2_with fail
    refine HC.out.mono ?_
    rintro e wx ⟨rfl, hs⟩
    have d1' := (World.cell?_of_block ((hs.kept (fun _ => False)).block b (block_lt_of_cell d1) id)).trans d1
    go_wp2
    go_ret
    exact ⟨rfl, hs⟩
end
theorem newP_any (k : UInt8) (w : World) : Calls Tryz.prog 4 #[.int .u8 k.toNat] w fun e w' => ∃ g, e = .returned (.slice (some ⟨g, 0, none⟩) 512 512) ∧ w.heap.size ≤ g ∧ w'.heap[g]? = some (.cells (cellsOf (newP k)) 5 (0, 0)) ∧ Kept (fun _ => False) w w' := by
  go_enter Tryz.func4, Tryz.ntmps4
  go_wp2_with (refine wl_makeB rfl _ _ rfl .i64 .i64 512 512 rfl rfl (Nat.le_refl _) (by decide) ?_)
  intro g w1 n1 m1 hb1 hk1
  have c0 := cell_bytes hb1 (i := 0) (by rw [len_zeros]; omega)
  have f0 := free_blk hb1 0
  have HB := Lib.hid hb1
  clear hb1
  go_wp2
  go_ret
  exact ⟨g, rfl, n1, set_bytes HB.out 0 k, hk1.setCell (p := ⟨g, 0, none⟩) (.inl n1) _⟩
set_option maxHeartbeats 400000 in
theorem clone_any (b off c : Nat) (l : Bytes) (w : World) (h : RdB w (some ⟨b, off, none⟩) l) (hl : l.length ≤ 1000000) :
    Calls Tryz.prog 29 #[.slice (some ⟨b, off, none⟩) l.length c] w fun e w' => ∃ g cap, e = .returned (.slice (some ⟨g, 0, none⟩) l.length cap) ∧ OwnB w' w.heap.size g cap l ∧ Kept (fun _ => False) w w' := by
  have q22 : ∀ (w : World) (a : Option Addr) (n c n' c' : Nat), (binOp .eql 22 (.slice a n c) (.slice none n' c')).run Tryz.prog w = .ok (.bool a.isNone) w := fun w a n c n' c' => Lib.run_eql_slice_nil w _ _ a n c n' c' Tryz.underlying22
  have H := Lib.hid h
  clear h
  go_enter Tryz.func29, Tryz.ntmps29
  go_wp2_with (refine wl_buildSlice0 rfl 22 5 rfl Tryz.underlying22 (by kernel_rfl) ?_)
  intro g1 w1 n1 m1 hb1 hk1
  have HO1 := Lib.hid (show OwnB w1 w.heap.size g1 0 [] from ⟨rfl, .inr ⟨g1, 0, #[], rfl, n1, hb1, Nat.le_refl _, by decide, rfl, rfl⟩⟩)
  have HR1 := Lib.hid (H.out.kept hk1 (fun _ _ _ _ => id))
  have HK1 := Lib.hid hk1
  have s1 := hk1.size
  clear hb1 hk1
  go_wp2_with (at_builtin; refine wl_appendB rfl _ _ rfl w.heap.size g1 0 [] l rfl HO1.out (some ⟨b, off, none⟩) c rfl HR1.out (by simp; omega) s1 ?_)
  intro g2 cap2 w2 ho2 hk2 hat2 m2
  have HO2 := Lib.hid (show OwnB w2 w.heap.size g2 cap2 l from by simpa using ho2)
  have HK2 := Lib.hid (HK1.out.new hk2 (by rintro x rfl; exact n1))
  clear ho2 hk2 hat2
  go_wp2
  go_ret
  refine ⟨g2, cap2, ?_, HO2.out, HK2.out⟩
  first | rfl | (simp; done) | (congr 2; omega)
theorem countM_ok {l : Bytes} (h : endM l ≠ 0) : countM l = (bAt l 1).toNat := by unfold countM; rw [if_neg h]
theorem OwnB.same {w w3 w4 : World} {g cap : Nat} {x : Bytes} (h : Same w w3) (ho : OwnB w4 w3.heap.size g cap x) : OwnB w4 w.heap.size g cap x := by rw [h.heap] at ho; exact ho
set_option maxRecDepth 100000 in
set_option maxHeartbeats 1000000 in
theorem get_any (b off c : Nat) (l : Bytes) (w : World) (h : RdB w (some ⟨b, off, none⟩) l) (hl : l.length ≤ 1000000) (hc : l.length ≤ c) (hc2 : c ≤ 9223372036854775807) (s : Int) :
    Calls Tryz.prog 22 #[.slice (some ⟨b, off, none⟩) l.length c, .int .i64 s] w fun e w' => Kept (fun _ => False) w w' ∧
      ((getM l s = none ∧ e = .returned (.tuple #[.slice none 0 0, .bool false])) ∨ ∃ g cap x, getM l s = some x ∧ e = .returned (.tuple #[.slice (some ⟨g, 0, none⟩) x.length cap, .bool true]) ∧ OwnB w' w.heap.size g cap x) := by
  have HC := Lib.hid (count_any (some ⟨b, off, none⟩) c l w h hl hc hc2)
  by_cases hb : s < 0 ∨ (countM l : Int) ≤ s
  · have HG := Lib.hid (show getM l s = none from by unfold getM; rw [if_pos hb])
    generalize countM l = n at *
    clear h
    by_cases h0 : s < 0
    · clear hb
      go_enter Tryz.func22, Tryz.ntmps22
      go_wp2
      go_ret2
      exact ⟨Kept.refl _ _, .inl ⟨HG.out, rfl⟩⟩
    · have h1 : (n : Int) ≤ s := by omega
      clear hb
      go_enter Tryz.func22, Tryz.ntmps22
      go_wp2_with (go_at_call 8; refine HC.out.mono ?_; rintro e wx ⟨rfl, hs⟩)
      go_ret2
      exact ⟨hs.kept _, .inl ⟨HG.out, rfl⟩⟩
  · have hE : endM l ≠ 0 := by intro e; apply hb; unfold countM; rw [if_pos e]; omega
    have hcn := countM_ok hE
    obtain ⟨k, rfl⟩ : ∃ k : Nat, s = (k : Int) := ⟨s.toNat, by omega⟩
    have hk : k < (bAt l 1).toNat := by omega
    obtain ⟨hs1, hs2, hs3⟩ := placeM_succ hE hk
    have h5 := endM_len hE
    have HG := Lib.hid (show getM l k = some ((l.take (placeM l (k + 1))).drop (placeM l k + 2)) from by unfold getM; rw [if_neg hb, hs1]; simp)
    have H := Lib.hid h
    have hb1 := (bAt l 1).toNat_lt
    have HF := Lib.hid (fun w' (hs : Same w w') => find_any (some ⟨b, off, none⟩) c l w' (h.kept (hs.kept (fun _ => False)) (fun _ _ _ _ => id)) hl (by omega) (k : Int) (by omega))
    rw [Int.toNat_natCast] at HF
    have HA := Lib.hid (fun w' (hs : Same w w') => after_any (some ⟨b, off, none⟩) c l w' (h.kept (hs.kept (fun _ => False)) (fun _ _ _ _ => id)) hl (placeM l k) (by omega))
    rw [← hs1] at HA
    have h1 : ¬ (countM l : Int) ≤ (k : Int) := by omega
    have h0 : ¬ (k : Int) < 0 := by omega
    have j1 : ((placeM l k : Nat) : Int) + 2 ≤ ((placeM l (k + 1) : Nat) : Int) := by omega
    have j2 : ((placeM l (k + 1) : Nat) : Int) ≤ (c : Int) := by omega
    have j3 : (placeM l (k + 1)) ≤ c := by omega
    have j4 : placeM l k + 2 ≤ placeM l (k + 1) := hs2
    have j5 : placeM l (k + 1) ≤ 1000000 := by omega
    have hlen : ((l.take (placeM l (k + 1))).drop (placeM l k + 2)).length = placeM l (k + 1) - (placeM l k + 2) := by rw [List.length_drop, List.length_take]; omega
    have HLN := Lib.hid hlen
    have HRX := Lib.hid (h.take (placeM l (k + 1)))
    generalize placeM l (k + 1) = p2 at *
    generalize placeM l k = p1 at *
    generalize countM l = n at *
    clear h hb hcn hs1 hs2 hs3 hk hE h5
    obtain ⟨x, hx⟩ : ∃ x, x = (l.take p2).drop (p1 + 2) := ⟨_, rfl⟩
    rw [← hx] at hlen HLN HG
    have HRD := Lib.hid (show RdB w (some ⟨b, off + (p1 + 2), none⟩) x from by rw [hx]; exact HRX.out.drop _)
    clear hx HRX
    by_cases hcc : c = p1 + 2
    case' pos =>
      have hx0 : x.length = 0 := by omega
      have HCL := Lib.hid (fun w' (hs : Same w w') => by
        have := clone_any b off 0 x w' (fun hne => absurd (List.eq_nil_of_length_eq_zero hx0) hne) (by omega)
        rw [hx0] at this
        exact this)
      subst hcc
      obtain rfl : p2 = p1 + 2 := by omega
      have HLN := Lib.hid hx0
      clear hx0 hlen j5
    case' neg =>
      have HCL := Lib.hid (fun w' (hs : Same w w') => by
        have := clone_any b (off + (p1 + 2)) (c - (p1 + 2)) x w' (HRD.out.kept (hs.kept (fun _ => False)) (fun _ _ _ _ => id)) (by omega)
        rw [hlen] at this
        exact this)
      have hcc2 : ¬ p1 + 2 = c := fun e => hcc e.symm
      clear hlen
    all_goals
      go_enter Tryz.func22, Tryz.ntmps22
      go_wp2_with fail
      refine HC.out.mono ?_
      rintro e wx ⟨rfl, hs⟩
      have S1 := Lib.hid hs
      clear hs
      go_wp2_with fail
      refine (HF.out _ S1.out).mono ?_
      rintro e w2 ⟨rfl, hs⟩
      have S2 := Lib.hid (S1.out.trans hs)
      clear hs
      go_wp2_with fail
      refine (HA.out _ S2.out).mono ?_
      rintro e w3 ⟨rfl, hs⟩
      have S3 := Lib.hid (S2.out.trans hs)
      clear hs
      go_wp2_with fail
      refine (HCL.out _ S3.out).mono ?_
      rintro e w4 ⟨g, cap, rfl, ho, hk4⟩
      have HO := Lib.hid ho
      have HK4 := Lib.hid hk4
      clear ho hk4
      go_wp2
      go_ret2
      exact ⟨(S3.out.kept _).trans0 HK4.out, .inr ⟨g, cap, x, HG.out, by rw [HLN.out]; rfl, OwnB.same S3.out HO.out⟩⟩
end Go.Proofs.YtndflnedkpmpfaaGreatDoor
namespace Go.Proofs.YtndflnedkpmpfaaGreatDoor
open Go.RowKit

theorem over_len {l m : Bytes} {i : Nat} (h : i ≤ l.length) : (over l i m).length = l.length := by
  unfold over
  simp
  omega
theorem splice_take {α : Type} {cur X Y : List α} {L i : Nat} (h : cur.take L = X) (hL : L ≤ cur.length) (hi : i + Y.length ≤ L) : (cur.take i ++ Y ++ cur.drop (i + Y.length)).take L = X.take i ++ Y ++ X.drop (i + Y.length) := by
  subst h
  rw [List.take_append, List.take_of_length_le (by simp; omega)]
  rw [List.take_take, Nat.min_eq_left (by omega), List.drop_take]
  congr 2
  simp
  omega
theorem run_copyB {w : World} {base g cap : Nat} {l : Bytes} (h : OwnB w base g cap l) (i : Nat) (hi : i ≤ l.length) (D S : Option Addr) (hD : i < l.length → D = some ⟨g, i, none⟩) (m : Bytes) (hS : RdB w S m) (dc sc : Nat) (ty : TypeId) :
    ∃ (n : Nat) (w' : World), (Builtin.copy_ #[22, 22] ty #[.slice D (l.length - i) dc, .slice S m.length sc]).run Tryz.prog w = .ok (goInt n) w' ∧ n = Nat.min m.length (l.length - i) ∧ OwnB w' base g cap (over l i m) ∧ Kept (fun x => x = g) w w' := by
  have hsz : ((Tryz.prog).info? 5).map (·.size) = some 1 := by kernel_rfl
  by_cases h0 : Nat.min m.length (l.length - i) = 0
  · refine ⟨0, w, by simpa using run_copy_none (P := Tryz.prog) w 22 22 ty 5 D S (l.length - i) dc m.length sc Tryz.underlying22 hsz h0, h0.symm, ?_, Kept.refl _ _⟩
    have e : over l i m = l := by
      unfold over
      have : m.take (l.length - i) = [] := by
        apply List.eq_nil_of_length_eq_zero
        rw [List.length_take]
        have h0' : min m.length (l.length - i) = 0 := h0
        omega
      rw [this]; simp
    rw [e]; exact h
  · have h0' : ¬ min m.length (l.length - i) = 0 := h0
    have hil : i < l.length := by omega
    obtain rfl := hD hil
    obtain ⟨b, off, rfl, hc⟩ := hS (fun e => by subst e; exact h0' (by simp))
    obtain ⟨cur, hb, hh, h1, h2, h3, h4⟩ := h.form
    have hcl : (cellsOf (m.take (l.length - i))).toList.length = Nat.min m.length (l.length - i) := by
      rw [cellsOf_len, List.length_take]; exact Nat.min_comm _ _
    have hcl' : (cellsOf (m.take (l.length - i))).toList.length = min m.length (l.length - i) := hcl
    have hr := run_copy_row (P := Tryz.prog) w 22 22 ty 5 g i (l.length - i) dc ⟨b, off, none⟩ m.length sc cur 5 (cellsOf (m.take (l.length - i))).toList Tryz.underlying22 hsz hh hcl
      (fun j v hv => by
        rw [Addr.add_mid]
        refine hc j v ?_
        rw [Array.getElem?_toList, cellsOf_get, List.getElem?_take] at hv
        rw [cellsOf_get]
        split at hv
        · exact hv
        · simp at hv) (by omega) (fun u hu => (Array.all_eq_true_iff_forall_mem.1 (one_cellsOf _)) u (by simpa using hu))
    refine ⟨_, _, hr, hcl, ?_, (Kept.refl (fun x => x = g) w).setRow (.inr rfl) _⟩
    have hlo : (over l i m).length = l.length := over_len hi
    unfold OwnB
    rw [hlo]
    refine ⟨by rw [cellsOf_len, hlo, Nat.mul_one], .inr ⟨g, cap, _, rfl, hb, setRow_heap w g cur _ 5 (0, 0) hh, h1, h2, ?_, ?_⟩⟩
    · simp [size_cellsOf]; omega
    · rw [Nat.mul_one]
      have := splice_take (cur := cur.toList) (Y := (cellsOf (m.take (l.length - i))).toList) (i := i) h4 (by simp; omega) (by omega)
      simp only [List.toList_toArray]
      rw [this]
      unfold over
      simp [cellsOf]
theorem wl_copyB {w : World} {ops : Array Oper} {rest : List Oper} {o : Oper} {a : Act} {Q : Exit → Act → World → Prop} (hgd : o.guard = none) (d s : Operand)
    (ho : o.op = .call { callee := .builtin .copy, args := #[d, s], argTypes := #[22, 22] }) {base g cap : Nat} {l : Bytes} (h : OwnB w base g cap l) (i : Nat) (hi : i ≤ l.length) (D S : Option Addr) (hD : i < l.length → D = some ⟨g, i, none⟩) (m : Bytes) (hS : RdB w S m) (dc sc : Nat)
    (hd : a.eval d = .slice D (l.length - i) dc) (hs : a.eval s = .slice S m.length sc)
    (k : ∀ n w', n = Nat.min m.length (l.length - i) → OwnB w' base g cap (over l i m) → Kept (fun x => x = g) w w' → wpList Tryz.prog ops Q rest (a.put o.dst (goInt n)) w') : wpList Tryz.prog ops Q (o :: rest) a w := by
  obtain ⟨n, w', hr, hn, h2, h3⟩ := run_copyB h i hi D S hD m hS dc sc o.type
  refine wpList_plain hgd fun K hK => ?_
  unfold Oper.wp
  simp [execOp, ho, resolve, invoke, builtin, hd, hs, hr, Result.andThen]
  exact hK _ _ (k n w' hn h2 h3)
theorem step_copyB {ops : Array Oper} {o : Oper} {a : Act} {w : World} {K : Act → World → Prop} {Q : Exit → Act → World → Prop} {E : Prop} (hgd : o.guard = none) (d s : Operand)
    (ho : o.op = .call { callee := .builtin .copy, args := #[d, s], argTypes := #[22, 22] }) {base g cap : Nat} {l : Bytes} (h : OwnB w base g cap l) (i : Nat) (hi : i ≤ l.length) (D S : Option Addr) (hD : i < l.length → D = some ⟨g, i, none⟩) (m : Bytes) (hS : RdB w S m) (dc sc : Nat)
    (hd : a.eval d = .slice D (l.length - i) dc) (hs : a.eval s = .slice S m.length sc)
    (k : ∀ n w', n = Nat.min m.length (l.length - i) → OwnB w' base g cap (over l i m) → Kept (fun x => x = g) w w' → K (a.put o.dst (goInt n)) w') : if Region.wanted o (yielded ops a.tmps) = true then Oper.wp Tryz.prog o a w K Q else E := by
  obtain ⟨n, w', hr, hn, h2, h3⟩ := run_copyB h i hi D S hD m hS dc sc o.type
  rw [if_pos (by simp [Region.wanted, hgd])]
  unfold Oper.wp
  simp [execOp, ho, resolve, invoke, builtin, hd, hs, hr, Result.andThen]
  exact k n w' hn h2 h3
end Go.Proofs.YtndflnedkpmpfaaGreatDoor
