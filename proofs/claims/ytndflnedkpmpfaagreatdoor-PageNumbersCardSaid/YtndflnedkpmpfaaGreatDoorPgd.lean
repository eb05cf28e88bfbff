/-
  No statement is proved here: contracts of page's SetNext and Delete.
  No statement is proved here: the contract of page's Delete.
-/
import Derived.Test.YtndflnedkpmpfaaGreatDoorApz
import Derived.Deep.RegionHeld3
namespace Go.Proofs.YtndflnedkpmpfaaGreatDoor
open Go.RowKit

theorem run_copyN {w : World} {base g cap : Nat} {l : Bytes} (h : OwnB w base g cap l) (i dn : Nat) (hi : i + dn ≤ l.length) (D S : Option Addr) (hD : 0 < dn → D = some ⟨g, i, none⟩) (m : Bytes) (hm : m.length ≤ dn) (hS : RdB w S m) (dc sc : Nat) (ty : TypeId) :
    ∃ (n : Nat) (w' : World), (Builtin.copy_ #[22, 22] ty #[.slice D dn dc, .slice S m.length sc]).run Tryz.prog w = .ok (goInt n) w' ∧ n = m.length ∧ OwnB w' base g cap (over l i m) ∧ Kept (fun x => x = g) w w' := by
  have hsz : ((Tryz.prog).info? 5).map (·.size) = some 1 := by kernel_rfl
  by_cases h0 : m.length = 0
  · have hmn : m = [] := List.eq_nil_of_length_eq_zero h0
    subst hmn
    refine ⟨0, w, by simpa using run_copy_none (P := Tryz.prog) w 22 22 ty 5 D S dn dc 0 sc Tryz.underlying22 hsz (by simp), rfl, ?_, Kept.refl _ _⟩
    have e : over l i [] = l := by simp [over]
    rw [e]; exact h
  · obtain rfl := hD (by omega)
    obtain ⟨b, off, rfl, hc⟩ := hS (fun e => by subst e; exact h0 rfl)
    obtain ⟨cur, hb, hh, h1, h2, h3, h4⟩ := h.form
    have hmin : Nat.min m.length dn = m.length := Nat.min_eq_left hm
    have hcl : (cellsOf m).toList.length = Nat.min m.length dn := by rw [cellsOf_len, hmin]
    have hml : (cellsOf m).toList.length = m.length := cellsOf_len m
    have hr := run_copy_row (P := Tryz.prog) w 22 22 ty 5 g i dn dc ⟨b, off, none⟩ m.length sc cur 5 (cellsOf m).toList Tryz.underlying22 hsz hh hcl
      (fun j v hv => by
        rw [Addr.add_mid]
        exact hc j v (by rwa [Array.getElem?_toList] at hv)) (by omega) (fun u hu => (Array.all_eq_true_iff_forall_mem.1 (one_cellsOf _)) u (by simpa using hu))
    refine ⟨_, _, hr, hml, ?_, (Kept.refl (fun x => x = g) w).setRow (.inr rfl) _⟩
    have hov : over l i m = l.take i ++ m ++ l.drop (i + m.length) := by
      have e : m.take (l.length - i) = m := List.take_of_length_le (by omega)
      unfold over
      rw [e]
    have hlo : (over l i m).length = l.length := over_len (by omega)
    unfold OwnB
    rw [hlo]
    refine ⟨by rw [cellsOf_len, hlo, Nat.mul_one], .inr ⟨g, cap, _, rfl, hb, setRow_heap w g cur _ 5 (0, 0) hh, h1, h2, ?_, ?_⟩⟩
    · simp [size_cellsOf]; omega
    · rw [Nat.mul_one]
      have := splice_take (cur := cur.toList) (Y := (cellsOf m).toList) (i := i) h4 (by simp; omega) (by omega)
      simp only [List.toList_toArray]
      rw [this, hov]
      simp [cellsOf]
theorem be4_cells {x : Int} (h0 : 0 ≤ x) (h1 : x < 4294967296) : cellsOf (be4 x.toNat) = #[.int .u8 (x / 16777216), .int .u8 (x / 65536 % 256), .int .u8 (x / 256 % 256), .int .u8 (x % 256)] := by
  have e : ∀ (v : Nat) (u : Int), u = (v : Int) % 256 → ((UInt8.ofNat v).toNat : Int) = u := fun v u h => by
    rw [UInt8.toNat_ofNat', h]; omega
  simp only [cellsOf, be4, List.map_cons, List.map_nil]
  rw [e (x.toNat / 16777216) (x / 16777216) (by omega), e (x.toNat / 65536) (x / 65536 % 256) (by omega), e (x.toNat / 256) (x / 256 % 256) (by omega), e x.toNat (x % 256) (by omega)]
set_option maxRecDepth 100000 in
set_option maxHeartbeats 1000000 in
theorem setNext_any (base g cap : Nat) (l : Bytes) (x : Int) (w : World) (h : OwnB w base g cap l) (hl : l.length ≤ 1000000) :
    Calls Tryz.prog 9 #[.slice (some ⟨g, 0, none⟩) l.length cap, .int .i64 x] w fun e w' => e = .returned (.bool (setNextM l x).1) ∧ OwnB w' base g cap (setNextM l x).2 ∧ Kept (fun x => x = g) w w' := by
  have hcp : l.length ≤ cap ∧ cap ≤ 9223372036854775807 := by
    obtain ⟨cur, -, -, h1, h2, -⟩ := h.form
    exact ⟨h1, h2⟩
  obtain ⟨p1, p2⟩ := hcp
  have HC := Lib.hid (check_any (some ⟨g, 0, none⟩) cap l w h.rdp hl p1 p2)
  have HO := Lib.hid h
  clear h
  by_cases h0 : endM l = 0
  · have hd : decide (0 < endM l) = false := by rw [h0]; rfl
    rw [hd] at HC
    have HE := Lib.hid (show setNextM l x = (false, l) from by unfold setNextM; rw [if_pos (.inl h0)])
    clear h0 hd
    go_enter Tryz.func9, Tryz.ntmps9
    go_wp2_with (go_at_call 19; refine HC.out.mono ?_; rintro e wx ⟨rfl, hs⟩)
    go_ret
    exact ⟨by rw [HE.out]; rfl, by rw [HE.out]; exact HO.out.kept (hs.kept _), hs.kept _⟩
  · have hd : decide (0 < endM l) = true := by rw [decide_eq_true_eq]; omega
    rw [hd] at HC
    have h5 := endM_len h0
    by_cases hx : x < 0 ∨ 4294967296 ≤ x
    · have HE := Lib.hid (show setNextM l x = (false, l) from by unfold setNextM; rw [if_pos (.inr hx)])
      clear h0 hd h5
      by_cases h1 : x < 0
      · clear hx
        go_enter Tryz.func9, Tryz.ntmps9
        go_wp2_with (go_at_call 19; refine HC.out.mono ?_; rintro e wx ⟨rfl, hs⟩)
        go_ret
        exact ⟨by rw [HE.out]; rfl, by rw [HE.out]; exact HO.out.kept (hs.kept _), hs.kept _⟩
      · have h2 : 4294967296 ≤ x := by omega
        clear hx
        go_enter Tryz.func9, Tryz.ntmps9
        go_wp2_with (go_at_call 19; refine HC.out.mono ?_; rintro e wx ⟨rfl, hs⟩)
        go_ret
        exact ⟨by rw [HE.out]; rfl, by rw [HE.out]; exact HO.out.kept (hs.kept _), hs.kept _⟩
    · have HE := Lib.hid (show setNextM l x = (true, over l 2 (be4 x.toNat)) from by unfold setNextM; rw [if_neg (by omega)])
      have h1 : ¬ x < 0 := by omega
      have h2 : ¬ 4294967296 ≤ x := by omega
      have h3 : (6 : Int) ≤ (cap : Int) := by omega
      have h6 : ¬ cap = 2 := by omega
      have HL := Lib.hid h5
      clear h0 hd h5 hx
      go_enter Tryz.func9, Tryz.ntmps9
      go_wp2_with fail
      refine HC.out.mono ?_
      rintro e wx ⟨rfl, hs⟩
      have HS := Lib.hid hs
      clear hs
      have ka := (Kept.refl (fun _ => False) wx).alloc (.cells #[.int .u8 (x / 16777216), .int .u8 (x / 65536 % 256), .int .u8 (x / 256 % 256), .int .u8 (x % 256)] 5)
      have kk := (HS.out.kept (fun _ => False)).trans0 ka
      obtain ⟨nn, w3, hr, -, ho3, hk3⟩ := run_copyN (HO.out.kept kk) 2 4 (by rw [HL.out]; omega) (some ⟨g, 2, none⟩) (some ⟨wx.heap.size, 0, none⟩) (fun _ => rfl) (be4 x.toNat) (Nat.le_refl 4) (RdB.of_blk (by rw [be4_cells (by omega) (by omega)]; exact heap_alloc_new wx (.cells #[.int .u8 (x / 16777216), .int .u8 (x / 65536 % 256), .int .u8 (x / 256 % 256), .int .u8 (x % 256)] 5))) (cap - 2) 4 3
      have hbl : (be4 x.toNat).length = 4 := rfl
      rw [hbl] at hr
      have HO3 := Lib.hid ho3
      have HK3 := Lib.hid ((kk.mono (T := fun x => x = g) (fun _ _ h => h.elim)).trans' hk3)
      clear ka kk ho3 hk3 hbl
      go_wp2
      go_ret
      exact ⟨by rw [HE.out]; rfl, by rw [HE.out]; exact HO3.out, HK3.out⟩
end Go.Proofs.YtndflnedkpmpfaaGreatDoor
namespace Go.Proofs.YtndflnedkpmpfaaGreatDoor
open Go.RowKit

theorem u8_dec (x : UInt8) : ((x.toNat : Int) - 1) % 256 = ((x - 1).toNat : Int) := by
  rw [UInt8.toNat_sub]
  have := x.toNat_lt
  show _ = (((2 ^ 8 - 1 + x.toNat) % 2 ^ 8 : Nat) : Int)
  omega
theorem run_clearC {w : World} {base g cap : Nat} {l : Bytes} (h : OwnB w base g cap l) (o n c : Nat) (hl : o + n ≤ l.length) (D : Option Addr) (hD : 0 < n → D = some ⟨g, o, none⟩) :
    ∃ w', (∀ ty, (Builtin.clear_ #[22] ty #[.slice D n c]).run Tryz.prog w = .ok (.tuple #[]) w') ∧ OwnB w' base g cap (over l o (zeros n)) ∧ Kept (fun x => x = g) w w' := by
  by_cases h0 : n = 0
  · subst h0
    have e : over l o (zeros 0) = l := by simp [over, zeros]
    rw [e]
    refine ⟨w, fun ty => ?_, h, Kept.refl _ _⟩
    cases D <;> simp [Builtin.clear_, run_underlying Tryz.underlying22]
  · have hp : 0 < n := by omega
    obtain ⟨h2, h3⟩ := h.setz n o hl
    rw [hD hp]
    refine ⟨_, fun ty => Lib.run_clear_slice w 22 5 ty (.int .u8 0) Tryz.underlying22 zeroU8 rfl rfl g o n c hp (fun j hj => ?_) (fun j hj => ?_), h2, h3⟩
    · rw [h.cellAt (i := o + j) (by omega)]; rfl
    · have := h; unfold OwnB at this; exact this.frozenAt (o + j)
set_option maxRecDepth 100000 in
set_option maxHeartbeats 2000000 in
theorem delete_any (base g cap : Nat) (l : Bytes) (s : Int) (w : World) (h : OwnB w base g cap l) (hl : l.length ≤ 1000000) :
    Calls Tryz.prog 7 #[.slice (some ⟨g, 0, none⟩) l.length cap, .int .i64 s] w fun e w' => e = .returned (.bool (deleteM l s).1) ∧ OwnB w' base g cap (deleteM l s).2 ∧ Kept (fun x => x = g) w w' := by
  have hcap : l.length ≤ cap ∧ cap ≤ 9223372036854775807 := by obtain ⟨cur, _, _, h1, h2, _⟩ := h.form; exact ⟨h1, h2⟩
  obtain ⟨p1, p2⟩ := hcap
  have HC := Lib.hid (count_any (some ⟨g, 0, none⟩) cap l w h.rdp hl p1 p2)
  have HO := Lib.hid h
  by_cases hs : s < 0 ∨ (countM l : Int) ≤ s
  · have HE := Lib.hid (show deleteM l s = (false, l) from by unfold deleteM; rw [if_pos hs])
    generalize countM l = n at *
    clear h
    by_cases h0 : s < 0
    · clear hs
      go_enter Tryz.func7, Tryz.ntmps7
      go_wp2
      go_ret
      exact ⟨by rw [HE.out]; rfl, by rw [HE.out]; exact HO.out, Kept.refl _ _⟩
    · have h1 : (n : Int) ≤ s := by omega
      clear hs
      go_enter Tryz.func7, Tryz.ntmps7
      go_wp2_with (go_at_call 8; refine HC.out.mono ?_; rintro e wx ⟨rfl, hs⟩)
      go_ret
      exact ⟨by rw [HE.out]; rfl, by rw [HE.out]; exact HO.out.kept (hs.kept _), hs.kept _⟩
  · have hEn : endM l ≠ 0 := by intro e; apply hs; unfold countM; rw [if_pos e]; omega
    have hcn := countM_ok hEn
    obtain ⟨i, rfl⟩ : ∃ i : Nat, s = (i : Int) := ⟨s.toNat, by omega⟩
    have hi : i < (bAt l 1).toNat := by omega
    obtain ⟨hs1, hs2, hs3⟩ := placeM_succ hEn hi
    obtain ⟨hm1, -⟩ := placeM_mono hEn (show i + 1 ≤ (bAt l 1).toNat by omega)
    obtain ⟨-, hm2⟩ := placeM_mono hEn (show i ≤ (bAt l 1).toNat by omega)
    have h5 := endM_len hEn
    have hel := endM_le l
    have hb1 := (bAt l 1).toNat_lt
    have HE := Lib.hid (show deleteM l i = (true, (del2 l (placeM l i) (placeM l (i + 1))).set 1 (bAt (del2 l (placeM l i) (placeM l (i + 1))) 1 - 1)) from by unfold deleteM; rw [if_neg hs, Int.toNat_natCast, ← hs1])
    have HEND := Lib.hid (fun wz (hz : Same w wz) => end_any (some ⟨g, 0, none⟩) cap l wz (h.rdp.kept (hz.kept (fun _ => False)) (fun _ _ _ _ => id)) hl p1 p2)
    have HF := Lib.hid (fun wz (hz : Same w wz) => find_any (some ⟨g, 0, none⟩) cap l wz (h.rdp.kept (hz.kept (fun _ => False)) (fun _ _ _ _ => id)) hl (by omega) (i : Int) (by omega))
    rw [Int.toNat_natCast] at HF
    have HAF := Lib.hid (fun wz (hz : Same w wz) => after_any (some ⟨g, 0, none⟩) cap l wz (h.rdp.kept (hz.kept (fun _ => False)) (fun _ _ _ _ => id)) hl (placeM l i) (by omega))
    rw [← hs1] at HAF
    have hD := del2_len hel (show placeM l i ≤ placeM l (i + 1) by omega) hm1
    have HDL := Lib.hid hD
    have HD1 := Lib.hid (show del1 l (placeM l i) (placeM l (i + 1)) = over l (placeM l i) ((l.take (endM l)).drop (placeM l (i + 1))) from rfl)
    have HD2 := Lib.hid (show del2 l (placeM l i) (placeM l (i + 1)) = over (del1 l (placeM l i) (placeM l (i + 1))) (placeM l i + (endM l - placeM l (i + 1))) (zeros (endM l - (placeM l i + (endM l - placeM l (i + 1))))) from rfl)
    have h0 : ¬ (i : Int) < 0 := by omega
    have h1 : ¬ (countM l : Int) ≤ (i : Int) := by omega
    have HL := Lib.hid h5
    have h512 : l.length ≤ 512 := by omega
    have h512' : 512 ≤ l.length := by omega
    generalize hbb : placeM l (i + 1) = b at *
    generalize haa : placeM l i = a at *
    generalize hee : endM l = el at *
    generalize countM l = n at *
    generalize del1 l a b = d1 at *
    generalize del2 l a b = d2 at *
    have k0 : (0 : Int) ≤ (a : Int) := by omega
    have k1 : (a : Int) ≤ (cap : Int) := by omega
    have k2 : ¬ cap = a := by omega
    have k3 : (a : Int) ≤ (l.length : Int) := by omega
    have k4 : (b : Int) ≤ (el : Int) := by omega
    have k5 : (el : Int) ≤ (cap : Int) := by omega
    have k6 : (0 : Int) ≤ (b : Int) := by omega
    have k7 : b ≤ el := by omega
    have k8 : el ≤ cap := by omega
    have k9 : a ≤ l.length := by omega
    obtain ⟨r, hr⟩ : ∃ r, r = el - b := ⟨_, rfl⟩
    have HRR := Lib.hid hr
    obtain ⟨m, hm⟩ : ∃ m, m = (l.take el).drop b := ⟨_, rfl⟩
    have hml : m.length = r := by rw [hm, List.length_drop, List.length_take]; omega
    rw [← hm] at HD1
    have HM := Lib.hid hm
    have HML := Lib.hid hml
    have HRB := Lib.hid (fun (wz : World) (hz : Same w wz) (A : Option Addr) (hA : ¬ cap = b → A = some ⟨g, b, none⟩) => show RdB wz A m from by
      by_cases hcb : cap = b
      · intro hne
        exfalso
        apply hne
        apply List.eq_nil_of_length_eq_zero
        rw [HML.out, HRR.out]; omega
      · rw [hA hcb, HM.out]
        have := ((h.rdp.kept (hz.kept (fun _ => False)) (fun _ _ _ _ => id)).take el).drop b
        rwa [Nat.zero_add] at this)
    obtain ⟨q, hq⟩ : ∃ q, q = a + r := ⟨_, rfl⟩
    have wq : IntKind.i64.wrap ((a : Int) + (r : Int)) = (q : Int) := by rw [hq, IntKind.wrap_i64] <;> omega
    have q1 : (q : Int) ≤ (el : Int) := by omega
    have q2 : q ≤ el := by omega
    have q3 : ¬ cap = q := by omega
    have q4 : (0 : Int) ≤ (q : Int) := by omega
    have HQ := Lib.hid hq
    have hi1 : (1 : Int) < (l.length : Int) := by omega
    have hal : a < b := by omega
    clear h hs hEn hcn hs1 hs2 hs3 hm1 hm2 h5 hb1 hD hi hbb haa hee hm hml hq hr
    by_cases h7 : cap = b
    · have h8 := h7.symm
      clear h7
      subst h8
      go_enter Tryz.func7, Tryz.ntmps7
      go_wp2_with fail
      refine HC.out.mono ?_
      rintro e u1 ⟨rfl, hs⟩
      have S1 := Lib.hid hs
      clear hs
      go_wp2_with fail
      refine (HEND.out _ S1.out).mono ?_
      rintro e u2 ⟨rfl, hs⟩
      have S2 := Lib.hid (S1.out.trans hs)
      clear hs
      go_wp2_with fail
      refine (HF.out _ S2.out).mono ?_
      rintro e u3 ⟨rfl, hs⟩
      have S3 := Lib.hid (S2.out.trans hs)
      clear hs
      go_wp2
      go_region_held3 (fun _ => True)
        (first | exact trivial)
        (first
          | (go_at_call 18; refine (HAF.out _ (S3.out.drew)).mono ?_
             rintro e u4 ⟨rfl, hs4⟩
             have S4 := Lib.hid ((S3.out.drew).trans hs4)
             have HO4 := Lib.hid (HO.out.kept (S4.out.kept _))
             clear hs4)
          | (refine step_copyB rfl _ _ (by rfl) HO4.out a k9 _ _ (fun _ => rfl) m (HRB.out _ S4.out _ (fun h => (h trivial).elim)) _ _ (by rfl) (by first | (rw [HML.out, HRR.out]; rfl) | (rw [HML.out, show r = 0 by have := HRR.out; omega]; rfl)) ?_
             intro n5 w5 hn5 ho5 hk5))
      have hmn : Nat.min m.length (l.length - a) = r := by rw [HML.out]; exact Nat.min_eq_left (by have := HRR.out; omega)
      simp only [hmn]
      have ho5' : OwnB w5 base g b d1 := by rw [HD1.out]; exact ho5
      have hdl1 : d1.length = l.length := HDL.out.1
      obtain ⟨w6, hr6, ho6, hk6⟩ := run_clearC ho5' q (el - q) (b - q) (by omega) (some ⟨g, q, none⟩) (fun _ => rfl)
      have ho6' : OwnB w6 base g b d2 := by rw [HD2.out, ← HRR.out, ← HQ.out]; exact ho6
      have hdl2 : d2.length = l.length := HDL.out.2
      have c1 := ho6'.cellAt (i := 1) (by omega)
      have f1 : w6.frozen? ⟨g, 1, none⟩ = false := by have := ho6'; unfold OwnB at this; exact this.frozenAt 1
      have HO6 := Lib.hid ho6'
      have HK6 := Lib.hid (((S4.out.kept (fun x => x = g)).trans' hk5).trans' hk6)
      have hdec := u8_dec (bAt d2 1)
      have HDC := Lib.hid hdec
      clear hn5 ho5 hk5 ho5' hdl1 ho6 ho6' hk6 hdl2 hmn
      go_wp2
      go_ret
      refine ⟨?_, ?_, HK6.out.trans' (Kept.cell w6 g 1 _)⟩
      · rw [HE.out]; rfl
      · rw [HE.out]
        have := HO6.out.set 1 (bAt d2 1 - 1)
        exact this
    · skip
      go_enter Tryz.func7, Tryz.ntmps7
      go_wp2_with fail
      refine HC.out.mono ?_
      rintro e u1 ⟨rfl, hs⟩
      have S1 := Lib.hid hs
      clear hs
      go_wp2_with fail
      refine (HEND.out _ S1.out).mono ?_
      rintro e u2 ⟨rfl, hs⟩
      have S2 := Lib.hid (S1.out.trans hs)
      clear hs
      go_wp2_with fail
      refine (HF.out _ S2.out).mono ?_
      rintro e u3 ⟨rfl, hs⟩
      have S3 := Lib.hid (S2.out.trans hs)
      clear hs
      go_wp2
      go_region_held3 (fun _ => True)
        (first | exact trivial)
        (first
          | (go_at_call 18; refine (HAF.out _ (S3.out.drew)).mono ?_
             rintro e u4 ⟨rfl, hs4⟩
             have S4 := Lib.hid ((S3.out.drew).trans hs4)
             have HO4 := Lib.hid (HO.out.kept (S4.out.kept _))
             clear hs4)
          | (refine step_copyB rfl _ _ (by rfl) HO4.out a k9 _ _ (fun _ => rfl) m (HRB.out _ S4.out _ (by first | exact fun _ => rfl | exact fun h => (h rfl).elim | exact fun h => (h trivial).elim)) _ _ (by rfl) (by first | (rw [HML.out, HRR.out]; rfl) | (rw [HML.out, show r = 0 by have := HRR.out; omega]; rfl)) ?_
             intro n5 w5 hn5 ho5 hk5))
      have hmn : Nat.min m.length (l.length - a) = r := by rw [HML.out]; exact Nat.min_eq_left (by have := HRR.out; omega)
      simp only [hmn]
      have ho5' : OwnB w5 base g cap d1 := by rw [HD1.out]; exact ho5
      have hdl1 : d1.length = l.length := HDL.out.1
      obtain ⟨w6, hr6, ho6, hk6⟩ := run_clearC ho5' q (el - q) (cap - q) (by omega) (some ⟨g, q, none⟩) (fun _ => rfl)
      have ho6' : OwnB w6 base g cap d2 := by rw [HD2.out, ← HRR.out, ← HQ.out]; exact ho6
      have hdl2 : d2.length = l.length := HDL.out.2
      have c1 := ho6'.cellAt (i := 1) (by omega)
      have f1 : w6.frozen? ⟨g, 1, none⟩ = false := by have := ho6'; unfold OwnB at this; exact this.frozenAt 1
      have HO6 := Lib.hid ho6'
      have HK6 := Lib.hid (((S4.out.kept (fun x => x = g)).trans' hk5).trans' hk6)
      have hdec := u8_dec (bAt d2 1)
      have HDC := Lib.hid hdec
      clear hn5 ho5 hk5 ho5' hdl1 ho6 ho6' hk6 hdl2 hmn
      go_wp2
      go_ret
      refine ⟨?_, ?_, HK6.out.trans' (Kept.cell w6 g 1 _)⟩
      · rw [HE.out]; rfl
      · rw [HE.out]
        have := HO6.out.set 1 (bAt d2 1 - 1)
        exact this
end Go.Proofs.YtndflnedkpmpfaaGreatDoor
