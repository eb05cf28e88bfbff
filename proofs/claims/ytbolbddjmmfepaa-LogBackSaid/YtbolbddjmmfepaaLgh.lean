/-
  No statement is proved here: 'bytes' of log: those of a stretch, out of the device and out of memory.
-/
import Derived.Test.YtbolbddjmmfepaaLgg
import Derived.Deep.CutBlock
namespace Go.Proofs.Ytbolbddjmmfepaa
open Go.RowKit

theorem stretch_len (D : DevM) (F C : Int) (n : Nat) (hC : 4 ≤ C) (hl : ∀ k, (D.latest k).length = 512) : ∀ (f : Nat) (a : Int) (l : Bytes), n < f + l.length → (stretchM D F C n f a l).2 = 0 → (stretchM D F C n f a l).1.length = n := by
  intro f
  induction f with
  | zero => intro a l h _; show (l.take n).length = n; rw [List.length_take]; omega
  | succ f ih =>
    intro a l h h2
    unfold stretchM at h2 ⊢
    by_cases hn : n ≤ l.length
    · rw [if_pos hn]; show (l.take n).length = n; rw [List.length_take]; omega
    · rw [if_neg hn] at h2 ⊢
      by_cases hm : D.mayE (secB F C a) ≠ 0
      · rw [if_pos hm] at h2
        exact absurd h2 hm
      · rw [if_neg hm] at h2 ⊢
        refine ih _ _ ?_ h2
        have h3 := secP_len D F C a (hl _) hC
        have h4 := secF_in (a := a)
        rw [List.length_append, List.length_drop, h3]
        omega
/-- What a log's rows must be for its bytes to be read. -/
structure LogB (L : LogM) : Prop where
  fe : L.fin = L.beg + L.tail.length
  b0 : 1 ≤ L.beg
  bs : L.beg ≤ 3000000000000000000
set_option maxRecDepth 100000 in
set_option maxHeartbeats 1600000 in
theorem bytes_any (w : World) (q p ms mo : Nat) (lv tv : Value) (L : LogM) (D : DevM) (h : LogS w q p ms mo lv tv L D) (hok : LogOk L) (hb : LogB L) (a : Int) (n : Nat) (h1 : 1 ≤ a) (h2 : a + n ≤ L.fin) (hn : n ≤ 10000000) :
    Calls Try.prog 57 #[.pointer (some ⟨q, 0, none⟩), .int .i64 a, .int .i64 n] w (BytesPost w (L.bytes D a n)) := by
  have H := Lib.hid h
  have HOK := Lib.hid hok
  have HBB := Lib.hid hb
  have e1 := hok.e1
  have fe := hb.fe
  have b0 := hb.b0
  have bs := hb.bs
  obtain ⟨s, hs⟩ : ∃ s : Bytes × Int, s = if a < L.beg then stretchM D L.first L.count (min n (L.beg - a).toNat) (min n (L.beg - a).toNat + 1) a [] else ([], 0) := ⟨_, rfl⟩
  have hv : L.bytes D a n = if s.2 ≠ 0 then ([], s.2) else (s.1 ++ (L.tail.drop (a + s.1.length - L.beg).toNat).take (n - s.1.length), 0) := by rw [hs]; rfl
  obtain ⟨X, hX⟩ : ∃ X : Bytes × Int, X = if s.2 ≠ 0 then ([], s.2) else (s.1 ++ (L.tail.drop (a + s.1.length - L.beg).toNat).take (n - s.1.length), 0) := ⟨_, rfl⟩
  rw [hv, ← hX]
  have HX := Lib.hid hX
  clear hX
  have c9 : w.cell? ⟨q, 9, none⟩ = some (.int .i64 L.beg) := cell_blk h.hq rfl
  have LEN := Lib.hid (show s.2 = 0 → (a < L.beg ∧ s.1.length = min n (L.beg - a).toNat) ∨ (L.beg ≤ a ∧ s.1 = []) from fun h0 => by
    rw [hs] at h0 ⊢
    by_cases hlt : a < L.beg
    · rw [if_pos hlt] at h0 ⊢
      exact .inl ⟨hlt, stretch_len D L.first L.count _ hok.c0 h.dev.len _ _ _ (by simp) h0⟩
    · rw [if_neg hlt]; exact .inr ⟨by omega, rfl⟩)
  have HS := Lib.hid hs
  obtain ⟨BG, hBG⟩ : ∃ BG, BG = L.beg := ⟨_, rfl⟩
  rw [← hBG] at c9 b0 bs fe
  have HBG := Lib.hid hBG
  obtain ⟨FI, hFI⟩ : ∃ FI, FI = L.fin := ⟨_, rfl⟩
  rw [← hFI] at e1 fe h2
  obtain ⟨T, hT⟩ : ∃ T : Nat, T = L.tail.length := ⟨_, rfl⟩
  rw [← hT] at fe
  have HT := Lib.hid hT
  have HFE := Lib.hid fe
  have hle : a + n ≤ BG + T := by omega
  have hle2 : BG + T ≤ 3000000000000000000 := by omega
  clear h hok hb hs hv hBG hFI hT fe e1 h2
  go_enter Try.func57, Try.ntmps57
  go_upto_if 18 with fail
  go_cut [8, 18] from 19 to 36 (fun v _ wx => OwnV wx w.heap.size v s.1 ∧ s.2 = 0 ∧ Kept (fun _ => False) w wx)
  case first =>
    by_cases hlt : a < BG
    · have hs2 : s = stretchM D L.first L.count (min n (L.beg - a).toNat) (min n (L.beg - a).toNat + 1) a [] := by
        rw [HS.out, if_pos (by rw [← HBG.out]; exact hlt)]
      obtain ⟨m, hm⟩ : ∃ m : Nat, m = min n (L.beg - a).toNat := ⟨_, rfl⟩
      rw [← hm] at hs2
      have hmn : m ≤ n ∧ ((m : Int) = n ∧ (n : Int) ≤ BG - a ∨ (m : Int) = BG - a ∧ ¬ (n : Int) ≤ BG - a) := by rw [hm, ← HBG.out]; omega
      have HST := Lib.hid (stretch_any w q p ms mo lv tv L D H.out.hq H.out.dev HOK.out a h1 (by omega) m (by omega))
      rw [← hs2] at HST
      clear hs2 hm
      obtain ⟨E, hE⟩ : ∃ E, E = s.2 := ⟨_, rfl⟩
      have HE := Lib.hid hE
      have HST2 := Lib.hid (show Calls Try.prog 93 #[.pointer (some ⟨q, 0, none⟩), .int .i64 a, .int .i64 (m : Int)] w fun e w' => Kept (fun _ => False) w w' ∧ ∃ A k c, e = .returned (.tuple #[.slice A k c, .int .i64 E]) ∧ OwnV w' w.heap.size (.slice A k c) s.1 from by rw [hE]; exact HST.out)
      clear HST hE
      obtain ⟨hmn1, hmn2 | hmn2⟩ := hmn
      · obtain ⟨hmn3, hmn4⟩ := hmn2
        rw [hmn3] at HST2
        clear hmn3
        by_cases h0 : E = 0
        · subst h0
          go_wp2_with fail
          refine HST2.out.mono ?_
          rintro e w2 ⟨hk2, A2, k2, c2, rfl, ho2⟩
          go_wp2_with fail
          go_meet
          case rel => exact ⟨ho2, HE.out.symm, hk2⟩
        · have hmb : (E != 0) = true := by simpa using h0
          go_wp2_with fail
          refine HST2.out.mono ?_
          rintro e w2 ⟨hk2, A2, k2, c2, rfl, ho2⟩
          go_wp2_with fail
          go_ret2
          have hx : X = ([], E) := by rw [HX.out, if_pos (by rw [← HE.out]; exact h0), ← HE.out]
          rw [hx]
          exact ⟨hk2, none, 0, 0, rfl, OwnV.nil _ _⟩
      · obtain ⟨hmn3, hmn4⟩ := hmn2
        rw [hmn3] at HST2
        clear hmn3
        by_cases h0 : E = 0
        · subst h0
          go_wp2_with fail
          refine HST2.out.mono ?_
          rintro e w2 ⟨hk2, A2, k2, c2, rfl, ho2⟩
          go_wp2_with fail
          go_meet
          case rel => exact ⟨ho2, HE.out.symm, hk2⟩
        · have hmb : (E != 0) = true := by simpa using h0
          go_wp2_with fail
          refine HST2.out.mono ?_
          rintro e w2 ⟨hk2, A2, k2, c2, rfl, ho2⟩
          go_wp2_with fail
          go_ret2
          have hx : X = ([], E) := by rw [HX.out, if_pos (by rw [← HE.out]; exact h0), ← HE.out]
          rw [hx]
          exact ⟨hk2, none, 0, 0, rfl, OwnV.nil _ _⟩
    · have hs2 : s = ([], 0) := by rw [HS.out, if_neg (by rw [← HBG.out]; exact hlt)]
      have HS2 := Lib.hid hs2
      clear hs2
      go_wp2
      go_meet
      case rel => exact ⟨by rw [HS2.out]; exact OwnV.nil _ _, by rw [HS2.out], Kept.refl _ _⟩
  case rest =>
    obtain ⟨ho, h0, hk⟩ := hcut
    have HX2 := Lib.hid (show X = (s.1 ++ (L.tail.drop (a + s.1.length - L.beg).toNat).take (n - s.1.length), 0) from by rw [HX.out, if_neg (by rw [h0]; decide)])
    have HO := Lib.hid ho
    have HK := Lib.hid hk
    have HSc := Lib.hid (H.out.keep hk (fun _ _ => id))
    obtain ⟨A, k, c, rfl, hkl⟩ : ∃ A k c, u8 = Value.slice A k c ∧ k = s.1.length := by
      obtain ⟨A, c, h, _⟩ := ho.slice
      exact ⟨A, _, c, h, rfl⟩
    have hkn : k ≤ n ∧ (k = n ∨ ∃ d : Nat, (a + k - BG) = (d : Int) ∧ d + (n - k) ≤ T) := by
      rw [hkl]
      rcases LEN.out h0 with ⟨h3, h4⟩ | ⟨h3, h4⟩
      · rw [h4, ← HBG.out]
        rw [← HBG.out] at h3
        refine ⟨by omega, ?_⟩
        by_cases h5 : (n : Int) ≤ BG - a
        · left; omega
        · right; exact ⟨0, by omega, by omega⟩
      · rw [h4]
        rw [← HBG.out] at h3
        refine ⟨by simp, .inr ⟨(a - BG).toNat, by simp; omega, by simp; omega⟩⟩
    have HKL := Lib.hid hkl
    have c9 : wc.cell? ⟨q, 9, none⟩ = some (.int .i64 BG) := by rw [HBG.out]; exact cell_blk HSc.out.hq rfl
    have c8 : wc.cell? ⟨q, 8, none⟩ = some tv := cell_blk HSc.out.hq rfl
    obtain ⟨At, nt, ct, rfl, hnt⟩ : ∃ A k c, tv = Value.slice A k c ∧ L.tail.length ≤ c := by
      obtain ⟨A, c, h, hc⟩ := H.out.ht.slice
      exact ⟨A, _, c, h, hc⟩
    rw [← HT.out] at hnt
    clear ho hk hkl h0
    obtain ⟨hkn1, hkn2 | ⟨d, hd1, hd2⟩⟩ := hkn
    · subst hkn2
      go_wp2
      go_ret2
      have e3 : (L.tail.drop (a + s.1.length - L.beg).toNat).take (k - s.1.length) = [] := by rw [← HKL.out, Nat.sub_self, List.take_zero]
      rw [HX2.out, e3, List.append_nil]
      exact ⟨HK.out, A, k, c, rfl, HO.out⟩
    · by_cases hkn2 : k = n
      · subst hkn2
        clear hd1 hd2
        go_wp2
        go_ret2
        have e3 : (L.tail.drop (a + s.1.length - L.beg).toNat).take (k - s.1.length) = [] := by rw [← HKL.out, Nat.sub_self, List.take_zero]
        rw [HX2.out, e3, List.append_nil]
        exact ⟨HK.out, A, k, c, rfl, HO.out⟩
      · obtain ⟨j, hj⟩ : ∃ j, j = n - k := ⟨_, rfl⟩
        rw [← hj] at hd2
        have hkn3 : k < n := by omega
        have hj2 : j ≤ n := by omega
        have HD1 := Lib.hid hd1
        have HJ := Lib.hid (show (n : Int) - (k : Int) = (j : Int) from by omega)
        have HRT := Lib.hid (((OwnV.rd HSc.out.ht).sl d ct (by rw [← HT.out]; exact hnt)).takeG j)
        have LJ := Lib.hid (show ((L.tail.drop d).take j).length = j from by rw [List.length_take, List.length_drop, ← HT.out]; omega)
        have EQ := Lib.hid (show (L.tail.drop (a + s.1.length - L.beg).toNat).take (n - s.1.length) = (L.tail.drop d).take j from by rw [← HKL.out, ← HBG.out, hd1, Int.toNat_natCast, hj])
        clear hj hd1 hkn2
        go_wp2_with (first
          | (refine wl_val rfl (exec_slLL _ _ _ d (d + j) j rfl At nt ct _ _ rfl rfl rfl (by have := HD1.out; omega) (by have := HD1.out; have := HJ.out; omega) (by omega) (by omega) (by omega) _) ?_)
          | (at_builtin; refine wl_appendN rfl _ _ rfl w.heap.size _ s.1 ((L.tail.drop d).take j) rfl HO.out _ j (ct - d) rfl LJ.out HRT.out (by rw [LJ.out, ← HKL.out]; omega) (by have := HK.out.size; exact this) ?_))
        intro v3 w3 ho3 hk3 hat3
        have HO3 := Lib.hid ho3
        have HK3 := Lib.hid (HK.out.new hk3 (fun x hx => (HO.out.base_le hx).1))
        obtain ⟨A3, n3, c3, rfl⟩ : ∃ A k c, v3 = Value.slice A k c := by
          obtain ⟨A, c, h, _⟩ := ho3.slice
          exact ⟨A, _, c, h⟩
        clear ho3 hk3 hat3
        go_wp2
        go_ret2
        rw [HX2.out, EQ.out]
        exact ⟨HK3.out, A3, n3, c3, rfl, HO3.out⟩
end Go.Proofs.Ytbolbddjmmfepaa
