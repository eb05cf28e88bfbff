/-
  No statement is proved here: contracts of page's SetNext and Delete.
-/
import Derived.Test.YtndflnedkpmpfaaDoorApz
namespace Go.Proofs.YtndflnedkpmpfaaDoor
open Go.RowKit

theorem run_copyN {w : World} {base g cap : Nat} {l : Bytes} (h : OwnB w base g cap l) (i dn : Nat) (hi : i + dn ≤ l.length) (D S : Option Addr) (hD : 0 < dn → D = some ⟨g, i, none⟩) (m : Bytes) (hm : m.length ≤ dn) (hS : RdB w S m) (dc sc : Nat) (ty : TypeId) :
    ∃ (n : Nat) (w' : World), (Builtin.copy_ #[22, 22] ty #[.slice D dn dc, .slice S m.length sc]).run Tryd.prog w = .ok (goInt n) w' ∧ n = m.length ∧ OwnB w' base g cap (over l i m) ∧ Kept (fun x => x = g) w w' := by
  have hsz : ((Tryd.prog).info? 5).map (·.size) = some 1 := by kernel_rfl
  by_cases h0 : m.length = 0
  · have hmn : m = [] := List.eq_nil_of_length_eq_zero h0
    subst hmn
    refine ⟨0, w, by simpa using run_copy_none (P := Tryd.prog) w 22 22 ty 5 D S dn dc 0 sc Tryd.underlying22 hsz (by simp), rfl, ?_, Kept.refl _ _⟩
    have e : over l i [] = l := by simp [over]
    rw [e]; exact h
  · obtain rfl := hD (by omega)
    obtain ⟨b, off, rfl, hc⟩ := hS (fun e => by subst e; exact h0 rfl)
    obtain ⟨cur, hb, hh, h1, h2, h3, h4⟩ := h.form
    have hmin : Nat.min m.length dn = m.length := Nat.min_eq_left hm
    have hcl : (cellsOf m).toList.length = Nat.min m.length dn := by rw [cellsOf_len, hmin]
    have hml : (cellsOf m).toList.length = m.length := cellsOf_len m
    have hr := run_copy_row (P := Tryd.prog) w 22 22 ty 5 g i dn dc ⟨b, off, none⟩ m.length sc cur 5 (cellsOf m).toList Tryd.underlying22 hsz hh hcl
      (fun j v hv => by
        rw [Addr.add_mid]
        exact hc j v (by rwa [Array.getElem?_toList] at hv)) (by omega) (fun u hu => (Array.all_eq_true_iff_forall_mem.1 (one_cellsOf _)) u (by simpa using hu))
    refine ⟨_, _, hr, hml, ?_, (Kept.refl (fun x => x = g) w).setRow (.inr rfl) _⟩
    have hov : over l i m = l.take i ++ m ++ l.drop (i + m.length) := by
      have e : m.take (l.length - i) = m := List.take_of_length_le (by omega)
      unfold over
      rw [e]
    have hlo : (over l i m).length = l.length := over_len (by omega)
    unfold OwnB
    rw [hlo]
    refine ⟨by rw [cellsOf_len, hlo, Nat.mul_one], .inr ⟨g, cap, _, rfl, hb, setRow_heap w g cur _ 5 (0, 0) hh, h1, h2, ?_, ?_⟩⟩
    · simp [size_cellsOf]; omega
    · rw [Nat.mul_one]
      have := splice_take (cur := cur.toList) (Y := (cellsOf m).toList) (i := i) h4 (by simp; omega) (by omega)
      simp only [List.toList_toArray]
      rw [this, hov]
      simp [cellsOf]
theorem be4_cells {x : Int} (h0 : 0 ≤ x) (h1 : x < 4294967296) : cellsOf (be4 x.toNat) = #[.int .u8 (x / 16777216), .int .u8 (x / 65536 % 256), .int .u8 (x / 256 % 256), .int .u8 (x % 256)] := by
  have e : ∀ (v : Nat) (u : Int), u = (v : Int) % 256 → ((UInt8.ofNat v).toNat : Int) = u := fun v u h => by
    rw [UInt8.toNat_ofNat', h]; omega
  simp only [cellsOf, be4, List.map_cons, List.map_nil]
  rw [e (x.toNat / 16777216) (x / 16777216) (by omega), e (x.toNat / 65536) (x / 65536 % 256) (by omega), e (x.toNat / 256) (x / 256 % 256) (by omega), e x.toNat (x % 256) (by omega)]
set_option maxRecDepth 100000 in
set_option maxHeartbeats 1000000 in
theorem setNext_any (base g cap : Nat) (l : Bytes) (x : Int) (w : World) (h : OwnB w base g cap l) (hl : l.length ≤ 1000000) :
    Calls Tryd.prog 27 #[.slice (some ⟨g, 0, none⟩) l.length cap, .int .i64 x] w fun e w' => e = .returned (.bool (setNextM l x).1) ∧ OwnB w' base g cap (setNextM l x).2 ∧ Kept (fun x => x = g) w w' := by
  have hcp : l.length ≤ cap ∧ cap ≤ 9223372036854775807 := by
    obtain ⟨cur, -, -, h1, h2, -⟩ := h.form
    exact ⟨h1, h2⟩
  obtain ⟨p1, p2⟩ := hcp
  have HC := Lib.hid (check_any (some ⟨g, 0, none⟩) cap l w h.rdp hl p1 p2)
  have HO := Lib.hid h
  clear h
  by_cases h0 : endM l = 0
  · have hd : decide (0 < endM l) = false := by rw [h0]; rfl
    rw [hd] at HC
    have HE := Lib.hid (show setNextM l x = (false, l) from by unfold setNextM; rw [if_pos (.inl h0)])
    clear h0 hd
    go_enter Tryd.func27, Tryd.ntmps27
    go_wp2_with (go_at_call 28; refine HC.out.mono ?_; rintro e wx ⟨rfl, hs⟩)
    go_ret
    exact ⟨by rw [HE.out]; rfl, by rw [HE.out]; exact HO.out.kept (hs.kept _), hs.kept _⟩
  · have hd : decide (0 < endM l) = true := by rw [decide_eq_true_eq]; omega
    rw [hd] at HC
    have h5 := endM_len h0
    by_cases hx : x < 0 ∨ 4294967296 ≤ x
    · have HE := Lib.hid (show setNextM l x = (false, l) from by unfold setNextM; rw [if_pos (.inr hx)])
      clear h0 hd h5
      by_cases h1 : x < 0
      · clear hx
        go_enter Tryd.func27, Tryd.ntmps27
        go_wp2_with (go_at_call 28; refine HC.out.mono ?_; rintro e wx ⟨rfl, hs⟩)
        go_ret
        exact ⟨by rw [HE.out]; rfl, by rw [HE.out]; exact HO.out.kept (hs.kept _), hs.kept _⟩
      · have h2 : 4294967296 ≤ x := by omega
        clear hx
        go_enter Tryd.func27, Tryd.ntmps27
        go_wp2_with (go_at_call 28; refine HC.out.mono ?_; rintro e wx ⟨rfl, hs⟩)
        go_ret
        exact ⟨by rw [HE.out]; rfl, by rw [HE.out]; exact HO.out.kept (hs.kept _), hs.kept _⟩
    · have HE := Lib.hid (show setNextM l x = (true, over l 2 (be4 x.toNat)) from by unfold setNextM; rw [if_neg (by omega)])
      have h1 : ¬ x < 0 := by omega
      have h2 : ¬ 4294967296 ≤ x := by omega
      have h3 : (6 : Int) ≤ (cap : Int) := by omega
      have h6 : ¬ cap = 2 := by omega
      have HL := Lib.hid h5
      clear h0 hd h5 hx
      go_enter Tryd.func27, Tryd.ntmps27
      go_wp2_with fail
      refine HC.out.mono ?_
      rintro e wx ⟨rfl, hs⟩
      have HS := Lib.hid hs
      clear hs
      have ka := (Kept.refl (fun _ => False) wx).alloc (.cells #[.int .u8 (x / 16777216), .int .u8 (x / 65536 % 256), .int .u8 (x / 256 % 256), .int .u8 (x % 256)] 5)
      have kk := (HS.out.kept (fun _ => False)).trans0 ka
      obtain ⟨nn, w3, hr, -, ho3, hk3⟩ := run_copyN (HO.out.kept kk) 2 4 (by rw [HL.out]; omega) (some ⟨g, 2, none⟩) (some ⟨wx.heap.size, 0, none⟩) (fun _ => rfl) (be4 x.toNat) (Nat.le_refl 4) (RdB.of_blk (by rw [be4_cells (by omega) (by omega)]; exact heap_alloc_new wx (.cells #[.int .u8 (x / 16777216), .int .u8 (x / 65536 % 256), .int .u8 (x / 256 % 256), .int .u8 (x % 256)] 5))) (cap - 2) 4 3
      have hbl : (be4 x.toNat).length = 4 := rfl
      rw [hbl] at hr
      have HO3 := Lib.hid ho3
      have HK3 := Lib.hid ((kk.mono (T := fun x => x = g) (fun _ _ h => h.elim)).trans' hk3)
      clear ka kk ho3 hk3 hbl
      go_wp2
      go_ret
      exact ⟨by rw [HE.out]; rfl, by rw [HE.out]; exact HO3.out, HK3.out⟩
end Go.Proofs.YtndflnedkpmpfaaDoor
