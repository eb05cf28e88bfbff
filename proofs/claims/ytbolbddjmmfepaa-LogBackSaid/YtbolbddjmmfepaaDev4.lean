/-
  No statement is proved here: contracts of package device: New; Write and Sync whole.
-/
import Derived.Test.YtbolbddjmmfepaaDev3
namespace Go.Proofs.Ytbolbddjmmfepaa
open Go.RowKit
section
variable {w : World} {p ms mo : Nat} {D : DevM}

/-- A device that is new. -/
def newM (n : Int) : DevM := { n := n, safe := fun _ => none, opn := fun _ => none, armed := 0, down := false }
set_option maxHeartbeats 400000 in
theorem new_ok (n : Int) (h0 : 1 ≤ n) (h1 : n ≤ 65536) (w : World) :
    Calls Try.prog 32 #[.int .i64 n] w fun e w' => ∃ p ms mo, e = .returned (.pointer (some ⟨p, 0, none⟩)) ∧ DevAt w' p ms mo (newM n) ∧ Kept (fun _ => False) w w' ∧ w.heap.size ≤ p ∧ w.heap.size ≤ ms ∧ w.heap.size ≤ mo := by
  have g1 : ¬ n < 1 := by omega
  have g2 : ¬ 65536 < n := by omega
  go_enter Try.func32, Try.ntmps32
  go_wp2_with (refine wl_makeMap rfl 112 rfl ?_)
  intro ms w1 n1 m1 hm1 hk1
  go_wp2_with (refine wl_makeMap rfl 112 rfl ?_)
  intro mo w2 n2 m2 hm2 hk2
  go_wp2_with (refine wl_box rfl 114 _ rfl (.agg #[.int .i64 n, .map (some ms), .map (some mo), .int .i64 0, .bool false]) rfl ?_)
  intro p w3 n3 m3 hb3 hk3
  have HM1 := Lib.hid ((hm1.kept hk2 (fun h => h)).kept (w' := w3) hk3 (fun h => h))
  have HM2 := Lib.hid (hm2.kept (w' := w3) hk3 (fun h => h))
  have HB := Lib.hid hb3
  have HK := Lib.hid ((hk1.trans0 hk2).trans0 hk3)
  have s1 := hk1.size; have s2 := hk2.size
  clear hm1 hm2 hb3 hk1 hk2 hk3
  go_wp2
  go_ret
  exact ⟨p, ms, mo, rfl, ⟨by omega, by omega, by omega, HB.out, HM1.out, HM2.out, (fun k l hl => by cases hl), (fun k l hl => by cases hl), h0, h1, Int.le_refl 0, by show (0:Int) ≤ _; omega⟩, HK.out, by omega, by omega, by omega⟩
theorem new_no (n : Int) (h : n < 1 ∨ 65536 < n) (w : World) :
    Calls Try.prog 32 #[.int .i64 n] w fun e w' => e = .returned (.pointer none) ∧ w = w' := by
  by_cases g1 : n < 1
  · clear h
    go_enter Try.func32, Try.ntmps32
    go_wp2
    go_ret
    exact ⟨rfl, rfl⟩
  · have g2 : 65536 < n := by omega
    clear h
    go_enter Try.func32, Try.ntmps32
    go_wp2
    go_ret
    exact ⟨rfl, rfl⟩

/-- Write, whole: its answer, and what the device is behind it. -/
def DevM.write (D : DevM) (n : Int) (l : Bytes) : Int × DevM :=
  if D.mayE n ≠ 0 then (D.mayE n, D) else if l.length ≠ 512 then (2, D) else (errDown (D.put n l).crash.down, (D.put n l).crash)
theorem write_any (h : DevAt w p ms mo D) (n : Int) (A : Option Addr) (c : Nat) (l : Bytes) (hl : RdB w A l) :
    Calls Try.prog 61 #[.pointer (some ⟨p, 0, none⟩), .int .i64 n, .slice A l.length c] w fun e w' =>
      e = .returned (.int .i64 (D.write n l).1) ∧ DevAt w' p ms mo (D.write n l).2 ∧ Kept (fun x => x = p ∨ x = mo) w w' := by
  unfold DevM.write
  by_cases hm : D.mayE n = 0
  · rw [if_neg (by simp [hm])]
    by_cases h5 : l.length = 512
    · rw [if_neg (by simp [h5])]
      obtain ⟨b, off, rfl, hc⟩ := hl (by intro e; simp [e] at h5)
      have := write_ok h n hm b off c l h5 hc
      rw [h5]
      exact this
    · rw [if_pos h5]
      exact (write_arg h n hm A l.length c h5).mono fun e w' ⟨h1, h2⟩ => by subst h2; exact ⟨h1, h, Kept.refl _ _⟩
  · rw [if_pos hm]
    exact (write_no h n hm _).mono fun e w' ⟨h1, h2⟩ => by subst h2; exact ⟨h1, h, Kept.refl _ _⟩

theorem sync_no (h : DevAt w p ms mo D) (hm : D.mayE 0 ≠ 0) :
    Calls Try.prog 62 #[.pointer (some ⟨p, 0, none⟩)] w fun e w' => e = .returned (.int .i64 (D.mayE 0)) ∧ w = w' := by
  have HM := Lib.hid (may_any h 0)
  have hb : (D.mayE 0 != 0) = true := by simpa using hm
  clear h hm
  generalize D.mayE 0 = x at *
  go_enter Try.func62, Try.ntmps62
  go_wp2_with (go_at_call 94; refine HM.out.mono ?_; rintro e w' ⟨rfl, rfl⟩)
  go_ret
  exact ⟨rfl, rfl⟩
theorem sync_crash (h : DevAt w p ms mo D) (hm : D.mayE 0 = 0) (hcr : D.crash.down = true) :
    Calls Try.prog 62 #[.pointer (some ⟨p, 0, none⟩)] w fun e w' => e = .returned (.int .i64 8) ∧ DevAt w' p ms mo D.crash ∧ Kept (fun x => x = p) w w' := by
  have M := may_any h 0
  rw [hm] at M
  have HM := Lib.hid M
  have C := crash_any h
  rw [hcr] at C
  have HC := Lib.hid C
  clear M h hm hcr C
  generalize D.crash = E at *
  go_enter Try.func62, Try.ntmps62
  go_wp2_with (first
    | (go_at_call 94; refine HM.out.mono ?_; rintro e w' ⟨rfl, rfl⟩)
    | (go_at_call 96; refine HC.out.mono ?_; rintro e w1 ⟨rfl, hd1, hk1⟩))
  go_ret
  exact ⟨rfl, hd1, hk1⟩
/-- Sync, whole. -/
def DevM.syncR (D : DevM) : Int × DevM :=
  if D.mayE 0 ≠ 0 then (D.mayE 0, D) else if D.crash.down then (8, D.crash) else (0, D.crash.sync)
theorem sync_any (h : DevAt w p ms mo D) :
    Calls Try.prog 62 #[.pointer (some ⟨p, 0, none⟩)] w fun e w' => e = .returned (.int .i64 D.syncR.1) ∧ DevAt w' p ms mo D.syncR.2 ∧ Kept (fun x => x = p ∨ x = ms ∨ x = mo) w w' := by
  unfold DevM.syncR
  by_cases hm : D.mayE 0 = 0
  · rw [if_neg (by simp [hm])]
    cases hc : D.crash.down
    · exact sync_run h hm hc
    · exact (sync_crash h hm hc).mono fun e w' ⟨h1, h2, h3⟩ => ⟨h1, h2, h3.mono fun x _ e => .inl e⟩
  · rw [if_pos hm]
    exact (sync_no h hm).mono fun e w' ⟨h1, h2⟩ => by subst h2; exact ⟨h1, h, Kept.refl _ _⟩
end
end Go.Proofs.Ytbolbddjmmfepaa
