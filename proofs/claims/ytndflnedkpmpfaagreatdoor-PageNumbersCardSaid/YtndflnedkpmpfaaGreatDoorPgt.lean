/-
  No statement is proved here: a page of cells in plain Lean.
  No statement is proved here: contracts of page's functions that read.
  No statement is proved here: bytes.Trim of one byte, and page.end, Check, Room, Count.
-/
import Derived.Test.YtndflnedkpmpfaaGreatDoorKit
import Derived.Laws.BitsLemmas
import Derived.Test.YtndflnedkpmpfaaGreatDoorApp
import Derived.Deep.RegionHeld3
namespace Go.Proofs.YtndflnedkpmpfaaGreatDoor
open Go.RowKit

/-- The number of two bytes. -/
def be2 (l : Bytes) (i : Nat) : Nat := (bAt l i).toNat * 256 + (bAt l (i + 1)).toNat
/-- The place behind the cell that begins at a place; 0: there is none. -/
def afterM (l : Bytes) (a : Nat) : Nat := if l.length < a + 2 then 0 else if l.length < a + 2 + be2 l a then 0 else a + 2 + be2 l a
/-- Where a slot begins; 0: nowhere. -/
def placeM (l : Bytes) : Nat → Nat
  | 0 => 6
  | k + 1 => if placeM l k = 0 then 0 else afterM l (placeM l k)
def allZ (l : Bytes) : Bool := l.all (· == 0)
/-- Where a right page's cells end; 0: it is none. -/
def endM (l : Bytes) : Nat :=
  if l.length ≠ 512 then 0 else if placeM l (bAt l 1).toNat = 0 then 0 else if allZ (l.drop (placeM l (bAt l 1).toNat)) then placeM l (bAt l 1).toNat else 0
def newP (kind : UInt8) : Bytes := (zeros 512).set 0 kind
def roomM (l : Bytes) : Nat := if endM l = 0 then 0 else l.length - endM l
def countM (l : Bytes) : Nat := if endM l = 0 then 0 else (bAt l 1).toNat
def getM (l : Bytes) (slot : Int) : Option Bytes := if slot < 0 ∨ (countM l : Int) ≤ slot then none else
  some ((l.take (afterM l (placeM l slot.toNat))).drop (placeM l slot.toNat + 2))
/-- Bytes laid over others, from a place on (as far as there is room). -/
def over (l : Bytes) (i : Nat) (m : Bytes) : Bytes := l.take i ++ (m.take (l.length - i)) ++ l.drop (i + (m.take (l.length - i)).length)
def insertM (l : Bytes) (slot : Int) (c : Bytes) : Int × Bytes :=
  if endM l = 0 then (4, l) else if slot < 0 ∨ ((bAt l 1).toNat : Int) < slot then (2, l) else if bAt l 1 = 255 ∨ l.length - endM l < c.length + 2 then (5, l) else
    let a := placeM l slot.toNat
    let l1 := over l (a + 2 + c.length) ((l.take (endM l)).drop a)
    let l2 := (l1.set a (UInt8.ofNat (c.length / 256))).set (a + 1) (UInt8.ofNat c.length)
    let l3 := over l2 (a + 2) c
    (0, l3.set 1 (bAt l3 1 + 1))
theorem afterM_le (l : Bytes) (a : Nat) : afterM l a ≤ l.length := by
  unfold afterM; split
  · omega
  · split <;> omega
theorem afterM_ge (l : Bytes) (a : Nat) (h : afterM l a ≠ 0) : a + 2 ≤ afterM l a := by
  unfold afterM at *; split
  · rename_i h1; rw [if_pos h1] at h; exact absurd rfl h
  · rename_i h1; rw [if_neg h1] at h
    split
    · rename_i h2; rw [if_pos h2] at h; exact absurd rfl h
    · omega
theorem placeM_le (l : Bytes) (k : Nat) (h : 6 ≤ l.length) : placeM l k ≤ l.length := by
  cases k with
  | zero => exact h
  | succ k =>
    unfold placeM; split
    · omega
    · exact afterM_le _ _
theorem be2_lt (l : Bytes) (i : Nat) : be2 l i < 65536 := by
  have h1 := (bAt l i).toNat_lt
  have h2 := (bAt l (i + 1)).toNat_lt
  unfold be2; omega
theorem or_be (a b : Nat) (hb : b < 256) : a * 256 ||| b = a * 256 + b := by
  have := Nat.two_pow_add_eq_or_of_lt (i := 8) (b := b) hb a
  rw [show (2 : Nat) ^ 8 * a = a * 256 by omega] at this
  exact this.symm
theorem or_i64 {x y : Int} (h0 : 0 ≤ x) (h1 : x < 4611686018427387904) (h2 : x % 256 = 0) (h3 : 0 ≤ y) (h4 : y < 256) : bits BinOp.or IntKind.i64 x y = x + y :=
  bits_join .i64 63 (by decide) (fun n h h' => by rw [IntKind.wrap_i64]; omega) 8 x y h0 h2 (by omega) h3 h4 (by omega)
theorem be_bits (x0 x1 : UInt8) (a : Int) (h0 : 0 ≤ a) (h1 : a ≤ 1000000000) : wrap64 (a + 2 + bits BinOp.or IntKind.i64 (wrap64 (wrap64 ↑x0.toNat * 256)) (wrap64 ↑x1.toNat)) = a + 2 + ((x0.toNat * 256 + x1.toNat : Nat) : Int) := by
  have b0 := x0.toNat_lt
  have b1 := x1.toNat_lt
  have w0 : wrap64 (x0.toNat : Int) = x0.toNat := by unfold wrap64; omega
  have w1 : wrap64 (x1.toNat : Int) = x1.toNat := by unfold wrap64; omega
  have w2 : wrap64 ((x0.toNat : Int) * 256) = (x0.toNat : Int) * 256 := by unfold wrap64; omega
  rw [w0, w1, w2, or_i64 (by omega) (by omega) (by omega) (by omega) (by omega)]
  unfold wrap64
  omega
theorem allZ_iff (l : Bytes) : allZ l = true ↔ ∀ i, i < l.length → bAt l i = 0 := by
  unfold allZ
  rw [List.all_eq_true]
  constructor
  · intro h i hi
    have := h l[i] (by simp)
    rw [bAt_get hi]
    simpa using this
  · intro h x hx
    obtain ⟨i, hi, rfl⟩ := List.getElem_of_mem hx
    have := h i hi
    rw [bAt_get hi] at this
    simp [this]
end Go.Proofs.YtndflnedkpmpfaaGreatDoor
namespace Go.Proofs.YtndflnedkpmpfaaGreatDoor
open Go.RowKit

set_option maxHeartbeats 1000000 in
theorem after_any (A : Option Addr) (c : Nat) (l : Bytes) (w : World) (h : RdB w A l) (hl : l.length ≤ 1000000) (a : Nat) (ha : a ≤ 1000000) :
    Calls Tryz.prog 18 #[.slice A l.length c, .int .i64 a] w fun e w' => e = .returned (.int .i64 (afterM l a)) ∧ Same w w' := by
  by_cases h1 : l.length < a + 2
  · have e : afterM l a = 0 := by unfold afterM; rw [if_pos h1]
    rw [e]
    have i1 : (l.length : Int) < (a : Int) + 2 := by omega
    clear e h h1
    go_enter Tryz.func18, Tryz.ntmps18
    go_wp2
    go_ret
    exact ⟨rfl, Same.refl _⟩
  · obtain ⟨b, off, rfl, d0⟩ := h.cell (k := a) (by omega)
    obtain ⟨b', off', e', d1⟩ := h.cell (k := a + 1) (by omega)
    cases e'
    have HE := Lib.hid (show afterM l a = if l.length < a + 2 + be2 l a then 0 else a + 2 + be2 l a from by unfold afterM; rw [if_neg h1])
    have i1 : ¬ (l.length : Int) < (a : Int) + 2 := by omega
    have i2 : (a : Int) < (l.length : Int) := by omega
    have i3 : (a : Int) + 1 < (l.length : Int) := by omega
    have i0 : (0 : Int) ≤ (a : Int) := by omega
    have HB2 := Lib.hid (show be2 l a = (bAt l a).toNat * 256 + (bAt l (a + 1)).toNat from rfl)
    have hbe := be_bits (bAt l a) (bAt l (a + 1)) (a : Int) (by omega) (by omega)
    rw [← HB2.out] at hbe
    generalize be2 l a = n2 at *
    generalize bAt l a = x0 at *
    generalize bAt l (a + 1) = x1 at *
    clear h h1
    go_enter Tryz.func18, Tryz.ntmps18
    go_wp2
    go_quiet (fail)
    go_wp2
    · go_ret
      refine ⟨ret_int ?_, _, rfl⟩
      rw [HE.out, if_pos (by omega)]
      rfl
    · go_ret
      refine ⟨ret_int ?_, _, rfl⟩
      rw [HE.out, if_neg (by omega)]
      omega
/-- p[i:], as bytes. -/
theorem RdB.drop {w : World} {b off : Nat} {l : Bytes} (h : RdB w (some ⟨b, off, none⟩) l) (i : Nat) : RdB w (some ⟨b, off + i, none⟩) (l.drop i) := by
  intro hne
  have hl : l ≠ [] := by rintro rfl; simp at hne
  obtain ⟨b', off', e, hc⟩ := h hl
  cases e
  refine ⟨b, off + i, rfl, fun j u hu => ?_⟩
  rw [cellsOf_get, List.getElem?_drop] at hu
  have := hc (i + j) u (by rw [cellsOf_get]; exact hu)
  rw [Nat.add_assoc]
  exact this
theorem RdB.take {w : World} {A : Option Addr} {l : Bytes} (h : RdB w A l) (n : Nat) : RdB w A (l.take n) := by
  intro hne
  obtain ⟨b, off, e, hc⟩ := h (by rintro rfl; simp at hne)
  refine ⟨b, off, e, fun j u hu => hc j u ?_⟩
  rw [cellsOf_get, List.getElem?_take] at hu
  split at hu
  · rw [cellsOf_get]; exact hu
  · simp at hu
set_option maxHeartbeats 1000000 in
theorem find_any (A : Option Addr) (c : Nat) (l : Bytes) (w : World) (h : RdB w A l) (hl : l.length ≤ 1000000) (h6 : 6 ≤ l.length) (s : Int) (hs : s ≤ 1000000) :
    Calls Tryz.prog 17 #[.slice A l.length c, .int .i64 s] w fun e w' => e = .returned (.int .i64 (placeM l s.toNat)) ∧ Same w w' := by
  have H := Lib.hid h
  clear h
  go_enter Tryz.func17, Tryz.ntmps17
  go_wp2
  go_loopw [5, 7] (fun a i wr => ∃ k : Nat, k ≤ s.toNat ∧ i = .int .i64 k ∧ a = .int .i64 (placeM l k) ∧ placeM l k ≠ 0 ∧ Same w wr) (fun a i _ => s.toNat - (intOf i).toNat)
  case atStart => exact ⟨0, Nat.zero_le _, rfl, rfl, (show (6 : Nat) ≠ 0 by decide), Same.refl _⟩
  case round =>
    obtain ⟨k, hk, rfl, rfl, hp, hsm⟩ := hrel
    have HS := Lib.hid hsm
    have HP := Lib.hid hp
    by_cases hlt : (k : Int) < s
    · have ha := after_any A c l wr (H.out.kept (hsm.kept (fun _ => False)) (fun _ _ _ _ => id)) hl (placeM l k) (by have := placeM_le l k h6; omega)
      have HA := Lib.hid ha
      have hsucc : placeM l (k + 1) = afterM l (placeM l k) := by
        show (if placeM l k = 0 then 0 else _) = _
        rw [if_neg hp]
      have HSC := Lib.hid hsucc
      clear ha hsucc hp hsm
      generalize placeM l k = pk at *
      have hz : ((afterM l pk : Int) == 0) = decide (afterM l pk = 0) := by
        rw [Bool.eq_iff_iff]; simp
      cases hd : decide (afterM l pk = 0)
      · rw [hd] at hz
        have HD := Lib.hid hd
        clear hd
        go_wp2_with (go_at_call 18; refine HA.out.mono ?_; rintro e wx ⟨rfl, hsx⟩)
        go_roundw
        case rel => exact ⟨k + 1, by omega, by go_num, by rw [HSC.out], by rw [HSC.out]; simpa using HD.out, HS.out.trans hsx⟩
        case measure => simp [intOf]; omega
      · rw [hd] at hz
        have HD := Lib.hid hd
        clear hd
        go_wp2_with (go_at_call 18; refine HA.out.mono ?_; rintro e wx ⟨rfl, hsx⟩)
        go_ret
        refine ⟨ret_int ?_, HS.out.trans hsx⟩
        have h0 : placeM l (k + 1) = 0 := by rw [HSC.out]; simpa using HD.out
        have hmono : ∀ j, placeM l (k + 1 + j) = 0 := by
          intro j
          induction j with
          | zero => exact h0
          | succ j ih =>
            show (if placeM l (k + 1 + j) = 0 then 0 else _) = _
            rw [if_pos ih]
        have := hmono (s.toNat - (k + 1))
        rw [show k + 1 + (s.toNat - (k + 1)) = s.toNat by omega] at this
        rw [this]
        rfl
    · have hge : ¬ ((k : Int) < s) := hlt
      clear hp hsm
      go_wp2
      go_ret
      rw [show s.toNat = k by omega]
      exact ⟨rfl, HS.out⟩
end Go.Proofs.YtndflnedkpmpfaaGreatDoor
namespace Go.Proofs.YtndflnedkpmpfaaGreatDoor
open Go.RowKit

/-- How many bytes are left, where z is cut off behind the first k. -/
def trM (l : Bytes) (z : UInt8) : Nat → Nat
  | 0 => 0
  | k + 1 => if bAt l k = z then trM l z k else k + 1
theorem trM_le (l : Bytes) (z : UInt8) (k : Nat) : trM l z k ≤ k := by
  induction k with
  | zero => exact Nat.le_refl _
  | succ k ih => unfold trM; split <;> omega
theorem trM_behind (l : Bytes) (z : UInt8) (k : Nat) : ∀ i, trM l z k ≤ i → i < k → bAt l i = z := by
  induction k with
  | zero => omega
  | succ k ih =>
    intro i h1 h2
    unfold trM at h1
    split at h1
    · by_cases e : i = k
      · subst e; assumption
      · exact ih i h1 (by omega)
    · omega
theorem trM_last (l : Bytes) (z : UInt8) (k : Nat) (h : 0 < trM l z k) : bAt l (trM l z k - 1) ≠ z := by
  induction k with
  | zero => unfold trM at h; omega
  | succ k ih =>
    have e : trM l z (k + 1) = if bAt l k = z then trM l z k else k + 1 := rfl
    rw [e] at h ⊢
    split
    · rename_i e2; rw [if_pos e2] at h; exact ih h
    · rename_i e2; simpa using e2
theorem u8_eq {x z : UInt8} : ((x.toNat : Int) == (z.toNat : Int)) = decide (x = z) := by
  rw [Bool.eq_iff_iff]
  simp
  constructor
  · intro h; exact UInt8.toNat_inj.1 (by omega)
  · rintro rfl; rfl
set_option maxHeartbeats 1000000 in
theorem trimRight_any (A : Option Addr) (c : Nat) (l : Bytes) (w : World) (h : RdB w A l) (hl : l.length ≤ 1000000) (hc : l.length ≤ c) (hc2 : c ≤ 9223372036854775807) (z : UInt8) :
    Calls Tryz.prog 54 #[.slice A l.length c, .int .u8 z.toNat] w fun e w' => e = .returned (.slice A (trM l z l.length) c) ∧ Same w w' := by
  have H := Lib.hid h
  clear h
  go_enter Tryz.func54, Tryz.ntmps54
  go_wp2
  go_loopw [0] (fun s wr => ∃ k : Nat, k ≤ l.length ∧ s = .slice A k c ∧ trM l z k = trM l z l.length ∧ wr = w) (fun s _ => (match s with | .slice _ k _ => k | _ => 0))
  case atStart => exact ⟨_, Nat.le_refl _, rfl, rfl, rfl⟩
  case round =>
    obtain ⟨k, hk, rfl, ht, rfl⟩ := hrel
    have HT := Lib.hid ht
    clear ht
    by_cases h0 : k = 0
    · subst h0
      go_wp2
      go_ret
      exact ⟨by rw [← HT.out]; rfl, Same.refl _⟩
    · obtain ⟨k, rfl⟩ : ∃ j, k = j + 1 := ⟨k - 1, by omega⟩
      obtain ⟨b, off, rfl, c1⟩ := H.out.cell (k := k) (by omega)
      have i0 : (0 : Int) < ((k + 1 : Nat) : Int) := by omega
      have i1 : ((k + 1 : Nat) : Int) - 1 = (k : Int) := by omega
      have i2 : (k : Int) < ((k + 1 : Nat) : Int) := by omega
      have i3 : (0 : Int) ≤ (k : Int) := by omega
      have i4 : k ≤ c := by omega
      have hb := u8_eq (x := bAt l k) (z := z)
      cases hz : decide (bAt l k = z)
      · rw [hz] at hb
        have HZ := Lib.hid hz
        clear hz
        go_wp2
        go_ret
        refine ⟨?_, Same.refl _⟩
        rw [← HT.out, show trM l z (k + 1) = k + 1 from by
          show (if bAt l k = z then trM l z k else k + 1) = _
          rw [if_neg (by simpa using HZ.out)]]
        rfl
      · rw [hz] at hb
        have HZ := Lib.hid hz
        clear hz
        go_wp2
        go_roundw
        case rel =>
          refine ⟨k, by omega, rfl, ?_, trivial⟩
          rw [← HT.out]
          show _ = (if bAt l k = z then trM l z k else k + 1)
          rw [if_pos (by simpa using HZ.out)]
        case measure => simp
set_option maxHeartbeats 1000000 in
theorem trimLeft_any (A : Option Addr) (c : Nat) (l : Bytes) (w : World) (h : RdB w A l) (hl : l.length ≤ 1000000) (hc : l.length ≤ c) (hc2 : c ≤ 9223372036854775807) (z : UInt8) :
    Calls Tryz.prog 53 #[.slice A l.length c, .int .u8 z.toNat] w fun e w' => ∃ A' m c', e = .returned (.slice A' m c') ∧ (m = 0 ↔ ∀ i, i < l.length → bAt l i = z) ∧ m ≤ 1000000 ∧ Same w w' := by
  have H := Lib.hid h
  clear h
  go_enter Tryz.func53, Tryz.ntmps53
  go_wp2
  go_loopw [0] (fun s wr => ∃ (j : Nat) (A' : Option Addr) (c' : Nat), j ≤ l.length ∧ s = .slice A' (l.length - j) c' ∧ l.length - j ≤ c' ∧ c' ≤ 9223372036854775807 ∧ (∀ i, i < j → bAt l i = z) ∧ (j < l.length → ∃ b off, A' = some ⟨b, off + j, none⟩ ∧ ∀ i, i < l.length → wr.cell? ⟨b, off + i, none⟩ = some (.int .u8 (bAt l i).toNat)) ∧ wr = w) (fun s _ => (match s with | .slice _ k _ => k | _ => 0))
  case atStart => exact ⟨0, A, c, Nat.zero_le _, rfl, by omega, hc2, by omega, fun h0 => by
    obtain ⟨b, off, rfl, hcc⟩ := H.out (by intro e; simp [e] at h0)
    exact ⟨b, off, rfl, fun i hi => hcc i _ (cellsOf_at hi)⟩, rfl⟩
  case round =>
    obtain ⟨j, A', c', hj, rfl, hc', hc2', hz, hA, rfl⟩ := hrel
    have HZ := Lib.hid hz
    have HA := Lib.hid hA
    clear hz hA
    by_cases h0 : j < l.length
    · obtain ⟨b, off, rfl, hcell⟩ := HA.out h0
      have c1 := hcell j h0
      have HC := Lib.hid hcell
      obtain ⟨k, hk⟩ : ∃ k, l.length - j = k + 1 := ⟨l.length - j - 1, by omega⟩
      have HK := Lib.hid hk
      rw [hk]
      have i0 : (0 : Int) < ((k + 1 : Nat) : Int) := by omega
      have i1 : (1 : Int) ≤ ((k + 1 : Nat) : Int) := by omega
      have i4 : k + 1 ≤ c' := by omega
      have i5 : 1 ≤ c' := by omega
      have hb := u8_eq (x := bAt l j) (z := z)
      clear hcell hk
      cases hd : decide (bAt l j = z)
      · rw [hd] at hb
        have HD := Lib.hid hd
        clear hd
        go_wp2
        go_ret
        refine ⟨_, _, _, rfl, ?_, by have := HK.out; omega, Same.refl _⟩
        constructor
        · intro e; omega
        · intro e
          exact absurd (e j h0) (by simpa using HD.out)
      · rw [hd] at hb
        have HD := Lib.hid hd
        clear hd
        go_wp2
        go_roundw
        case rel =>
          have hk := HK.out
          refine ⟨j + 1, _, c' - 1, by omega, by rw [show l.length - (j + 1) = k by omega], by omega, by omega, fun i hi => ?_, fun h1 => ⟨b, off, ?_, HC.out⟩, trivial⟩
          · by_cases e : i = j
            · subst e; simpa using HD.out
            · exact HZ.out i (by omega)
          · rw [if_neg (by omega)]; rfl
        case measure => simp
    · have hk0 : l.length - j = 0 := by omega
      rw [hk0]
      go_wp2
      go_ret
      refine ⟨_, _, _, rfl, ?_, by omega, Same.refl _⟩
      exact ⟨fun _ i hi => HZ.out i (by omega), fun _ => rfl⟩
set_option maxRecDepth 100000 in
set_option maxHeartbeats 1000000 in
theorem trim_any (A : Option Addr) (c : Nat) (l : Bytes) (w : World) (h : RdB w A l) (hl : l.length ≤ 1000000) (hc : l.length ≤ c) (hc2 : c ≤ 9223372036854775807) :
    Calls Tryz.prog 35 #[.slice A l.length c, .string ⟨#[0]⟩] w fun e w' => ∃ A' m c', e = .returned (.slice A' m c') ∧ (m = 0 ↔ allZ l = true) ∧ m ≤ 1000000 ∧ Same w w' := by
  have H := Lib.hid h
  clear h
  by_cases h0 : l.length = 0
  · have hz : ((l.length : Int) == 0) = true := by simp [h0]
    have HZ := Lib.hid ((allZ_iff l).2 (fun i hi => by omega))
    clear h0
    go_enter Tryz.func35, Tryz.ntmps35
    go_wp2
    go_ret
    exact ⟨none, 0, 0, rfl, ⟨fun _ => HZ.out, fun _ => rfl⟩, by omega, Same.refl _⟩
  · have hz : ((l.length : Int) == 0) = false := by rw [beq_eq_false_iff_ne]; omega
    have hR := Lib.hid (fun w' (hs : Same w w') => trimRight_any A c l w' (H.out.kept (hs.kept (fun _ => False)) (fun _ _ _ _ => id)) hl hc hc2 0)
    have hlen : (l.take (trM l 0 l.length)).length = trM l 0 l.length := by rw [List.length_take]; have := trM_le l 0 l.length; omega
    have hL := Lib.hid (fun w' (hs : Same w w') => by
      have := trimLeft_any A c (l.take (trM l 0 l.length)) w' ((H.out.take _).kept (hs.kept (fun _ => False)) (fun _ _ _ _ => id)) (by rw [hlen]; have := trM_le l 0 l.length; omega) (by rw [hlen]; have := trM_le l 0 l.length; omega) hc2 0
      rw [hlen] at this
      exact this)
    have HM := Lib.hid (show (∀ i, i < trM l 0 l.length → bAt (l.take (trM l 0 l.length)) i = 0) ↔ allZ l = true from by
      rw [allZ_iff]
      have hle := trM_le l 0 l.length
      have hat : ∀ i, i < trM l 0 l.length → bAt (l.take (trM l 0 l.length)) i = bAt l i := fun i hi => by
        rw [bAt_get (by rw [hlen]; exact hi), bAt_get (by omega)]; simp
      constructor
      · intro h1 i hi
        by_cases e : i < trM l 0 l.length
        · rw [← hat i e]; exact h1 i e
        · exact trM_behind l 0 l.length i (by omega) hi
      · intro h1 i hi
        rw [hat i hi]; exact h1 i (by omega))
    generalize trM l 0 l.length = k at *
    clear hlen h0
    go_enter Tryz.func35, Tryz.ntmps35
    go_wp2_with fail
    have S1 : Same w w.drew := (Same.refl w).drew
    go_region_held3 (fun w' => Same w w')
      (first
        | exact S1
        | exact S2
        | exact S3)
      (first
        | (go_at_call 54; refine (hR.out _ S1).mono ?_; rintro e w2 ⟨rfl, hs2⟩
           have S2 := S1.trans hs2)
        | (go_at_call 53; refine (hL.out _ S2).mono ?_; rintro e w3 ⟨A', m', c', rfl, hm', hm2, hs3⟩
           have S3 := S2.trans hs3))
    all_goals (
      go_wp2
      go_ret
      exact ⟨A', m', c', rfl, hm'.trans HM.out, hm2, S3⟩)
set_option maxRecDepth 100000 in
set_option maxHeartbeats 1000000 in
theorem end_any (A : Option Addr) (c : Nat) (l : Bytes) (w : World) (h : RdB w A l) (hl : l.length ≤ 1000000) (hc : l.length ≤ c) (hc2 : c ≤ 9223372036854775807) :
    Calls Tryz.prog 16 #[.slice A l.length c] w fun e w' => e = .returned (.int .i64 (endM l)) ∧ Same w w' := by
  by_cases h5 : l.length = 512
  · obtain ⟨b, off, rfl, d1⟩ := h.cell (k := 1) (by omega)
    have hb1 := (bAt l 1).toNat_lt
    have hi1 : (1 : Int) < (l.length : Int) := by omega
    have hw : wrap64 ((bAt l 1).toNat : Int) = ((bAt l 1).toNat : Int) := by unfold wrap64; omega
    have HF := Lib.hid (find_any (some ⟨b, off, none⟩) c l w h hl (by omega) (((bAt l 1).toNat : Nat) : Int) (by omega))
    have H := Lib.hid h
    have hE : endM l = if placeM l (bAt l 1).toNat = 0 then 0 else if allZ (l.drop (placeM l (bAt l 1).toNat)) then placeM l (bAt l 1).toNat else 0 := by
      unfold endM; rw [if_neg (by omega)]
    have HE := Lib.hid hE
    rw [Int.toNat_natCast] at HF
    have hple := placeM_le l (bAt l 1).toNat (by omega)
    generalize placeM l (bAt l 1).toNat = pl at *
    have hne : ((l.length : Int) != 512) = false := by rw [bne_eq_false_iff_eq]; omega
    clear h hE
    by_cases hp : pl = 0
    · subst hp
      clear h5
      go_enter Tryz.func16, Tryz.ntmps16
      go_wp2_with (go_at_call 17; refine HF.out.mono ?_; rintro e wx ⟨rfl, hs⟩)
      go_ret
      exact ⟨ret_int (by rw [HE.out]; rfl), hs⟩
    · have hp2 : ((pl : Int) == 0) = false := by rw [beq_eq_false_iff_ne]; omega
      have hlen : (l.drop pl).length = l.length - pl := List.length_drop
      have hpl : (pl : Int) ≤ (l.length : Int) := by omega
      by_cases hcp : c = pl
      case' pos =>
        subst hcp
        have HT := Lib.hid (fun w' (hs : Same w w') => show Calls Tryz.prog 35 #[.slice (some ⟨b, off, none⟩) 0 0, .string ⟨#[0]⟩] w' fun e w2 => ∃ A' m c', e = .returned (.slice A' m c') ∧ (m = 0 ↔ allZ [] = true) ∧ m ≤ 1000000 ∧ Same w' w2 from
          trim_any (some ⟨b, off, none⟩) 0 [] w' (fun h => absurd rfl h) (by simp) (by simp) (by omega))
        have HZZ := Lib.hid (show allZ (l.drop c) = allZ [] from by rw [List.drop_of_length_le (by omega)])
        rw [← HZZ.out] at HT
        clear HZZ hlen h5
        generalize c = pl at *
      case' neg =>
        have HT := Lib.hid (fun w' (hs : Same w w') => by
          have := trim_any (some ⟨b, off + pl, none⟩) (c - pl) (l.drop pl) w' ((H.out.drop pl).kept (hs.kept (fun _ => False)) (fun _ _ _ _ => id)) (by omega) (by omega) (by omega)
          rw [hlen] at this
          exact this)
        have hcp2 : ¬ pl = c := fun e => hcp e.symm
        clear hlen h5
      all_goals
        go_enter Tryz.func16, Tryz.ntmps16
        go_wp2_with (go_at_call 17; refine HF.out.mono ?_; rintro e wx ⟨rfl, hs⟩)
        have HS := Lib.hid hs
        have HTx := Lib.hid (HT.out wx hs)
        clear hs HT
        go_wp2_with fail
        refine HTx.out.mono ?_
        rintro e w3 ⟨A', m', c', rfl, hm', hm2, hs3⟩
        have HS3 := Lib.hid (HS.out.trans hs3)
        have HM := Lib.hid hm'
        clear hs3 hm' HTx
        by_cases hm0 : m' = 0
        · subst hm0
          have hz : allZ (l.drop pl) = true := HM.out.1 rfl
          have HZ := Lib.hid hz
          clear hz
          go_wp2
          go_ret
          exact ⟨ret_int (by rw [HE.out, if_neg hp, if_pos HZ.out]), HS3.out⟩
        · have hz : ¬ allZ (l.drop pl) = true := fun e => hm0 (HM.out.2 e)
          have hm3 : (0 : Int) < (m' : Int) := by omega
          have HZ := Lib.hid hz
          clear hz
          go_wp2
          go_ret
          exact ⟨ret_int (by rw [HE.out, if_neg hp, if_neg HZ.out]; rfl), HS3.out⟩
  · have e : endM l = 0 := by unfold endM; rw [if_pos h5]
    rw [e]
    have hne : ((l.length : Int) != 512) = true := by rw [bne_iff_ne]; omega
    clear h e h5
    go_enter Tryz.func16, Tryz.ntmps16
    go_wp2
    go_ret
    exact ⟨rfl, Same.refl _⟩
end Go.Proofs.YtndflnedkpmpfaaGreatDoor
