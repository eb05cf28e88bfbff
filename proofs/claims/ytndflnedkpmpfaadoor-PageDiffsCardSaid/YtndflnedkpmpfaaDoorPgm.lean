/-
  No statement is proved here: a page of cells in plain Lean.
-/
import Derived.Test.YtndflnedkpmpfaaDoorKit
import Derived.Laws.BitsLemmas
namespace Go.Proofs.YtndflnedkpmpfaaDoor
open Go.RowKit

/-- The number of two bytes. -/
def be2 (l : Bytes) (i : Nat) : Nat := (bAt l i).toNat * 256 + (bAt l (i + 1)).toNat
/-- The place behind the cell that begins at a place; 0: there is none. -/
def afterM (l : Bytes) (a : Nat) : Nat := if l.length < a + 2 then 0 else if l.length < a + 2 + be2 l a then 0 else a + 2 + be2 l a
/-- Where a slot begins; 0: nowhere. -/
def placeM (l : Bytes) : Nat → Nat
  | 0 => 6
  | k + 1 => if placeM l k = 0 then 0 else afterM l (placeM l k)
def allZ (l : Bytes) : Bool := l.all (· == 0)
/-- Where a right page's cells end; 0: it is none. -/
def endM (l : Bytes) : Nat :=
  if l.length ≠ 512 then 0 else if placeM l (bAt l 1).toNat = 0 then 0 else if allZ (l.drop (placeM l (bAt l 1).toNat)) then placeM l (bAt l 1).toNat else 0
def newP (kind : UInt8) : Bytes := (zeros 512).set 0 kind
def roomM (l : Bytes) : Nat := if endM l = 0 then 0 else l.length - endM l
def countM (l : Bytes) : Nat := if endM l = 0 then 0 else (bAt l 1).toNat
def getM (l : Bytes) (slot : Int) : Option Bytes := if slot < 0 ∨ (countM l : Int) ≤ slot then none else
  some ((l.take (afterM l (placeM l slot.toNat))).drop (placeM l slot.toNat + 2))
/-- Bytes laid over others, from a place on (as far as there is room). -/
def over (l : Bytes) (i : Nat) (m : Bytes) : Bytes := l.take i ++ (m.take (l.length - i)) ++ l.drop (i + (m.take (l.length - i)).length)
def insertM (l : Bytes) (slot : Int) (c : Bytes) : Int × Bytes :=
  if endM l = 0 then (4, l) else if slot < 0 ∨ ((bAt l 1).toNat : Int) < slot then (2, l) else if bAt l 1 = 255 ∨ l.length - endM l < c.length + 2 then (5, l) else
    let a := placeM l slot.toNat
    let l1 := over l (a + 2 + c.length) ((l.take (endM l)).drop a)
    let l2 := (l1.set a (UInt8.ofNat (c.length / 256))).set (a + 1) (UInt8.ofNat c.length)
    let l3 := over l2 (a + 2) c
    (0, l3.set 1 (bAt l3 1 + 1))
theorem afterM_le (l : Bytes) (a : Nat) : afterM l a ≤ l.length := by
  unfold afterM; split
  · omega
  · split <;> omega
theorem afterM_ge (l : Bytes) (a : Nat) (h : afterM l a ≠ 0) : a + 2 ≤ afterM l a := by
  unfold afterM at *; split
  · rename_i h1; rw [if_pos h1] at h; exact absurd rfl h
  · rename_i h1; rw [if_neg h1] at h
    split
    · rename_i h2; rw [if_pos h2] at h; exact absurd rfl h
    · omega
theorem placeM_le (l : Bytes) (k : Nat) (h : 6 ≤ l.length) : placeM l k ≤ l.length := by
  cases k with
  | zero => exact h
  | succ k =>
    unfold placeM; split
    · omega
    · exact afterM_le _ _
theorem be2_lt (l : Bytes) (i : Nat) : be2 l i < 65536 := by
  have h1 := (bAt l i).toNat_lt
  have h2 := (bAt l (i + 1)).toNat_lt
  unfold be2; omega
theorem or_be (a b : Nat) (hb : b < 256) : a * 256 ||| b = a * 256 + b := by
  have := Nat.two_pow_add_eq_or_of_lt (i := 8) (b := b) hb a
  rw [show (2 : Nat) ^ 8 * a = a * 256 by omega] at this
  exact this.symm
theorem or_i64 {x y : Int} (h0 : 0 ≤ x) (h1 : x < 4611686018427387904) (h2 : x % 256 = 0) (h3 : 0 ≤ y) (h4 : y < 256) : bits BinOp.or IntKind.i64 x y = x + y :=
  bits_join .i64 63 (by decide) (fun n h h' => by rw [IntKind.wrap_i64]; omega) 8 x y h0 h2 (by omega) h3 h4 (by omega)
theorem be_bits (x0 x1 : UInt8) (a : Int) (h0 : 0 ≤ a) (h1 : a ≤ 1000000000) : wrap64 (a + 2 + bits BinOp.or IntKind.i64 (wrap64 (wrap64 ↑x0.toNat * 256)) (wrap64 ↑x1.toNat)) = a + 2 + ((x0.toNat * 256 + x1.toNat : Nat) : Int) := by
  have b0 := x0.toNat_lt
  have b1 := x1.toNat_lt
  have w0 : wrap64 (x0.toNat : Int) = x0.toNat := by unfold wrap64; omega
  have w1 : wrap64 (x1.toNat : Int) = x1.toNat := by unfold wrap64; omega
  have w2 : wrap64 ((x0.toNat : Int) * 256) = (x0.toNat : Int) * 256 := by unfold wrap64; omega
  rw [w0, w1, w2, or_i64 (by omega) (by omega) (by omega) (by omega) (by omega)]
  unfold wrap64
  omega
theorem allZ_iff (l : Bytes) : allZ l = true ↔ ∀ i, i < l.length → bAt l i = 0 := by
  unfold allZ
  rw [List.all_eq_true]
  constructor
  · intro h i hi
    have := h l[i] (by simp)
    rw [bAt_get hi]
    simpa using this
  · intro h x hx
    obtain ⟨i, hi, rfl⟩ := List.getElem_of_mem hx
    have := h i hi
    rw [bAt_get hi] at this
    simp [this]
end Go.Proofs.YtndflnedkpmpfaaDoor
