/-
  No statement is proved here: what an argument of a record reads as.
-/
import Derived.Test.YtbolbddjmmfepaaRead
import Derived.Test.YtbolbddjmmfepaaGm
namespace Go.Proofs.Ytbolbddjmmfepaa
open Go.RowKit

/-- A record's value. -/
def recVal (r : RecM) (A1 : Option Addr) (c1 : Nat) (A2 : Option Addr) (c2 : Nat) : Value :=
  .agg #[.int .i64 r.lsn, .int .i64 r.turn, .int .u8 r.kind.toNat, .int .i64 r.tx, .int .i64 r.prev, .int .i64 r.next, .int .i64 r.blk, .int .i64 r.off, .slice A1 r.old.length c1, .slice A2 r.new.length c2]
def isI (n : Int) : Prop := -9223372036854775808 ≤ n ∧ n ≤ 9223372036854775807
/-- The numbers of a record are such as the language has. -/
structure RecOk (r : RecM) : Prop where
  lsn : isI r.lsn
  turn : isI r.turn
  tx : isI r.tx
  prev : isI r.prev
  next : isI r.next
  blk : isI r.blk
  off : isI r.off

section
variable {H : Type} {enc : TypeId × Value → H} {w : World} {base : Nat} {spare : Nat → Bool} {held : Bool}
theorem cellsI64 : (Try.prog).cellsOf 2 = 1 := by kernel_rfl
theorem cellsSpan : (Try.prog).cellsOf 25 = 4 := by kernel_rfl
theorem cellsKind : (Try.prog).cellsOf 22 = 1 := by kernel_rfl
theorem cellsRec : (Try.prog).cellsOf 27 = 10 := by kernel_rfl
theorem list4 {l : List Value} (h : l.length = 4) : ∃ a b c d, l = [a, b, c, d] := by
  match l, h with | [a, b, c, d], _ => exact ⟨a, b, c, d, rfl⟩
theorem list10 {l : List Value} (h : l.length = 10) : ∃ a b c d e f g i j k, l = [a, b, c, d, e, f, g, i, j, k] := by
  match l, h with | [a, b, c, d, e, f, g, i, j, k], _ => exact ⟨a, b, c, d, e, f, g, i, j, k, rfl⟩
theorem capB {fuel : Nat} {A : Option Addr} {n c : Nat} {x : DataW H × List MemPlace} (h : DataW.trod enc Try.prog w base spare held fuel 23 [.slice A n c] = some x) : n ≤ c ∧ c ≤ 9223372036854775807 := by
  have e63 : maxLen = 9223372036854775807 := rfl
  rcases Deep.open_slice Try.underlying23 h with ⟨h, _⟩ | ⟨a, len, cap, m, n, D, Pl, h, _, hl, hm, _⟩
  · simp at h; omega
  · simp at h; omega
/-- An api.Record. -/
theorem open_rec {fuel : Nat} {cs : List Value} {x : DataW H × List MemPlace} (h : DataW.trod enc Try.prog w base spare held fuel 27 cs = some x) :
    ∃ (r : RecM) (A1 : Option Addr) (c1 : Nat) (A2 : Option Addr) (c2 : Nat), cs = (recVal r A1 c1 A2 c2).cells.toList ∧ RecOk r ∧ RdB w A1 r.old ∧ RdB w A2 r.new ∧
      r.old.length ≤ c1 ∧ c1 ≤ 9223372036854775807 ∧ r.new.length ≤ c2 ∧ c2 ≤ 9223372036854775807 := by
  obtain ⟨xs, n, _, _, hl, hxl, hf⟩ := DataW.trod_struct Try.underlying27 h
  obtain ⟨c0, c1, c2, c3, c4, c5, c6, c7, c8, c9, rfl⟩ := list10 (hl.trans cellsRec)
  obtain ⟨_, f0⟩ := fld hf 0 _ rfl (by simp [hxl]) 2 rfl 0 rfl 1 cellsI64
  obtain ⟨_, f1⟩ := fld hf 1 _ rfl (by simp [hxl]) 2 rfl 1 rfl 1 cellsI64
  obtain ⟨_, f2⟩ := fld hf 2 _ rfl (by simp [hxl]) 22 rfl 2 rfl 1 cellsKind
  obtain ⟨_, f3⟩ := fld hf 3 _ rfl (by simp [hxl]) 2 rfl 3 rfl 1 cellsI64
  obtain ⟨_, f4⟩ := fld hf 4 _ rfl (by simp [hxl]) 2 rfl 4 rfl 1 cellsI64
  obtain ⟨_, f5⟩ := fld hf 5 _ rfl (by simp [hxl]) 2 rfl 5 rfl 1 cellsI64
  obtain ⟨_, f6⟩ := fld hf 6 _ rfl (by simp [hxl]) 25 rfl 6 rfl 4 cellsSpan
  obtain ⟨n0, e0, _, w0⟩ := DataW.trod_int Try.underlying2 f0
  obtain ⟨n1, e1, _, w1⟩ := DataW.trod_int Try.underlying2 f1
  obtain ⟨n2, e2, _, w2⟩ := DataW.trod_int Try.underlying22 f2
  obtain ⟨n3, e3, _, w3⟩ := DataW.trod_int Try.underlying2 f3
  obtain ⟨n4, e4, _, w4⟩ := DataW.trod_int Try.underlying2 f4
  obtain ⟨n5, e5, _, w5⟩ := DataW.trod_int Try.underlying2 f5
  obtain ⟨ys, m, _, _, gl, gxl, gf⟩ := DataW.trod_struct Try.underlying25 f6
  obtain ⟨_, g0⟩ := fld gf 0 _ rfl (by simp [gxl]) 3 rfl 0 rfl 1 cells3
  obtain ⟨_, g1⟩ := fld gf 1 _ rfl (by simp [gxl]) 3 rfl 1 rfl 1 cells3
  obtain ⟨_, g2⟩ := fld gf 2 _ rfl (by simp [gxl]) 23 rfl 2 rfl 1 cellsB
  obtain ⟨_, g3⟩ := fld gf 3 _ rfl (by simp [gxl]) 23 rfl 3 rfl 1 cellsB
  obtain ⟨n6, e6, _, w6⟩ := DataW.trod_int Try.underlying3 g0
  obtain ⟨n7, e7, _, w7⟩ := DataW.trod_int Try.underlying3 g1
  obtain ⟨A1, k1, l1, e8, _, r1⟩ := open_bytes g2
  obtain ⟨A2, k2, l2, e9, _, r2⟩ := open_bytes g3
  obtain ⟨b, rfl⟩ := wf_u8 w2
  cases e0; cases e1; cases e2; cases e3; cases e4; cases e5; cases e6; cases e7; cases e8; cases e9
  have q1 := capB g2
  have q2 := capB g3
  exact ⟨⟨n0, n1, b, n3, n4, n5, n6, n7, l1, l2⟩, A1, k1, A2, k2, rfl, ⟨bounds_i64 w0, bounds_i64 w1, bounds_i64 w3, bounds_i64 w4, bounds_i64 w5, bounds_i64 w6, bounds_i64 w7⟩, r1, r2, q1.1, q1.2, q2.1, q2.2⟩
end
end Go.Proofs.Ytbolbddjmmfepaa
