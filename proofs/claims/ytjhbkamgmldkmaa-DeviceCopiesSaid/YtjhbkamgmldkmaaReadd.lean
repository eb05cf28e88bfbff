/-
  No statement is proved here: what arguments read as: fates, steps of a device's life.
-/
import Derived.Test.YtjhbkamgmldkmaaRead
import Derived.Test.YtjhbkamgmldkmaaSec
namespace Go.Proofs.Ytjhbkamgmldkmaa
open Go.RowKit

section
variable {H : Type} {enc : TypeId × Value → H} {w : World} {base : Nat} {spare : Nat → Bool} {held : Bool}
theorem cellsFate : (Try.prog).cellsOf 39 = 2 := by kernel_rfl
theorem cellsFates : (Try.prog).cellsOf 23 = 1 := by kernel_rfl
theorem list2 {l : List Value} (h : l.length = 2) : ∃ a b, l = [a, b] := by
  match l, h with | [a, b], _ => exact ⟨a, b, rfl⟩
theorem list5 {l : List Value} (h : l.length = 5) : ∃ a b c d e, l = [a, b, c, d, e] := by
  match l, h with | [a, b, c, d, e], _ => exact ⟨a, b, c, d, e, rfl⟩
/-- A []api.Fate. -/
theorem open_fates {fuel : Nat} {cs : List Value} {x : DataW H × List MemPlace} (h : DataW.trod enc Try.prog w base spare held fuel 23 cs = some x) :
    ∃ (A : Option Addr) (c : Nat) (l : Fates), cs = [.slice A l.length c] ∧ l.length ≤ maxLen ∧ RdF w A l := by
  obtain ⟨A, len, c, l, rfl, rfl, hm, hx⟩ := open_list (α := Int × UInt8) Try.underlying23 cellsFate (by omega) (fun y cs => cs = [.int .i64 y.1, .int .u8 y.2.toNat]) (fun fuel cs x h => by
    obtain ⟨xs, n, _, _, hl, hxl, hf⟩ := DataW.trod_struct Try.underlying39 h
    obtain ⟨c0, c1, rfl⟩ := list2 (hl.trans cellsFate)
    obtain ⟨_, f0⟩ := fld hf 0 _ rfl (by simp [hxl]) 3 rfl 0 rfl 1 cells3
    obtain ⟨_, f1⟩ := fld hf 1 _ rfl (by simp [hxl]) 5 rfl 1 rfl 1 cells5
    obtain ⟨n0, e0, _, _⟩ := DataW.trod_int Try.underlying3 f0
    obtain ⟨n1, e1, _, w1⟩ := DataW.trod_int Try.underlying5 f1
    obtain ⟨b, rfl⟩ := wf_u8 w1
    cases e0; cases e1
    exact ⟨(n0, b), rfl⟩) h
  refine ⟨A, c, l, rfl, hm, fun hne => ?_⟩
  obtain ⟨b, off, hA, hc⟩ := hx hne
  refine ⟨b, off, hA, fun i y hy => ?_⟩
  obtain ⟨cs', _, h1, rfl⟩ := hc i y hy
  exact ⟨h1 0 (by omega), h1 1 (by omega)⟩
instance : Inhabited DoM := ⟨⟨0, 0, 0, 0, []⟩⟩
theorem cellsDo : (Try.prog).cellsOf 31 = 5 := by kernel_rfl
/-- A []Do. -/
theorem open_do {fuel : Nat} {cs : List Value} {x : DataW H × List MemPlace} (h : DataW.trod enc Try.prog w base spare held fuel 22 cs = some x) :
    ∃ (A : Option Addr) (c : Nat) (l : List DoM), cs = [.slice A l.length c] ∧ l.length ≤ maxLen ∧ RdDo w A l := by
  obtain ⟨A, len, c, l, rfl, rfl, hm, hx⟩ := open_list (α := DoM) Try.underlying22 cellsDo (by omega) (fun y cs => ∃ FA c, cs = [.int .i64 y.op, .int .i64 y.blk, .int .i64 y.n, .int .u8 y.byte.toNat, .slice FA y.fates.length c] ∧ RdF w FA y.fates ∧ y.fates.length ≤ maxLen ∧ y.n ≤ 9223372036854775807) (fun fuel cs x h => by
    obtain ⟨xs, n, _, _, hl, hxl, hf⟩ := DataW.trod_struct Try.underlying31 h
    obtain ⟨c0, c1, c2, c3, c4, rfl⟩ := list5 (hl.trans cellsDo)
    obtain ⟨_, f0⟩ := fld hf 0 _ rfl (by simp [hxl]) 3 rfl 0 rfl 1 cells3
    obtain ⟨_, f1⟩ := fld hf 1 _ rfl (by simp [hxl]) 3 rfl 1 rfl 1 cells3
    obtain ⟨_, f2⟩ := fld hf 2 _ rfl (by simp [hxl]) 3 rfl 2 rfl 1 cells3
    obtain ⟨_, f3⟩ := fld hf 3 _ rfl (by simp [hxl]) 5 rfl 3 rfl 1 cells5
    obtain ⟨_, f4⟩ := fld hf 4 _ rfl (by simp [hxl]) 23 rfl 4 rfl 1 cellsFates
    obtain ⟨n0, e0, _, _⟩ := DataW.trod_int Try.underlying3 f0
    obtain ⟨n1, e1, _, _⟩ := DataW.trod_int Try.underlying3 f1
    obtain ⟨n2, e2, _, w2⟩ := DataW.trod_int Try.underlying3 f2
    obtain ⟨n3, e3, _, w3⟩ := DataW.trod_int Try.underlying5 f3
    obtain ⟨FA, cF, fs, e4, hfm, hfs⟩ := open_fates f4
    obtain ⟨b, rfl⟩ := wf_u8 w3
    cases e0; cases e1; cases e2; cases e3; cases e4
    exact ⟨⟨n0, n1, n2, b, fs⟩, FA, cF, rfl, hfs, hfm, (bounds_i64 w2).2⟩) h
  refine ⟨A, c, l, rfl, hm, fun hne => ?_⟩
  obtain ⟨b, off, hA, hc⟩ := hx hne
  refine ⟨b, off, hA, fun i y hy => ?_⟩
  obtain ⟨cs', _, h1, FA, cF, rfl, h2, h3, h4⟩ := hc i y hy
  exact ⟨h1 0 (by omega), h1 1 (by omega), h1 2 (by omega), h1 3 (by omega), FA, cF, h1 4 (by omega), h2, h3, h4⟩
end
end Go.Proofs.Ytjhbkamgmldkmaa
