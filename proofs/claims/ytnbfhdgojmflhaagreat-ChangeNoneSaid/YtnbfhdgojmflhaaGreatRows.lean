/-
  No cell of these rows narrows 'for every input' (looked for: loops, veiled, ifaces, maps, wideKeys, modest, calm, conditions, laid).
  DERIVED. THE GIVEN ROWS OF THIS SEAT. 6 by the template 'for every input the law returns true; each argument reads behind the call as it read before'; 0 by the template 'total and deterministic' (their statements: YtnbfhdgojmflhaaGreatTotals.lean).
  GIVEN WITH THE SEED: the statements are not yours to turn. If you find one false, say at which input.
  Laid BY PROGRAM, IN A SANDBOX (cutbox-rows.mjs): the forced cells as the released guide's own fill.sh prints them over the translation 24012dc945f0429d… (all of the seat's roots in one cut). By AI agents, Wed Nov 11 2026. No macro, syntax, notation, axiom, sorry.
-/
import Derived.Test.YtnbfhdgojmflhaaGreatChecked
import GoSem.Claim
import GoSem.ClaimJoined
import GoSem.ClaimMapViews
import Derived.JoinedTies
import Derived.KernelRfl
namespace Go.Proofs.YtnbfhdgojmflhaaGreat
/- THE CELL 'sum', in the pinned program and in every row, IS THE sha256 OF THE DUMP (.gsa) THAT YtnbfhdgojmflhaaGreatProg.lean LOADS. Nothing in Lean hashes anything: it is a label: what it is worth is what the hold of that sum in a sandbox is worth. -/
noncomputable def Tryz.pinned : Pinned := { name := "ytnbfhdgojmflhaagreat", sum := "24012dc945f0429ddf90a0043a235853b0e86e62f08f605523b22c3c34c957a9", checked := Tryz.checked }
namespace Rows
def none {H : Type} : Left H := { results := [], args := [] }

/-- 'parchmentlaw11.PoolFew': WHATEVER THE INPUT: true; the input reads as it did. -/
def poolFewSpec : ChangeSpec := { name := "poolFew", fn := fun _ => fun
  | [d] => { results := [.lit (.bool true)], args := [d] }
  | _ => none }
def poolFewRow : OpenClaim := { program := "ytnbfhdgojmflhaagreat", sum := "24012dc945f0429ddf90a0043a235853b0e86e62f08f605523b22c3c34c957a9", func := "parchment/parchmentlaw11.PoolFew", spec := "poolFew", unfollowed := true, recurses := true, apart := false }
def PoolFewSaid : Prop := poolFewRow.holds Tryz.pinned (OpenSpec.ofChange poolFewSpec)

/-- ITS FALSE NEIGHBOUR: 'it returns false'. Refute it at one input. -/
def poolFewWrong : ChangeSpec := { name := "poolFew", fn := fun _ => fun
  | [d] => { results := [.lit (.bool false)], args := [d] }
  | _ => none }
def PoolFewWrongFalsely : Prop := poolFewRow.holds Tryz.pinned (OpenSpec.ofChange poolFewWrong)

/-- 'parchmentlaw12.ChangeUndoes': WHATEVER THE INPUT: true; the input reads as it did. -/
def changeUndoesSpec : ChangeSpec := { name := "changeUndoes", fn := fun _ => fun
  | [d1, d2, d3] => { results := [.lit (.bool true)], args := [d1, d2, d3] }
  | _ => none }
def changeUndoesRow : OpenClaim := { program := "ytnbfhdgojmflhaagreat", sum := "24012dc945f0429ddf90a0043a235853b0e86e62f08f605523b22c3c34c957a9", func := "parchment/parchmentlaw12.ChangeUndoes", spec := "changeUndoes", unfollowed := true, recurses := true, apart := false }
def ChangeUndoesSaid : Prop := changeUndoesRow.holds Tryz.pinned (OpenSpec.ofChange changeUndoesSpec)

/-- ITS FALSE NEIGHBOUR: 'it returns false'. Refute it at one input. -/
def changeUndoesWrong : ChangeSpec := { name := "changeUndoes", fn := fun _ => fun
  | [d1, d2, d3] => { results := [.lit (.bool false)], args := [d1, d2, d3] }
  | _ => none }
def ChangeUndoesWrongFalsely : Prop := changeUndoesRow.holds Tryz.pinned (OpenSpec.ofChange changeUndoesWrong)

/-- 'parchmentlaw12.ChangeNone': WHATEVER THE INPUT: true; the input reads as it did. -/
def changeNoneSpec : ChangeSpec := { name := "changeNone", fn := fun _ => fun
  | [d1, d2, d3] => { results := [.lit (.bool true)], args := [d1, d2, d3] }
  | _ => none }
def changeNoneRow : OpenClaim := { program := "ytnbfhdgojmflhaagreat", sum := "24012dc945f0429ddf90a0043a235853b0e86e62f08f605523b22c3c34c957a9", func := "parchment/parchmentlaw12.ChangeNone", spec := "changeNone", unfollowed := true, recurses := true, apart := false }
def ChangeNoneSaid : Prop := changeNoneRow.holds Tryz.pinned (OpenSpec.ofChange changeNoneSpec)

/-- ITS FALSE NEIGHBOUR: 'it returns false'. Refute it at one input. -/
def changeNoneWrong : ChangeSpec := { name := "changeNone", fn := fun _ => fun
  | [d1, d2, d3] => { results := [.lit (.bool false)], args := [d1, d2, d3] }
  | _ => none }
def ChangeNoneWrongFalsely : Prop := changeNoneRow.holds Tryz.pinned (OpenSpec.ofChange changeNoneWrong)

/-- 'parchmentlaw13.RestoreTells': WHATEVER THE INPUT: true; the input reads as it did. -/
def restoreTellsSpec : ChangeSpec := { name := "restoreTells", fn := fun _ => fun
  | [d1, d2] => { results := [.lit (.bool true)], args := [d1, d2] }
  | _ => none }
def restoreTellsRow : OpenClaim := { program := "ytnbfhdgojmflhaagreat", sum := "24012dc945f0429ddf90a0043a235853b0e86e62f08f605523b22c3c34c957a9", func := "parchment/parchmentlaw13.RestoreTells", spec := "restoreTells", unfollowed := true, recurses := true, apart := false }
def RestoreTellsSaid : Prop := restoreTellsRow.holds Tryz.pinned (OpenSpec.ofChange restoreTellsSpec)

/-- ITS FALSE NEIGHBOUR: 'it returns false'. Refute it at one input. -/
def restoreTellsWrong : ChangeSpec := { name := "restoreTells", fn := fun _ => fun
  | [d1, d2] => { results := [.lit (.bool false)], args := [d1, d2] }
  | _ => none }
def RestoreTellsWrongFalsely : Prop := restoreTellsRow.holds Tryz.pinned (OpenSpec.ofChange restoreTellsWrong)

/-- 'parchmentlaw13.RestoreWhole': WHATEVER THE INPUT: true; the input reads as it did. -/
def restoreWholeSpec : ChangeSpec := { name := "restoreWhole", fn := fun _ => fun
  | [d1, d2] => { results := [.lit (.bool true)], args := [d1, d2] }
  | _ => none }
def restoreWholeRow : OpenClaim := { program := "ytnbfhdgojmflhaagreat", sum := "24012dc945f0429ddf90a0043a235853b0e86e62f08f605523b22c3c34c957a9", func := "parchment/parchmentlaw13.RestoreWhole", spec := "restoreWhole", unfollowed := true, recurses := true, apart := false }
def RestoreWholeSaid : Prop := restoreWholeRow.holds Tryz.pinned (OpenSpec.ofChange restoreWholeSpec)

/-- ITS FALSE NEIGHBOUR: 'it returns false'. Refute it at one input. -/
def restoreWholeWrong : ChangeSpec := { name := "restoreWhole", fn := fun _ => fun
  | [d1, d2] => { results := [.lit (.bool false)], args := [d1, d2] }
  | _ => none }
def RestoreWholeWrongFalsely : Prop := restoreWholeRow.holds Tryz.pinned (OpenSpec.ofChange restoreWholeWrong)

/-- 'parchmentlaw13.RestoreTwice': WHATEVER THE INPUT: true; the input reads as it did. -/
def restoreTwiceSpec : ChangeSpec := { name := "restoreTwice", fn := fun _ => fun
  | [d1, d2, d3] => { results := [.lit (.bool true)], args := [d1, d2, d3] }
  | _ => none }
def restoreTwiceRow : OpenClaim := { program := "ytnbfhdgojmflhaagreat", sum := "24012dc945f0429ddf90a0043a235853b0e86e62f08f605523b22c3c34c957a9", func := "parchment/parchmentlaw13.RestoreTwice", spec := "restoreTwice", unfollowed := true, recurses := true, apart := false }
def RestoreTwiceSaid : Prop := restoreTwiceRow.holds Tryz.pinned (OpenSpec.ofChange restoreTwiceSpec)

/-- ITS FALSE NEIGHBOUR: 'it returns false'. Refute it at one input. -/
def restoreTwiceWrong : ChangeSpec := { name := "restoreTwice", fn := fun _ => fun
  | [d1, d2, d3] => { results := [.lit (.bool false)], args := [d1, d2, d3] }
  | _ => none }
def RestoreTwiceWrongFalsely : Prop := restoreTwiceRow.holds Tryz.pinned (OpenSpec.ofChange restoreTwiceWrong)

/- THE SECOND FORM. 'bulk': how many values and letters a reading holds, each counted each time it is reached (what is shared counts as often as it is met; a slice's spare places count too). A statement '..UptoSaid' is the law's where the arguments, and the package variables that the reading takes, are together of bulk at most 1048576: NARROWER than '..Said'. Prove '..Said' where nothing that the law and all that it calls make is longer than what came in: it says more and counts as full. Else prove '..UptoSaid'. A law counts once. -/
mutual
def uptoBulk {H : Type} : DataW H → Nat
  | .lit (.string bytes) => bytes.length + 1
  | .lit _ => 1
  | .nil => 1
  | .ptr d => uptoBulk d + 1
  | .slice elems spare => uptoBulkAll elems + uptoBulkAll spare + 1
  | .agg parts => uptoBulkAll parts + 1
  | .iface _ d => uptoBulk d + 1
  | .map entries => uptoBulkEntries entries + 1
  | .held _ => 1
def uptoBulkAll {H : Type} : List (DataW H) → Nat
  | [] => 0
  | d :: r => uptoBulk d + uptoBulkAll r
def uptoBulkEntries {H : Type} : List (Lit × DataW H) → Nat
  | [] => 0
  | x :: r => uptoBulkEntry x + uptoBulkEntries r
def uptoBulkEntry {H : Type} : Lit × DataW H → Nat
  | (.string bytes, d) => bytes.length + uptoBulk d + 1
  | (_, d) => uptoBulk d + 1
 end
def uptoSmall : (H : Type) → List (DataW H) → Bool := fun _ ds => decide (uptoBulkAll ds ≤ 1048576)
def OpenSpec.upto (s : _root_.Go.ChangeSpec) : _root_.Go.OpenSpec := { _root_.Go.OpenSpec.ofChange s with cond := some uptoSmall }

/-- 'parchmentlaw11.PoolFew', WHERE WHAT IT READS IS OF BULK AT MOST 1048576: true; the input reads as it did. -/
def poolFewUptoRow : OpenClaim := { program := "ytnbfhdgojmflhaagreat", sum := "24012dc945f0429ddf90a0043a235853b0e86e62f08f605523b22c3c34c957a9", func := "parchment/parchmentlaw11.PoolFew", spec := "poolFew", unfollowed := true, recurses := true, apart := false, narrowed := true }
def PoolFewUptoSaid : Prop := poolFewUptoRow.holds Tryz.pinned (OpenSpec.upto poolFewSpec)

/-- 'parchmentlaw12.ChangeUndoes', WHERE WHAT IT READS IS OF BULK AT MOST 1048576: true; the input reads as it did. -/
def changeUndoesUptoRow : OpenClaim := { program := "ytnbfhdgojmflhaagreat", sum := "24012dc945f0429ddf90a0043a235853b0e86e62f08f605523b22c3c34c957a9", func := "parchment/parchmentlaw12.ChangeUndoes", spec := "changeUndoes", unfollowed := true, recurses := true, apart := false, narrowed := true }
def ChangeUndoesUptoSaid : Prop := changeUndoesUptoRow.holds Tryz.pinned (OpenSpec.upto changeUndoesSpec)

/-- 'parchmentlaw12.ChangeNone', WHERE WHAT IT READS IS OF BULK AT MOST 1048576: true; the input reads as it did. -/
def changeNoneUptoRow : OpenClaim := { program := "ytnbfhdgojmflhaagreat", sum := "24012dc945f0429ddf90a0043a235853b0e86e62f08f605523b22c3c34c957a9", func := "parchment/parchmentlaw12.ChangeNone", spec := "changeNone", unfollowed := true, recurses := true, apart := false, narrowed := true }
def ChangeNoneUptoSaid : Prop := changeNoneUptoRow.holds Tryz.pinned (OpenSpec.upto changeNoneSpec)

/-- 'parchmentlaw13.RestoreTells', WHERE WHAT IT READS IS OF BULK AT MOST 1048576: true; the input reads as it did. -/
def restoreTellsUptoRow : OpenClaim := { program := "ytnbfhdgojmflhaagreat", sum := "24012dc945f0429ddf90a0043a235853b0e86e62f08f605523b22c3c34c957a9", func := "parchment/parchmentlaw13.RestoreTells", spec := "restoreTells", unfollowed := true, recurses := true, apart := false, narrowed := true }
def RestoreTellsUptoSaid : Prop := restoreTellsUptoRow.holds Tryz.pinned (OpenSpec.upto restoreTellsSpec)

/-- 'parchmentlaw13.RestoreWhole', WHERE WHAT IT READS IS OF BULK AT MOST 1048576: true; the input reads as it did. -/
def restoreWholeUptoRow : OpenClaim := { program := "ytnbfhdgojmflhaagreat", sum := "24012dc945f0429ddf90a0043a235853b0e86e62f08f605523b22c3c34c957a9", func := "parchment/parchmentlaw13.RestoreWhole", spec := "restoreWhole", unfollowed := true, recurses := true, apart := false, narrowed := true }
def RestoreWholeUptoSaid : Prop := restoreWholeUptoRow.holds Tryz.pinned (OpenSpec.upto restoreWholeSpec)

/-- 'parchmentlaw13.RestoreTwice', WHERE WHAT IT READS IS OF BULK AT MOST 1048576: true; the input reads as it did. -/
def restoreTwiceUptoRow : OpenClaim := { program := "ytnbfhdgojmflhaagreat", sum := "24012dc945f0429ddf90a0043a235853b0e86e62f08f605523b22c3c34c957a9", func := "parchment/parchmentlaw13.RestoreTwice", spec := "restoreTwice", unfollowed := true, recurses := true, apart := false, narrowed := true }
def RestoreTwiceUptoSaid : Prop := restoreTwiceUptoRow.holds Tryz.pinned (OpenSpec.upto restoreTwiceSpec)

end Rows
end Go.Proofs.YtnbfhdgojmflhaaGreat
