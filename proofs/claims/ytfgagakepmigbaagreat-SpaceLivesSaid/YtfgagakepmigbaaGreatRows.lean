/-
  No cell of these rows narrows 'for every input' (looked for: loops, veiled, ifaces, maps, wideKeys, modest, calm, conditions, laid).
  DERIVED. THE GIVEN ROWS OF THIS SEAT. 5 by the template 'for every input the law returns true; each argument reads behind the call as it read before'; 0 by the template 'total and deterministic' (their statements: YtfgagakepmigbaaGreatTotals.lean).
  GIVEN WITH THE SEED: the statements are not yours to turn. If you find one false, say at which input.
  Laid BY PROGRAM, IN A SANDBOX (cutbox-rows.mjs): the forced cells as the released guide's own fill.sh prints them over the translation 07e74cb0c028dd0f… (all of the seat's roots in one cut). By AI agents, Wed Nov 11 2026. No macro, syntax, notation, axiom, sorry.
-/
import Derived.Test.YtfgagakepmigbaaGreatChecked
import GoSem.Claim
import GoSem.ClaimJoined
import GoSem.ClaimMapViews
import Derived.JoinedTies
import Derived.KernelRfl
namespace Go.Proofs.YtfgagakepmigbaaGreat
/- THE CELL 'sum', in the pinned program and in every row, IS THE sha256 OF THE DUMP (.gsa) THAT YtfgagakepmigbaaGreatProg.lean LOADS. Nothing in Lean hashes anything: it is a label: what it is worth is what the hold of that sum in a sandbox is worth. -/
noncomputable def Tryz.pinned : Pinned := { name := "ytfgagakepmigbaagreat", sum := "07e74cb0c028dd0f43c32162e088a51a69c105491b80e396f3a9850b7f8952e4", checked := Tryz.checked }
namespace Rows
def none {H : Type} : Left H := { results := [], args := [] }

/-- 'parchmentlaw14.SpaceNil': WHATEVER THE INPUT: true; the input reads as it did. -/
def spaceNilSpec : ChangeSpec := { name := "spaceNil", fn := fun _ => fun
  | [d] => { results := [.lit (.bool true)], args := [d] }
  | _ => none }
def spaceNilRow : OpenClaim := { program := "ytfgagakepmigbaagreat", sum := "07e74cb0c028dd0f43c32162e088a51a69c105491b80e396f3a9850b7f8952e4", func := "parchment/parchmentlaw14.SpaceNil", spec := "spaceNil", unfollowed := true, recurses := true, apart := false }
def SpaceNilSaid : Prop := spaceNilRow.holds Tryz.pinned (OpenSpec.ofChange spaceNilSpec)

/-- ITS FALSE NEIGHBOUR: 'it returns false'. Refute it at one input. -/
def spaceNilWrong : ChangeSpec := { name := "spaceNil", fn := fun _ => fun
  | [d] => { results := [.lit (.bool false)], args := [d] }
  | _ => none }
def SpaceNilWrongFalsely : Prop := spaceNilRow.holds Tryz.pinned (OpenSpec.ofChange spaceNilWrong)

/-- 'parchmentlaw14.SpaceNumbers': WHATEVER THE INPUT: true; the input reads as it did. -/
def spaceNumbersSpec : ChangeSpec := { name := "spaceNumbers", fn := fun _ => fun
  | [] => { results := [.lit (.bool true)], args := [] }
  | _ => none }
def spaceNumbersRow : OpenClaim := { program := "ytfgagakepmigbaagreat", sum := "07e74cb0c028dd0f43c32162e088a51a69c105491b80e396f3a9850b7f8952e4", func := "parchment/parchmentlaw14.SpaceNumbers", spec := "spaceNumbers", unfollowed := true, recurses := true, apart := false }
def SpaceNumbersSaid : Prop := spaceNumbersRow.holds Tryz.pinned (OpenSpec.ofChange spaceNumbersSpec)

/-- ITS FALSE NEIGHBOUR: 'it returns false'. Refute it at one input. -/
def spaceNumbersWrong : ChangeSpec := { name := "spaceNumbers", fn := fun _ => fun
  | [] => { results := [.lit (.bool false)], args := [] }
  | _ => none }
def SpaceNumbersWrongFalsely : Prop := spaceNumbersRow.holds Tryz.pinned (OpenSpec.ofChange spaceNumbersWrong)

/-- 'parchmentlaw14.SpaceOnce': WHATEVER THE INPUT: true; the input reads as it did. -/
def spaceOnceSpec : ChangeSpec := { name := "spaceOnce", fn := fun _ => fun
  | [d] => { results := [.lit (.bool true)], args := [d] }
  | _ => none }
def spaceOnceRow : OpenClaim := { program := "ytfgagakepmigbaagreat", sum := "07e74cb0c028dd0f43c32162e088a51a69c105491b80e396f3a9850b7f8952e4", func := "parchment/parchmentlaw14.SpaceOnce", spec := "spaceOnce", unfollowed := true, recurses := true, apart := false }
def SpaceOnceSaid : Prop := spaceOnceRow.holds Tryz.pinned (OpenSpec.ofChange spaceOnceSpec)

/-- ITS FALSE NEIGHBOUR: 'it returns false'. Refute it at one input. -/
def spaceOnceWrong : ChangeSpec := { name := "spaceOnce", fn := fun _ => fun
  | [d] => { results := [.lit (.bool false)], args := [d] }
  | _ => none }
def SpaceOnceWrongFalsely : Prop := spaceOnceRow.holds Tryz.pinned (OpenSpec.ofChange spaceOnceWrong)

/-- 'parchmentlaw14.SpaceLives': WHATEVER THE INPUT: true; the input reads as it did. -/
def spaceLivesSpec : ChangeSpec := { name := "spaceLives", fn := fun _ => fun
  | [d1, d2] => { results := [.lit (.bool true)], args := [d1, d2] }
  | _ => none }
def spaceLivesRow : OpenClaim := { program := "ytfgagakepmigbaagreat", sum := "07e74cb0c028dd0f43c32162e088a51a69c105491b80e396f3a9850b7f8952e4", func := "parchment/parchmentlaw14.SpaceLives", spec := "spaceLives", unfollowed := true, recurses := true, apart := false }
def SpaceLivesSaid : Prop := spaceLivesRow.holds Tryz.pinned (OpenSpec.ofChange spaceLivesSpec)

/-- ITS FALSE NEIGHBOUR: 'it returns false'. Refute it at one input. -/
def spaceLivesWrong : ChangeSpec := { name := "spaceLives", fn := fun _ => fun
  | [d1, d2] => { results := [.lit (.bool false)], args := [d1, d2] }
  | _ => none }
def SpaceLivesWrongFalsely : Prop := spaceLivesRow.holds Tryz.pinned (OpenSpec.ofChange spaceLivesWrong)

/-- 'parchmentlaw14.SpaceRoots': WHATEVER THE INPUT: true; the input reads as it did. -/
def spaceRootsSpec : ChangeSpec := { name := "spaceRoots", fn := fun _ => fun
  | [d] => { results := [.lit (.bool true)], args := [d] }
  | _ => none }
def spaceRootsRow : OpenClaim := { program := "ytfgagakepmigbaagreat", sum := "07e74cb0c028dd0f43c32162e088a51a69c105491b80e396f3a9850b7f8952e4", func := "parchment/parchmentlaw14.SpaceRoots", spec := "spaceRoots", unfollowed := true, recurses := true, apart := false }
def SpaceRootsSaid : Prop := spaceRootsRow.holds Tryz.pinned (OpenSpec.ofChange spaceRootsSpec)

/-- ITS FALSE NEIGHBOUR: 'it returns false'. Refute it at one input. -/
def spaceRootsWrong : ChangeSpec := { name := "spaceRoots", fn := fun _ => fun
  | [d] => { results := [.lit (.bool false)], args := [d] }
  | _ => none }
def SpaceRootsWrongFalsely : Prop := spaceRootsRow.holds Tryz.pinned (OpenSpec.ofChange spaceRootsWrong)

/- THE SECOND FORM. 'bulk': how many values and letters a reading holds, each counted each time it is reached (what is shared counts as often as it is met; a slice's spare places count too). A statement '..UptoSaid' is the law's where the arguments, and the package variables that the reading takes, are together of bulk at most 1048576: NARROWER than '..Said'. Prove '..Said' where nothing that the law and all that it calls make is longer than what came in: it says more and counts as full. Else prove '..UptoSaid'. A law counts once. -/
mutual
def uptoBulk {H : Type} : DataW H → Nat
  | .lit (.string bytes) => bytes.length + 1
  | .lit _ => 1
  | .nil => 1
  | .ptr d => uptoBulk d + 1
  | .slice elems spare => uptoBulkAll elems + uptoBulkAll spare + 1
  | .agg parts => uptoBulkAll parts + 1
  | .iface _ d => uptoBulk d + 1
  | .map entries => uptoBulkEntries entries + 1
  | .held _ => 1
def uptoBulkAll {H : Type} : List (DataW H) → Nat
  | [] => 0
  | d :: r => uptoBulk d + uptoBulkAll r
def uptoBulkEntries {H : Type} : List (Lit × DataW H) → Nat
  | [] => 0
  | x :: r => uptoBulkEntry x + uptoBulkEntries r
def uptoBulkEntry {H : Type} : Lit × DataW H → Nat
  | (.string bytes, d) => bytes.length + uptoBulk d + 1
  | (_, d) => uptoBulk d + 1
 end
def uptoSmall : (H : Type) → List (DataW H) → Bool := fun _ ds => decide (uptoBulkAll ds ≤ 1048576)
def OpenSpec.upto (s : _root_.Go.ChangeSpec) : _root_.Go.OpenSpec := { _root_.Go.OpenSpec.ofChange s with cond := some uptoSmall }

/-- 'parchmentlaw14.SpaceNil', WHERE WHAT IT READS IS OF BULK AT MOST 1048576: true; the input reads as it did. -/
def spaceNilUptoRow : OpenClaim := { program := "ytfgagakepmigbaagreat", sum := "07e74cb0c028dd0f43c32162e088a51a69c105491b80e396f3a9850b7f8952e4", func := "parchment/parchmentlaw14.SpaceNil", spec := "spaceNil", unfollowed := true, recurses := true, apart := false, narrowed := true }
def SpaceNilUptoSaid : Prop := spaceNilUptoRow.holds Tryz.pinned (OpenSpec.upto spaceNilSpec)

/-- 'parchmentlaw14.SpaceNumbers', WHERE WHAT IT READS IS OF BULK AT MOST 1048576: true; the input reads as it did. -/
def spaceNumbersUptoRow : OpenClaim := { program := "ytfgagakepmigbaagreat", sum := "07e74cb0c028dd0f43c32162e088a51a69c105491b80e396f3a9850b7f8952e4", func := "parchment/parchmentlaw14.SpaceNumbers", spec := "spaceNumbers", unfollowed := true, recurses := true, apart := false, narrowed := true }
def SpaceNumbersUptoSaid : Prop := spaceNumbersUptoRow.holds Tryz.pinned (OpenSpec.upto spaceNumbersSpec)

/-- 'parchmentlaw14.SpaceOnce', WHERE WHAT IT READS IS OF BULK AT MOST 1048576: true; the input reads as it did. -/
def spaceOnceUptoRow : OpenClaim := { program := "ytfgagakepmigbaagreat", sum := "07e74cb0c028dd0f43c32162e088a51a69c105491b80e396f3a9850b7f8952e4", func := "parchment/parchmentlaw14.SpaceOnce", spec := "spaceOnce", unfollowed := true, recurses := true, apart := false, narrowed := true }
def SpaceOnceUptoSaid : Prop := spaceOnceUptoRow.holds Tryz.pinned (OpenSpec.upto spaceOnceSpec)

/-- 'parchmentlaw14.SpaceLives', WHERE WHAT IT READS IS OF BULK AT MOST 1048576: true; the input reads as it did. -/
def spaceLivesUptoRow : OpenClaim := { program := "ytfgagakepmigbaagreat", sum := "07e74cb0c028dd0f43c32162e088a51a69c105491b80e396f3a9850b7f8952e4", func := "parchment/parchmentlaw14.SpaceLives", spec := "spaceLives", unfollowed := true, recurses := true, apart := false, narrowed := true }
def SpaceLivesUptoSaid : Prop := spaceLivesUptoRow.holds Tryz.pinned (OpenSpec.upto spaceLivesSpec)

/-- 'parchmentlaw14.SpaceRoots', WHERE WHAT IT READS IS OF BULK AT MOST 1048576: true; the input reads as it did. -/
def spaceRootsUptoRow : OpenClaim := { program := "ytfgagakepmigbaagreat", sum := "07e74cb0c028dd0f43c32162e088a51a69c105491b80e396f3a9850b7f8952e4", func := "parchment/parchmentlaw14.SpaceRoots", spec := "spaceRoots", unfollowed := true, recurses := true, apart := false, narrowed := true }
def SpaceRootsUptoSaid : Prop := spaceRootsUptoRow.holds Tryz.pinned (OpenSpec.upto spaceRootsSpec)

end Rows
end Go.Proofs.YtfgagakepmigbaaGreat
