/-
  No cell of these rows narrows 'for every input' (looked for: loops, veiled, ifaces, maps, wideKeys, modest, calm, conditions, laid).
  DERIVED. THE GIVEN ROWS OF THIS SEAT. 6 by the template 'for every input the law returns true; each argument reads behind the call as it read before'; 0 by the template 'total and deterministic' (their statements: YtjhbkamgmldkmaaTotals.lean).
  GIVEN WITH THE SEED: the statements are not yours to turn. If you find one false, say at which input.
  Laid BY PROGRAM, IN A SANDBOX (cutbox-rows.mjs): the forced cells as the released guide's own fill.sh prints them over the translation 00e0698ed3dbf45a… (all of the seat's roots in one cut). By AI agents, Wed Nov 11 2026. No macro, syntax, notation, axiom, sorry.
-/
import Derived.Test.YtjhbkamgmldkmaaChecked
import GoSem.Claim
import GoSem.ClaimJoined
import GoSem.ClaimMapViews
import Derived.JoinedTies
import Derived.KernelRfl
namespace Go.Proofs.Ytjhbkamgmldkmaa
/- THE CELL 'sum', in the pinned program and in every row, IS THE sha256 OF THE DUMP (.gsa) THAT YtjhbkamgmldkmaaProg.lean LOADS. Nothing in Lean hashes anything: it is a label: what it is worth is what the hold of that sum in a sandbox is worth. -/
noncomputable def Try.pinned : Pinned := { name := "ytjhbkamgmldkmaa", sum := "00e0698ed3dbf45ac7ab5be5cf4dbf1e6956ad96e98e73bb8489b1d6ab21293e", checked := Try.checked }
namespace Rows
def none {H : Type} : Left H := { results := [], args := [] }

/-- 'parchmentlaw01.DeviceSectors': WHATEVER THE INPUT: true; the input reads as it did. -/
def deviceSectorsSpec : ChangeSpec := { name := "deviceSectors", fn := fun _ => fun
  | [d1, d2] => { results := [.lit (.bool true)], args := [d1, d2] }
  | _ => none }
def deviceSectorsRow : OpenClaim := { program := "ytjhbkamgmldkmaa", sum := "00e0698ed3dbf45ac7ab5be5cf4dbf1e6956ad96e98e73bb8489b1d6ab21293e", func := "parchment/parchmentlaw01.DeviceSectors", spec := "deviceSectors", apart := false }
def DeviceSectorsSaid : Prop := deviceSectorsRow.holds Try.pinned (OpenSpec.ofChange deviceSectorsSpec)

/-- ITS FALSE NEIGHBOUR: 'it returns false'. Refute it at one input. -/
def deviceSectorsWrong : ChangeSpec := { name := "deviceSectors", fn := fun _ => fun
  | [d1, d2] => { results := [.lit (.bool false)], args := [d1, d2] }
  | _ => none }
def DeviceSectorsWrongFalsely : Prop := deviceSectorsRow.holds Try.pinned (OpenSpec.ofChange deviceSectorsWrong)

/-- 'parchmentlaw01.DeviceLives': WHATEVER THE INPUT: true; the input reads as it did. -/
def deviceLivesSpec : ChangeSpec := { name := "deviceLives", fn := fun _ => fun
  | [d1, d2] => { results := [.lit (.bool true)], args := [d1, d2] }
  | _ => none }
def deviceLivesRow : OpenClaim := { program := "ytjhbkamgmldkmaa", sum := "00e0698ed3dbf45ac7ab5be5cf4dbf1e6956ad96e98e73bb8489b1d6ab21293e", func := "parchment/parchmentlaw01.DeviceLives", spec := "deviceLives", apart := false }
def DeviceLivesSaid : Prop := deviceLivesRow.holds Try.pinned (OpenSpec.ofChange deviceLivesSpec)

/-- ITS FALSE NEIGHBOUR: 'it returns false'. Refute it at one input. -/
def deviceLivesWrong : ChangeSpec := { name := "deviceLives", fn := fun _ => fun
  | [d1, d2] => { results := [.lit (.bool false)], args := [d1, d2] }
  | _ => none }
def DeviceLivesWrongFalsely : Prop := deviceLivesRow.holds Try.pinned (OpenSpec.ofChange deviceLivesWrong)

/-- 'parchmentlaw01.DeviceNumbers': WHATEVER THE INPUT: true; the input reads as it did. -/
def deviceNumbersSpec : ChangeSpec := { name := "deviceNumbers", fn := fun _ => fun
  | [] => { results := [.lit (.bool true)], args := [] }
  | _ => none }
def deviceNumbersRow : OpenClaim := { program := "ytjhbkamgmldkmaa", sum := "00e0698ed3dbf45ac7ab5be5cf4dbf1e6956ad96e98e73bb8489b1d6ab21293e", func := "parchment/parchmentlaw01.DeviceNumbers", spec := "deviceNumbers", apart := false }
def DeviceNumbersSaid : Prop := deviceNumbersRow.holds Try.pinned (OpenSpec.ofChange deviceNumbersSpec)

/-- ITS FALSE NEIGHBOUR: 'it returns false'. Refute it at one input. -/
def deviceNumbersWrong : ChangeSpec := { name := "deviceNumbers", fn := fun _ => fun
  | [] => { results := [.lit (.bool false)], args := [] }
  | _ => none }
def DeviceNumbersWrongFalsely : Prop := deviceNumbersRow.holds Try.pinned (OpenSpec.ofChange deviceNumbersWrong)

/-- 'parchmentlaw01.DeviceArmed': WHATEVER THE INPUT: true; the input reads as it did. -/
def deviceArmedSpec : ChangeSpec := { name := "deviceArmed", fn := fun _ => fun
  | [d1, d2] => { results := [.lit (.bool true)], args := [d1, d2] }
  | _ => none }
def deviceArmedRow : OpenClaim := { program := "ytjhbkamgmldkmaa", sum := "00e0698ed3dbf45ac7ab5be5cf4dbf1e6956ad96e98e73bb8489b1d6ab21293e", func := "parchment/parchmentlaw01.DeviceArmed", spec := "deviceArmed", apart := false }
def DeviceArmedSaid : Prop := deviceArmedRow.holds Try.pinned (OpenSpec.ofChange deviceArmedSpec)

/-- ITS FALSE NEIGHBOUR: 'it returns false'. Refute it at one input. -/
def deviceArmedWrong : ChangeSpec := { name := "deviceArmed", fn := fun _ => fun
  | [d1, d2] => { results := [.lit (.bool false)], args := [d1, d2] }
  | _ => none }
def DeviceArmedWrongFalsely : Prop := deviceArmedRow.holds Try.pinned (OpenSpec.ofChange deviceArmedWrong)

/-- 'parchmentlaw01.DeviceCopies': WHATEVER THE INPUT: true; the input reads as it did. -/
def deviceCopiesSpec : ChangeSpec := { name := "deviceCopies", fn := fun _ => fun
  | [d1, d2, d3] => { results := [.lit (.bool true)], args := [d1, d2, d3] }
  | _ => none }
def deviceCopiesRow : OpenClaim := { program := "ytjhbkamgmldkmaa", sum := "00e0698ed3dbf45ac7ab5be5cf4dbf1e6956ad96e98e73bb8489b1d6ab21293e", func := "parchment/parchmentlaw01.DeviceCopies", spec := "deviceCopies", recurses := true, apart := false }
def DeviceCopiesSaid : Prop := deviceCopiesRow.holds Try.pinned (OpenSpec.ofChange deviceCopiesSpec)

/-- ITS FALSE NEIGHBOUR: 'it returns false'. Refute it at one input. -/
def deviceCopiesWrong : ChangeSpec := { name := "deviceCopies", fn := fun _ => fun
  | [d1, d2, d3] => { results := [.lit (.bool false)], args := [d1, d2, d3] }
  | _ => none }
def DeviceCopiesWrongFalsely : Prop := deviceCopiesRow.holds Try.pinned (OpenSpec.ofChange deviceCopiesWrong)

/-- 'parchmentlaw01.DeviceNil': WHATEVER THE INPUT: true; the input reads as it did. -/
def deviceNilSpec : ChangeSpec := { name := "deviceNil", fn := fun _ => fun
  | [d] => { results := [.lit (.bool true)], args := [d] }
  | _ => none }
def deviceNilRow : OpenClaim := { program := "ytjhbkamgmldkmaa", sum := "00e0698ed3dbf45ac7ab5be5cf4dbf1e6956ad96e98e73bb8489b1d6ab21293e", func := "parchment/parchmentlaw01.DeviceNil", spec := "deviceNil", apart := false }
def DeviceNilSaid : Prop := deviceNilRow.holds Try.pinned (OpenSpec.ofChange deviceNilSpec)

/-- ITS FALSE NEIGHBOUR: 'it returns false'. Refute it at one input. -/
def deviceNilWrong : ChangeSpec := { name := "deviceNil", fn := fun _ => fun
  | [d] => { results := [.lit (.bool false)], args := [d] }
  | _ => none }
def DeviceNilWrongFalsely : Prop := deviceNilRow.holds Try.pinned (OpenSpec.ofChange deviceNilWrong)

/- THE SECOND FORM. 'bulk': how many values and letters a reading holds, each counted each time it is reached (what is shared counts as often as it is met; a slice's spare places count too). A statement '..UptoSaid' is the law's where the arguments, and the package variables that the reading takes, are together of bulk at most 1048576: NARROWER than '..Said'. Prove '..Said' where nothing that the law and all that it calls make is longer than what came in: it says more and counts as full. Else prove '..UptoSaid'. A law counts once. -/
mutual
def uptoBulk {H : Type} : DataW H → Nat
  | .lit (.string bytes) => bytes.length + 1
  | .lit _ => 1
  | .nil => 1
  | .ptr d => uptoBulk d + 1
  | .slice elems spare => uptoBulkAll elems + uptoBulkAll spare + 1
  | .agg parts => uptoBulkAll parts + 1
  | .iface _ d => uptoBulk d + 1
  | .map entries => uptoBulkEntries entries + 1
  | .held _ => 1
def uptoBulkAll {H : Type} : List (DataW H) → Nat
  | [] => 0
  | d :: r => uptoBulk d + uptoBulkAll r
def uptoBulkEntries {H : Type} : List (Lit × DataW H) → Nat
  | [] => 0
  | x :: r => uptoBulkEntry x + uptoBulkEntries r
def uptoBulkEntry {H : Type} : Lit × DataW H → Nat
  | (.string bytes, d) => bytes.length + uptoBulk d + 1
  | (_, d) => uptoBulk d + 1
 end
def uptoSmall : (H : Type) → List (DataW H) → Bool := fun _ ds => decide (uptoBulkAll ds ≤ 1048576)
def OpenSpec.upto (s : _root_.Go.ChangeSpec) : _root_.Go.OpenSpec := { _root_.Go.OpenSpec.ofChange s with cond := some uptoSmall }

/-- 'parchmentlaw01.DeviceSectors', WHERE WHAT IT READS IS OF BULK AT MOST 1048576: true; the input reads as it did. -/
def deviceSectorsUptoRow : OpenClaim := { program := "ytjhbkamgmldkmaa", sum := "00e0698ed3dbf45ac7ab5be5cf4dbf1e6956ad96e98e73bb8489b1d6ab21293e", func := "parchment/parchmentlaw01.DeviceSectors", spec := "deviceSectors", apart := false, narrowed := true }
def DeviceSectorsUptoSaid : Prop := deviceSectorsUptoRow.holds Try.pinned (OpenSpec.upto deviceSectorsSpec)

/-- 'parchmentlaw01.DeviceLives', WHERE WHAT IT READS IS OF BULK AT MOST 1048576: true; the input reads as it did. -/
def deviceLivesUptoRow : OpenClaim := { program := "ytjhbkamgmldkmaa", sum := "00e0698ed3dbf45ac7ab5be5cf4dbf1e6956ad96e98e73bb8489b1d6ab21293e", func := "parchment/parchmentlaw01.DeviceLives", spec := "deviceLives", apart := false, narrowed := true }
def DeviceLivesUptoSaid : Prop := deviceLivesUptoRow.holds Try.pinned (OpenSpec.upto deviceLivesSpec)

/-- 'parchmentlaw01.DeviceNumbers', WHERE WHAT IT READS IS OF BULK AT MOST 1048576: true; the input reads as it did. -/
def deviceNumbersUptoRow : OpenClaim := { program := "ytjhbkamgmldkmaa", sum := "00e0698ed3dbf45ac7ab5be5cf4dbf1e6956ad96e98e73bb8489b1d6ab21293e", func := "parchment/parchmentlaw01.DeviceNumbers", spec := "deviceNumbers", apart := false, narrowed := true }
def DeviceNumbersUptoSaid : Prop := deviceNumbersUptoRow.holds Try.pinned (OpenSpec.upto deviceNumbersSpec)

/-- 'parchmentlaw01.DeviceArmed', WHERE WHAT IT READS IS OF BULK AT MOST 1048576: true; the input reads as it did. -/
def deviceArmedUptoRow : OpenClaim := { program := "ytjhbkamgmldkmaa", sum := "00e0698ed3dbf45ac7ab5be5cf4dbf1e6956ad96e98e73bb8489b1d6ab21293e", func := "parchment/parchmentlaw01.DeviceArmed", spec := "deviceArmed", apart := false, narrowed := true }
def DeviceArmedUptoSaid : Prop := deviceArmedUptoRow.holds Try.pinned (OpenSpec.upto deviceArmedSpec)

/-- 'parchmentlaw01.DeviceCopies', WHERE WHAT IT READS IS OF BULK AT MOST 1048576: true; the input reads as it did. -/
def deviceCopiesUptoRow : OpenClaim := { program := "ytjhbkamgmldkmaa", sum := "00e0698ed3dbf45ac7ab5be5cf4dbf1e6956ad96e98e73bb8489b1d6ab21293e", func := "parchment/parchmentlaw01.DeviceCopies", spec := "deviceCopies", recurses := true, apart := false, narrowed := true }
def DeviceCopiesUptoSaid : Prop := deviceCopiesUptoRow.holds Try.pinned (OpenSpec.upto deviceCopiesSpec)

/-- 'parchmentlaw01.DeviceNil', WHERE WHAT IT READS IS OF BULK AT MOST 1048576: true; the input reads as it did. -/
def deviceNilUptoRow : OpenClaim := { program := "ytjhbkamgmldkmaa", sum := "00e0698ed3dbf45ac7ab5be5cf4dbf1e6956ad96e98e73bb8489b1d6ab21293e", func := "parchment/parchmentlaw01.DeviceNil", spec := "deviceNil", apart := false, narrowed := true }
def DeviceNilUptoSaid : Prop := deviceNilUptoRow.holds Try.pinned (OpenSpec.upto deviceNilSpec)

end Rows
end Go.Proofs.Ytjhbkamgmldkmaa
