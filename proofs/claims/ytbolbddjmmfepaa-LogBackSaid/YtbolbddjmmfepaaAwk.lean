/-
  No statement is proved here: what chapter 10's 'awake' computes, with no program in sight.
-/
import Derived.Test.YtbolbddjmmfepaaLgp
namespace Go.Proofs.Ytbolbddjmmfepaa
open Go.RowKit

def awR (k : UInt8) (t : Int) : RecM := ⟨0, 0, k, t, 0, 0, 0, 0, [], []⟩
def awL0 : LogM := ⟨2, 5, 1, 1, 1, 1, [], [], 1⟩
def awE1 : Bytes := encM ⟨1, 1, 3, 7, 0, 0, 0, 0, [], []⟩
def awE2 : Bytes := encM ⟨36, 1, 4, 8, 0, 0, 0, 0, [], []⟩
def awL1 : LogM := ⟨2, 5, 1, 1, 36, 1, [1], awE1, 1⟩
def awD1 : DevM := ((newM 8).put 2 (laySec (zeros 512) 0 (stampM 1 1 35 ++ awE1))).sync
def awL2 : LogM := ⟨2, 5, 1, 1, 36, 36, [1], awE1, 1⟩
def awL3 : LogM := ⟨2, 5, 1, 1, 71, 36, [1, 36], awE1 ++ awE2, 1⟩
def awL4 : LogM := ⟨2, 5, 2, 1, 36, 36, [1], awE1, 1⟩
theorem aw_all0 : (chainM (newM 8) 2 5 1 1632 1633 1 0 []) = ([], 0) := by kernel_rfl
theorem aw_open : openM (newM 8) 2 5 1 1 = (some awL0, newM 8, 0) := by kernel_rfl
theorem aw_app1 : awL0.append (awR 3 7) = (awL1, 1, 0) := by kernel_rfl
theorem aw_force : awL1.force (newM 8) = (awL2, awD1, 0) := by kernel_rfl
theorem aw_app2 : awL2.append (awR 4 8) = (awL3, 36, 0) := by kernel_rfl
theorem aw_all1 : (chainM (awD1.wake []) 2 5 2 1632 1633 1 0 []) = (awE1, 0) := by kernel_rfl
theorem aw_open2 : openM (awD1.wake []) 2 5 1 2 = (some awL4, awD1.wake [], 0) := by kernel_rfl
theorem aw_read : awL4.read (awD1.wake []) 1 = (some ⟨1, 1, 3, 7, 0, 0, 0, 0, [], []⟩, 0) := by kernel_rfl
theorem aw_from : awL4.fromM (awD1.wake []) 1 = [⟨1, 1, 3, 7, 0, 0, 0, 0, [], []⟩] := by kernel_rfl
end Go.Proofs.Ytbolbddjmmfepaa
