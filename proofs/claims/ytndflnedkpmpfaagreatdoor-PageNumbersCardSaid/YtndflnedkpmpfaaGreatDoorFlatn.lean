/-
  No statement is proved here: the verifier's flat functions, of nothing.
-/
import Derived.Test.YtndflnedkpmpfaaGreatDoorApp
namespace Go.Proofs.YtndflnedkpmpfaaGreatDoor
open Go.RowKit

theorem run_make0 {P : Program} (w : World) (t e : TypeId) {z : Value} {size bytes : Nat} (ht : P.underlying t = some (.slice e)) (hinf : (P.info? e).map (fun i => (i.zero, i.size, i.bytes)) = some (some z, size, bytes)) :
    ∃ w1, (Instr.makeSlice t (.int .i64 0) (.int .i64 0)).run P w = .ok (.slice (some ⟨w.heap.size, 0, none⟩) 0 0) w1 ∧ Kept (fun _ => False) w w1 := by
  obtain ⟨i, hi, h2, h3, h4⟩ := info_parts hinf
  have hr := run_make (P := P) w t e i z ht hi h2 .i64 .i64 (0 : Int) (0 : Int) (by omega) (by omega) (by omega) (by omega)
  exact ⟨_, hr, (Kept.refl _ w).alloc _⟩

set_option maxRecDepth 100000 in
set_option maxHeartbeats 1000000 in
theorem flatBytes_nil (w : World) : Calls Tryz.prog 66 #[.slice none 0 0] w fun e w' => e = .returned (.bool true) ∧ Kept (fun _ => False) w w' := by
  go_enter Tryz.func66, Tryz.ntmps66
  go_wp2
  go_loopw [3] (fun i wr => i = .int .i64 0 ∧ Kept (fun _ => False) w wr) (fun i _ => 0)
  case atStart => exact ⟨rfl, Kept.refl _ _⟩
  case round =>
    obtain ⟨rfl, hk1⟩ := hrel
    obtain ⟨w1, hr, hkm⟩ := run_make0 (P := Tryz.prog) wr 28 22 Tryz.underlying28 (z := .slice none 0 0) (size := 1) (bytes := 24) (by kernel_rfl)
    have hk1' := Lib.hid (hk1.trans0 hkm)
    clear hk1 hkm
    go_wp2
    go_loopw [6] (fun i wr => i = .int .i64 0 ∧ Kept (fun _ => False) w wr) (fun i _ => 0)
    case atStart => exact ⟨rfl, hk1'.out⟩
    case round =>
      obtain ⟨rfl, hk2⟩ := hrel
      go_wp2
      go_loopw [9] (fun i wr => i = .int .i64 0 ∧ Kept (fun _ => False) w wr) (fun i _ => 0)
      case atStart => exact ⟨rfl, hk2⟩
      case round =>
        obtain ⟨rfl, hk3⟩ := hrel
        go_wp2
        go_loopw [11] (fun i wr => i = .int .i64 0 ∧ Kept (fun _ => False) w wr) (fun i _ => 0)
        case atStart => exact ⟨rfl, hk3⟩
        case round =>
          obtain ⟨rfl, hk4⟩ := hrel
          go_wp2
          go_loopw [14] (fun i wr => i = .int .i64 0 ∧ Kept (fun _ => False) w wr) (fun i _ => 0)
          case atStart => exact ⟨rfl, hk4⟩
          case round =>
            obtain ⟨rfl, hk5⟩ := hrel
            go_wp2
            go_ret
            exact ⟨rfl, hk5⟩

set_option maxRecDepth 100000 in
set_option maxHeartbeats 1000000 in
theorem flatWords_nil (w : World) : Calls Tryz.prog 62 #[.slice none 0 0] w fun e w' => e = .returned (.bool true) ∧ Kept (fun _ => False) w w' := by
  go_enter Tryz.func62, Tryz.ntmps62
  go_wp2
  go_loopw [3] (fun i wr => i = .int .i64 0 ∧ Kept (fun _ => False) w wr) (fun i _ => 0)
  case atStart => exact ⟨rfl, Kept.refl _ _⟩
  case round =>
    obtain ⟨rfl, hk1⟩ := hrel
    obtain ⟨w1, hr, hkm⟩ := run_make0 (P := Tryz.prog) wr 55 112 Tryz.underlying55 (z := .slice none 0 0) (size := 1) (bytes := 24) (by kernel_rfl)
    have hk1' := Lib.hid (hk1.trans0 hkm)
    clear hk1 hkm
    go_wp2
    go_loopw [6] (fun i wr => i = .int .i64 0 ∧ Kept (fun _ => False) w wr) (fun i _ => 0)
    case atStart => exact ⟨rfl, hk1'.out⟩
    case round =>
      obtain ⟨rfl, hk2⟩ := hrel
      go_wp2
      go_loopw [9] (fun i wr => i = .int .i64 0 ∧ Kept (fun _ => False) w wr) (fun i _ => 0)
      case atStart => exact ⟨rfl, hk2⟩
      case round =>
        obtain ⟨rfl, hk3⟩ := hrel
        go_wp2
        go_loopw [11] (fun i wr => i = .int .i64 0 ∧ Kept (fun _ => False) w wr) (fun i _ => 0)
        case atStart => exact ⟨rfl, hk3⟩
        case round =>
          obtain ⟨rfl, hk4⟩ := hrel
          go_wp2
          go_loopw [14] (fun i wr => i = .int .i64 0 ∧ Kept (fun _ => False) w wr) (fun i _ => 0)
          case atStart => exact ⟨rfl, hk4⟩
          case round =>
            obtain ⟨rfl, hk5⟩ := hrel
            go_wp2
            go_ret
            exact ⟨rfl, hk5⟩

set_option maxRecDepth 100000 in
set_option maxHeartbeats 1000000 in
theorem flatInts_nil (w : World) : Calls Tryz.prog 63 #[.slice none 0 0] w fun e w' => e = .returned (.bool true) ∧ Kept (fun _ => False) w w' := by
  go_enter Tryz.func63, Tryz.ntmps63
  go_wp2
  go_loopw [3] (fun i wr => i = .int .i64 0 ∧ Kept (fun _ => False) w wr) (fun i _ => 0)
  case atStart => exact ⟨rfl, Kept.refl _ _⟩
  case round =>
    obtain ⟨rfl, hk1⟩ := hrel
    obtain ⟨w1, hr, hkm⟩ := run_make0 (P := Tryz.prog) wr 56 113 Tryz.underlying56 (z := .slice none 0 0) (size := 1) (bytes := 24) (by kernel_rfl)
    have hk1' := Lib.hid (hk1.trans0 hkm)
    clear hk1 hkm
    go_wp2
    go_loopw [6] (fun i wr => i = .int .i64 0 ∧ Kept (fun _ => False) w wr) (fun i _ => 0)
    case atStart => exact ⟨rfl, hk1'.out⟩
    case round =>
      obtain ⟨rfl, hk2⟩ := hrel
      go_wp2
      go_loopw [9] (fun i wr => i = .int .i64 0 ∧ Kept (fun _ => False) w wr) (fun i _ => 0)
      case atStart => exact ⟨rfl, hk2⟩
      case round =>
        obtain ⟨rfl, hk3⟩ := hrel
        go_wp2
        go_loopw [11] (fun i wr => i = .int .i64 0 ∧ Kept (fun _ => False) w wr) (fun i _ => 0)
        case atStart => exact ⟨rfl, hk3⟩
        case round =>
          obtain ⟨rfl, hk4⟩ := hrel
          go_wp2
          go_loopw [14] (fun i wr => i = .int .i64 0 ∧ Kept (fun _ => False) w wr) (fun i _ => 0)
          case atStart => exact ⟨rfl, hk4⟩
          case round =>
            obtain ⟨rfl, hk5⟩ := hrel
            go_wp2
            go_ret
            exact ⟨rfl, hk5⟩

set_option maxRecDepth 100000 in
set_option maxHeartbeats 1000000 in
theorem flatLongs_nil (w : World) : Calls Tryz.prog 64 #[.slice none 0 0] w fun e w' => e = .returned (.bool true) ∧ Kept (fun _ => False) w w' := by
  go_enter Tryz.func64, Tryz.ntmps64
  go_wp2
  go_loopw [3] (fun i wr => i = .int .i64 0 ∧ Kept (fun _ => False) w wr) (fun i _ => 0)
  case atStart => exact ⟨rfl, Kept.refl _ _⟩
  case round =>
    obtain ⟨rfl, hk1⟩ := hrel
    obtain ⟨w1, hr, hkm⟩ := run_make0 (P := Tryz.prog) wr 57 114 Tryz.underlying57 (z := .slice none 0 0) (size := 1) (bytes := 24) (by kernel_rfl)
    have hk1' := Lib.hid (hk1.trans0 hkm)
    clear hk1 hkm
    go_wp2
    go_loopw [6] (fun i wr => i = .int .i64 0 ∧ Kept (fun _ => False) w wr) (fun i _ => 0)
    case atStart => exact ⟨rfl, hk1'.out⟩
    case round =>
      obtain ⟨rfl, hk2⟩ := hrel
      go_wp2
      go_loopw [9] (fun i wr => i = .int .i64 0 ∧ Kept (fun _ => False) w wr) (fun i _ => 0)
      case atStart => exact ⟨rfl, hk2⟩
      case round =>
        obtain ⟨rfl, hk3⟩ := hrel
        go_wp2
        go_loopw [11] (fun i wr => i = .int .i64 0 ∧ Kept (fun _ => False) w wr) (fun i _ => 0)
        case atStart => exact ⟨rfl, hk3⟩
        case round =>
          obtain ⟨rfl, hk4⟩ := hrel
          go_wp2
          go_loopw [14] (fun i wr => i = .int .i64 0 ∧ Kept (fun _ => False) w wr) (fun i _ => 0)
          case atStart => exact ⟨rfl, hk4⟩
          case round =>
            obtain ⟨rfl, hk5⟩ := hrel
            go_wp2
            go_ret
            exact ⟨rfl, hk5⟩

set_option maxRecDepth 100000 in
set_option maxHeartbeats 1000000 in
theorem flatTexts_nil (w : World) : Calls Tryz.prog 65 #[.slice none 0 0] w fun e w' => e = .returned (.bool true) ∧ Kept (fun _ => False) w w' := by
  go_enter Tryz.func65, Tryz.ntmps65
  go_wp2
  go_loopw [3] (fun i wr => i = .int .i64 0 ∧ Kept (fun _ => False) w wr) (fun i _ => 0)
  case atStart => exact ⟨rfl, Kept.refl _ _⟩
  case round =>
    obtain ⟨rfl, hk1⟩ := hrel
    obtain ⟨w1, hr, hkm⟩ := run_make0 (P := Tryz.prog) wr 58 115 Tryz.underlying58 (z := .slice none 0 0) (size := 1) (bytes := 24) (by kernel_rfl)
    have hk1' := Lib.hid (hk1.trans0 hkm)
    clear hk1 hkm
    go_wp2
    go_loopw [6] (fun i wr => i = .int .i64 0 ∧ Kept (fun _ => False) w wr) (fun i _ => 0)
    case atStart => exact ⟨rfl, hk1'.out⟩
    case round =>
      obtain ⟨rfl, hk2⟩ := hrel
      go_wp2
      go_loopw [9] (fun i wr => i = .int .i64 0 ∧ Kept (fun _ => False) w wr) (fun i _ => 0)
      case atStart => exact ⟨rfl, hk2⟩
      case round =>
        obtain ⟨rfl, hk3⟩ := hrel
        go_wp2
        go_loopw [11] (fun i wr => i = .int .i64 0 ∧ Kept (fun _ => False) w wr) (fun i _ => 0)
        case atStart => exact ⟨rfl, hk3⟩
        case round =>
          obtain ⟨rfl, hk4⟩ := hrel
          go_wp2
          go_loopw [14] (fun i wr => i = .int .i64 0 ∧ Kept (fun _ => False) w wr) (fun i _ => 0)
          case atStart => exact ⟨rfl, hk4⟩
          case round =>
            obtain ⟨rfl, hk5⟩ := hrel
            go_wp2
            go_ret
            exact ⟨rfl, hk5⟩

set_option maxRecDepth 100000 in
set_option maxHeartbeats 1000000 in
theorem flatNodes_nil (w : World) : Calls Tryz.prog 67 #[.slice none 0 0] w fun e w' => e = .returned (.bool true) ∧ Kept (fun _ => False) w w' := by
  go_enter Tryz.func67, Tryz.ntmps67
  go_wp2
  go_loopw [3] (fun i wr => i = .int .i64 0 ∧ Kept (fun _ => False) w wr) (fun i _ => 0)
  case atStart => exact ⟨rfl, Kept.refl _ _⟩
  case round =>
    obtain ⟨rfl, hk1⟩ := hrel
    obtain ⟨w1, hr, hkm⟩ := run_make0 (P := Tryz.prog) wr 59 117 Tryz.underlying59 (z := .slice none 0 0) (size := 1) (bytes := 24) (by kernel_rfl)
    have hk1' := Lib.hid (hk1.trans0 hkm)
    clear hk1 hkm
    go_wp2
    go_loopw [6] (fun i wr => i = .int .i64 0 ∧ Kept (fun _ => False) w wr) (fun i _ => 0)
    case atStart => exact ⟨rfl, hk1'.out⟩
    case round =>
      obtain ⟨rfl, hk2⟩ := hrel
      go_wp2
      go_loopw [9] (fun i wr => i = .int .i64 0 ∧ Kept (fun _ => False) w wr) (fun i _ => 0)
      case atStart => exact ⟨rfl, hk2⟩
      case round =>
        obtain ⟨rfl, hk3⟩ := hrel
        go_wp2
        go_loopw [11] (fun i wr => i = .int .i64 0 ∧ Kept (fun _ => False) w wr) (fun i _ => 0)
        case atStart => exact ⟨rfl, hk3⟩
        case round =>
          obtain ⟨rfl, hk4⟩ := hrel
          go_wp2
          go_loopw [14] (fun i wr => i = .int .i64 0 ∧ Kept (fun _ => False) w wr) (fun i _ => 0)
          case atStart => exact ⟨rfl, hk4⟩
          case round =>
            obtain ⟨rfl, hk5⟩ := hrel
            go_wp2
            go_ret
            exact ⟨rfl, hk5⟩

set_option maxRecDepth 100000 in
set_option maxHeartbeats 1000000 in
theorem flatFates_nil (w : World) : Calls Tryz.prog 68 #[.slice none 0 0] w fun e w' => e = .returned (.bool true) ∧ Kept (fun _ => False) w w' := by
  go_enter Tryz.func68, Tryz.ntmps68
  go_wp2
  go_loopw [3] (fun i wr => i = .int .i64 0 ∧ Kept (fun _ => False) w wr) (fun i _ => 0)
  case atStart => exact ⟨rfl, Kept.refl _ _⟩
  case round =>
    obtain ⟨rfl, hk1⟩ := hrel
    obtain ⟨w1, hr, hkm⟩ := run_make0 (P := Tryz.prog) wr 60 122 Tryz.underlying60 (z := .slice none 0 0) (size := 1) (bytes := 24) (by kernel_rfl)
    have hk1' := Lib.hid (hk1.trans0 hkm)
    clear hk1 hkm
    go_wp2
    go_loopw [6] (fun i wr => i = .int .i64 0 ∧ Kept (fun _ => False) w wr) (fun i _ => 0)
    case atStart => exact ⟨rfl, hk1'.out⟩
    case round =>
      obtain ⟨rfl, hk2⟩ := hrel
      go_wp2
      go_loopw [9] (fun i wr => i = .int .i64 0 ∧ Kept (fun _ => False) w wr) (fun i _ => 0)
      case atStart => exact ⟨rfl, hk2⟩
      case round =>
        obtain ⟨rfl, hk3⟩ := hrel
        go_wp2
        go_loopw [11] (fun i wr => i = .int .i64 0 ∧ Kept (fun _ => False) w wr) (fun i _ => 0)
        case atStart => exact ⟨rfl, hk3⟩
        case round =>
          obtain ⟨rfl, hk4⟩ := hrel
          go_wp2
          go_loopw [14] (fun i wr => i = .int .i64 0 ∧ Kept (fun _ => False) w wr) (fun i _ => 0)
          case atStart => exact ⟨rfl, hk4⟩
          case round =>
            obtain ⟨rfl, hk5⟩ := hrel
            go_wp2
            go_ret
            exact ⟨rfl, hk5⟩

set_option maxRecDepth 100000 in
set_option maxHeartbeats 1000000 in
theorem flatSpans_nil (w : World) : Calls Tryz.prog 69 #[.slice none 0 0] w fun e w' => e = .returned (.bool true) ∧ Kept (fun _ => False) w w' := by
  go_enter Tryz.func69, Tryz.ntmps69
  go_wp2
  go_loopw [3] (fun i wr => i = .int .i64 0 ∧ Kept (fun _ => False) w wr) (fun i _ => 0)
  case atStart => exact ⟨rfl, Kept.refl _ _⟩
  case round =>
    obtain ⟨rfl, hk1⟩ := hrel
    obtain ⟨w1, hr, hkm⟩ := run_make0 (P := Tryz.prog) wr 50 34 Tryz.underlying50 (z := .slice none 0 0) (size := 1) (bytes := 24) (by kernel_rfl)
    have hk1' := Lib.hid (hk1.trans0 hkm)
    clear hk1 hkm
    go_wp2
    go_loopw [6] (fun i wr => i = .int .i64 0 ∧ Kept (fun _ => False) w wr) (fun i _ => 0)
    case atStart => exact ⟨rfl, hk1'.out⟩
    case round =>
      obtain ⟨rfl, hk2⟩ := hrel
      go_wp2
      go_loopw [9] (fun i wr => i = .int .i64 0 ∧ Kept (fun _ => False) w wr) (fun i _ => 0)
      case atStart => exact ⟨rfl, hk2⟩
      case round =>
        obtain ⟨rfl, hk3⟩ := hrel
        go_wp2
        go_loopw [11] (fun i wr => i = .int .i64 0 ∧ Kept (fun _ => False) w wr) (fun i _ => 0)
        case atStart => exact ⟨rfl, hk3⟩
        case round =>
          obtain ⟨rfl, hk4⟩ := hrel
          go_wp2
          go_loopw [14] (fun i wr => i = .int .i64 0 ∧ Kept (fun _ => False) w wr) (fun i _ => 0)
          case atStart => exact ⟨rfl, hk4⟩
          case round =>
            obtain ⟨rfl, hk5⟩ := hrel
            go_wp2
            go_ret
            exact ⟨rfl, hk5⟩

set_option maxRecDepth 100000 in
set_option maxHeartbeats 1000000 in
theorem flatDirties_nil (w : World) : Calls Tryz.prog 70 #[.slice none 0 0] w fun e w' => e = .returned (.bool true) ∧ Kept (fun _ => False) w w' := by
  go_enter Tryz.func70, Tryz.ntmps70
  go_wp2
  go_loopw [3] (fun i wr => i = .int .i64 0 ∧ Kept (fun _ => False) w wr) (fun i _ => 0)
  case atStart => exact ⟨rfl, Kept.refl _ _⟩
  case round =>
    obtain ⟨rfl, hk1⟩ := hrel
    obtain ⟨w1, hr, hkm⟩ := run_make0 (P := Tryz.prog) wr 61 127 Tryz.underlying61 (z := .slice none 0 0) (size := 1) (bytes := 24) (by kernel_rfl)
    have hk1' := Lib.hid (hk1.trans0 hkm)
    clear hk1 hkm
    go_wp2
    go_loopw [6] (fun i wr => i = .int .i64 0 ∧ Kept (fun _ => False) w wr) (fun i _ => 0)
    case atStart => exact ⟨rfl, hk1'.out⟩
    case round =>
      obtain ⟨rfl, hk2⟩ := hrel
      go_wp2
      go_loopw [9] (fun i wr => i = .int .i64 0 ∧ Kept (fun _ => False) w wr) (fun i _ => 0)
      case atStart => exact ⟨rfl, hk2⟩
      case round =>
        obtain ⟨rfl, hk3⟩ := hrel
        go_wp2
        go_loopw [11] (fun i wr => i = .int .i64 0 ∧ Kept (fun _ => False) w wr) (fun i _ => 0)
        case atStart => exact ⟨rfl, hk3⟩
        case round =>
          obtain ⟨rfl, hk4⟩ := hrel
          go_wp2
          go_loopw [14] (fun i wr => i = .int .i64 0 ∧ Kept (fun _ => False) w wr) (fun i _ => 0)
          case atStart => exact ⟨rfl, hk4⟩
          case round =>
            obtain ⟨rfl, hk5⟩ := hrel
            go_wp2
            go_ret
            exact ⟨rfl, hk5⟩

set_option maxRecDepth 100000 in
set_option maxHeartbeats 1000000 in
theorem flatRecords_nil (w : World) : Calls Tryz.prog 71 #[.slice none 0 0] w fun e w' => e = .returned (.bool true) ∧ Kept (fun _ => False) w w' := by
  go_enter Tryz.func71, Tryz.ntmps71
  go_wp2
  go_loopw [3] (fun i wr => i = .int .i64 0 ∧ Kept (fun _ => False) w wr) (fun i _ => 0)
  case atStart => exact ⟨rfl, Kept.refl _ _⟩
  case round =>
    obtain ⟨rfl, hk1⟩ := hrel
    obtain ⟨w1, hr, hkm⟩ := run_make0 (P := Tryz.prog) wr 62 131 Tryz.underlying62 (z := .slice none 0 0) (size := 1) (bytes := 24) (by kernel_rfl)
    have hk1' := Lib.hid (hk1.trans0 hkm)
    clear hk1 hkm
    go_wp2
    go_loopw [6] (fun i wr => i = .int .i64 0 ∧ Kept (fun _ => False) w wr) (fun i _ => 0)
    case atStart => exact ⟨rfl, hk1'.out⟩
    case round =>
      obtain ⟨rfl, hk2⟩ := hrel
      go_wp2
      go_loopw [9] (fun i wr => i = .int .i64 0 ∧ Kept (fun _ => False) w wr) (fun i _ => 0)
      case atStart => exact ⟨rfl, hk2⟩
      case round =>
        obtain ⟨rfl, hk3⟩ := hrel
        go_wp2
        go_loopw [11] (fun i wr => i = .int .i64 0 ∧ Kept (fun _ => False) w wr) (fun i _ => 0)
        case atStart => exact ⟨rfl, hk3⟩
        case round =>
          obtain ⟨rfl, hk4⟩ := hrel
          go_wp2
          go_loopw [14] (fun i wr => i = .int .i64 0 ∧ Kept (fun _ => False) w wr) (fun i _ => 0)
          case atStart => exact ⟨rfl, hk4⟩
          case round =>
            obtain ⟨rfl, hk5⟩ := hrel
            go_wp2
            go_ret
            exact ⟨rfl, hk5⟩

set_option maxRecDepth 100000 in
set_option maxHeartbeats 1000000 in
theorem flatCells_nil (w : World) : Calls Tryz.prog 72 #[.slice none 0 0] w fun e w' => e = .returned (.bool true) ∧ Kept (fun _ => False) w w' := by
  go_enter Tryz.func72, Tryz.ntmps72
  go_wp2
  go_loopw [3] (fun i wr => i = .int .i64 0 ∧ Kept (fun _ => False) w wr) (fun i _ => 0)
  case atStart => exact ⟨rfl, Kept.refl _ _⟩
  case round =>
    obtain ⟨rfl, hk1⟩ := hrel
    obtain ⟨w1, hr, hkm⟩ := run_make0 (P := Tryz.prog) wr 63 137 Tryz.underlying63 (z := .slice none 0 0) (size := 1) (bytes := 24) (by kernel_rfl)
    have hk1' := Lib.hid (hk1.trans0 hkm)
    clear hk1 hkm
    go_wp2
    go_loopw [6] (fun i wr => i = .int .i64 0 ∧ Kept (fun _ => False) w wr) (fun i _ => 0)
    case atStart => exact ⟨rfl, hk1'.out⟩
    case round =>
      obtain ⟨rfl, hk2⟩ := hrel
      go_wp2
      go_loopw [9] (fun i wr => i = .int .i64 0 ∧ Kept (fun _ => False) w wr) (fun i _ => 0)
      case atStart => exact ⟨rfl, hk2⟩
      case round =>
        obtain ⟨rfl, hk3⟩ := hrel
        go_wp2
        go_loopw [11] (fun i wr => i = .int .i64 0 ∧ Kept (fun _ => False) w wr) (fun i _ => 0)
        case atStart => exact ⟨rfl, hk3⟩
        case round =>
          obtain ⟨rfl, hk4⟩ := hrel
          go_wp2
          go_loopw [14] (fun i wr => i = .int .i64 0 ∧ Kept (fun _ => False) w wr) (fun i _ => 0)
          case atStart => exact ⟨rfl, hk4⟩
          case round =>
            obtain ⟨rfl, hk5⟩ := hrel
            go_wp2
            go_ret
            exact ⟨rfl, hk5⟩

set_option maxRecDepth 100000 in
set_option maxHeartbeats 1000000 in
theorem flatHelds_nil (w : World) : Calls Tryz.prog 73 #[.slice none 0 0] w fun e w' => e = .returned (.bool true) ∧ Kept (fun _ => False) w w' := by
  go_enter Tryz.func73, Tryz.ntmps73
  go_wp2
  go_loopw [3] (fun i wr => i = .int .i64 0 ∧ Kept (fun _ => False) w wr) (fun i _ => 0)
  case atStart => exact ⟨rfl, Kept.refl _ _⟩
  case round =>
    obtain ⟨rfl, hk1⟩ := hrel
    obtain ⟨w1, hr, hkm⟩ := run_make0 (P := Tryz.prog) wr 64 142 Tryz.underlying64 (z := .slice none 0 0) (size := 1) (bytes := 24) (by kernel_rfl)
    have hk1' := Lib.hid (hk1.trans0 hkm)
    clear hk1 hkm
    go_wp2
    go_loopw [6] (fun i wr => i = .int .i64 0 ∧ Kept (fun _ => False) w wr) (fun i _ => 0)
    case atStart => exact ⟨rfl, hk1'.out⟩
    case round =>
      obtain ⟨rfl, hk2⟩ := hrel
      go_wp2
      go_loopw [9] (fun i wr => i = .int .i64 0 ∧ Kept (fun _ => False) w wr) (fun i _ => 0)
      case atStart => exact ⟨rfl, hk2⟩
      case round =>
        obtain ⟨rfl, hk3⟩ := hrel
        go_wp2
        go_loopw [11] (fun i wr => i = .int .i64 0 ∧ Kept (fun _ => False) w wr) (fun i _ => 0)
        case atStart => exact ⟨rfl, hk3⟩
        case round =>
          obtain ⟨rfl, hk4⟩ := hrel
          go_wp2
          go_loopw [14] (fun i wr => i = .int .i64 0 ∧ Kept (fun _ => False) w wr) (fun i _ => 0)
          case atStart => exact ⟨rfl, hk4⟩
          case round =>
            obtain ⟨rfl, hk5⟩ := hrel
            go_wp2
            go_ret
            exact ⟨rfl, hk5⟩

set_option maxRecDepth 100000 in
set_option maxHeartbeats 1000000 in
theorem flatTokens_nil (w : World) : Calls Tryz.prog 74 #[.slice none 0 0] w fun e w' => e = .returned (.bool true) ∧ Kept (fun _ => False) w w' := by
  go_enter Tryz.func74, Tryz.ntmps74
  go_wp2
  go_loopw [3] (fun i wr => i = .int .i64 0 ∧ Kept (fun _ => False) w wr) (fun i _ => 0)
  case atStart => exact ⟨rfl, Kept.refl _ _⟩
  case round =>
    obtain ⟨rfl, hk1⟩ := hrel
    obtain ⟨w1, hr, hkm⟩ := run_make0 (P := Tryz.prog) wr 65 147 Tryz.underlying65 (z := .slice none 0 0) (size := 1) (bytes := 24) (by kernel_rfl)
    have hk1' := Lib.hid (hk1.trans0 hkm)
    clear hk1 hkm
    go_wp2
    go_loopw [6] (fun i wr => i = .int .i64 0 ∧ Kept (fun _ => False) w wr) (fun i _ => 0)
    case atStart => exact ⟨rfl, hk1'.out⟩
    case round =>
      obtain ⟨rfl, hk2⟩ := hrel
      go_wp2
      go_loopw [9] (fun i wr => i = .int .i64 0 ∧ Kept (fun _ => False) w wr) (fun i _ => 0)
      case atStart => exact ⟨rfl, hk2⟩
      case round =>
        obtain ⟨rfl, hk3⟩ := hrel
        go_wp2
        go_loopw [11] (fun i wr => i = .int .i64 0 ∧ Kept (fun _ => False) w wr) (fun i _ => 0)
        case atStart => exact ⟨rfl, hk3⟩
        case round =>
          obtain ⟨rfl, hk4⟩ := hrel
          go_wp2
          go_loopw [14] (fun i wr => i = .int .i64 0 ∧ Kept (fun _ => False) w wr) (fun i _ => 0)
          case atStart => exact ⟨rfl, hk4⟩
          case round =>
            obtain ⟨rfl, hk5⟩ := hrel
            go_wp2
            go_ret
            exact ⟨rfl, hk5⟩

set_option maxRecDepth 100000 in
set_option maxHeartbeats 1000000 in
theorem flatExprs_nil (w : World) : Calls Tryz.prog 75 #[.slice none 0 0] w fun e w' => e = .returned (.bool true) ∧ Kept (fun _ => False) w w' := by
  go_enter Tryz.func75, Tryz.ntmps75
  go_wp2
  go_loopw [3] (fun i wr => i = .int .i64 0 ∧ Kept (fun _ => False) w wr) (fun i _ => 0)
  case atStart => exact ⟨rfl, Kept.refl _ _⟩
  case round =>
    obtain ⟨rfl, hk1⟩ := hrel
    obtain ⟨w1, hr, hkm⟩ := run_make0 (P := Tryz.prog) wr 66 152 Tryz.underlying66 (z := .slice none 0 0) (size := 1) (bytes := 24) (by kernel_rfl)
    have hk1' := Lib.hid (hk1.trans0 hkm)
    clear hk1 hkm
    go_wp2
    go_loopw [6] (fun i wr => i = .int .i64 0 ∧ Kept (fun _ => False) w wr) (fun i _ => 0)
    case atStart => exact ⟨rfl, hk1'.out⟩
    case round =>
      obtain ⟨rfl, hk2⟩ := hrel
      go_wp2
      go_loopw [9] (fun i wr => i = .int .i64 0 ∧ Kept (fun _ => False) w wr) (fun i _ => 0)
      case atStart => exact ⟨rfl, hk2⟩
      case round =>
        obtain ⟨rfl, hk3⟩ := hrel
        go_wp2
        go_loopw [11] (fun i wr => i = .int .i64 0 ∧ Kept (fun _ => False) w wr) (fun i _ => 0)
        case atStart => exact ⟨rfl, hk3⟩
        case round =>
          obtain ⟨rfl, hk4⟩ := hrel
          go_wp2
          go_loopw [14] (fun i wr => i = .int .i64 0 ∧ Kept (fun _ => False) w wr) (fun i _ => 0)
          case atStart => exact ⟨rfl, hk4⟩
          case round =>
            obtain ⟨rfl, hk5⟩ := hrel
            go_wp2
            go_ret
            exact ⟨rfl, hk5⟩

set_option maxRecDepth 100000 in
set_option maxHeartbeats 1000000 in
theorem flatItems_nil (w : World) : Calls Tryz.prog 76 #[.slice none 0 0] w fun e w' => e = .returned (.bool true) ∧ Kept (fun _ => False) w w' := by
  go_enter Tryz.func76, Tryz.ntmps76
  go_wp2
  go_loopw [3] (fun i wr => i = .int .i64 0 ∧ Kept (fun _ => False) w wr) (fun i _ => 0)
  case atStart => exact ⟨rfl, Kept.refl _ _⟩
  case round =>
    obtain ⟨rfl, hk1⟩ := hrel
    obtain ⟨w1, hr, hkm⟩ := run_make0 (P := Tryz.prog) wr 67 160 Tryz.underlying67 (z := .slice none 0 0) (size := 1) (bytes := 24) (by kernel_rfl)
    have hk1' := Lib.hid (hk1.trans0 hkm)
    clear hk1 hkm
    go_wp2
    go_loopw [6] (fun i wr => i = .int .i64 0 ∧ Kept (fun _ => False) w wr) (fun i _ => 0)
    case atStart => exact ⟨rfl, hk1'.out⟩
    case round =>
      obtain ⟨rfl, hk2⟩ := hrel
      go_wp2
      go_loopw [9] (fun i wr => i = .int .i64 0 ∧ Kept (fun _ => False) w wr) (fun i _ => 0)
      case atStart => exact ⟨rfl, hk2⟩
      case round =>
        obtain ⟨rfl, hk3⟩ := hrel
        go_wp2
        go_loopw [11] (fun i wr => i = .int .i64 0 ∧ Kept (fun _ => False) w wr) (fun i _ => 0)
        case atStart => exact ⟨rfl, hk3⟩
        case round =>
          obtain ⟨rfl, hk4⟩ := hrel
          go_wp2
          go_loopw [14] (fun i wr => i = .int .i64 0 ∧ Kept (fun _ => False) w wr) (fun i _ => 0)
          case atStart => exact ⟨rfl, hk4⟩
          case round =>
            obtain ⟨rfl, hk5⟩ := hrel
            go_wp2
            go_ret
            exact ⟨rfl, hk5⟩

set_option maxRecDepth 100000 in
set_option maxHeartbeats 1000000 in
theorem flatShowns_nil (w : World) : Calls Tryz.prog 77 #[.slice none 0 0] w fun e w' => e = .returned (.bool true) ∧ Kept (fun _ => False) w w' := by
  go_enter Tryz.func77, Tryz.ntmps77
  go_wp2
  go_loopw [3] (fun i wr => i = .int .i64 0 ∧ Kept (fun _ => False) w wr) (fun i _ => 0)
  case atStart => exact ⟨rfl, Kept.refl _ _⟩
  case round =>
    obtain ⟨rfl, hk1⟩ := hrel
    obtain ⟨w1, hr, hkm⟩ := run_make0 (P := Tryz.prog) wr 68 165 Tryz.underlying68 (z := .slice none 0 0) (size := 1) (bytes := 24) (by kernel_rfl)
    have hk1' := Lib.hid (hk1.trans0 hkm)
    clear hk1 hkm
    go_wp2
    go_loopw [6] (fun i wr => i = .int .i64 0 ∧ Kept (fun _ => False) w wr) (fun i _ => 0)
    case atStart => exact ⟨rfl, hk1'.out⟩
    case round =>
      obtain ⟨rfl, hk2⟩ := hrel
      go_wp2
      go_loopw [9] (fun i wr => i = .int .i64 0 ∧ Kept (fun _ => False) w wr) (fun i _ => 0)
      case atStart => exact ⟨rfl, hk2⟩
      case round =>
        obtain ⟨rfl, hk3⟩ := hrel
        go_wp2
        go_loopw [11] (fun i wr => i = .int .i64 0 ∧ Kept (fun _ => False) w wr) (fun i _ => 0)
        case atStart => exact ⟨rfl, hk3⟩
        case round =>
          obtain ⟨rfl, hk4⟩ := hrel
          go_wp2
          go_loopw [14] (fun i wr => i = .int .i64 0 ∧ Kept (fun _ => False) w wr) (fun i _ => 0)
          case atStart => exact ⟨rfl, hk4⟩
          case round =>
            obtain ⟨rfl, hk5⟩ := hrel
            go_wp2
            go_ret
            exact ⟨rfl, hk5⟩

set_option maxRecDepth 100000 in
set_option maxHeartbeats 1000000 in
theorem flatParts_nil (w : World) : Calls Tryz.prog 78 #[.slice none 0 0] w fun e w' => e = .returned (.bool true) ∧ Kept (fun _ => False) w w' := by
  go_enter Tryz.func78, Tryz.ntmps78
  go_wp2
  go_loopw [3] (fun i wr => i = .int .i64 0 ∧ Kept (fun _ => False) w wr) (fun i _ => 0)
  case atStart => exact ⟨rfl, Kept.refl _ _⟩
  case round =>
    obtain ⟨rfl, hk1⟩ := hrel
    obtain ⟨w1, hr, hkm⟩ := run_make0 (P := Tryz.prog) wr 69 169 Tryz.underlying69 (z := .slice none 0 0) (size := 1) (bytes := 24) (by kernel_rfl)
    have hk1' := Lib.hid (hk1.trans0 hkm)
    clear hk1 hkm
    go_wp2
    go_loopw [6] (fun i wr => i = .int .i64 0 ∧ Kept (fun _ => False) w wr) (fun i _ => 0)
    case atStart => exact ⟨rfl, hk1'.out⟩
    case round =>
      obtain ⟨rfl, hk2⟩ := hrel
      go_wp2
      go_loopw [9] (fun i wr => i = .int .i64 0 ∧ Kept (fun _ => False) w wr) (fun i _ => 0)
      case atStart => exact ⟨rfl, hk2⟩
      case round =>
        obtain ⟨rfl, hk3⟩ := hrel
        go_wp2
        go_loopw [11] (fun i wr => i = .int .i64 0 ∧ Kept (fun _ => False) w wr) (fun i _ => 0)
        case atStart => exact ⟨rfl, hk3⟩
        case round =>
          obtain ⟨rfl, hk4⟩ := hrel
          go_wp2
          go_loopw [14] (fun i wr => i = .int .i64 0 ∧ Kept (fun _ => False) w wr) (fun i _ => 0)
          case atStart => exact ⟨rfl, hk4⟩
          case round =>
            obtain ⟨rfl, hk5⟩ := hrel
            go_wp2
            go_ret
            exact ⟨rfl, hk5⟩

set_option maxRecDepth 100000 in
set_option maxHeartbeats 1000000 in
theorem flatCommands_nil (w : World) : Calls Tryz.prog 79 #[.slice none 0 0] w fun e w' => e = .returned (.bool true) ∧ Kept (fun _ => False) w w' := by
  go_enter Tryz.func79, Tryz.ntmps79
  go_wp2
  go_loopw [3] (fun i wr => i = .int .i64 0 ∧ Kept (fun _ => False) w wr) (fun i _ => 0)
  case atStart => exact ⟨rfl, Kept.refl _ _⟩
  case round =>
    obtain ⟨rfl, hk1⟩ := hrel
    obtain ⟨w1, hr, hkm⟩ := run_make0 (P := Tryz.prog) wr 70 175 Tryz.underlying70 (z := .slice none 0 0) (size := 1) (bytes := 24) (by kernel_rfl)
    have hk1' := Lib.hid (hk1.trans0 hkm)
    clear hk1 hkm
    go_wp2
    go_loopw [6] (fun i wr => i = .int .i64 0 ∧ Kept (fun _ => False) w wr) (fun i _ => 0)
    case atStart => exact ⟨rfl, hk1'.out⟩
    case round =>
      obtain ⟨rfl, hk2⟩ := hrel
      go_wp2
      go_loopw [9] (fun i wr => i = .int .i64 0 ∧ Kept (fun _ => False) w wr) (fun i _ => 0)
      case atStart => exact ⟨rfl, hk2⟩
      case round =>
        obtain ⟨rfl, hk3⟩ := hrel
        go_wp2
        go_loopw [11] (fun i wr => i = .int .i64 0 ∧ Kept (fun _ => False) w wr) (fun i _ => 0)
        case atStart => exact ⟨rfl, hk3⟩
        case round =>
          obtain ⟨rfl, hk4⟩ := hrel
          go_wp2
          go_loopw [14] (fun i wr => i = .int .i64 0 ∧ Kept (fun _ => False) w wr) (fun i _ => 0)
          case atStart => exact ⟨rfl, hk4⟩
          case round =>
            obtain ⟨rfl, hk5⟩ := hrel
            go_wp2
            go_ret
            exact ⟨rfl, hk5⟩

end Go.Proofs.YtndflnedkpmpfaaGreatDoor
