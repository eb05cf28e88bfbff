/-
  No statement is proved here: the verifier's flat functions, of nothing.
-/
import Derived.Test.YtndflnedkpmpfaaDoorApp
namespace Go.Proofs.YtndflnedkpmpfaaDoor
open Go.RowKit

theorem run_make0 {P : Program} (w : World) (t e : TypeId) {z : Value} {size bytes : Nat} (ht : P.underlying t = some (.slice e)) (hinf : (P.info? e).map (fun i => (i.zero, i.size, i.bytes)) = some (some z, size, bytes)) :
    ∃ w1, (Instr.makeSlice t (.int .i64 0) (.int .i64 0)).run P w = .ok (.slice (some ⟨w.heap.size, 0, none⟩) 0 0) w1 ∧ Kept (fun _ => False) w w1 := by
  obtain ⟨i, hi, h2, h3, h4⟩ := info_parts hinf
  have hr := run_make (P := P) w t e i z ht hi h2 .i64 .i64 (0 : Int) (0 : Int) (by omega) (by omega) (by omega) (by omega)
  exact ⟨_, hr, (Kept.refl _ w).alloc _⟩

set_option maxRecDepth 100000 in
set_option maxHeartbeats 1000000 in
theorem flatBytes_nil (w : World) : Calls Tryd.prog 59 #[.slice none 0 0] w fun e w' => e = .returned (.bool true) ∧ Kept (fun _ => False) w w' := by
  go_enter Tryd.func59, Tryd.ntmps59
  go_wp2
  go_loopw [3] (fun i wr => i = .int .i64 0 ∧ Kept (fun _ => False) w wr) (fun i _ => 0)
  case atStart => exact ⟨rfl, Kept.refl _ _⟩
  case round =>
    obtain ⟨rfl, hk1⟩ := hrel
    obtain ⟨w1, hr, hkm⟩ := run_make0 (P := Tryd.prog) wr 30 22 Tryd.underlying30 (z := .slice none 0 0) (size := 1) (bytes := 24) (by kernel_rfl)
    have hk1' := Lib.hid (hk1.trans0 hkm)
    clear hk1 hkm
    go_wp2
    go_loopw [6] (fun i wr => i = .int .i64 0 ∧ Kept (fun _ => False) w wr) (fun i _ => 0)
    case atStart => exact ⟨rfl, hk1'.out⟩
    case round =>
      obtain ⟨rfl, hk2⟩ := hrel
      go_wp2
      go_loopw [9] (fun i wr => i = .int .i64 0 ∧ Kept (fun _ => False) w wr) (fun i _ => 0)
      case atStart => exact ⟨rfl, hk2⟩
      case round =>
        obtain ⟨rfl, hk3⟩ := hrel
        go_wp2
        go_loopw [11] (fun i wr => i = .int .i64 0 ∧ Kept (fun _ => False) w wr) (fun i _ => 0)
        case atStart => exact ⟨rfl, hk3⟩
        case round =>
          obtain ⟨rfl, hk4⟩ := hrel
          go_wp2
          go_loopw [14] (fun i wr => i = .int .i64 0 ∧ Kept (fun _ => False) w wr) (fun i _ => 0)
          case atStart => exact ⟨rfl, hk4⟩
          case round =>
            obtain ⟨rfl, hk5⟩ := hrel
            go_wp2
            go_ret
            exact ⟨rfl, hk5⟩

set_option maxRecDepth 100000 in
set_option maxHeartbeats 1000000 in
theorem flatWords_nil (w : World) : Calls Tryd.prog 55 #[.slice none 0 0] w fun e w' => e = .returned (.bool true) ∧ Kept (fun _ => False) w w' := by
  go_enter Tryd.func55, Tryd.ntmps55
  go_wp2
  go_loopw [3] (fun i wr => i = .int .i64 0 ∧ Kept (fun _ => False) w wr) (fun i _ => 0)
  case atStart => exact ⟨rfl, Kept.refl _ _⟩
  case round =>
    obtain ⟨rfl, hk1⟩ := hrel
    obtain ⟨w1, hr, hkm⟩ := run_make0 (P := Tryd.prog) wr 55 102 Tryd.underlying55 (z := .slice none 0 0) (size := 1) (bytes := 24) (by kernel_rfl)
    have hk1' := Lib.hid (hk1.trans0 hkm)
    clear hk1 hkm
    go_wp2
    go_loopw [6] (fun i wr => i = .int .i64 0 ∧ Kept (fun _ => False) w wr) (fun i _ => 0)
    case atStart => exact ⟨rfl, hk1'.out⟩
    case round =>
      obtain ⟨rfl, hk2⟩ := hrel
      go_wp2
      go_loopw [9] (fun i wr => i = .int .i64 0 ∧ Kept (fun _ => False) w wr) (fun i _ => 0)
      case atStart => exact ⟨rfl, hk2⟩
      case round =>
        obtain ⟨rfl, hk3⟩ := hrel
        go_wp2
        go_loopw [11] (fun i wr => i = .int .i64 0 ∧ Kept (fun _ => False) w wr) (fun i _ => 0)
        case atStart => exact ⟨rfl, hk3⟩
        case round =>
          obtain ⟨rfl, hk4⟩ := hrel
          go_wp2
          go_loopw [14] (fun i wr => i = .int .i64 0 ∧ Kept (fun _ => False) w wr) (fun i _ => 0)
          case atStart => exact ⟨rfl, hk4⟩
          case round =>
            obtain ⟨rfl, hk5⟩ := hrel
            go_wp2
            go_ret
            exact ⟨rfl, hk5⟩

set_option maxRecDepth 100000 in
set_option maxHeartbeats 1000000 in
theorem flatInts_nil (w : World) : Calls Tryd.prog 56 #[.slice none 0 0] w fun e w' => e = .returned (.bool true) ∧ Kept (fun _ => False) w w' := by
  go_enter Tryd.func56, Tryd.ntmps56
  go_wp2
  go_loopw [3] (fun i wr => i = .int .i64 0 ∧ Kept (fun _ => False) w wr) (fun i _ => 0)
  case atStart => exact ⟨rfl, Kept.refl _ _⟩
  case round =>
    obtain ⟨rfl, hk1⟩ := hrel
    obtain ⟨w1, hr, hkm⟩ := run_make0 (P := Tryd.prog) wr 56 103 Tryd.underlying56 (z := .slice none 0 0) (size := 1) (bytes := 24) (by kernel_rfl)
    have hk1' := Lib.hid (hk1.trans0 hkm)
    clear hk1 hkm
    go_wp2
    go_loopw [6] (fun i wr => i = .int .i64 0 ∧ Kept (fun _ => False) w wr) (fun i _ => 0)
    case atStart => exact ⟨rfl, hk1'.out⟩
    case round =>
      obtain ⟨rfl, hk2⟩ := hrel
      go_wp2
      go_loopw [9] (fun i wr => i = .int .i64 0 ∧ Kept (fun _ => False) w wr) (fun i _ => 0)
      case atStart => exact ⟨rfl, hk2⟩
      case round =>
        obtain ⟨rfl, hk3⟩ := hrel
        go_wp2
        go_loopw [11] (fun i wr => i = .int .i64 0 ∧ Kept (fun _ => False) w wr) (fun i _ => 0)
        case atStart => exact ⟨rfl, hk3⟩
        case round =>
          obtain ⟨rfl, hk4⟩ := hrel
          go_wp2
          go_loopw [14] (fun i wr => i = .int .i64 0 ∧ Kept (fun _ => False) w wr) (fun i _ => 0)
          case atStart => exact ⟨rfl, hk4⟩
          case round =>
            obtain ⟨rfl, hk5⟩ := hrel
            go_wp2
            go_ret
            exact ⟨rfl, hk5⟩

set_option maxRecDepth 100000 in
set_option maxHeartbeats 1000000 in
theorem flatLongs_nil (w : World) : Calls Tryd.prog 57 #[.slice none 0 0] w fun e w' => e = .returned (.bool true) ∧ Kept (fun _ => False) w w' := by
  go_enter Tryd.func57, Tryd.ntmps57
  go_wp2
  go_loopw [3] (fun i wr => i = .int .i64 0 ∧ Kept (fun _ => False) w wr) (fun i _ => 0)
  case atStart => exact ⟨rfl, Kept.refl _ _⟩
  case round =>
    obtain ⟨rfl, hk1⟩ := hrel
    obtain ⟨w1, hr, hkm⟩ := run_make0 (P := Tryd.prog) wr 57 104 Tryd.underlying57 (z := .slice none 0 0) (size := 1) (bytes := 24) (by kernel_rfl)
    have hk1' := Lib.hid (hk1.trans0 hkm)
    clear hk1 hkm
    go_wp2
    go_loopw [6] (fun i wr => i = .int .i64 0 ∧ Kept (fun _ => False) w wr) (fun i _ => 0)
    case atStart => exact ⟨rfl, hk1'.out⟩
    case round =>
      obtain ⟨rfl, hk2⟩ := hrel
      go_wp2
      go_loopw [9] (fun i wr => i = .int .i64 0 ∧ Kept (fun _ => False) w wr) (fun i _ => 0)
      case atStart => exact ⟨rfl, hk2⟩
      case round =>
        obtain ⟨rfl, hk3⟩ := hrel
        go_wp2
        go_loopw [11] (fun i wr => i = .int .i64 0 ∧ Kept (fun _ => False) w wr) (fun i _ => 0)
        case atStart => exact ⟨rfl, hk3⟩
        case round =>
          obtain ⟨rfl, hk4⟩ := hrel
          go_wp2
          go_loopw [14] (fun i wr => i = .int .i64 0 ∧ Kept (fun _ => False) w wr) (fun i _ => 0)
          case atStart => exact ⟨rfl, hk4⟩
          case round =>
            obtain ⟨rfl, hk5⟩ := hrel
            go_wp2
            go_ret
            exact ⟨rfl, hk5⟩

set_option maxRecDepth 100000 in
set_option maxHeartbeats 1000000 in
theorem flatTexts_nil (w : World) : Calls Tryd.prog 58 #[.slice none 0 0] w fun e w' => e = .returned (.bool true) ∧ Kept (fun _ => False) w w' := by
  go_enter Tryd.func58, Tryd.ntmps58
  go_wp2
  go_loopw [3] (fun i wr => i = .int .i64 0 ∧ Kept (fun _ => False) w wr) (fun i _ => 0)
  case atStart => exact ⟨rfl, Kept.refl _ _⟩
  case round =>
    obtain ⟨rfl, hk1⟩ := hrel
    obtain ⟨w1, hr, hkm⟩ := run_make0 (P := Tryd.prog) wr 58 105 Tryd.underlying58 (z := .slice none 0 0) (size := 1) (bytes := 24) (by kernel_rfl)
    have hk1' := Lib.hid (hk1.trans0 hkm)
    clear hk1 hkm
    go_wp2
    go_loopw [6] (fun i wr => i = .int .i64 0 ∧ Kept (fun _ => False) w wr) (fun i _ => 0)
    case atStart => exact ⟨rfl, hk1'.out⟩
    case round =>
      obtain ⟨rfl, hk2⟩ := hrel
      go_wp2
      go_loopw [9] (fun i wr => i = .int .i64 0 ∧ Kept (fun _ => False) w wr) (fun i _ => 0)
      case atStart => exact ⟨rfl, hk2⟩
      case round =>
        obtain ⟨rfl, hk3⟩ := hrel
        go_wp2
        go_loopw [11] (fun i wr => i = .int .i64 0 ∧ Kept (fun _ => False) w wr) (fun i _ => 0)
        case atStart => exact ⟨rfl, hk3⟩
        case round =>
          obtain ⟨rfl, hk4⟩ := hrel
          go_wp2
          go_loopw [14] (fun i wr => i = .int .i64 0 ∧ Kept (fun _ => False) w wr) (fun i _ => 0)
          case atStart => exact ⟨rfl, hk4⟩
          case round =>
            obtain ⟨rfl, hk5⟩ := hrel
            go_wp2
            go_ret
            exact ⟨rfl, hk5⟩

set_option maxRecDepth 100000 in
set_option maxHeartbeats 1000000 in
theorem flatNodes_nil (w : World) : Calls Tryd.prog 60 #[.slice none 0 0] w fun e w' => e = .returned (.bool true) ∧ Kept (fun _ => False) w w' := by
  go_enter Tryd.func60, Tryd.ntmps60
  go_wp2
  go_loopw [3] (fun i wr => i = .int .i64 0 ∧ Kept (fun _ => False) w wr) (fun i _ => 0)
  case atStart => exact ⟨rfl, Kept.refl _ _⟩
  case round =>
    obtain ⟨rfl, hk1⟩ := hrel
    obtain ⟨w1, hr, hkm⟩ := run_make0 (P := Tryd.prog) wr 59 107 Tryd.underlying59 (z := .slice none 0 0) (size := 1) (bytes := 24) (by kernel_rfl)
    have hk1' := Lib.hid (hk1.trans0 hkm)
    clear hk1 hkm
    go_wp2
    go_loopw [6] (fun i wr => i = .int .i64 0 ∧ Kept (fun _ => False) w wr) (fun i _ => 0)
    case atStart => exact ⟨rfl, hk1'.out⟩
    case round =>
      obtain ⟨rfl, hk2⟩ := hrel
      go_wp2
      go_loopw [9] (fun i wr => i = .int .i64 0 ∧ Kept (fun _ => False) w wr) (fun i _ => 0)
      case atStart => exact ⟨rfl, hk2⟩
      case round =>
        obtain ⟨rfl, hk3⟩ := hrel
        go_wp2
        go_loopw [11] (fun i wr => i = .int .i64 0 ∧ Kept (fun _ => False) w wr) (fun i _ => 0)
        case atStart => exact ⟨rfl, hk3⟩
        case round =>
          obtain ⟨rfl, hk4⟩ := hrel
          go_wp2
          go_loopw [14] (fun i wr => i = .int .i64 0 ∧ Kept (fun _ => False) w wr) (fun i _ => 0)
          case atStart => exact ⟨rfl, hk4⟩
          case round =>
            obtain ⟨rfl, hk5⟩ := hrel
            go_wp2
            go_ret
            exact ⟨rfl, hk5⟩

set_option maxRecDepth 100000 in
set_option maxHeartbeats 1000000 in
theorem flatFates_nil (w : World) : Calls Tryd.prog 61 #[.slice none 0 0] w fun e w' => e = .returned (.bool true) ∧ Kept (fun _ => False) w w' := by
  go_enter Tryd.func61, Tryd.ntmps61
  go_wp2
  go_loopw [3] (fun i wr => i = .int .i64 0 ∧ Kept (fun _ => False) w wr) (fun i _ => 0)
  case atStart => exact ⟨rfl, Kept.refl _ _⟩
  case round =>
    obtain ⟨rfl, hk1⟩ := hrel
    obtain ⟨w1, hr, hkm⟩ := run_make0 (P := Tryd.prog) wr 60 112 Tryd.underlying60 (z := .slice none 0 0) (size := 1) (bytes := 24) (by kernel_rfl)
    have hk1' := Lib.hid (hk1.trans0 hkm)
    clear hk1 hkm
    go_wp2
    go_loopw [6] (fun i wr => i = .int .i64 0 ∧ Kept (fun _ => False) w wr) (fun i _ => 0)
    case atStart => exact ⟨rfl, hk1'.out⟩
    case round =>
      obtain ⟨rfl, hk2⟩ := hrel
      go_wp2
      go_loopw [9] (fun i wr => i = .int .i64 0 ∧ Kept (fun _ => False) w wr) (fun i _ => 0)
      case atStart => exact ⟨rfl, hk2⟩
      case round =>
        obtain ⟨rfl, hk3⟩ := hrel
        go_wp2
        go_loopw [11] (fun i wr => i = .int .i64 0 ∧ Kept (fun _ => False) w wr) (fun i _ => 0)
        case atStart => exact ⟨rfl, hk3⟩
        case round =>
          obtain ⟨rfl, hk4⟩ := hrel
          go_wp2
          go_loopw [14] (fun i wr => i = .int .i64 0 ∧ Kept (fun _ => False) w wr) (fun i _ => 0)
          case atStart => exact ⟨rfl, hk4⟩
          case round =>
            obtain ⟨rfl, hk5⟩ := hrel
            go_wp2
            go_ret
            exact ⟨rfl, hk5⟩

set_option maxRecDepth 100000 in
set_option maxHeartbeats 1000000 in
theorem flatSpans_nil (w : World) : Calls Tryd.prog 62 #[.slice none 0 0] w fun e w' => e = .returned (.bool true) ∧ Kept (fun _ => False) w w' := by
  go_enter Tryd.func62, Tryd.ntmps62
  go_wp2
  go_loopw [3] (fun i wr => i = .int .i64 0 ∧ Kept (fun _ => False) w wr) (fun i _ => 0)
  case atStart => exact ⟨rfl, Kept.refl _ _⟩
  case round =>
    obtain ⟨rfl, hk1⟩ := hrel
    obtain ⟨w1, hr, hkm⟩ := run_make0 (P := Tryd.prog) wr 36 31 Tryd.underlying36 (z := .slice none 0 0) (size := 1) (bytes := 24) (by kernel_rfl)
    have hk1' := Lib.hid (hk1.trans0 hkm)
    clear hk1 hkm
    go_wp2
    go_loopw [6] (fun i wr => i = .int .i64 0 ∧ Kept (fun _ => False) w wr) (fun i _ => 0)
    case atStart => exact ⟨rfl, hk1'.out⟩
    case round =>
      obtain ⟨rfl, hk2⟩ := hrel
      go_wp2
      go_loopw [9] (fun i wr => i = .int .i64 0 ∧ Kept (fun _ => False) w wr) (fun i _ => 0)
      case atStart => exact ⟨rfl, hk2⟩
      case round =>
        obtain ⟨rfl, hk3⟩ := hrel
        go_wp2
        go_loopw [11] (fun i wr => i = .int .i64 0 ∧ Kept (fun _ => False) w wr) (fun i _ => 0)
        case atStart => exact ⟨rfl, hk3⟩
        case round =>
          obtain ⟨rfl, hk4⟩ := hrel
          go_wp2
          go_loopw [14] (fun i wr => i = .int .i64 0 ∧ Kept (fun _ => False) w wr) (fun i _ => 0)
          case atStart => exact ⟨rfl, hk4⟩
          case round =>
            obtain ⟨rfl, hk5⟩ := hrel
            go_wp2
            go_ret
            exact ⟨rfl, hk5⟩

set_option maxRecDepth 100000 in
set_option maxHeartbeats 1000000 in
theorem flatDirties_nil (w : World) : Calls Tryd.prog 63 #[.slice none 0 0] w fun e w' => e = .returned (.bool true) ∧ Kept (fun _ => False) w w' := by
  go_enter Tryd.func63, Tryd.ntmps63
  go_wp2
  go_loopw [3] (fun i wr => i = .int .i64 0 ∧ Kept (fun _ => False) w wr) (fun i _ => 0)
  case atStart => exact ⟨rfl, Kept.refl _ _⟩
  case round =>
    obtain ⟨rfl, hk1⟩ := hrel
    obtain ⟨w1, hr, hkm⟩ := run_make0 (P := Tryd.prog) wr 61 117 Tryd.underlying61 (z := .slice none 0 0) (size := 1) (bytes := 24) (by kernel_rfl)
    have hk1' := Lib.hid (hk1.trans0 hkm)
    clear hk1 hkm
    go_wp2
    go_loopw [6] (fun i wr => i = .int .i64 0 ∧ Kept (fun _ => False) w wr) (fun i _ => 0)
    case atStart => exact ⟨rfl, hk1'.out⟩
    case round =>
      obtain ⟨rfl, hk2⟩ := hrel
      go_wp2
      go_loopw [9] (fun i wr => i = .int .i64 0 ∧ Kept (fun _ => False) w wr) (fun i _ => 0)
      case atStart => exact ⟨rfl, hk2⟩
      case round =>
        obtain ⟨rfl, hk3⟩ := hrel
        go_wp2
        go_loopw [11] (fun i wr => i = .int .i64 0 ∧ Kept (fun _ => False) w wr) (fun i _ => 0)
        case atStart => exact ⟨rfl, hk3⟩
        case round =>
          obtain ⟨rfl, hk4⟩ := hrel
          go_wp2
          go_loopw [14] (fun i wr => i = .int .i64 0 ∧ Kept (fun _ => False) w wr) (fun i _ => 0)
          case atStart => exact ⟨rfl, hk4⟩
          case round =>
            obtain ⟨rfl, hk5⟩ := hrel
            go_wp2
            go_ret
            exact ⟨rfl, hk5⟩

set_option maxRecDepth 100000 in
set_option maxHeartbeats 1000000 in
theorem flatRecords_nil (w : World) : Calls Tryd.prog 64 #[.slice none 0 0] w fun e w' => e = .returned (.bool true) ∧ Kept (fun _ => False) w w' := by
  go_enter Tryd.func64, Tryd.ntmps64
  go_wp2
  go_loopw [3] (fun i wr => i = .int .i64 0 ∧ Kept (fun _ => False) w wr) (fun i _ => 0)
  case atStart => exact ⟨rfl, Kept.refl _ _⟩
  case round =>
    obtain ⟨rfl, hk1⟩ := hrel
    obtain ⟨w1, hr, hkm⟩ := run_make0 (P := Tryd.prog) wr 62 121 Tryd.underlying62 (z := .slice none 0 0) (size := 1) (bytes := 24) (by kernel_rfl)
    have hk1' := Lib.hid (hk1.trans0 hkm)
    clear hk1 hkm
    go_wp2
    go_loopw [6] (fun i wr => i = .int .i64 0 ∧ Kept (fun _ => False) w wr) (fun i _ => 0)
    case atStart => exact ⟨rfl, hk1'.out⟩
    case round =>
      obtain ⟨rfl, hk2⟩ := hrel
      go_wp2
      go_loopw [9] (fun i wr => i = .int .i64 0 ∧ Kept (fun _ => False) w wr) (fun i _ => 0)
      case atStart => exact ⟨rfl, hk2⟩
      case round =>
        obtain ⟨rfl, hk3⟩ := hrel
        go_wp2
        go_loopw [11] (fun i wr => i = .int .i64 0 ∧ Kept (fun _ => False) w wr) (fun i _ => 0)
        case atStart => exact ⟨rfl, hk3⟩
        case round =>
          obtain ⟨rfl, hk4⟩ := hrel
          go_wp2
          go_loopw [14] (fun i wr => i = .int .i64 0 ∧ Kept (fun _ => False) w wr) (fun i _ => 0)
          case atStart => exact ⟨rfl, hk4⟩
          case round =>
            obtain ⟨rfl, hk5⟩ := hrel
            go_wp2
            go_ret
            exact ⟨rfl, hk5⟩

set_option maxRecDepth 100000 in
set_option maxHeartbeats 1000000 in
theorem flatCells_nil (w : World) : Calls Tryd.prog 65 #[.slice none 0 0] w fun e w' => e = .returned (.bool true) ∧ Kept (fun _ => False) w w' := by
  go_enter Tryd.func65, Tryd.ntmps65
  go_wp2
  go_loopw [3] (fun i wr => i = .int .i64 0 ∧ Kept (fun _ => False) w wr) (fun i _ => 0)
  case atStart => exact ⟨rfl, Kept.refl _ _⟩
  case round =>
    obtain ⟨rfl, hk1⟩ := hrel
    obtain ⟨w1, hr, hkm⟩ := run_make0 (P := Tryd.prog) wr 63 127 Tryd.underlying63 (z := .slice none 0 0) (size := 1) (bytes := 24) (by kernel_rfl)
    have hk1' := Lib.hid (hk1.trans0 hkm)
    clear hk1 hkm
    go_wp2
    go_loopw [6] (fun i wr => i = .int .i64 0 ∧ Kept (fun _ => False) w wr) (fun i _ => 0)
    case atStart => exact ⟨rfl, hk1'.out⟩
    case round =>
      obtain ⟨rfl, hk2⟩ := hrel
      go_wp2
      go_loopw [9] (fun i wr => i = .int .i64 0 ∧ Kept (fun _ => False) w wr) (fun i _ => 0)
      case atStart => exact ⟨rfl, hk2⟩
      case round =>
        obtain ⟨rfl, hk3⟩ := hrel
        go_wp2
        go_loopw [11] (fun i wr => i = .int .i64 0 ∧ Kept (fun _ => False) w wr) (fun i _ => 0)
        case atStart => exact ⟨rfl, hk3⟩
        case round =>
          obtain ⟨rfl, hk4⟩ := hrel
          go_wp2
          go_loopw [14] (fun i wr => i = .int .i64 0 ∧ Kept (fun _ => False) w wr) (fun i _ => 0)
          case atStart => exact ⟨rfl, hk4⟩
          case round =>
            obtain ⟨rfl, hk5⟩ := hrel
            go_wp2
            go_ret
            exact ⟨rfl, hk5⟩

set_option maxRecDepth 100000 in
set_option maxHeartbeats 1000000 in
theorem flatHelds_nil (w : World) : Calls Tryd.prog 66 #[.slice none 0 0] w fun e w' => e = .returned (.bool true) ∧ Kept (fun _ => False) w w' := by
  go_enter Tryd.func66, Tryd.ntmps66
  go_wp2
  go_loopw [3] (fun i wr => i = .int .i64 0 ∧ Kept (fun _ => False) w wr) (fun i _ => 0)
  case atStart => exact ⟨rfl, Kept.refl _ _⟩
  case round =>
    obtain ⟨rfl, hk1⟩ := hrel
    obtain ⟨w1, hr, hkm⟩ := run_make0 (P := Tryd.prog) wr 64 132 Tryd.underlying64 (z := .slice none 0 0) (size := 1) (bytes := 24) (by kernel_rfl)
    have hk1' := Lib.hid (hk1.trans0 hkm)
    clear hk1 hkm
    go_wp2
    go_loopw [6] (fun i wr => i = .int .i64 0 ∧ Kept (fun _ => False) w wr) (fun i _ => 0)
    case atStart => exact ⟨rfl, hk1'.out⟩
    case round =>
      obtain ⟨rfl, hk2⟩ := hrel
      go_wp2
      go_loopw [9] (fun i wr => i = .int .i64 0 ∧ Kept (fun _ => False) w wr) (fun i _ => 0)
      case atStart => exact ⟨rfl, hk2⟩
      case round =>
        obtain ⟨rfl, hk3⟩ := hrel
        go_wp2
        go_loopw [11] (fun i wr => i = .int .i64 0 ∧ Kept (fun _ => False) w wr) (fun i _ => 0)
        case atStart => exact ⟨rfl, hk3⟩
        case round =>
          obtain ⟨rfl, hk4⟩ := hrel
          go_wp2
          go_loopw [14] (fun i wr => i = .int .i64 0 ∧ Kept (fun _ => False) w wr) (fun i _ => 0)
          case atStart => exact ⟨rfl, hk4⟩
          case round =>
            obtain ⟨rfl, hk5⟩ := hrel
            go_wp2
            go_ret
            exact ⟨rfl, hk5⟩

set_option maxRecDepth 100000 in
set_option maxHeartbeats 1000000 in
theorem flatTokens_nil (w : World) : Calls Tryd.prog 67 #[.slice none 0 0] w fun e w' => e = .returned (.bool true) ∧ Kept (fun _ => False) w w' := by
  go_enter Tryd.func67, Tryd.ntmps67
  go_wp2
  go_loopw [3] (fun i wr => i = .int .i64 0 ∧ Kept (fun _ => False) w wr) (fun i _ => 0)
  case atStart => exact ⟨rfl, Kept.refl _ _⟩
  case round =>
    obtain ⟨rfl, hk1⟩ := hrel
    obtain ⟨w1, hr, hkm⟩ := run_make0 (P := Tryd.prog) wr 65 137 Tryd.underlying65 (z := .slice none 0 0) (size := 1) (bytes := 24) (by kernel_rfl)
    have hk1' := Lib.hid (hk1.trans0 hkm)
    clear hk1 hkm
    go_wp2
    go_loopw [6] (fun i wr => i = .int .i64 0 ∧ Kept (fun _ => False) w wr) (fun i _ => 0)
    case atStart => exact ⟨rfl, hk1'.out⟩
    case round =>
      obtain ⟨rfl, hk2⟩ := hrel
      go_wp2
      go_loopw [9] (fun i wr => i = .int .i64 0 ∧ Kept (fun _ => False) w wr) (fun i _ => 0)
      case atStart => exact ⟨rfl, hk2⟩
      case round =>
        obtain ⟨rfl, hk3⟩ := hrel
        go_wp2
        go_loopw [11] (fun i wr => i = .int .i64 0 ∧ Kept (fun _ => False) w wr) (fun i _ => 0)
        case atStart => exact ⟨rfl, hk3⟩
        case round =>
          obtain ⟨rfl, hk4⟩ := hrel
          go_wp2
          go_loopw [14] (fun i wr => i = .int .i64 0 ∧ Kept (fun _ => False) w wr) (fun i _ => 0)
          case atStart => exact ⟨rfl, hk4⟩
          case round =>
            obtain ⟨rfl, hk5⟩ := hrel
            go_wp2
            go_ret
            exact ⟨rfl, hk5⟩

set_option maxRecDepth 100000 in
set_option maxHeartbeats 1000000 in
theorem flatExprs_nil (w : World) : Calls Tryd.prog 68 #[.slice none 0 0] w fun e w' => e = .returned (.bool true) ∧ Kept (fun _ => False) w w' := by
  go_enter Tryd.func68, Tryd.ntmps68
  go_wp2
  go_loopw [3] (fun i wr => i = .int .i64 0 ∧ Kept (fun _ => False) w wr) (fun i _ => 0)
  case atStart => exact ⟨rfl, Kept.refl _ _⟩
  case round =>
    obtain ⟨rfl, hk1⟩ := hrel
    obtain ⟨w1, hr, hkm⟩ := run_make0 (P := Tryd.prog) wr 66 142 Tryd.underlying66 (z := .slice none 0 0) (size := 1) (bytes := 24) (by kernel_rfl)
    have hk1' := Lib.hid (hk1.trans0 hkm)
    clear hk1 hkm
    go_wp2
    go_loopw [6] (fun i wr => i = .int .i64 0 ∧ Kept (fun _ => False) w wr) (fun i _ => 0)
    case atStart => exact ⟨rfl, hk1'.out⟩
    case round =>
      obtain ⟨rfl, hk2⟩ := hrel
      go_wp2
      go_loopw [9] (fun i wr => i = .int .i64 0 ∧ Kept (fun _ => False) w wr) (fun i _ => 0)
      case atStart => exact ⟨rfl, hk2⟩
      case round =>
        obtain ⟨rfl, hk3⟩ := hrel
        go_wp2
        go_loopw [11] (fun i wr => i = .int .i64 0 ∧ Kept (fun _ => False) w wr) (fun i _ => 0)
        case atStart => exact ⟨rfl, hk3⟩
        case round =>
          obtain ⟨rfl, hk4⟩ := hrel
          go_wp2
          go_loopw [14] (fun i wr => i = .int .i64 0 ∧ Kept (fun _ => False) w wr) (fun i _ => 0)
          case atStart => exact ⟨rfl, hk4⟩
          case round =>
            obtain ⟨rfl, hk5⟩ := hrel
            go_wp2
            go_ret
            exact ⟨rfl, hk5⟩

set_option maxRecDepth 100000 in
set_option maxHeartbeats 1000000 in
theorem flatItems_nil (w : World) : Calls Tryd.prog 69 #[.slice none 0 0] w fun e w' => e = .returned (.bool true) ∧ Kept (fun _ => False) w w' := by
  go_enter Tryd.func69, Tryd.ntmps69
  go_wp2
  go_loopw [3] (fun i wr => i = .int .i64 0 ∧ Kept (fun _ => False) w wr) (fun i _ => 0)
  case atStart => exact ⟨rfl, Kept.refl _ _⟩
  case round =>
    obtain ⟨rfl, hk1⟩ := hrel
    obtain ⟨w1, hr, hkm⟩ := run_make0 (P := Tryd.prog) wr 67 150 Tryd.underlying67 (z := .slice none 0 0) (size := 1) (bytes := 24) (by kernel_rfl)
    have hk1' := Lib.hid (hk1.trans0 hkm)
    clear hk1 hkm
    go_wp2
    go_loopw [6] (fun i wr => i = .int .i64 0 ∧ Kept (fun _ => False) w wr) (fun i _ => 0)
    case atStart => exact ⟨rfl, hk1'.out⟩
    case round =>
      obtain ⟨rfl, hk2⟩ := hrel
      go_wp2
      go_loopw [9] (fun i wr => i = .int .i64 0 ∧ Kept (fun _ => False) w wr) (fun i _ => 0)
      case atStart => exact ⟨rfl, hk2⟩
      case round =>
        obtain ⟨rfl, hk3⟩ := hrel
        go_wp2
        go_loopw [11] (fun i wr => i = .int .i64 0 ∧ Kept (fun _ => False) w wr) (fun i _ => 0)
        case atStart => exact ⟨rfl, hk3⟩
        case round =>
          obtain ⟨rfl, hk4⟩ := hrel
          go_wp2
          go_loopw [14] (fun i wr => i = .int .i64 0 ∧ Kept (fun _ => False) w wr) (fun i _ => 0)
          case atStart => exact ⟨rfl, hk4⟩
          case round =>
            obtain ⟨rfl, hk5⟩ := hrel
            go_wp2
            go_ret
            exact ⟨rfl, hk5⟩

set_option maxRecDepth 100000 in
set_option maxHeartbeats 1000000 in
theorem flatShowns_nil (w : World) : Calls Tryd.prog 70 #[.slice none 0 0] w fun e w' => e = .returned (.bool true) ∧ Kept (fun _ => False) w w' := by
  go_enter Tryd.func70, Tryd.ntmps70
  go_wp2
  go_loopw [3] (fun i wr => i = .int .i64 0 ∧ Kept (fun _ => False) w wr) (fun i _ => 0)
  case atStart => exact ⟨rfl, Kept.refl _ _⟩
  case round =>
    obtain ⟨rfl, hk1⟩ := hrel
    obtain ⟨w1, hr, hkm⟩ := run_make0 (P := Tryd.prog) wr 68 155 Tryd.underlying68 (z := .slice none 0 0) (size := 1) (bytes := 24) (by kernel_rfl)
    have hk1' := Lib.hid (hk1.trans0 hkm)
    clear hk1 hkm
    go_wp2
    go_loopw [6] (fun i wr => i = .int .i64 0 ∧ Kept (fun _ => False) w wr) (fun i _ => 0)
    case atStart => exact ⟨rfl, hk1'.out⟩
    case round =>
      obtain ⟨rfl, hk2⟩ := hrel
      go_wp2
      go_loopw [9] (fun i wr => i = .int .i64 0 ∧ Kept (fun _ => False) w wr) (fun i _ => 0)
      case atStart => exact ⟨rfl, hk2⟩
      case round =>
        obtain ⟨rfl, hk3⟩ := hrel
        go_wp2
        go_loopw [11] (fun i wr => i = .int .i64 0 ∧ Kept (fun _ => False) w wr) (fun i _ => 0)
        case atStart => exact ⟨rfl, hk3⟩
        case round =>
          obtain ⟨rfl, hk4⟩ := hrel
          go_wp2
          go_loopw [14] (fun i wr => i = .int .i64 0 ∧ Kept (fun _ => False) w wr) (fun i _ => 0)
          case atStart => exact ⟨rfl, hk4⟩
          case round =>
            obtain ⟨rfl, hk5⟩ := hrel
            go_wp2
            go_ret
            exact ⟨rfl, hk5⟩

set_option maxRecDepth 100000 in
set_option maxHeartbeats 1000000 in
theorem flatParts_nil (w : World) : Calls Tryd.prog 71 #[.slice none 0 0] w fun e w' => e = .returned (.bool true) ∧ Kept (fun _ => False) w w' := by
  go_enter Tryd.func71, Tryd.ntmps71
  go_wp2
  go_loopw [3] (fun i wr => i = .int .i64 0 ∧ Kept (fun _ => False) w wr) (fun i _ => 0)
  case atStart => exact ⟨rfl, Kept.refl _ _⟩
  case round =>
    obtain ⟨rfl, hk1⟩ := hrel
    obtain ⟨w1, hr, hkm⟩ := run_make0 (P := Tryd.prog) wr 69 159 Tryd.underlying69 (z := .slice none 0 0) (size := 1) (bytes := 24) (by kernel_rfl)
    have hk1' := Lib.hid (hk1.trans0 hkm)
    clear hk1 hkm
    go_wp2
    go_loopw [6] (fun i wr => i = .int .i64 0 ∧ Kept (fun _ => False) w wr) (fun i _ => 0)
    case atStart => exact ⟨rfl, hk1'.out⟩
    case round =>
      obtain ⟨rfl, hk2⟩ := hrel
      go_wp2
      go_loopw [9] (fun i wr => i = .int .i64 0 ∧ Kept (fun _ => False) w wr) (fun i _ => 0)
      case atStart => exact ⟨rfl, hk2⟩
      case round =>
        obtain ⟨rfl, hk3⟩ := hrel
        go_wp2
        go_loopw [11] (fun i wr => i = .int .i64 0 ∧ Kept (fun _ => False) w wr) (fun i _ => 0)
        case atStart => exact ⟨rfl, hk3⟩
        case round =>
          obtain ⟨rfl, hk4⟩ := hrel
          go_wp2
          go_loopw [14] (fun i wr => i = .int .i64 0 ∧ Kept (fun _ => False) w wr) (fun i _ => 0)
          case atStart => exact ⟨rfl, hk4⟩
          case round =>
            obtain ⟨rfl, hk5⟩ := hrel
            go_wp2
            go_ret
            exact ⟨rfl, hk5⟩

set_option maxRecDepth 100000 in
set_option maxHeartbeats 1000000 in
theorem flatCommands_nil (w : World) : Calls Tryd.prog 72 #[.slice none 0 0] w fun e w' => e = .returned (.bool true) ∧ Kept (fun _ => False) w w' := by
  go_enter Tryd.func72, Tryd.ntmps72
  go_wp2
  go_loopw [3] (fun i wr => i = .int .i64 0 ∧ Kept (fun _ => False) w wr) (fun i _ => 0)
  case atStart => exact ⟨rfl, Kept.refl _ _⟩
  case round =>
    obtain ⟨rfl, hk1⟩ := hrel
    obtain ⟨w1, hr, hkm⟩ := run_make0 (P := Tryd.prog) wr 70 165 Tryd.underlying70 (z := .slice none 0 0) (size := 1) (bytes := 24) (by kernel_rfl)
    have hk1' := Lib.hid (hk1.trans0 hkm)
    clear hk1 hkm
    go_wp2
    go_loopw [6] (fun i wr => i = .int .i64 0 ∧ Kept (fun _ => False) w wr) (fun i _ => 0)
    case atStart => exact ⟨rfl, hk1'.out⟩
    case round =>
      obtain ⟨rfl, hk2⟩ := hrel
      go_wp2
      go_loopw [9] (fun i wr => i = .int .i64 0 ∧ Kept (fun _ => False) w wr) (fun i _ => 0)
      case atStart => exact ⟨rfl, hk2⟩
      case round =>
        obtain ⟨rfl, hk3⟩ := hrel
        go_wp2
        go_loopw [11] (fun i wr => i = .int .i64 0 ∧ Kept (fun _ => False) w wr) (fun i _ => 0)
        case atStart => exact ⟨rfl, hk3⟩
        case round =>
          obtain ⟨rfl, hk4⟩ := hrel
          go_wp2
          go_loopw [14] (fun i wr => i = .int .i64 0 ∧ Kept (fun _ => False) w wr) (fun i _ => 0)
          case atStart => exact ⟨rfl, hk4⟩
          case round =>
            obtain ⟨rfl, hk5⟩ := hrel
            go_wp2
            go_ret
            exact ⟨rfl, hk5⟩

end Go.Proofs.YtndflnedkpmpfaaDoor