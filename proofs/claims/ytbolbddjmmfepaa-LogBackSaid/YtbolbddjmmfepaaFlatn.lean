/-
  No statement is proved here: the verifier's flat functions, of nothing.
-/
import Derived.Test.YtbolbddjmmfepaaApp
namespace Go.Proofs.Ytbolbddjmmfepaa
open Go.RowKit

theorem run_make0 {P : Program} (w : World) (t e : TypeId) {z : Value} {size bytes : Nat} (ht : P.underlying t = some (.slice e)) (hinf : (P.info? e).map (fun i => (i.zero, i.size, i.bytes)) = some (some z, size, bytes)) :
    ∃ w1, (Instr.makeSlice t (.int .i64 0) (.int .i64 0)).run P w = .ok (.slice (some ⟨w.heap.size, 0, none⟩) 0 0) w1 ∧ Kept (fun _ => False) w w1 := by
  obtain ⟨i, hi, h2, h3, h4⟩ := info_parts hinf
  have hr := run_make (P := P) w t e i z ht hi h2 .i64 .i64 (0 : Int) (0 : Int) (by omega) (by omega) (by omega) (by omega)
  exact ⟨_, hr, (Kept.refl _ w).alloc _⟩

set_option maxRecDepth 100000 in
set_option maxHeartbeats 1000000 in
theorem flatBytes_nil (w : World) : Calls Try.prog 77 #[.slice none 0 0] w fun e w' => e = .returned (.bool true) ∧ Kept (fun _ => False) w w' := by
  go_enter Try.func77, Try.ntmps77
  go_wp2
  go_loopw [3] (fun i wr => i = .int .i64 0 ∧ Kept (fun _ => False) w wr) (fun i _ => 0)
  case atStart => exact ⟨rfl, Kept.refl _ _⟩
  case round =>
    obtain ⟨rfl, hk1⟩ := hrel
    obtain ⟨w1, hr, hkm⟩ := run_make0 (P := Try.prog) wr 41 23 Try.underlying41 (z := .slice none 0 0) (size := 1) (bytes := 24) (by kernel_rfl)
    have hk1' := Lib.hid (hk1.trans0 hkm)
    clear hk1 hkm
    go_wp2
    go_loopw [6] (fun i wr => i = .int .i64 0 ∧ Kept (fun _ => False) w wr) (fun i _ => 0)
    case atStart => exact ⟨rfl, hk1'.out⟩
    case round =>
      obtain ⟨rfl, hk2⟩ := hrel
      go_wp2
      go_loopw [9] (fun i wr => i = .int .i64 0 ∧ Kept (fun _ => False) w wr) (fun i _ => 0)
      case atStart => exact ⟨rfl, hk2⟩
      case round =>
        obtain ⟨rfl, hk3⟩ := hrel
        go_wp2
        go_loopw [11] (fun i wr => i = .int .i64 0 ∧ Kept (fun _ => False) w wr) (fun i _ => 0)
        case atStart => exact ⟨rfl, hk3⟩
        case round =>
          obtain ⟨rfl, hk4⟩ := hrel
          go_wp2
          go_loopw [14] (fun i wr => i = .int .i64 0 ∧ Kept (fun _ => False) w wr) (fun i _ => 0)
          case atStart => exact ⟨rfl, hk4⟩
          case round =>
            obtain ⟨rfl, hk5⟩ := hrel
            go_wp2
            go_ret
            exact ⟨rfl, hk5⟩

set_option maxRecDepth 100000 in
set_option maxHeartbeats 1000000 in
theorem flatWords_nil (w : World) : Calls Try.prog 73 #[.slice none 0 0] w fun e w' => e = .returned (.bool true) ∧ Kept (fun _ => False) w w' := by
  go_enter Try.func73, Try.ntmps73
  go_wp2
  go_loopw [3] (fun i wr => i = .int .i64 0 ∧ Kept (fun _ => False) w wr) (fun i _ => 0)
  case atStart => exact ⟨rfl, Kept.refl _ _⟩
  case round =>
    obtain ⟨rfl, hk1⟩ := hrel
    obtain ⟨w1, hr, hkm⟩ := run_make0 (P := Try.prog) wr 83 146 Try.underlying83 (z := .slice none 0 0) (size := 1) (bytes := 24) (by kernel_rfl)
    have hk1' := Lib.hid (hk1.trans0 hkm)
    clear hk1 hkm
    go_wp2
    go_loopw [6] (fun i wr => i = .int .i64 0 ∧ Kept (fun _ => False) w wr) (fun i _ => 0)
    case atStart => exact ⟨rfl, hk1'.out⟩
    case round =>
      obtain ⟨rfl, hk2⟩ := hrel
      go_wp2
      go_loopw [9] (fun i wr => i = .int .i64 0 ∧ Kept (fun _ => False) w wr) (fun i _ => 0)
      case atStart => exact ⟨rfl, hk2⟩
      case round =>
        obtain ⟨rfl, hk3⟩ := hrel
        go_wp2
        go_loopw [11] (fun i wr => i = .int .i64 0 ∧ Kept (fun _ => False) w wr) (fun i _ => 0)
        case atStart => exact ⟨rfl, hk3⟩
        case round =>
          obtain ⟨rfl, hk4⟩ := hrel
          go_wp2
          go_loopw [14] (fun i wr => i = .int .i64 0 ∧ Kept (fun _ => False) w wr) (fun i _ => 0)
          case atStart => exact ⟨rfl, hk4⟩
          case round =>
            obtain ⟨rfl, hk5⟩ := hrel
            go_wp2
            go_ret
            exact ⟨rfl, hk5⟩

set_option maxRecDepth 100000 in
set_option maxHeartbeats 1000000 in
theorem flatInts_nil (w : World) : Calls Try.prog 74 #[.slice none 0 0] w fun e w' => e = .returned (.bool true) ∧ Kept (fun _ => False) w w' := by
  go_enter Try.func74, Try.ntmps74
  go_wp2
  go_loopw [3] (fun i wr => i = .int .i64 0 ∧ Kept (fun _ => False) w wr) (fun i _ => 0)
  case atStart => exact ⟨rfl, Kept.refl _ _⟩
  case round =>
    obtain ⟨rfl, hk1⟩ := hrel
    obtain ⟨w1, hr, hkm⟩ := run_make0 (P := Try.prog) wr 84 63 Try.underlying84 (z := .slice none 0 0) (size := 1) (bytes := 24) (by kernel_rfl)
    have hk1' := Lib.hid (hk1.trans0 hkm)
    clear hk1 hkm
    go_wp2
    go_loopw [6] (fun i wr => i = .int .i64 0 ∧ Kept (fun _ => False) w wr) (fun i _ => 0)
    case atStart => exact ⟨rfl, hk1'.out⟩
    case round =>
      obtain ⟨rfl, hk2⟩ := hrel
      go_wp2
      go_loopw [9] (fun i wr => i = .int .i64 0 ∧ Kept (fun _ => False) w wr) (fun i _ => 0)
      case atStart => exact ⟨rfl, hk2⟩
      case round =>
        obtain ⟨rfl, hk3⟩ := hrel
        go_wp2
        go_loopw [11] (fun i wr => i = .int .i64 0 ∧ Kept (fun _ => False) w wr) (fun i _ => 0)
        case atStart => exact ⟨rfl, hk3⟩
        case round =>
          obtain ⟨rfl, hk4⟩ := hrel
          go_wp2
          go_loopw [14] (fun i wr => i = .int .i64 0 ∧ Kept (fun _ => False) w wr) (fun i _ => 0)
          case atStart => exact ⟨rfl, hk4⟩
          case round =>
            obtain ⟨rfl, hk5⟩ := hrel
            go_wp2
            go_ret
            exact ⟨rfl, hk5⟩

set_option maxRecDepth 100000 in
set_option maxHeartbeats 1000000 in
theorem flatLongs_nil (w : World) : Calls Try.prog 75 #[.slice none 0 0] w fun e w' => e = .returned (.bool true) ∧ Kept (fun _ => False) w w' := by
  go_enter Try.func75, Try.ntmps75
  go_wp2
  go_loopw [3] (fun i wr => i = .int .i64 0 ∧ Kept (fun _ => False) w wr) (fun i _ => 0)
  case atStart => exact ⟨rfl, Kept.refl _ _⟩
  case round =>
    obtain ⟨rfl, hk1⟩ := hrel
    obtain ⟨w1, hr, hkm⟩ := run_make0 (P := Try.prog) wr 85 45 Try.underlying85 (z := .slice none 0 0) (size := 1) (bytes := 24) (by kernel_rfl)
    have hk1' := Lib.hid (hk1.trans0 hkm)
    clear hk1 hkm
    go_wp2
    go_loopw [6] (fun i wr => i = .int .i64 0 ∧ Kept (fun _ => False) w wr) (fun i _ => 0)
    case atStart => exact ⟨rfl, hk1'.out⟩
    case round =>
      obtain ⟨rfl, hk2⟩ := hrel
      go_wp2
      go_loopw [9] (fun i wr => i = .int .i64 0 ∧ Kept (fun _ => False) w wr) (fun i _ => 0)
      case atStart => exact ⟨rfl, hk2⟩
      case round =>
        obtain ⟨rfl, hk3⟩ := hrel
        go_wp2
        go_loopw [11] (fun i wr => i = .int .i64 0 ∧ Kept (fun _ => False) w wr) (fun i _ => 0)
        case atStart => exact ⟨rfl, hk3⟩
        case round =>
          obtain ⟨rfl, hk4⟩ := hrel
          go_wp2
          go_loopw [14] (fun i wr => i = .int .i64 0 ∧ Kept (fun _ => False) w wr) (fun i _ => 0)
          case atStart => exact ⟨rfl, hk4⟩
          case round =>
            obtain ⟨rfl, hk5⟩ := hrel
            go_wp2
            go_ret
            exact ⟨rfl, hk5⟩

set_option maxRecDepth 100000 in
set_option maxHeartbeats 1000000 in
theorem flatTexts_nil (w : World) : Calls Try.prog 76 #[.slice none 0 0] w fun e w' => e = .returned (.bool true) ∧ Kept (fun _ => False) w w' := by
  go_enter Try.func76, Try.ntmps76
  go_wp2
  go_loopw [3] (fun i wr => i = .int .i64 0 ∧ Kept (fun _ => False) w wr) (fun i _ => 0)
  case atStart => exact ⟨rfl, Kept.refl _ _⟩
  case round =>
    obtain ⟨rfl, hk1⟩ := hrel
    obtain ⟨w1, hr, hkm⟩ := run_make0 (P := Try.prog) wr 86 147 Try.underlying86 (z := .slice none 0 0) (size := 1) (bytes := 24) (by kernel_rfl)
    have hk1' := Lib.hid (hk1.trans0 hkm)
    clear hk1 hkm
    go_wp2
    go_loopw [6] (fun i wr => i = .int .i64 0 ∧ Kept (fun _ => False) w wr) (fun i _ => 0)
    case atStart => exact ⟨rfl, hk1'.out⟩
    case round =>
      obtain ⟨rfl, hk2⟩ := hrel
      go_wp2
      go_loopw [9] (fun i wr => i = .int .i64 0 ∧ Kept (fun _ => False) w wr) (fun i _ => 0)
      case atStart => exact ⟨rfl, hk2⟩
      case round =>
        obtain ⟨rfl, hk3⟩ := hrel
        go_wp2
        go_loopw [11] (fun i wr => i = .int .i64 0 ∧ Kept (fun _ => False) w wr) (fun i _ => 0)
        case atStart => exact ⟨rfl, hk3⟩
        case round =>
          obtain ⟨rfl, hk4⟩ := hrel
          go_wp2
          go_loopw [14] (fun i wr => i = .int .i64 0 ∧ Kept (fun _ => False) w wr) (fun i _ => 0)
          case atStart => exact ⟨rfl, hk4⟩
          case round =>
            obtain ⟨rfl, hk5⟩ := hrel
            go_wp2
            go_ret
            exact ⟨rfl, hk5⟩

set_option maxRecDepth 100000 in
set_option maxHeartbeats 1000000 in
theorem flatNodes_nil (w : World) : Calls Try.prog 78 #[.slice none 0 0] w fun e w' => e = .returned (.bool true) ∧ Kept (fun _ => False) w w' := by
  go_enter Try.func78, Try.ntmps78
  go_wp2
  go_loopw [3] (fun i wr => i = .int .i64 0 ∧ Kept (fun _ => False) w wr) (fun i _ => 0)
  case atStart => exact ⟨rfl, Kept.refl _ _⟩
  case round =>
    obtain ⟨rfl, hk1⟩ := hrel
    obtain ⟨w1, hr, hkm⟩ := run_make0 (P := Try.prog) wr 87 149 Try.underlying87 (z := .slice none 0 0) (size := 1) (bytes := 24) (by kernel_rfl)
    have hk1' := Lib.hid (hk1.trans0 hkm)
    clear hk1 hkm
    go_wp2
    go_loopw [6] (fun i wr => i = .int .i64 0 ∧ Kept (fun _ => False) w wr) (fun i _ => 0)
    case atStart => exact ⟨rfl, hk1'.out⟩
    case round =>
      obtain ⟨rfl, hk2⟩ := hrel
      go_wp2
      go_loopw [9] (fun i wr => i = .int .i64 0 ∧ Kept (fun _ => False) w wr) (fun i _ => 0)
      case atStart => exact ⟨rfl, hk2⟩
      case round =>
        obtain ⟨rfl, hk3⟩ := hrel
        go_wp2
        go_loopw [11] (fun i wr => i = .int .i64 0 ∧ Kept (fun _ => False) w wr) (fun i _ => 0)
        case atStart => exact ⟨rfl, hk3⟩
        case round =>
          obtain ⟨rfl, hk4⟩ := hrel
          go_wp2
          go_loopw [14] (fun i wr => i = .int .i64 0 ∧ Kept (fun _ => False) w wr) (fun i _ => 0)
          case atStart => exact ⟨rfl, hk4⟩
          case round =>
            obtain ⟨rfl, hk5⟩ := hrel
            go_wp2
            go_ret
            exact ⟨rfl, hk5⟩

set_option maxRecDepth 100000 in
set_option maxHeartbeats 1000000 in
theorem flatFates_nil (w : World) : Calls Try.prog 79 #[.slice none 0 0] w fun e w' => e = .returned (.bool true) ∧ Kept (fun _ => False) w w' := by
  go_enter Try.func79, Try.ntmps79
  go_wp2
  go_loopw [3] (fun i wr => i = .int .i64 0 ∧ Kept (fun _ => False) w wr) (fun i _ => 0)
  case atStart => exact ⟨rfl, Kept.refl _ _⟩
  case round =>
    obtain ⟨rfl, hk1⟩ := hrel
    obtain ⟨w1, hr, hkm⟩ := run_make0 (P := Try.prog) wr 64 67 Try.underlying64 (z := .slice none 0 0) (size := 1) (bytes := 24) (by kernel_rfl)
    have hk1' := Lib.hid (hk1.trans0 hkm)
    clear hk1 hkm
    go_wp2
    go_loopw [6] (fun i wr => i = .int .i64 0 ∧ Kept (fun _ => False) w wr) (fun i _ => 0)
    case atStart => exact ⟨rfl, hk1'.out⟩
    case round =>
      obtain ⟨rfl, hk2⟩ := hrel
      go_wp2
      go_loopw [9] (fun i wr => i = .int .i64 0 ∧ Kept (fun _ => False) w wr) (fun i _ => 0)
      case atStart => exact ⟨rfl, hk2⟩
      case round =>
        obtain ⟨rfl, hk3⟩ := hrel
        go_wp2
        go_loopw [11] (fun i wr => i = .int .i64 0 ∧ Kept (fun _ => False) w wr) (fun i _ => 0)
        case atStart => exact ⟨rfl, hk3⟩
        case round =>
          obtain ⟨rfl, hk4⟩ := hrel
          go_wp2
          go_loopw [14] (fun i wr => i = .int .i64 0 ∧ Kept (fun _ => False) w wr) (fun i _ => 0)
          case atStart => exact ⟨rfl, hk4⟩
          case round =>
            obtain ⟨rfl, hk5⟩ := hrel
            go_wp2
            go_ret
            exact ⟨rfl, hk5⟩

set_option maxRecDepth 100000 in
set_option maxHeartbeats 1000000 in
theorem flatSpans_nil (w : World) : Calls Try.prog 80 #[.slice none 0 0] w fun e w' => e = .returned (.bool true) ∧ Kept (fun _ => False) w w' := by
  go_enter Try.func80, Try.ntmps80
  go_wp2
  go_loopw [3] (fun i wr => i = .int .i64 0 ∧ Kept (fun _ => False) w wr) (fun i _ => 0)
  case atStart => exact ⟨rfl, Kept.refl _ _⟩
  case round =>
    obtain ⟨rfl, hk1⟩ := hrel
    obtain ⟨w1, hr, hkm⟩ := run_make0 (P := Try.prog) wr 88 155 Try.underlying88 (z := .slice none 0 0) (size := 1) (bytes := 24) (by kernel_rfl)
    have hk1' := Lib.hid (hk1.trans0 hkm)
    clear hk1 hkm
    go_wp2
    go_loopw [6] (fun i wr => i = .int .i64 0 ∧ Kept (fun _ => False) w wr) (fun i _ => 0)
    case atStart => exact ⟨rfl, hk1'.out⟩
    case round =>
      obtain ⟨rfl, hk2⟩ := hrel
      go_wp2
      go_loopw [9] (fun i wr => i = .int .i64 0 ∧ Kept (fun _ => False) w wr) (fun i _ => 0)
      case atStart => exact ⟨rfl, hk2⟩
      case round =>
        obtain ⟨rfl, hk3⟩ := hrel
        go_wp2
        go_loopw [11] (fun i wr => i = .int .i64 0 ∧ Kept (fun _ => False) w wr) (fun i _ => 0)
        case atStart => exact ⟨rfl, hk3⟩
        case round =>
          obtain ⟨rfl, hk4⟩ := hrel
          go_wp2
          go_loopw [14] (fun i wr => i = .int .i64 0 ∧ Kept (fun _ => False) w wr) (fun i _ => 0)
          case atStart => exact ⟨rfl, hk4⟩
          case round =>
            obtain ⟨rfl, hk5⟩ := hrel
            go_wp2
            go_ret
            exact ⟨rfl, hk5⟩

set_option maxRecDepth 100000 in
set_option maxHeartbeats 1000000 in
theorem flatDirties_nil (w : World) : Calls Try.prog 81 #[.slice none 0 0] w fun e w' => e = .returned (.bool true) ∧ Kept (fun _ => False) w w' := by
  go_enter Try.func81, Try.ntmps81
  go_wp2
  go_loopw [3] (fun i wr => i = .int .i64 0 ∧ Kept (fun _ => False) w wr) (fun i _ => 0)
  case atStart => exact ⟨rfl, Kept.refl _ _⟩
  case round =>
    obtain ⟨rfl, hk1⟩ := hrel
    obtain ⟨w1, hr, hkm⟩ := run_make0 (P := Try.prog) wr 89 157 Try.underlying89 (z := .slice none 0 0) (size := 1) (bytes := 24) (by kernel_rfl)
    have hk1' := Lib.hid (hk1.trans0 hkm)
    clear hk1 hkm
    go_wp2
    go_loopw [6] (fun i wr => i = .int .i64 0 ∧ Kept (fun _ => False) w wr) (fun i _ => 0)
    case atStart => exact ⟨rfl, hk1'.out⟩
    case round =>
      obtain ⟨rfl, hk2⟩ := hrel
      go_wp2
      go_loopw [9] (fun i wr => i = .int .i64 0 ∧ Kept (fun _ => False) w wr) (fun i _ => 0)
      case atStart => exact ⟨rfl, hk2⟩
      case round =>
        obtain ⟨rfl, hk3⟩ := hrel
        go_wp2
        go_loopw [11] (fun i wr => i = .int .i64 0 ∧ Kept (fun _ => False) w wr) (fun i _ => 0)
        case atStart => exact ⟨rfl, hk3⟩
        case round =>
          obtain ⟨rfl, hk4⟩ := hrel
          go_wp2
          go_loopw [14] (fun i wr => i = .int .i64 0 ∧ Kept (fun _ => False) w wr) (fun i _ => 0)
          case atStart => exact ⟨rfl, hk4⟩
          case round =>
            obtain ⟨rfl, hk5⟩ := hrel
            go_wp2
            go_ret
            exact ⟨rfl, hk5⟩

set_option maxRecDepth 100000 in
set_option maxHeartbeats 1000000 in
theorem flatRecords_nil (w : World) : Calls Try.prog 82 #[.slice none 0 0] w fun e w' => e = .returned (.bool true) ∧ Kept (fun _ => False) w w' := by
  go_enter Try.func82, Try.ntmps82
  go_wp2
  go_loopw [3] (fun i wr => i = .int .i64 0 ∧ Kept (fun _ => False) w wr) (fun i _ => 0)
  case atStart => exact ⟨rfl, Kept.refl _ _⟩
  case round =>
    obtain ⟨rfl, hk1⟩ := hrel
    obtain ⟨w1, hr, hkm⟩ := run_make0 (P := Try.prog) wr 90 55 Try.underlying90 (z := .slice none 0 0) (size := 1) (bytes := 24) (by kernel_rfl)
    have hk1' := Lib.hid (hk1.trans0 hkm)
    clear hk1 hkm
    go_wp2
    go_loopw [6] (fun i wr => i = .int .i64 0 ∧ Kept (fun _ => False) w wr) (fun i _ => 0)
    case atStart => exact ⟨rfl, hk1'.out⟩
    case round =>
      obtain ⟨rfl, hk2⟩ := hrel
      go_wp2
      go_loopw [9] (fun i wr => i = .int .i64 0 ∧ Kept (fun _ => False) w wr) (fun i _ => 0)
      case atStart => exact ⟨rfl, hk2⟩
      case round =>
        obtain ⟨rfl, hk3⟩ := hrel
        go_wp2
        go_loopw [11] (fun i wr => i = .int .i64 0 ∧ Kept (fun _ => False) w wr) (fun i _ => 0)
        case atStart => exact ⟨rfl, hk3⟩
        case round =>
          obtain ⟨rfl, hk4⟩ := hrel
          go_wp2
          go_loopw [14] (fun i wr => i = .int .i64 0 ∧ Kept (fun _ => False) w wr) (fun i _ => 0)
          case atStart => exact ⟨rfl, hk4⟩
          case round =>
            obtain ⟨rfl, hk5⟩ := hrel
            go_wp2
            go_ret
            exact ⟨rfl, hk5⟩

set_option maxRecDepth 100000 in
set_option maxHeartbeats 1000000 in
theorem flatCells_nil (w : World) : Calls Try.prog 83 #[.slice none 0 0] w fun e w' => e = .returned (.bool true) ∧ Kept (fun _ => False) w w' := by
  go_enter Try.func83, Try.ntmps83
  go_wp2
  go_loopw [3] (fun i wr => i = .int .i64 0 ∧ Kept (fun _ => False) w wr) (fun i _ => 0)
  case atStart => exact ⟨rfl, Kept.refl _ _⟩
  case round =>
    obtain ⟨rfl, hk1⟩ := hrel
    obtain ⟨w1, hr, hkm⟩ := run_make0 (P := Try.prog) wr 91 162 Try.underlying91 (z := .slice none 0 0) (size := 1) (bytes := 24) (by kernel_rfl)
    have hk1' := Lib.hid (hk1.trans0 hkm)
    clear hk1 hkm
    go_wp2
    go_loopw [6] (fun i wr => i = .int .i64 0 ∧ Kept (fun _ => False) w wr) (fun i _ => 0)
    case atStart => exact ⟨rfl, hk1'.out⟩
    case round =>
      obtain ⟨rfl, hk2⟩ := hrel
      go_wp2
      go_loopw [9] (fun i wr => i = .int .i64 0 ∧ Kept (fun _ => False) w wr) (fun i _ => 0)
      case atStart => exact ⟨rfl, hk2⟩
      case round =>
        obtain ⟨rfl, hk3⟩ := hrel
        go_wp2
        go_loopw [11] (fun i wr => i = .int .i64 0 ∧ Kept (fun _ => False) w wr) (fun i _ => 0)
        case atStart => exact ⟨rfl, hk3⟩
        case round =>
          obtain ⟨rfl, hk4⟩ := hrel
          go_wp2
          go_loopw [14] (fun i wr => i = .int .i64 0 ∧ Kept (fun _ => False) w wr) (fun i _ => 0)
          case atStart => exact ⟨rfl, hk4⟩
          case round =>
            obtain ⟨rfl, hk5⟩ := hrel
            go_wp2
            go_ret
            exact ⟨rfl, hk5⟩

set_option maxRecDepth 100000 in
set_option maxHeartbeats 1000000 in
theorem flatHelds_nil (w : World) : Calls Try.prog 84 #[.slice none 0 0] w fun e w' => e = .returned (.bool true) ∧ Kept (fun _ => False) w w' := by
  go_enter Try.func84, Try.ntmps84
  go_wp2
  go_loopw [3] (fun i wr => i = .int .i64 0 ∧ Kept (fun _ => False) w wr) (fun i _ => 0)
  case atStart => exact ⟨rfl, Kept.refl _ _⟩
  case round =>
    obtain ⟨rfl, hk1⟩ := hrel
    obtain ⟨w1, hr, hkm⟩ := run_make0 (P := Try.prog) wr 92 167 Try.underlying92 (z := .slice none 0 0) (size := 1) (bytes := 24) (by kernel_rfl)
    have hk1' := Lib.hid (hk1.trans0 hkm)
    clear hk1 hkm
    go_wp2
    go_loopw [6] (fun i wr => i = .int .i64 0 ∧ Kept (fun _ => False) w wr) (fun i _ => 0)
    case atStart => exact ⟨rfl, hk1'.out⟩
    case round =>
      obtain ⟨rfl, hk2⟩ := hrel
      go_wp2
      go_loopw [9] (fun i wr => i = .int .i64 0 ∧ Kept (fun _ => False) w wr) (fun i _ => 0)
      case atStart => exact ⟨rfl, hk2⟩
      case round =>
        obtain ⟨rfl, hk3⟩ := hrel
        go_wp2
        go_loopw [11] (fun i wr => i = .int .i64 0 ∧ Kept (fun _ => False) w wr) (fun i _ => 0)
        case atStart => exact ⟨rfl, hk3⟩
        case round =>
          obtain ⟨rfl, hk4⟩ := hrel
          go_wp2
          go_loopw [14] (fun i wr => i = .int .i64 0 ∧ Kept (fun _ => False) w wr) (fun i _ => 0)
          case atStart => exact ⟨rfl, hk4⟩
          case round =>
            obtain ⟨rfl, hk5⟩ := hrel
            go_wp2
            go_ret
            exact ⟨rfl, hk5⟩

set_option maxRecDepth 100000 in
set_option maxHeartbeats 1000000 in
theorem flatTokens_nil (w : World) : Calls Try.prog 85 #[.slice none 0 0] w fun e w' => e = .returned (.bool true) ∧ Kept (fun _ => False) w w' := by
  go_enter Try.func85, Try.ntmps85
  go_wp2
  go_loopw [3] (fun i wr => i = .int .i64 0 ∧ Kept (fun _ => False) w wr) (fun i _ => 0)
  case atStart => exact ⟨rfl, Kept.refl _ _⟩
  case round =>
    obtain ⟨rfl, hk1⟩ := hrel
    obtain ⟨w1, hr, hkm⟩ := run_make0 (P := Try.prog) wr 93 172 Try.underlying93 (z := .slice none 0 0) (size := 1) (bytes := 24) (by kernel_rfl)
    have hk1' := Lib.hid (hk1.trans0 hkm)
    clear hk1 hkm
    go_wp2
    go_loopw [6] (fun i wr => i = .int .i64 0 ∧ Kept (fun _ => False) w wr) (fun i _ => 0)
    case atStart => exact ⟨rfl, hk1'.out⟩
    case round =>
      obtain ⟨rfl, hk2⟩ := hrel
      go_wp2
      go_loopw [9] (fun i wr => i = .int .i64 0 ∧ Kept (fun _ => False) w wr) (fun i _ => 0)
      case atStart => exact ⟨rfl, hk2⟩
      case round =>
        obtain ⟨rfl, hk3⟩ := hrel
        go_wp2
        go_loopw [11] (fun i wr => i = .int .i64 0 ∧ Kept (fun _ => False) w wr) (fun i _ => 0)
        case atStart => exact ⟨rfl, hk3⟩
        case round =>
          obtain ⟨rfl, hk4⟩ := hrel
          go_wp2
          go_loopw [14] (fun i wr => i = .int .i64 0 ∧ Kept (fun _ => False) w wr) (fun i _ => 0)
          case atStart => exact ⟨rfl, hk4⟩
          case round =>
            obtain ⟨rfl, hk5⟩ := hrel
            go_wp2
            go_ret
            exact ⟨rfl, hk5⟩

set_option maxRecDepth 100000 in
set_option maxHeartbeats 1000000 in
theorem flatExprs_nil (w : World) : Calls Try.prog 86 #[.slice none 0 0] w fun e w' => e = .returned (.bool true) ∧ Kept (fun _ => False) w w' := by
  go_enter Try.func86, Try.ntmps86
  go_wp2
  go_loopw [3] (fun i wr => i = .int .i64 0 ∧ Kept (fun _ => False) w wr) (fun i _ => 0)
  case atStart => exact ⟨rfl, Kept.refl _ _⟩
  case round =>
    obtain ⟨rfl, hk1⟩ := hrel
    obtain ⟨w1, hr, hkm⟩ := run_make0 (P := Try.prog) wr 94 177 Try.underlying94 (z := .slice none 0 0) (size := 1) (bytes := 24) (by kernel_rfl)
    have hk1' := Lib.hid (hk1.trans0 hkm)
    clear hk1 hkm
    go_wp2
    go_loopw [6] (fun i wr => i = .int .i64 0 ∧ Kept (fun _ => False) w wr) (fun i _ => 0)
    case atStart => exact ⟨rfl, hk1'.out⟩
    case round =>
      obtain ⟨rfl, hk2⟩ := hrel
      go_wp2
      go_loopw [9] (fun i wr => i = .int .i64 0 ∧ Kept (fun _ => False) w wr) (fun i _ => 0)
      case atStart => exact ⟨rfl, hk2⟩
      case round =>
        obtain ⟨rfl, hk3⟩ := hrel
        go_wp2
        go_loopw [11] (fun i wr => i = .int .i64 0 ∧ Kept (fun _ => False) w wr) (fun i _ => 0)
        case atStart => exact ⟨rfl, hk3⟩
        case round =>
          obtain ⟨rfl, hk4⟩ := hrel
          go_wp2
          go_loopw [14] (fun i wr => i = .int .i64 0 ∧ Kept (fun _ => False) w wr) (fun i _ => 0)
          case atStart => exact ⟨rfl, hk4⟩
          case round =>
            obtain ⟨rfl, hk5⟩ := hrel
            go_wp2
            go_ret
            exact ⟨rfl, hk5⟩

set_option maxRecDepth 100000 in
set_option maxHeartbeats 1000000 in
theorem flatItems_nil (w : World) : Calls Try.prog 87 #[.slice none 0 0] w fun e w' => e = .returned (.bool true) ∧ Kept (fun _ => False) w w' := by
  go_enter Try.func87, Try.ntmps87
  go_wp2
  go_loopw [3] (fun i wr => i = .int .i64 0 ∧ Kept (fun _ => False) w wr) (fun i _ => 0)
  case atStart => exact ⟨rfl, Kept.refl _ _⟩
  case round =>
    obtain ⟨rfl, hk1⟩ := hrel
    obtain ⟨w1, hr, hkm⟩ := run_make0 (P := Try.prog) wr 95 185 Try.underlying95 (z := .slice none 0 0) (size := 1) (bytes := 24) (by kernel_rfl)
    have hk1' := Lib.hid (hk1.trans0 hkm)
    clear hk1 hkm
    go_wp2
    go_loopw [6] (fun i wr => i = .int .i64 0 ∧ Kept (fun _ => False) w wr) (fun i _ => 0)
    case atStart => exact ⟨rfl, hk1'.out⟩
    case round =>
      obtain ⟨rfl, hk2⟩ := hrel
      go_wp2
      go_loopw [9] (fun i wr => i = .int .i64 0 ∧ Kept (fun _ => False) w wr) (fun i _ => 0)
      case atStart => exact ⟨rfl, hk2⟩
      case round =>
        obtain ⟨rfl, hk3⟩ := hrel
        go_wp2
        go_loopw [11] (fun i wr => i = .int .i64 0 ∧ Kept (fun _ => False) w wr) (fun i _ => 0)
        case atStart => exact ⟨rfl, hk3⟩
        case round =>
          obtain ⟨rfl, hk4⟩ := hrel
          go_wp2
          go_loopw [14] (fun i wr => i = .int .i64 0 ∧ Kept (fun _ => False) w wr) (fun i _ => 0)
          case atStart => exact ⟨rfl, hk4⟩
          case round =>
            obtain ⟨rfl, hk5⟩ := hrel
            go_wp2
            go_ret
            exact ⟨rfl, hk5⟩

set_option maxRecDepth 100000 in
set_option maxHeartbeats 1000000 in
theorem flatShowns_nil (w : World) : Calls Try.prog 88 #[.slice none 0 0] w fun e w' => e = .returned (.bool true) ∧ Kept (fun _ => False) w w' := by
  go_enter Try.func88, Try.ntmps88
  go_wp2
  go_loopw [3] (fun i wr => i = .int .i64 0 ∧ Kept (fun _ => False) w wr) (fun i _ => 0)
  case atStart => exact ⟨rfl, Kept.refl _ _⟩
  case round =>
    obtain ⟨rfl, hk1⟩ := hrel
    obtain ⟨w1, hr, hkm⟩ := run_make0 (P := Try.prog) wr 96 190 Try.underlying96 (z := .slice none 0 0) (size := 1) (bytes := 24) (by kernel_rfl)
    have hk1' := Lib.hid (hk1.trans0 hkm)
    clear hk1 hkm
    go_wp2
    go_loopw [6] (fun i wr => i = .int .i64 0 ∧ Kept (fun _ => False) w wr) (fun i _ => 0)
    case atStart => exact ⟨rfl, hk1'.out⟩
    case round =>
      obtain ⟨rfl, hk2⟩ := hrel
      go_wp2
      go_loopw [9] (fun i wr => i = .int .i64 0 ∧ Kept (fun _ => False) w wr) (fun i _ => 0)
      case atStart => exact ⟨rfl, hk2⟩
      case round =>
        obtain ⟨rfl, hk3⟩ := hrel
        go_wp2
        go_loopw [11] (fun i wr => i = .int .i64 0 ∧ Kept (fun _ => False) w wr) (fun i _ => 0)
        case atStart => exact ⟨rfl, hk3⟩
        case round =>
          obtain ⟨rfl, hk4⟩ := hrel
          go_wp2
          go_loopw [14] (fun i wr => i = .int .i64 0 ∧ Kept (fun _ => False) w wr) (fun i _ => 0)
          case atStart => exact ⟨rfl, hk4⟩
          case round =>
            obtain ⟨rfl, hk5⟩ := hrel
            go_wp2
            go_ret
            exact ⟨rfl, hk5⟩

set_option maxRecDepth 100000 in
set_option maxHeartbeats 1000000 in
theorem flatParts_nil (w : World) : Calls Try.prog 89 #[.slice none 0 0] w fun e w' => e = .returned (.bool true) ∧ Kept (fun _ => False) w w' := by
  go_enter Try.func89, Try.ntmps89
  go_wp2
  go_loopw [3] (fun i wr => i = .int .i64 0 ∧ Kept (fun _ => False) w wr) (fun i _ => 0)
  case atStart => exact ⟨rfl, Kept.refl _ _⟩
  case round =>
    obtain ⟨rfl, hk1⟩ := hrel
    obtain ⟨w1, hr, hkm⟩ := run_make0 (P := Try.prog) wr 97 194 Try.underlying97 (z := .slice none 0 0) (size := 1) (bytes := 24) (by kernel_rfl)
    have hk1' := Lib.hid (hk1.trans0 hkm)
    clear hk1 hkm
    go_wp2
    go_loopw [6] (fun i wr => i = .int .i64 0 ∧ Kept (fun _ => False) w wr) (fun i _ => 0)
    case atStart => exact ⟨rfl, hk1'.out⟩
    case round =>
      obtain ⟨rfl, hk2⟩ := hrel
      go_wp2
      go_loopw [9] (fun i wr => i = .int .i64 0 ∧ Kept (fun _ => False) w wr) (fun i _ => 0)
      case atStart => exact ⟨rfl, hk2⟩
      case round =>
        obtain ⟨rfl, hk3⟩ := hrel
        go_wp2
        go_loopw [11] (fun i wr => i = .int .i64 0 ∧ Kept (fun _ => False) w wr) (fun i _ => 0)
        case atStart => exact ⟨rfl, hk3⟩
        case round =>
          obtain ⟨rfl, hk4⟩ := hrel
          go_wp2
          go_loopw [14] (fun i wr => i = .int .i64 0 ∧ Kept (fun _ => False) w wr) (fun i _ => 0)
          case atStart => exact ⟨rfl, hk4⟩
          case round =>
            obtain ⟨rfl, hk5⟩ := hrel
            go_wp2
            go_ret
            exact ⟨rfl, hk5⟩

set_option maxRecDepth 100000 in
set_option maxHeartbeats 1000000 in
theorem flatCommands_nil (w : World) : Calls Try.prog 90 #[.slice none 0 0] w fun e w' => e = .returned (.bool true) ∧ Kept (fun _ => False) w w' := by
  go_enter Try.func90, Try.ntmps90
  go_wp2
  go_loopw [3] (fun i wr => i = .int .i64 0 ∧ Kept (fun _ => False) w wr) (fun i _ => 0)
  case atStart => exact ⟨rfl, Kept.refl _ _⟩
  case round =>
    obtain ⟨rfl, hk1⟩ := hrel
    obtain ⟨w1, hr, hkm⟩ := run_make0 (P := Try.prog) wr 98 200 Try.underlying98 (z := .slice none 0 0) (size := 1) (bytes := 24) (by kernel_rfl)
    have hk1' := Lib.hid (hk1.trans0 hkm)
    clear hk1 hkm
    go_wp2
    go_loopw [6] (fun i wr => i = .int .i64 0 ∧ Kept (fun _ => False) w wr) (fun i _ => 0)
    case atStart => exact ⟨rfl, hk1'.out⟩
    case round =>
      obtain ⟨rfl, hk2⟩ := hrel
      go_wp2
      go_loopw [9] (fun i wr => i = .int .i64 0 ∧ Kept (fun _ => False) w wr) (fun i _ => 0)
      case atStart => exact ⟨rfl, hk2⟩
      case round =>
        obtain ⟨rfl, hk3⟩ := hrel
        go_wp2
        go_loopw [11] (fun i wr => i = .int .i64 0 ∧ Kept (fun _ => False) w wr) (fun i _ => 0)
        case atStart => exact ⟨rfl, hk3⟩
        case round =>
          obtain ⟨rfl, hk4⟩ := hrel
          go_wp2
          go_loopw [14] (fun i wr => i = .int .i64 0 ∧ Kept (fun _ => False) w wr) (fun i _ => 0)
          case atStart => exact ⟨rfl, hk4⟩
          case round =>
            obtain ⟨rfl, hk5⟩ := hrel
            go_wp2
            go_ret
            exact ⟨rfl, hk5⟩

end Go.Proofs.Ytbolbddjmmfepaa