/-
  No statement is proved here: the verifier's flat functions, of nothing.
-/
import Derived.Test.YtjhbkamgmldkmaaApp
namespace Go.Proofs.Ytjhbkamgmldkmaa
open Go.RowKit

theorem run_make0 {P : Program} (w : World) (t e : TypeId) {z : Value} {size bytes : Nat} (ht : P.underlying t = some (.slice e)) (hinf : (P.info? e).map (fun i => (i.zero, i.size, i.bytes)) = some (some z, size, bytes)) :
    ∃ w1, (Instr.makeSlice t (.int .i64 0) (.int .i64 0)).run P w = .ok (.slice (some ⟨w.heap.size, 0, none⟩) 0 0) w1 ∧ Kept (fun _ => False) w w1 := by
  obtain ⟨i, hi, h2, h3, h4⟩ := info_parts hinf
  have hr := run_make (P := P) w t e i z ht hi h2 .i64 .i64 (0 : Int) (0 : Int) (by omega) (by omega) (by omega) (by omega)
  exact ⟨_, hr, (Kept.refl _ w).alloc _⟩

set_option maxRecDepth 100000 in
set_option maxHeartbeats 1000000 in
theorem flatBytes_nil (w : World) : Calls Try.prog 56 #[.slice none 0 0] w fun e w' => e = .returned (.bool true) ∧ Kept (fun _ => False) w w' := by
  go_enter Try.func56, Try.ntmps56
  go_wp2
  go_loopw [3] (fun i wr => i = .int .i64 0 ∧ Kept (fun _ => False) w wr) (fun i _ => 0)
  case atStart => exact ⟨rfl, Kept.refl _ _⟩
  case round =>
    obtain ⟨rfl, hk1⟩ := hrel
    obtain ⟨w1, hr, hkm⟩ := run_make0 (P := Try.prog) wr 56 35 Try.underlying56 (z := .slice none 0 0) (size := 1) (bytes := 24) (by kernel_rfl)
    have hk1' := Lib.hid (hk1.trans0 hkm)
    clear hk1 hkm
    go_wp2
    go_loopw [6] (fun i wr => i = .int .i64 0 ∧ Kept (fun _ => False) w wr) (fun i _ => 0)
    case atStart => exact ⟨rfl, hk1'.out⟩
    case round =>
      obtain ⟨rfl, hk2⟩ := hrel
      go_wp2
      go_loopw [9] (fun i wr => i = .int .i64 0 ∧ Kept (fun _ => False) w wr) (fun i _ => 0)
      case atStart => exact ⟨rfl, hk2⟩
      case round =>
        obtain ⟨rfl, hk3⟩ := hrel
        go_wp2
        go_loopw [11] (fun i wr => i = .int .i64 0 ∧ Kept (fun _ => False) w wr) (fun i _ => 0)
        case atStart => exact ⟨rfl, hk3⟩
        case round =>
          obtain ⟨rfl, hk4⟩ := hrel
          go_wp2
          go_loopw [14] (fun i wr => i = .int .i64 0 ∧ Kept (fun _ => False) w wr) (fun i _ => 0)
          case atStart => exact ⟨rfl, hk4⟩
          case round =>
            obtain ⟨rfl, hk5⟩ := hrel
            go_wp2
            go_ret
            exact ⟨rfl, hk5⟩

set_option maxRecDepth 100000 in
set_option maxHeartbeats 1000000 in
theorem flatWords_nil (w : World) : Calls Try.prog 52 #[.slice none 0 0] w fun e w' => e = .returned (.bool true) ∧ Kept (fun _ => False) w w' := by
  go_enter Try.func52, Try.ntmps52
  go_wp2
  go_loopw [3] (fun i wr => i = .int .i64 0 ∧ Kept (fun _ => False) w wr) (fun i _ => 0)
  case atStart => exact ⟨rfl, Kept.refl _ _⟩
  case round =>
    obtain ⟨rfl, hk1⟩ := hrel
    obtain ⟨w1, hr, hkm⟩ := run_make0 (P := Try.prog) wr 79 120 Try.underlying79 (z := .slice none 0 0) (size := 1) (bytes := 24) (by kernel_rfl)
    have hk1' := Lib.hid (hk1.trans0 hkm)
    clear hk1 hkm
    go_wp2
    go_loopw [6] (fun i wr => i = .int .i64 0 ∧ Kept (fun _ => False) w wr) (fun i _ => 0)
    case atStart => exact ⟨rfl, hk1'.out⟩
    case round =>
      obtain ⟨rfl, hk2⟩ := hrel
      go_wp2
      go_loopw [9] (fun i wr => i = .int .i64 0 ∧ Kept (fun _ => False) w wr) (fun i _ => 0)
      case atStart => exact ⟨rfl, hk2⟩
      case round =>
        obtain ⟨rfl, hk3⟩ := hrel
        go_wp2
        go_loopw [11] (fun i wr => i = .int .i64 0 ∧ Kept (fun _ => False) w wr) (fun i _ => 0)
        case atStart => exact ⟨rfl, hk3⟩
        case round =>
          obtain ⟨rfl, hk4⟩ := hrel
          go_wp2
          go_loopw [14] (fun i wr => i = .int .i64 0 ∧ Kept (fun _ => False) w wr) (fun i _ => 0)
          case atStart => exact ⟨rfl, hk4⟩
          case round =>
            obtain ⟨rfl, hk5⟩ := hrel
            go_wp2
            go_ret
            exact ⟨rfl, hk5⟩

set_option maxRecDepth 100000 in
set_option maxHeartbeats 1000000 in
theorem flatInts_nil (w : World) : Calls Try.prog 53 #[.slice none 0 0] w fun e w' => e = .returned (.bool true) ∧ Kept (fun _ => False) w w' := by
  go_enter Try.func53, Try.ntmps53
  go_wp2
  go_loopw [3] (fun i wr => i = .int .i64 0 ∧ Kept (fun _ => False) w wr) (fun i _ => 0)
  case atStart => exact ⟨rfl, Kept.refl _ _⟩
  case round =>
    obtain ⟨rfl, hk1⟩ := hrel
    obtain ⟨w1, hr, hkm⟩ := run_make0 (P := Try.prog) wr 80 121 Try.underlying80 (z := .slice none 0 0) (size := 1) (bytes := 24) (by kernel_rfl)
    have hk1' := Lib.hid (hk1.trans0 hkm)
    clear hk1 hkm
    go_wp2
    go_loopw [6] (fun i wr => i = .int .i64 0 ∧ Kept (fun _ => False) w wr) (fun i _ => 0)
    case atStart => exact ⟨rfl, hk1'.out⟩
    case round =>
      obtain ⟨rfl, hk2⟩ := hrel
      go_wp2
      go_loopw [9] (fun i wr => i = .int .i64 0 ∧ Kept (fun _ => False) w wr) (fun i _ => 0)
      case atStart => exact ⟨rfl, hk2⟩
      case round =>
        obtain ⟨rfl, hk3⟩ := hrel
        go_wp2
        go_loopw [11] (fun i wr => i = .int .i64 0 ∧ Kept (fun _ => False) w wr) (fun i _ => 0)
        case atStart => exact ⟨rfl, hk3⟩
        case round =>
          obtain ⟨rfl, hk4⟩ := hrel
          go_wp2
          go_loopw [14] (fun i wr => i = .int .i64 0 ∧ Kept (fun _ => False) w wr) (fun i _ => 0)
          case atStart => exact ⟨rfl, hk4⟩
          case round =>
            obtain ⟨rfl, hk5⟩ := hrel
            go_wp2
            go_ret
            exact ⟨rfl, hk5⟩

set_option maxRecDepth 100000 in
set_option maxHeartbeats 1000000 in
theorem flatLongs_nil (w : World) : Calls Try.prog 54 #[.slice none 0 0] w fun e w' => e = .returned (.bool true) ∧ Kept (fun _ => False) w w' := by
  go_enter Try.func54, Try.ntmps54
  go_wp2
  go_loopw [3] (fun i wr => i = .int .i64 0 ∧ Kept (fun _ => False) w wr) (fun i _ => 0)
  case atStart => exact ⟨rfl, Kept.refl _ _⟩
  case round =>
    obtain ⟨rfl, hk1⟩ := hrel
    obtain ⟨w1, hr, hkm⟩ := run_make0 (P := Try.prog) wr 81 122 Try.underlying81 (z := .slice none 0 0) (size := 1) (bytes := 24) (by kernel_rfl)
    have hk1' := Lib.hid (hk1.trans0 hkm)
    clear hk1 hkm
    go_wp2
    go_loopw [6] (fun i wr => i = .int .i64 0 ∧ Kept (fun _ => False) w wr) (fun i _ => 0)
    case atStart => exact ⟨rfl, hk1'.out⟩
    case round =>
      obtain ⟨rfl, hk2⟩ := hrel
      go_wp2
      go_loopw [9] (fun i wr => i = .int .i64 0 ∧ Kept (fun _ => False) w wr) (fun i _ => 0)
      case atStart => exact ⟨rfl, hk2⟩
      case round =>
        obtain ⟨rfl, hk3⟩ := hrel
        go_wp2
        go_loopw [11] (fun i wr => i = .int .i64 0 ∧ Kept (fun _ => False) w wr) (fun i _ => 0)
        case atStart => exact ⟨rfl, hk3⟩
        case round =>
          obtain ⟨rfl, hk4⟩ := hrel
          go_wp2
          go_loopw [14] (fun i wr => i = .int .i64 0 ∧ Kept (fun _ => False) w wr) (fun i _ => 0)
          case atStart => exact ⟨rfl, hk4⟩
          case round =>
            obtain ⟨rfl, hk5⟩ := hrel
            go_wp2
            go_ret
            exact ⟨rfl, hk5⟩

set_option maxRecDepth 100000 in
set_option maxHeartbeats 1000000 in
theorem flatTexts_nil (w : World) : Calls Try.prog 55 #[.slice none 0 0] w fun e w' => e = .returned (.bool true) ∧ Kept (fun _ => False) w w' := by
  go_enter Try.func55, Try.ntmps55
  go_wp2
  go_loopw [3] (fun i wr => i = .int .i64 0 ∧ Kept (fun _ => False) w wr) (fun i _ => 0)
  case atStart => exact ⟨rfl, Kept.refl _ _⟩
  case round =>
    obtain ⟨rfl, hk1⟩ := hrel
    obtain ⟨w1, hr, hkm⟩ := run_make0 (P := Try.prog) wr 82 123 Try.underlying82 (z := .slice none 0 0) (size := 1) (bytes := 24) (by kernel_rfl)
    have hk1' := Lib.hid (hk1.trans0 hkm)
    clear hk1 hkm
    go_wp2
    go_loopw [6] (fun i wr => i = .int .i64 0 ∧ Kept (fun _ => False) w wr) (fun i _ => 0)
    case atStart => exact ⟨rfl, hk1'.out⟩
    case round =>
      obtain ⟨rfl, hk2⟩ := hrel
      go_wp2
      go_loopw [9] (fun i wr => i = .int .i64 0 ∧ Kept (fun _ => False) w wr) (fun i _ => 0)
      case atStart => exact ⟨rfl, hk2⟩
      case round =>
        obtain ⟨rfl, hk3⟩ := hrel
        go_wp2
        go_loopw [11] (fun i wr => i = .int .i64 0 ∧ Kept (fun _ => False) w wr) (fun i _ => 0)
        case atStart => exact ⟨rfl, hk3⟩
        case round =>
          obtain ⟨rfl, hk4⟩ := hrel
          go_wp2
          go_loopw [14] (fun i wr => i = .int .i64 0 ∧ Kept (fun _ => False) w wr) (fun i _ => 0)
          case atStart => exact ⟨rfl, hk4⟩
          case round =>
            obtain ⟨rfl, hk5⟩ := hrel
            go_wp2
            go_ret
            exact ⟨rfl, hk5⟩

set_option maxRecDepth 100000 in
set_option maxHeartbeats 1000000 in
theorem flatNodes_nil (w : World) : Calls Try.prog 57 #[.slice none 0 0] w fun e w' => e = .returned (.bool true) ∧ Kept (fun _ => False) w w' := by
  go_enter Try.func57, Try.ntmps57
  go_wp2
  go_loopw [3] (fun i wr => i = .int .i64 0 ∧ Kept (fun _ => False) w wr) (fun i _ => 0)
  case atStart => exact ⟨rfl, Kept.refl _ _⟩
  case round =>
    obtain ⟨rfl, hk1⟩ := hrel
    obtain ⟨w1, hr, hkm⟩ := run_make0 (P := Try.prog) wr 83 125 Try.underlying83 (z := .slice none 0 0) (size := 1) (bytes := 24) (by kernel_rfl)
    have hk1' := Lib.hid (hk1.trans0 hkm)
    clear hk1 hkm
    go_wp2
    go_loopw [6] (fun i wr => i = .int .i64 0 ∧ Kept (fun _ => False) w wr) (fun i _ => 0)
    case atStart => exact ⟨rfl, hk1'.out⟩
    case round =>
      obtain ⟨rfl, hk2⟩ := hrel
      go_wp2
      go_loopw [9] (fun i wr => i = .int .i64 0 ∧ Kept (fun _ => False) w wr) (fun i _ => 0)
      case atStart => exact ⟨rfl, hk2⟩
      case round =>
        obtain ⟨rfl, hk3⟩ := hrel
        go_wp2
        go_loopw [11] (fun i wr => i = .int .i64 0 ∧ Kept (fun _ => False) w wr) (fun i _ => 0)
        case atStart => exact ⟨rfl, hk3⟩
        case round =>
          obtain ⟨rfl, hk4⟩ := hrel
          go_wp2
          go_loopw [14] (fun i wr => i = .int .i64 0 ∧ Kept (fun _ => False) w wr) (fun i _ => 0)
          case atStart => exact ⟨rfl, hk4⟩
          case round =>
            obtain ⟨rfl, hk5⟩ := hrel
            go_wp2
            go_ret
            exact ⟨rfl, hk5⟩

set_option maxRecDepth 100000 in
set_option maxHeartbeats 1000000 in
theorem flatFates_nil (w : World) : Calls Try.prog 58 #[.slice none 0 0] w fun e w' => e = .returned (.bool true) ∧ Kept (fun _ => False) w w' := by
  go_enter Try.func58, Try.ntmps58
  go_wp2
  go_loopw [3] (fun i wr => i = .int .i64 0 ∧ Kept (fun _ => False) w wr) (fun i _ => 0)
  case atStart => exact ⟨rfl, Kept.refl _ _⟩
  case round =>
    obtain ⟨rfl, hk1⟩ := hrel
    obtain ⟨w1, hr, hkm⟩ := run_make0 (P := Try.prog) wr 84 23 Try.underlying84 (z := .slice none 0 0) (size := 1) (bytes := 24) (by kernel_rfl)
    have hk1' := Lib.hid (hk1.trans0 hkm)
    clear hk1 hkm
    go_wp2
    go_loopw [6] (fun i wr => i = .int .i64 0 ∧ Kept (fun _ => False) w wr) (fun i _ => 0)
    case atStart => exact ⟨rfl, hk1'.out⟩
    case round =>
      obtain ⟨rfl, hk2⟩ := hrel
      go_wp2
      go_loopw [9] (fun i wr => i = .int .i64 0 ∧ Kept (fun _ => False) w wr) (fun i _ => 0)
      case atStart => exact ⟨rfl, hk2⟩
      case round =>
        obtain ⟨rfl, hk3⟩ := hrel
        go_wp2
        go_loopw [11] (fun i wr => i = .int .i64 0 ∧ Kept (fun _ => False) w wr) (fun i _ => 0)
        case atStart => exact ⟨rfl, hk3⟩
        case round =>
          obtain ⟨rfl, hk4⟩ := hrel
          go_wp2
          go_loopw [14] (fun i wr => i = .int .i64 0 ∧ Kept (fun _ => False) w wr) (fun i _ => 0)
          case atStart => exact ⟨rfl, hk4⟩
          case round =>
            obtain ⟨rfl, hk5⟩ := hrel
            go_wp2
            go_ret
            exact ⟨rfl, hk5⟩

set_option maxRecDepth 100000 in
set_option maxHeartbeats 1000000 in
theorem flatSpans_nil (w : World) : Calls Try.prog 59 #[.slice none 0 0] w fun e w' => e = .returned (.bool true) ∧ Kept (fun _ => False) w w' := by
  go_enter Try.func59, Try.ntmps59
  go_wp2
  go_loopw [3] (fun i wr => i = .int .i64 0 ∧ Kept (fun _ => False) w wr) (fun i _ => 0)
  case atStart => exact ⟨rfl, Kept.refl _ _⟩
  case round =>
    obtain ⟨rfl, hk1⟩ := hrel
    obtain ⟨w1, hr, hkm⟩ := run_make0 (P := Try.prog) wr 85 130 Try.underlying85 (z := .slice none 0 0) (size := 1) (bytes := 24) (by kernel_rfl)
    have hk1' := Lib.hid (hk1.trans0 hkm)
    clear hk1 hkm
    go_wp2
    go_loopw [6] (fun i wr => i = .int .i64 0 ∧ Kept (fun _ => False) w wr) (fun i _ => 0)
    case atStart => exact ⟨rfl, hk1'.out⟩
    case round =>
      obtain ⟨rfl, hk2⟩ := hrel
      go_wp2
      go_loopw [9] (fun i wr => i = .int .i64 0 ∧ Kept (fun _ => False) w wr) (fun i _ => 0)
      case atStart => exact ⟨rfl, hk2⟩
      case round =>
        obtain ⟨rfl, hk3⟩ := hrel
        go_wp2
        go_loopw [11] (fun i wr => i = .int .i64 0 ∧ Kept (fun _ => False) w wr) (fun i _ => 0)
        case atStart => exact ⟨rfl, hk3⟩
        case round =>
          obtain ⟨rfl, hk4⟩ := hrel
          go_wp2
          go_loopw [14] (fun i wr => i = .int .i64 0 ∧ Kept (fun _ => False) w wr) (fun i _ => 0)
          case atStart => exact ⟨rfl, hk4⟩
          case round =>
            obtain ⟨rfl, hk5⟩ := hrel
            go_wp2
            go_ret
            exact ⟨rfl, hk5⟩

set_option maxRecDepth 100000 in
set_option maxHeartbeats 1000000 in
theorem flatDirties_nil (w : World) : Calls Try.prog 60 #[.slice none 0 0] w fun e w' => e = .returned (.bool true) ∧ Kept (fun _ => False) w w' := by
  go_enter Try.func60, Try.ntmps60
  go_wp2
  go_loopw [3] (fun i wr => i = .int .i64 0 ∧ Kept (fun _ => False) w wr) (fun i _ => 0)
  case atStart => exact ⟨rfl, Kept.refl _ _⟩
  case round =>
    obtain ⟨rfl, hk1⟩ := hrel
    obtain ⟨w1, hr, hkm⟩ := run_make0 (P := Try.prog) wr 86 135 Try.underlying86 (z := .slice none 0 0) (size := 1) (bytes := 24) (by kernel_rfl)
    have hk1' := Lib.hid (hk1.trans0 hkm)
    clear hk1 hkm
    go_wp2
    go_loopw [6] (fun i wr => i = .int .i64 0 ∧ Kept (fun _ => False) w wr) (fun i _ => 0)
    case atStart => exact ⟨rfl, hk1'.out⟩
    case round =>
      obtain ⟨rfl, hk2⟩ := hrel
      go_wp2
      go_loopw [9] (fun i wr => i = .int .i64 0 ∧ Kept (fun _ => False) w wr) (fun i _ => 0)
      case atStart => exact ⟨rfl, hk2⟩
      case round =>
        obtain ⟨rfl, hk3⟩ := hrel
        go_wp2
        go_loopw [11] (fun i wr => i = .int .i64 0 ∧ Kept (fun _ => False) w wr) (fun i _ => 0)
        case atStart => exact ⟨rfl, hk3⟩
        case round =>
          obtain ⟨rfl, hk4⟩ := hrel
          go_wp2
          go_loopw [14] (fun i wr => i = .int .i64 0 ∧ Kept (fun _ => False) w wr) (fun i _ => 0)
          case atStart => exact ⟨rfl, hk4⟩
          case round =>
            obtain ⟨rfl, hk5⟩ := hrel
            go_wp2
            go_ret
            exact ⟨rfl, hk5⟩

set_option maxRecDepth 100000 in
set_option maxHeartbeats 1000000 in
theorem flatRecords_nil (w : World) : Calls Try.prog 61 #[.slice none 0 0] w fun e w' => e = .returned (.bool true) ∧ Kept (fun _ => False) w w' := by
  go_enter Try.func61, Try.ntmps61
  go_wp2
  go_loopw [3] (fun i wr => i = .int .i64 0 ∧ Kept (fun _ => False) w wr) (fun i _ => 0)
  case atStart => exact ⟨rfl, Kept.refl _ _⟩
  case round =>
    obtain ⟨rfl, hk1⟩ := hrel
    obtain ⟨w1, hr, hkm⟩ := run_make0 (P := Try.prog) wr 87 139 Try.underlying87 (z := .slice none 0 0) (size := 1) (bytes := 24) (by kernel_rfl)
    have hk1' := Lib.hid (hk1.trans0 hkm)
    clear hk1 hkm
    go_wp2
    go_loopw [6] (fun i wr => i = .int .i64 0 ∧ Kept (fun _ => False) w wr) (fun i _ => 0)
    case atStart => exact ⟨rfl, hk1'.out⟩
    case round =>
      obtain ⟨rfl, hk2⟩ := hrel
      go_wp2
      go_loopw [9] (fun i wr => i = .int .i64 0 ∧ Kept (fun _ => False) w wr) (fun i _ => 0)
      case atStart => exact ⟨rfl, hk2⟩
      case round =>
        obtain ⟨rfl, hk3⟩ := hrel
        go_wp2
        go_loopw [11] (fun i wr => i = .int .i64 0 ∧ Kept (fun _ => False) w wr) (fun i _ => 0)
        case atStart => exact ⟨rfl, hk3⟩
        case round =>
          obtain ⟨rfl, hk4⟩ := hrel
          go_wp2
          go_loopw [14] (fun i wr => i = .int .i64 0 ∧ Kept (fun _ => False) w wr) (fun i _ => 0)
          case atStart => exact ⟨rfl, hk4⟩
          case round =>
            obtain ⟨rfl, hk5⟩ := hrel
            go_wp2
            go_ret
            exact ⟨rfl, hk5⟩

set_option maxRecDepth 100000 in
set_option maxHeartbeats 1000000 in
theorem flatCells_nil (w : World) : Calls Try.prog 62 #[.slice none 0 0] w fun e w' => e = .returned (.bool true) ∧ Kept (fun _ => False) w w' := by
  go_enter Try.func62, Try.ntmps62
  go_wp2
  go_loopw [3] (fun i wr => i = .int .i64 0 ∧ Kept (fun _ => False) w wr) (fun i _ => 0)
  case atStart => exact ⟨rfl, Kept.refl _ _⟩
  case round =>
    obtain ⟨rfl, hk1⟩ := hrel
    obtain ⟨w1, hr, hkm⟩ := run_make0 (P := Try.prog) wr 88 145 Try.underlying88 (z := .slice none 0 0) (size := 1) (bytes := 24) (by kernel_rfl)
    have hk1' := Lib.hid (hk1.trans0 hkm)
    clear hk1 hkm
    go_wp2
    go_loopw [6] (fun i wr => i = .int .i64 0 ∧ Kept (fun _ => False) w wr) (fun i _ => 0)
    case atStart => exact ⟨rfl, hk1'.out⟩
    case round =>
      obtain ⟨rfl, hk2⟩ := hrel
      go_wp2
      go_loopw [9] (fun i wr => i = .int .i64 0 ∧ Kept (fun _ => False) w wr) (fun i _ => 0)
      case atStart => exact ⟨rfl, hk2⟩
      case round =>
        obtain ⟨rfl, hk3⟩ := hrel
        go_wp2
        go_loopw [11] (fun i wr => i = .int .i64 0 ∧ Kept (fun _ => False) w wr) (fun i _ => 0)
        case atStart => exact ⟨rfl, hk3⟩
        case round =>
          obtain ⟨rfl, hk4⟩ := hrel
          go_wp2
          go_loopw [14] (fun i wr => i = .int .i64 0 ∧ Kept (fun _ => False) w wr) (fun i _ => 0)
          case atStart => exact ⟨rfl, hk4⟩
          case round =>
            obtain ⟨rfl, hk5⟩ := hrel
            go_wp2
            go_ret
            exact ⟨rfl, hk5⟩

set_option maxRecDepth 100000 in
set_option maxHeartbeats 1000000 in
theorem flatHelds_nil (w : World) : Calls Try.prog 63 #[.slice none 0 0] w fun e w' => e = .returned (.bool true) ∧ Kept (fun _ => False) w w' := by
  go_enter Try.func63, Try.ntmps63
  go_wp2
  go_loopw [3] (fun i wr => i = .int .i64 0 ∧ Kept (fun _ => False) w wr) (fun i _ => 0)
  case atStart => exact ⟨rfl, Kept.refl _ _⟩
  case round =>
    obtain ⟨rfl, hk1⟩ := hrel
    obtain ⟨w1, hr, hkm⟩ := run_make0 (P := Try.prog) wr 89 150 Try.underlying89 (z := .slice none 0 0) (size := 1) (bytes := 24) (by kernel_rfl)
    have hk1' := Lib.hid (hk1.trans0 hkm)
    clear hk1 hkm
    go_wp2
    go_loopw [6] (fun i wr => i = .int .i64 0 ∧ Kept (fun _ => False) w wr) (fun i _ => 0)
    case atStart => exact ⟨rfl, hk1'.out⟩
    case round =>
      obtain ⟨rfl, hk2⟩ := hrel
      go_wp2
      go_loopw [9] (fun i wr => i = .int .i64 0 ∧ Kept (fun _ => False) w wr) (fun i _ => 0)
      case atStart => exact ⟨rfl, hk2⟩
      case round =>
        obtain ⟨rfl, hk3⟩ := hrel
        go_wp2
        go_loopw [11] (fun i wr => i = .int .i64 0 ∧ Kept (fun _ => False) w wr) (fun i _ => 0)
        case atStart => exact ⟨rfl, hk3⟩
        case round =>
          obtain ⟨rfl, hk4⟩ := hrel
          go_wp2
          go_loopw [14] (fun i wr => i = .int .i64 0 ∧ Kept (fun _ => False) w wr) (fun i _ => 0)
          case atStart => exact ⟨rfl, hk4⟩
          case round =>
            obtain ⟨rfl, hk5⟩ := hrel
            go_wp2
            go_ret
            exact ⟨rfl, hk5⟩

set_option maxRecDepth 100000 in
set_option maxHeartbeats 1000000 in
theorem flatTokens_nil (w : World) : Calls Try.prog 64 #[.slice none 0 0] w fun e w' => e = .returned (.bool true) ∧ Kept (fun _ => False) w w' := by
  go_enter Try.func64, Try.ntmps64
  go_wp2
  go_loopw [3] (fun i wr => i = .int .i64 0 ∧ Kept (fun _ => False) w wr) (fun i _ => 0)
  case atStart => exact ⟨rfl, Kept.refl _ _⟩
  case round =>
    obtain ⟨rfl, hk1⟩ := hrel
    obtain ⟨w1, hr, hkm⟩ := run_make0 (P := Try.prog) wr 90 155 Try.underlying90 (z := .slice none 0 0) (size := 1) (bytes := 24) (by kernel_rfl)
    have hk1' := Lib.hid (hk1.trans0 hkm)
    clear hk1 hkm
    go_wp2
    go_loopw [6] (fun i wr => i = .int .i64 0 ∧ Kept (fun _ => False) w wr) (fun i _ => 0)
    case atStart => exact ⟨rfl, hk1'.out⟩
    case round =>
      obtain ⟨rfl, hk2⟩ := hrel
      go_wp2
      go_loopw [9] (fun i wr => i = .int .i64 0 ∧ Kept (fun _ => False) w wr) (fun i _ => 0)
      case atStart => exact ⟨rfl, hk2⟩
      case round =>
        obtain ⟨rfl, hk3⟩ := hrel
        go_wp2
        go_loopw [11] (fun i wr => i = .int .i64 0 ∧ Kept (fun _ => False) w wr) (fun i _ => 0)
        case atStart => exact ⟨rfl, hk3⟩
        case round =>
          obtain ⟨rfl, hk4⟩ := hrel
          go_wp2
          go_loopw [14] (fun i wr => i = .int .i64 0 ∧ Kept (fun _ => False) w wr) (fun i _ => 0)
          case atStart => exact ⟨rfl, hk4⟩
          case round =>
            obtain ⟨rfl, hk5⟩ := hrel
            go_wp2
            go_ret
            exact ⟨rfl, hk5⟩

set_option maxRecDepth 100000 in
set_option maxHeartbeats 1000000 in
theorem flatExprs_nil (w : World) : Calls Try.prog 65 #[.slice none 0 0] w fun e w' => e = .returned (.bool true) ∧ Kept (fun _ => False) w w' := by
  go_enter Try.func65, Try.ntmps65
  go_wp2
  go_loopw [3] (fun i wr => i = .int .i64 0 ∧ Kept (fun _ => False) w wr) (fun i _ => 0)
  case atStart => exact ⟨rfl, Kept.refl _ _⟩
  case round =>
    obtain ⟨rfl, hk1⟩ := hrel
    obtain ⟨w1, hr, hkm⟩ := run_make0 (P := Try.prog) wr 91 160 Try.underlying91 (z := .slice none 0 0) (size := 1) (bytes := 24) (by kernel_rfl)
    have hk1' := Lib.hid (hk1.trans0 hkm)
    clear hk1 hkm
    go_wp2
    go_loopw [6] (fun i wr => i = .int .i64 0 ∧ Kept (fun _ => False) w wr) (fun i _ => 0)
    case atStart => exact ⟨rfl, hk1'.out⟩
    case round =>
      obtain ⟨rfl, hk2⟩ := hrel
      go_wp2
      go_loopw [9] (fun i wr => i = .int .i64 0 ∧ Kept (fun _ => False) w wr) (fun i _ => 0)
      case atStart => exact ⟨rfl, hk2⟩
      case round =>
        obtain ⟨rfl, hk3⟩ := hrel
        go_wp2
        go_loopw [11] (fun i wr => i = .int .i64 0 ∧ Kept (fun _ => False) w wr) (fun i _ => 0)
        case atStart => exact ⟨rfl, hk3⟩
        case round =>
          obtain ⟨rfl, hk4⟩ := hrel
          go_wp2
          go_loopw [14] (fun i wr => i = .int .i64 0 ∧ Kept (fun _ => False) w wr) (fun i _ => 0)
          case atStart => exact ⟨rfl, hk4⟩
          case round =>
            obtain ⟨rfl, hk5⟩ := hrel
            go_wp2
            go_ret
            exact ⟨rfl, hk5⟩

set_option maxRecDepth 100000 in
set_option maxHeartbeats 1000000 in
theorem flatItems_nil (w : World) : Calls Try.prog 66 #[.slice none 0 0] w fun e w' => e = .returned (.bool true) ∧ Kept (fun _ => False) w w' := by
  go_enter Try.func66, Try.ntmps66
  go_wp2
  go_loopw [3] (fun i wr => i = .int .i64 0 ∧ Kept (fun _ => False) w wr) (fun i _ => 0)
  case atStart => exact ⟨rfl, Kept.refl _ _⟩
  case round =>
    obtain ⟨rfl, hk1⟩ := hrel
    obtain ⟨w1, hr, hkm⟩ := run_make0 (P := Try.prog) wr 92 168 Try.underlying92 (z := .slice none 0 0) (size := 1) (bytes := 24) (by kernel_rfl)
    have hk1' := Lib.hid (hk1.trans0 hkm)
    clear hk1 hkm
    go_wp2
    go_loopw [6] (fun i wr => i = .int .i64 0 ∧ Kept (fun _ => False) w wr) (fun i _ => 0)
    case atStart => exact ⟨rfl, hk1'.out⟩
    case round =>
      obtain ⟨rfl, hk2⟩ := hrel
      go_wp2
      go_loopw [9] (fun i wr => i = .int .i64 0 ∧ Kept (fun _ => False) w wr) (fun i _ => 0)
      case atStart => exact ⟨rfl, hk2⟩
      case round =>
        obtain ⟨rfl, hk3⟩ := hrel
        go_wp2
        go_loopw [11] (fun i wr => i = .int .i64 0 ∧ Kept (fun _ => False) w wr) (fun i _ => 0)
        case atStart => exact ⟨rfl, hk3⟩
        case round =>
          obtain ⟨rfl, hk4⟩ := hrel
          go_wp2
          go_loopw [14] (fun i wr => i = .int .i64 0 ∧ Kept (fun _ => False) w wr) (fun i _ => 0)
          case atStart => exact ⟨rfl, hk4⟩
          case round =>
            obtain ⟨rfl, hk5⟩ := hrel
            go_wp2
            go_ret
            exact ⟨rfl, hk5⟩

set_option maxRecDepth 100000 in
set_option maxHeartbeats 1000000 in
theorem flatShowns_nil (w : World) : Calls Try.prog 67 #[.slice none 0 0] w fun e w' => e = .returned (.bool true) ∧ Kept (fun _ => False) w w' := by
  go_enter Try.func67, Try.ntmps67
  go_wp2
  go_loopw [3] (fun i wr => i = .int .i64 0 ∧ Kept (fun _ => False) w wr) (fun i _ => 0)
  case atStart => exact ⟨rfl, Kept.refl _ _⟩
  case round =>
    obtain ⟨rfl, hk1⟩ := hrel
    obtain ⟨w1, hr, hkm⟩ := run_make0 (P := Try.prog) wr 93 173 Try.underlying93 (z := .slice none 0 0) (size := 1) (bytes := 24) (by kernel_rfl)
    have hk1' := Lib.hid (hk1.trans0 hkm)
    clear hk1 hkm
    go_wp2
    go_loopw [6] (fun i wr => i = .int .i64 0 ∧ Kept (fun _ => False) w wr) (fun i _ => 0)
    case atStart => exact ⟨rfl, hk1'.out⟩
    case round =>
      obtain ⟨rfl, hk2⟩ := hrel
      go_wp2
      go_loopw [9] (fun i wr => i = .int .i64 0 ∧ Kept (fun _ => False) w wr) (fun i _ => 0)
      case atStart => exact ⟨rfl, hk2⟩
      case round =>
        obtain ⟨rfl, hk3⟩ := hrel
        go_wp2
        go_loopw [11] (fun i wr => i = .int .i64 0 ∧ Kept (fun _ => False) w wr) (fun i _ => 0)
        case atStart => exact ⟨rfl, hk3⟩
        case round =>
          obtain ⟨rfl, hk4⟩ := hrel
          go_wp2
          go_loopw [14] (fun i wr => i = .int .i64 0 ∧ Kept (fun _ => False) w wr) (fun i _ => 0)
          case atStart => exact ⟨rfl, hk4⟩
          case round =>
            obtain ⟨rfl, hk5⟩ := hrel
            go_wp2
            go_ret
            exact ⟨rfl, hk5⟩

set_option maxRecDepth 100000 in
set_option maxHeartbeats 1000000 in
theorem flatParts_nil (w : World) : Calls Try.prog 68 #[.slice none 0 0] w fun e w' => e = .returned (.bool true) ∧ Kept (fun _ => False) w w' := by
  go_enter Try.func68, Try.ntmps68
  go_wp2
  go_loopw [3] (fun i wr => i = .int .i64 0 ∧ Kept (fun _ => False) w wr) (fun i _ => 0)
  case atStart => exact ⟨rfl, Kept.refl _ _⟩
  case round =>
    obtain ⟨rfl, hk1⟩ := hrel
    obtain ⟨w1, hr, hkm⟩ := run_make0 (P := Try.prog) wr 94 177 Try.underlying94 (z := .slice none 0 0) (size := 1) (bytes := 24) (by kernel_rfl)
    have hk1' := Lib.hid (hk1.trans0 hkm)
    clear hk1 hkm
    go_wp2
    go_loopw [6] (fun i wr => i = .int .i64 0 ∧ Kept (fun _ => False) w wr) (fun i _ => 0)
    case atStart => exact ⟨rfl, hk1'.out⟩
    case round =>
      obtain ⟨rfl, hk2⟩ := hrel
      go_wp2
      go_loopw [9] (fun i wr => i = .int .i64 0 ∧ Kept (fun _ => False) w wr) (fun i _ => 0)
      case atStart => exact ⟨rfl, hk2⟩
      case round =>
        obtain ⟨rfl, hk3⟩ := hrel
        go_wp2
        go_loopw [11] (fun i wr => i = .int .i64 0 ∧ Kept (fun _ => False) w wr) (fun i _ => 0)
        case atStart => exact ⟨rfl, hk3⟩
        case round =>
          obtain ⟨rfl, hk4⟩ := hrel
          go_wp2
          go_loopw [14] (fun i wr => i = .int .i64 0 ∧ Kept (fun _ => False) w wr) (fun i _ => 0)
          case atStart => exact ⟨rfl, hk4⟩
          case round =>
            obtain ⟨rfl, hk5⟩ := hrel
            go_wp2
            go_ret
            exact ⟨rfl, hk5⟩

set_option maxRecDepth 100000 in
set_option maxHeartbeats 1000000 in
theorem flatCommands_nil (w : World) : Calls Try.prog 69 #[.slice none 0 0] w fun e w' => e = .returned (.bool true) ∧ Kept (fun _ => False) w w' := by
  go_enter Try.func69, Try.ntmps69
  go_wp2
  go_loopw [3] (fun i wr => i = .int .i64 0 ∧ Kept (fun _ => False) w wr) (fun i _ => 0)
  case atStart => exact ⟨rfl, Kept.refl _ _⟩
  case round =>
    obtain ⟨rfl, hk1⟩ := hrel
    obtain ⟨w1, hr, hkm⟩ := run_make0 (P := Try.prog) wr 95 183 Try.underlying95 (z := .slice none 0 0) (size := 1) (bytes := 24) (by kernel_rfl)
    have hk1' := Lib.hid (hk1.trans0 hkm)
    clear hk1 hkm
    go_wp2
    go_loopw [6] (fun i wr => i = .int .i64 0 ∧ Kept (fun _ => False) w wr) (fun i _ => 0)
    case atStart => exact ⟨rfl, hk1'.out⟩
    case round =>
      obtain ⟨rfl, hk2⟩ := hrel
      go_wp2
      go_loopw [9] (fun i wr => i = .int .i64 0 ∧ Kept (fun _ => False) w wr) (fun i _ => 0)
      case atStart => exact ⟨rfl, hk2⟩
      case round =>
        obtain ⟨rfl, hk3⟩ := hrel
        go_wp2
        go_loopw [11] (fun i wr => i = .int .i64 0 ∧ Kept (fun _ => False) w wr) (fun i _ => 0)
        case atStart => exact ⟨rfl, hk3⟩
        case round =>
          obtain ⟨rfl, hk4⟩ := hrel
          go_wp2
          go_loopw [14] (fun i wr => i = .int .i64 0 ∧ Kept (fun _ => False) w wr) (fun i _ => 0)
          case atStart => exact ⟨rfl, hk4⟩
          case round =>
            obtain ⟨rfl, hk5⟩ := hrel
            go_wp2
            go_ret
            exact ⟨rfl, hk5⟩

end Go.Proofs.Ytjhbkamgmldkmaa