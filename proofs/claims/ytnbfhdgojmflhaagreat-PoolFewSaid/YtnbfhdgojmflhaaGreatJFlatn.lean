/-
  No statement is proved here: a part of what the claim's last text rests on.
-/
import Derived.Test.YtnbfhdgojmflhaaGreatJApp
namespace Go.Proofs.YtnbfhdgojmflhaaGreat
open Go.RowKit
theorem run_make0 {P : Program} (w : World) (t e : TypeId) {z : Value} {size bytes : Nat} (ht : P.underlying t = some (.slice e)) (hinf : (P.info? e).map (fun i => (i.zero, i.size, i.bytes)) = some (some z, size, bytes)) :
    ∃ w1, (Instr.makeSlice t (.int .i64 0) (.int .i64 0)).run P w = .ok (.slice (some ⟨w.heap.size, 0, none⟩) 0 0) w1 ∧ Kept (fun _ => False) w w1 := by
  obtain ⟨i, hi, h2, h3, h4⟩ := info_parts hinf
  have hr := run_make (P := P) w t e i z ht hi h2 .i64 .i64 (0 : Int) (0 : Int) (by omega) (by omega) (by omega) (by omega)
  exact ⟨_, hr, (Kept.refl _ w).alloc _⟩
set_option maxRecDepth 100000 in
set_option maxHeartbeats 1000000 in
theorem flatBytes_nil (w : World) : Calls Tryz.prog 105 #[.slice none 0 0] w fun e w' => e = .returned (.bool true) ∧ Kept (fun _ => False) w w' := by
  go_enter Tryz.func105, Tryz.ntmps105
  go_wp2
  go_loopw [3] (fun i wr => i = .int .i64 0 ∧ Kept (fun _ => False) w wr) (fun i _ => 0)
  case atStart => exact ⟨rfl, Kept.refl _ _⟩
  case round =>
    obtain ⟨rfl, hk1⟩ := hrel
    obtain ⟨w1, hr, hkm⟩ := run_make0 (P := Tryz.prog) wr 45 26 Tryz.underlying45 (z := .slice none 0 0) (size := 1) (bytes := 24) (by kernel_rfl)
    have hk1' := Lib.hid (hk1.trans0 hkm)
    clear hk1 hkm
    go_wp2
    go_loopw [6] (fun i wr => i = .int .i64 0 ∧ Kept (fun _ => False) w wr) (fun i _ => 0)
    case atStart => exact ⟨rfl, hk1'.out⟩
    case round =>
      obtain ⟨rfl, hk2⟩ := hrel
      go_wp2
      go_loopw [9] (fun i wr => i = .int .i64 0 ∧ Kept (fun _ => False) w wr) (fun i _ => 0)
      case atStart => exact ⟨rfl, hk2⟩
      case round =>
        obtain ⟨rfl, hk3⟩ := hrel
        go_wp2
        go_loopw [11] (fun i wr => i = .int .i64 0 ∧ Kept (fun _ => False) w wr) (fun i _ => 0)
        case atStart => exact ⟨rfl, hk3⟩
        case round =>
          obtain ⟨rfl, hk4⟩ := hrel
          go_wp2
          go_loopw [14] (fun i wr => i = .int .i64 0 ∧ Kept (fun _ => False) w wr) (fun i _ => 0)
          case atStart => exact ⟨rfl, hk4⟩
          case round =>
            obtain ⟨rfl, hk5⟩ := hrel
            go_wp2
            go_ret
            exact ⟨rfl, hk5⟩
set_option maxRecDepth 100000 in
set_option maxHeartbeats 1000000 in
theorem flatWords_nil (w : World) : Calls Tryz.prog 101 #[.slice none 0 0] w fun e w' => e = .returned (.bool true) ∧ Kept (fun _ => False) w w' := by
  go_enter Tryz.func101, Tryz.ntmps101
  go_wp2
  go_loopw [3] (fun i wr => i = .int .i64 0 ∧ Kept (fun _ => False) w wr) (fun i _ => 0)
  case atStart => exact ⟨rfl, Kept.refl _ _⟩
  case round =>
    obtain ⟨rfl, hk1⟩ := hrel
    obtain ⟨w1, hr, hkm⟩ := run_make0 (P := Tryz.prog) wr 121 229 Tryz.underlying121 (z := .slice none 0 0) (size := 1) (bytes := 24) (by kernel_rfl)
    have hk1' := Lib.hid (hk1.trans0 hkm)
    clear hk1 hkm
    go_wp2
    go_loopw [6] (fun i wr => i = .int .i64 0 ∧ Kept (fun _ => False) w wr) (fun i _ => 0)
    case atStart => exact ⟨rfl, hk1'.out⟩
    case round =>
      obtain ⟨rfl, hk2⟩ := hrel
      go_wp2
      go_loopw [9] (fun i wr => i = .int .i64 0 ∧ Kept (fun _ => False) w wr) (fun i _ => 0)
      case atStart => exact ⟨rfl, hk2⟩
      case round =>
        obtain ⟨rfl, hk3⟩ := hrel
        go_wp2
        go_loopw [11] (fun i wr => i = .int .i64 0 ∧ Kept (fun _ => False) w wr) (fun i _ => 0)
        case atStart => exact ⟨rfl, hk3⟩
        case round =>
          obtain ⟨rfl, hk4⟩ := hrel
          go_wp2
          go_loopw [14] (fun i wr => i = .int .i64 0 ∧ Kept (fun _ => False) w wr) (fun i _ => 0)
          case atStart => exact ⟨rfl, hk4⟩
          case round =>
            obtain ⟨rfl, hk5⟩ := hrel
            go_wp2
            go_ret
            exact ⟨rfl, hk5⟩
set_option maxRecDepth 100000 in
set_option maxHeartbeats 1000000 in
theorem flatInts_nil (w : World) : Calls Tryz.prog 102 #[.slice none 0 0] w fun e w' => e = .returned (.bool true) ∧ Kept (fun _ => False) w w' := by
  go_enter Tryz.func102, Tryz.ntmps102
  go_wp2
  go_loopw [3] (fun i wr => i = .int .i64 0 ∧ Kept (fun _ => False) w wr) (fun i _ => 0)
  case atStart => exact ⟨rfl, Kept.refl _ _⟩
  case round =>
    obtain ⟨rfl, hk1⟩ := hrel
    obtain ⟨w1, hr, hkm⟩ := run_make0 (P := Tryz.prog) wr 122 94 Tryz.underlying122 (z := .slice none 0 0) (size := 1) (bytes := 24) (by kernel_rfl)
    have hk1' := Lib.hid (hk1.trans0 hkm)
    clear hk1 hkm
    go_wp2
    go_loopw [6] (fun i wr => i = .int .i64 0 ∧ Kept (fun _ => False) w wr) (fun i _ => 0)
    case atStart => exact ⟨rfl, hk1'.out⟩
    case round =>
      obtain ⟨rfl, hk2⟩ := hrel
      go_wp2
      go_loopw [9] (fun i wr => i = .int .i64 0 ∧ Kept (fun _ => False) w wr) (fun i _ => 0)
      case atStart => exact ⟨rfl, hk2⟩
      case round =>
        obtain ⟨rfl, hk3⟩ := hrel
        go_wp2
        go_loopw [11] (fun i wr => i = .int .i64 0 ∧ Kept (fun _ => False) w wr) (fun i _ => 0)
        case atStart => exact ⟨rfl, hk3⟩
        case round =>
          obtain ⟨rfl, hk4⟩ := hrel
          go_wp2
          go_loopw [14] (fun i wr => i = .int .i64 0 ∧ Kept (fun _ => False) w wr) (fun i _ => 0)
          case atStart => exact ⟨rfl, hk4⟩
          case round =>
            obtain ⟨rfl, hk5⟩ := hrel
            go_wp2
            go_ret
            exact ⟨rfl, hk5⟩
set_option maxRecDepth 100000 in
set_option maxHeartbeats 1000000 in
theorem flatLongs_nil (w : World) : Calls Tryz.prog 103 #[.slice none 0 0] w fun e w' => e = .returned (.bool true) ∧ Kept (fun _ => False) w w' := by
  go_enter Tryz.func103, Tryz.ntmps103
  go_wp2
  go_loopw [3] (fun i wr => i = .int .i64 0 ∧ Kept (fun _ => False) w wr) (fun i _ => 0)
  case atStart => exact ⟨rfl, Kept.refl _ _⟩
  case round =>
    obtain ⟨rfl, hk1⟩ := hrel
    obtain ⟨w1, hr, hkm⟩ := run_make0 (P := Tryz.prog) wr 123 63 Tryz.underlying123 (z := .slice none 0 0) (size := 1) (bytes := 24) (by kernel_rfl)
    have hk1' := Lib.hid (hk1.trans0 hkm)
    clear hk1 hkm
    go_wp2
    go_loopw [6] (fun i wr => i = .int .i64 0 ∧ Kept (fun _ => False) w wr) (fun i _ => 0)
    case atStart => exact ⟨rfl, hk1'.out⟩
    case round =>
      obtain ⟨rfl, hk2⟩ := hrel
      go_wp2
      go_loopw [9] (fun i wr => i = .int .i64 0 ∧ Kept (fun _ => False) w wr) (fun i _ => 0)
      case atStart => exact ⟨rfl, hk2⟩
      case round =>
        obtain ⟨rfl, hk3⟩ := hrel
        go_wp2
        go_loopw [11] (fun i wr => i = .int .i64 0 ∧ Kept (fun _ => False) w wr) (fun i _ => 0)
        case atStart => exact ⟨rfl, hk3⟩
        case round =>
          obtain ⟨rfl, hk4⟩ := hrel
          go_wp2
          go_loopw [14] (fun i wr => i = .int .i64 0 ∧ Kept (fun _ => False) w wr) (fun i _ => 0)
          case atStart => exact ⟨rfl, hk4⟩
          case round =>
            obtain ⟨rfl, hk5⟩ := hrel
            go_wp2
            go_ret
            exact ⟨rfl, hk5⟩
set_option maxRecDepth 100000 in
set_option maxHeartbeats 1000000 in
theorem flatTexts_nil (w : World) : Calls Tryz.prog 104 #[.slice none 0 0] w fun e w' => e = .returned (.bool true) ∧ Kept (fun _ => False) w w' := by
  go_enter Tryz.func104, Tryz.ntmps104
  go_wp2
  go_loopw [3] (fun i wr => i = .int .i64 0 ∧ Kept (fun _ => False) w wr) (fun i _ => 0)
  case atStart => exact ⟨rfl, Kept.refl _ _⟩
  case round =>
    obtain ⟨rfl, hk1⟩ := hrel
    obtain ⟨w1, hr, hkm⟩ := run_make0 (P := Tryz.prog) wr 124 231 Tryz.underlying124 (z := .slice none 0 0) (size := 1) (bytes := 24) (by kernel_rfl)
    have hk1' := Lib.hid (hk1.trans0 hkm)
    clear hk1 hkm
    go_wp2
    go_loopw [6] (fun i wr => i = .int .i64 0 ∧ Kept (fun _ => False) w wr) (fun i _ => 0)
    case atStart => exact ⟨rfl, hk1'.out⟩
    case round =>
      obtain ⟨rfl, hk2⟩ := hrel
      go_wp2
      go_loopw [9] (fun i wr => i = .int .i64 0 ∧ Kept (fun _ => False) w wr) (fun i _ => 0)
      case atStart => exact ⟨rfl, hk2⟩
      case round =>
        obtain ⟨rfl, hk3⟩ := hrel
        go_wp2
        go_loopw [11] (fun i wr => i = .int .i64 0 ∧ Kept (fun _ => False) w wr) (fun i _ => 0)
        case atStart => exact ⟨rfl, hk3⟩
        case round =>
          obtain ⟨rfl, hk4⟩ := hrel
          go_wp2
          go_loopw [14] (fun i wr => i = .int .i64 0 ∧ Kept (fun _ => False) w wr) (fun i _ => 0)
          case atStart => exact ⟨rfl, hk4⟩
          case round =>
            obtain ⟨rfl, hk5⟩ := hrel
            go_wp2
            go_ret
            exact ⟨rfl, hk5⟩
set_option maxRecDepth 100000 in
set_option maxHeartbeats 1000000 in
theorem flatNodes_nil (w : World) : Calls Tryz.prog 106 #[.slice none 0 0] w fun e w' => e = .returned (.bool true) ∧ Kept (fun _ => False) w w' := by
  go_enter Tryz.func106, Tryz.ntmps106
  go_wp2
  go_loopw [3] (fun i wr => i = .int .i64 0 ∧ Kept (fun _ => False) w wr) (fun i _ => 0)
  case atStart => exact ⟨rfl, Kept.refl _ _⟩
  case round =>
    obtain ⟨rfl, hk1⟩ := hrel
    obtain ⟨w1, hr, hkm⟩ := run_make0 (P := Tryz.prog) wr 125 234 Tryz.underlying125 (z := .slice none 0 0) (size := 1) (bytes := 24) (by kernel_rfl)
    have hk1' := Lib.hid (hk1.trans0 hkm)
    clear hk1 hkm
    go_wp2
    go_loopw [6] (fun i wr => i = .int .i64 0 ∧ Kept (fun _ => False) w wr) (fun i _ => 0)
    case atStart => exact ⟨rfl, hk1'.out⟩
    case round =>
      obtain ⟨rfl, hk2⟩ := hrel
      go_wp2
      go_loopw [9] (fun i wr => i = .int .i64 0 ∧ Kept (fun _ => False) w wr) (fun i _ => 0)
      case atStart => exact ⟨rfl, hk2⟩
      case round =>
        obtain ⟨rfl, hk3⟩ := hrel
        go_wp2
        go_loopw [11] (fun i wr => i = .int .i64 0 ∧ Kept (fun _ => False) w wr) (fun i _ => 0)
        case atStart => exact ⟨rfl, hk3⟩
        case round =>
          obtain ⟨rfl, hk4⟩ := hrel
          go_wp2
          go_loopw [14] (fun i wr => i = .int .i64 0 ∧ Kept (fun _ => False) w wr) (fun i _ => 0)
          case atStart => exact ⟨rfl, hk4⟩
          case round =>
            obtain ⟨rfl, hk5⟩ := hrel
            go_wp2
            go_ret
            exact ⟨rfl, hk5⟩
set_option maxRecDepth 100000 in
set_option maxHeartbeats 1000000 in
theorem flatFates_nil (w : World) : Calls Tryz.prog 107 #[.slice none 0 0] w fun e w' => e = .returned (.bool true) ∧ Kept (fun _ => False) w w' := by
  go_enter Tryz.func107, Tryz.ntmps107
  go_wp2
  go_loopw [3] (fun i wr => i = .int .i64 0 ∧ Kept (fun _ => False) w wr) (fun i _ => 0)
  case atStart => exact ⟨rfl, Kept.refl _ _⟩
  case round =>
    obtain ⟨rfl, hk1⟩ := hrel
    obtain ⟨w1, hr, hkm⟩ := run_make0 (P := Tryz.prog) wr 126 78 Tryz.underlying126 (z := .slice none 0 0) (size := 1) (bytes := 24) (by kernel_rfl)
    have hk1' := Lib.hid (hk1.trans0 hkm)
    clear hk1 hkm
    go_wp2
    go_loopw [6] (fun i wr => i = .int .i64 0 ∧ Kept (fun _ => False) w wr) (fun i _ => 0)
    case atStart => exact ⟨rfl, hk1'.out⟩
    case round =>
      obtain ⟨rfl, hk2⟩ := hrel
      go_wp2
      go_loopw [9] (fun i wr => i = .int .i64 0 ∧ Kept (fun _ => False) w wr) (fun i _ => 0)
      case atStart => exact ⟨rfl, hk2⟩
      case round =>
        obtain ⟨rfl, hk3⟩ := hrel
        go_wp2
        go_loopw [11] (fun i wr => i = .int .i64 0 ∧ Kept (fun _ => False) w wr) (fun i _ => 0)
        case atStart => exact ⟨rfl, hk3⟩
        case round =>
          obtain ⟨rfl, hk4⟩ := hrel
          go_wp2
          go_loopw [14] (fun i wr => i = .int .i64 0 ∧ Kept (fun _ => False) w wr) (fun i _ => 0)
          case atStart => exact ⟨rfl, hk4⟩
          case round =>
            obtain ⟨rfl, hk5⟩ := hrel
            go_wp2
            go_ret
            exact ⟨rfl, hk5⟩
set_option maxRecDepth 100000 in
set_option maxHeartbeats 1000000 in
theorem flatSpans_nil (w : World) : Calls Tryz.prog 108 #[.slice none 0 0] w fun e w' => e = .returned (.bool true) ∧ Kept (fun _ => False) w w' := by
  go_enter Tryz.func108, Tryz.ntmps108
  go_wp2
  go_loopw [3] (fun i wr => i = .int .i64 0 ∧ Kept (fun _ => False) w wr) (fun i _ => 0)
  case atStart => exact ⟨rfl, Kept.refl _ _⟩
  case round =>
    obtain ⟨rfl, hk1⟩ := hrel
    obtain ⟨w1, hr, hkm⟩ := run_make0 (P := Tryz.prog) wr 127 143 Tryz.underlying127 (z := .slice none 0 0) (size := 1) (bytes := 24) (by kernel_rfl)
    have hk1' := Lib.hid (hk1.trans0 hkm)
    clear hk1 hkm
    go_wp2
    go_loopw [6] (fun i wr => i = .int .i64 0 ∧ Kept (fun _ => False) w wr) (fun i _ => 0)
    case atStart => exact ⟨rfl, hk1'.out⟩
    case round =>
      obtain ⟨rfl, hk2⟩ := hrel
      go_wp2
      go_loopw [9] (fun i wr => i = .int .i64 0 ∧ Kept (fun _ => False) w wr) (fun i _ => 0)
      case atStart => exact ⟨rfl, hk2⟩
      case round =>
        obtain ⟨rfl, hk3⟩ := hrel
        go_wp2
        go_loopw [11] (fun i wr => i = .int .i64 0 ∧ Kept (fun _ => False) w wr) (fun i _ => 0)
        case atStart => exact ⟨rfl, hk3⟩
        case round =>
          obtain ⟨rfl, hk4⟩ := hrel
          go_wp2
          go_loopw [14] (fun i wr => i = .int .i64 0 ∧ Kept (fun _ => False) w wr) (fun i _ => 0)
          case atStart => exact ⟨rfl, hk4⟩
          case round =>
            obtain ⟨rfl, hk5⟩ := hrel
            go_wp2
            go_ret
            exact ⟨rfl, hk5⟩
set_option maxRecDepth 100000 in
set_option maxHeartbeats 1000000 in
theorem flatDirties_nil (w : World) : Calls Tryz.prog 109 #[.slice none 0 0] w fun e w' => e = .returned (.bool true) ∧ Kept (fun _ => False) w w' := by
  go_enter Tryz.func109, Tryz.ntmps109
  go_wp2
  go_loopw [3] (fun i wr => i = .int .i64 0 ∧ Kept (fun _ => False) w wr) (fun i _ => 0)
  case atStart => exact ⟨rfl, Kept.refl _ _⟩
  case round =>
    obtain ⟨rfl, hk1⟩ := hrel
    obtain ⟨w1, hr, hkm⟩ := run_make0 (P := Tryz.prog) wr 128 97 Tryz.underlying128 (z := .slice none 0 0) (size := 1) (bytes := 24) (by kernel_rfl)
    have hk1' := Lib.hid (hk1.trans0 hkm)
    clear hk1 hkm
    go_wp2
    go_loopw [6] (fun i wr => i = .int .i64 0 ∧ Kept (fun _ => False) w wr) (fun i _ => 0)
    case atStart => exact ⟨rfl, hk1'.out⟩
    case round =>
      obtain ⟨rfl, hk2⟩ := hrel
      go_wp2
      go_loopw [9] (fun i wr => i = .int .i64 0 ∧ Kept (fun _ => False) w wr) (fun i _ => 0)
      case atStart => exact ⟨rfl, hk2⟩
      case round =>
        obtain ⟨rfl, hk3⟩ := hrel
        go_wp2
        go_loopw [11] (fun i wr => i = .int .i64 0 ∧ Kept (fun _ => False) w wr) (fun i _ => 0)
        case atStart => exact ⟨rfl, hk3⟩
        case round =>
          obtain ⟨rfl, hk4⟩ := hrel
          go_wp2
          go_loopw [14] (fun i wr => i = .int .i64 0 ∧ Kept (fun _ => False) w wr) (fun i _ => 0)
          case atStart => exact ⟨rfl, hk4⟩
          case round =>
            obtain ⟨rfl, hk5⟩ := hrel
            go_wp2
            go_ret
            exact ⟨rfl, hk5⟩
set_option maxRecDepth 100000 in
set_option maxHeartbeats 1000000 in
theorem flatRecords_nil (w : World) : Calls Tryz.prog 110 #[.slice none 0 0] w fun e w' => e = .returned (.bool true) ∧ Kept (fun _ => False) w w' := by
  go_enter Tryz.func110, Tryz.ntmps110
  go_wp2
  go_loopw [3] (fun i wr => i = .int .i64 0 ∧ Kept (fun _ => False) w wr) (fun i _ => 0)
  case atStart => exact ⟨rfl, Kept.refl _ _⟩
  case round =>
    obtain ⟨rfl, hk1⟩ := hrel
    obtain ⟨w1, hr, hkm⟩ := run_make0 (P := Tryz.prog) wr 129 161 Tryz.underlying129 (z := .slice none 0 0) (size := 1) (bytes := 24) (by kernel_rfl)
    have hk1' := Lib.hid (hk1.trans0 hkm)
    clear hk1 hkm
    go_wp2
    go_loopw [6] (fun i wr => i = .int .i64 0 ∧ Kept (fun _ => False) w wr) (fun i _ => 0)
    case atStart => exact ⟨rfl, hk1'.out⟩
    case round =>
      obtain ⟨rfl, hk2⟩ := hrel
      go_wp2
      go_loopw [9] (fun i wr => i = .int .i64 0 ∧ Kept (fun _ => False) w wr) (fun i _ => 0)
      case atStart => exact ⟨rfl, hk2⟩
      case round =>
        obtain ⟨rfl, hk3⟩ := hrel
        go_wp2
        go_loopw [11] (fun i wr => i = .int .i64 0 ∧ Kept (fun _ => False) w wr) (fun i _ => 0)
        case atStart => exact ⟨rfl, hk3⟩
        case round =>
          obtain ⟨rfl, hk4⟩ := hrel
          go_wp2
          go_loopw [14] (fun i wr => i = .int .i64 0 ∧ Kept (fun _ => False) w wr) (fun i _ => 0)
          case atStart => exact ⟨rfl, hk4⟩
          case round =>
            obtain ⟨rfl, hk5⟩ := hrel
            go_wp2
            go_ret
            exact ⟨rfl, hk5⟩
set_option maxRecDepth 100000 in
set_option maxHeartbeats 1000000 in
theorem flatCells_nil (w : World) : Calls Tryz.prog 111 #[.slice none 0 0] w fun e w' => e = .returned (.bool true) ∧ Kept (fun _ => False) w w' := by
  go_enter Tryz.func111, Tryz.ntmps111
  go_wp2
  go_loopw [3] (fun i wr => i = .int .i64 0 ∧ Kept (fun _ => False) w wr) (fun i _ => 0)
  case atStart => exact ⟨rfl, Kept.refl _ _⟩
  case round =>
    obtain ⟨rfl, hk1⟩ := hrel
    obtain ⟨w1, hr, hkm⟩ := run_make0 (P := Tryz.prog) wr 130 245 Tryz.underlying130 (z := .slice none 0 0) (size := 1) (bytes := 24) (by kernel_rfl)
    have hk1' := Lib.hid (hk1.trans0 hkm)
    clear hk1 hkm
    go_wp2
    go_loopw [6] (fun i wr => i = .int .i64 0 ∧ Kept (fun _ => False) w wr) (fun i _ => 0)
    case atStart => exact ⟨rfl, hk1'.out⟩
    case round =>
      obtain ⟨rfl, hk2⟩ := hrel
      go_wp2
      go_loopw [9] (fun i wr => i = .int .i64 0 ∧ Kept (fun _ => False) w wr) (fun i _ => 0)
      case atStart => exact ⟨rfl, hk2⟩
      case round =>
        obtain ⟨rfl, hk3⟩ := hrel
        go_wp2
        go_loopw [11] (fun i wr => i = .int .i64 0 ∧ Kept (fun _ => False) w wr) (fun i _ => 0)
        case atStart => exact ⟨rfl, hk3⟩
        case round =>
          obtain ⟨rfl, hk4⟩ := hrel
          go_wp2
          go_loopw [14] (fun i wr => i = .int .i64 0 ∧ Kept (fun _ => False) w wr) (fun i _ => 0)
          case atStart => exact ⟨rfl, hk4⟩
          case round =>
            obtain ⟨rfl, hk5⟩ := hrel
            go_wp2
            go_ret
            exact ⟨rfl, hk5⟩
set_option maxRecDepth 100000 in
set_option maxHeartbeats 1000000 in
theorem flatHelds_nil (w : World) : Calls Tryz.prog 112 #[.slice none 0 0] w fun e w' => e = .returned (.bool true) ∧ Kept (fun _ => False) w w' := by
  go_enter Tryz.func112, Tryz.ntmps112
  go_wp2
  go_loopw [3] (fun i wr => i = .int .i64 0 ∧ Kept (fun _ => False) w wr) (fun i _ => 0)
  case atStart => exact ⟨rfl, Kept.refl _ _⟩
  case round =>
    obtain ⟨rfl, hk1⟩ := hrel
    obtain ⟨w1, hr, hkm⟩ := run_make0 (P := Tryz.prog) wr 131 250 Tryz.underlying131 (z := .slice none 0 0) (size := 1) (bytes := 24) (by kernel_rfl)
    have hk1' := Lib.hid (hk1.trans0 hkm)
    clear hk1 hkm
    go_wp2
    go_loopw [6] (fun i wr => i = .int .i64 0 ∧ Kept (fun _ => False) w wr) (fun i _ => 0)
    case atStart => exact ⟨rfl, hk1'.out⟩
    case round =>
      obtain ⟨rfl, hk2⟩ := hrel
      go_wp2
      go_loopw [9] (fun i wr => i = .int .i64 0 ∧ Kept (fun _ => False) w wr) (fun i _ => 0)
      case atStart => exact ⟨rfl, hk2⟩
      case round =>
        obtain ⟨rfl, hk3⟩ := hrel
        go_wp2
        go_loopw [11] (fun i wr => i = .int .i64 0 ∧ Kept (fun _ => False) w wr) (fun i _ => 0)
        case atStart => exact ⟨rfl, hk3⟩
        case round =>
          obtain ⟨rfl, hk4⟩ := hrel
          go_wp2
          go_loopw [14] (fun i wr => i = .int .i64 0 ∧ Kept (fun _ => False) w wr) (fun i _ => 0)
          case atStart => exact ⟨rfl, hk4⟩
          case round =>
            obtain ⟨rfl, hk5⟩ := hrel
            go_wp2
            go_ret
            exact ⟨rfl, hk5⟩
set_option maxRecDepth 100000 in
set_option maxHeartbeats 1000000 in
theorem flatTokens_nil (w : World) : Calls Tryz.prog 113 #[.slice none 0 0] w fun e w' => e = .returned (.bool true) ∧ Kept (fun _ => False) w w' := by
  go_enter Tryz.func113, Tryz.ntmps113
  go_wp2
  go_loopw [3] (fun i wr => i = .int .i64 0 ∧ Kept (fun _ => False) w wr) (fun i _ => 0)
  case atStart => exact ⟨rfl, Kept.refl _ _⟩
  case round =>
    obtain ⟨rfl, hk1⟩ := hrel
    obtain ⟨w1, hr, hkm⟩ := run_make0 (P := Tryz.prog) wr 132 255 Tryz.underlying132 (z := .slice none 0 0) (size := 1) (bytes := 24) (by kernel_rfl)
    have hk1' := Lib.hid (hk1.trans0 hkm)
    clear hk1 hkm
    go_wp2
    go_loopw [6] (fun i wr => i = .int .i64 0 ∧ Kept (fun _ => False) w wr) (fun i _ => 0)
    case atStart => exact ⟨rfl, hk1'.out⟩
    case round =>
      obtain ⟨rfl, hk2⟩ := hrel
      go_wp2
      go_loopw [9] (fun i wr => i = .int .i64 0 ∧ Kept (fun _ => False) w wr) (fun i _ => 0)
      case atStart => exact ⟨rfl, hk2⟩
      case round =>
        obtain ⟨rfl, hk3⟩ := hrel
        go_wp2
        go_loopw [11] (fun i wr => i = .int .i64 0 ∧ Kept (fun _ => False) w wr) (fun i _ => 0)
        case atStart => exact ⟨rfl, hk3⟩
        case round =>
          obtain ⟨rfl, hk4⟩ := hrel
          go_wp2
          go_loopw [14] (fun i wr => i = .int .i64 0 ∧ Kept (fun _ => False) w wr) (fun i _ => 0)
          case atStart => exact ⟨rfl, hk4⟩
          case round =>
            obtain ⟨rfl, hk5⟩ := hrel
            go_wp2
            go_ret
            exact ⟨rfl, hk5⟩
set_option maxRecDepth 100000 in
set_option maxHeartbeats 1000000 in
theorem flatExprs_nil (w : World) : Calls Tryz.prog 114 #[.slice none 0 0] w fun e w' => e = .returned (.bool true) ∧ Kept (fun _ => False) w w' := by
  go_enter Tryz.func114, Tryz.ntmps114
  go_wp2
  go_loopw [3] (fun i wr => i = .int .i64 0 ∧ Kept (fun _ => False) w wr) (fun i _ => 0)
  case atStart => exact ⟨rfl, Kept.refl _ _⟩
  case round =>
    obtain ⟨rfl, hk1⟩ := hrel
    obtain ⟨w1, hr, hkm⟩ := run_make0 (P := Tryz.prog) wr 133 260 Tryz.underlying133 (z := .slice none 0 0) (size := 1) (bytes := 24) (by kernel_rfl)
    have hk1' := Lib.hid (hk1.trans0 hkm)
    clear hk1 hkm
    go_wp2
    go_loopw [6] (fun i wr => i = .int .i64 0 ∧ Kept (fun _ => False) w wr) (fun i _ => 0)
    case atStart => exact ⟨rfl, hk1'.out⟩
    case round =>
      obtain ⟨rfl, hk2⟩ := hrel
      go_wp2
      go_loopw [9] (fun i wr => i = .int .i64 0 ∧ Kept (fun _ => False) w wr) (fun i _ => 0)
      case atStart => exact ⟨rfl, hk2⟩
      case round =>
        obtain ⟨rfl, hk3⟩ := hrel
        go_wp2
        go_loopw [11] (fun i wr => i = .int .i64 0 ∧ Kept (fun _ => False) w wr) (fun i _ => 0)
        case atStart => exact ⟨rfl, hk3⟩
        case round =>
          obtain ⟨rfl, hk4⟩ := hrel
          go_wp2
          go_loopw [14] (fun i wr => i = .int .i64 0 ∧ Kept (fun _ => False) w wr) (fun i _ => 0)
          case atStart => exact ⟨rfl, hk4⟩
          case round =>
            obtain ⟨rfl, hk5⟩ := hrel
            go_wp2
            go_ret
            exact ⟨rfl, hk5⟩
set_option maxRecDepth 100000 in
set_option maxHeartbeats 1000000 in
theorem flatItems_nil (w : World) : Calls Tryz.prog 115 #[.slice none 0 0] w fun e w' => e = .returned (.bool true) ∧ Kept (fun _ => False) w w' := by
  go_enter Tryz.func115, Tryz.ntmps115
  go_wp2
  go_loopw [3] (fun i wr => i = .int .i64 0 ∧ Kept (fun _ => False) w wr) (fun i _ => 0)
  case atStart => exact ⟨rfl, Kept.refl _ _⟩
  case round =>
    obtain ⟨rfl, hk1⟩ := hrel
    obtain ⟨w1, hr, hkm⟩ := run_make0 (P := Tryz.prog) wr 134 268 Tryz.underlying134 (z := .slice none 0 0) (size := 1) (bytes := 24) (by kernel_rfl)
    have hk1' := Lib.hid (hk1.trans0 hkm)
    clear hk1 hkm
    go_wp2
    go_loopw [6] (fun i wr => i = .int .i64 0 ∧ Kept (fun _ => False) w wr) (fun i _ => 0)
    case atStart => exact ⟨rfl, hk1'.out⟩
    case round =>
      obtain ⟨rfl, hk2⟩ := hrel
      go_wp2
      go_loopw [9] (fun i wr => i = .int .i64 0 ∧ Kept (fun _ => False) w wr) (fun i _ => 0)
      case atStart => exact ⟨rfl, hk2⟩
      case round =>
        obtain ⟨rfl, hk3⟩ := hrel
        go_wp2
        go_loopw [11] (fun i wr => i = .int .i64 0 ∧ Kept (fun _ => False) w wr) (fun i _ => 0)
        case atStart => exact ⟨rfl, hk3⟩
        case round =>
          obtain ⟨rfl, hk4⟩ := hrel
          go_wp2
          go_loopw [14] (fun i wr => i = .int .i64 0 ∧ Kept (fun _ => False) w wr) (fun i _ => 0)
          case atStart => exact ⟨rfl, hk4⟩
          case round =>
            obtain ⟨rfl, hk5⟩ := hrel
            go_wp2
            go_ret
            exact ⟨rfl, hk5⟩
set_option maxRecDepth 100000 in
set_option maxHeartbeats 1000000 in
theorem flatShowns_nil (w : World) : Calls Tryz.prog 116 #[.slice none 0 0] w fun e w' => e = .returned (.bool true) ∧ Kept (fun _ => False) w w' := by
  go_enter Tryz.func116, Tryz.ntmps116
  go_wp2
  go_loopw [3] (fun i wr => i = .int .i64 0 ∧ Kept (fun _ => False) w wr) (fun i _ => 0)
  case atStart => exact ⟨rfl, Kept.refl _ _⟩
  case round =>
    obtain ⟨rfl, hk1⟩ := hrel
    obtain ⟨w1, hr, hkm⟩ := run_make0 (P := Tryz.prog) wr 135 273 Tryz.underlying135 (z := .slice none 0 0) (size := 1) (bytes := 24) (by kernel_rfl)
    have hk1' := Lib.hid (hk1.trans0 hkm)
    clear hk1 hkm
    go_wp2
    go_loopw [6] (fun i wr => i = .int .i64 0 ∧ Kept (fun _ => False) w wr) (fun i _ => 0)
    case atStart => exact ⟨rfl, hk1'.out⟩
    case round =>
      obtain ⟨rfl, hk2⟩ := hrel
      go_wp2
      go_loopw [9] (fun i wr => i = .int .i64 0 ∧ Kept (fun _ => False) w wr) (fun i _ => 0)
      case atStart => exact ⟨rfl, hk2⟩
      case round =>
        obtain ⟨rfl, hk3⟩ := hrel
        go_wp2
        go_loopw [11] (fun i wr => i = .int .i64 0 ∧ Kept (fun _ => False) w wr) (fun i _ => 0)
        case atStart => exact ⟨rfl, hk3⟩
        case round =>
          obtain ⟨rfl, hk4⟩ := hrel
          go_wp2
          go_loopw [14] (fun i wr => i = .int .i64 0 ∧ Kept (fun _ => False) w wr) (fun i _ => 0)
          case atStart => exact ⟨rfl, hk4⟩
          case round =>
            obtain ⟨rfl, hk5⟩ := hrel
            go_wp2
            go_ret
            exact ⟨rfl, hk5⟩
set_option maxRecDepth 100000 in
set_option maxHeartbeats 1000000 in
theorem flatParts_nil (w : World) : Calls Tryz.prog 117 #[.slice none 0 0] w fun e w' => e = .returned (.bool true) ∧ Kept (fun _ => False) w w' := by
  go_enter Tryz.func117, Tryz.ntmps117
  go_wp2
  go_loopw [3] (fun i wr => i = .int .i64 0 ∧ Kept (fun _ => False) w wr) (fun i _ => 0)
  case atStart => exact ⟨rfl, Kept.refl _ _⟩
  case round =>
    obtain ⟨rfl, hk1⟩ := hrel
    obtain ⟨w1, hr, hkm⟩ := run_make0 (P := Tryz.prog) wr 136 277 Tryz.underlying136 (z := .slice none 0 0) (size := 1) (bytes := 24) (by kernel_rfl)
    have hk1' := Lib.hid (hk1.trans0 hkm)
    clear hk1 hkm
    go_wp2
    go_loopw [6] (fun i wr => i = .int .i64 0 ∧ Kept (fun _ => False) w wr) (fun i _ => 0)
    case atStart => exact ⟨rfl, hk1'.out⟩
    case round =>
      obtain ⟨rfl, hk2⟩ := hrel
      go_wp2
      go_loopw [9] (fun i wr => i = .int .i64 0 ∧ Kept (fun _ => False) w wr) (fun i _ => 0)
      case atStart => exact ⟨rfl, hk2⟩
      case round =>
        obtain ⟨rfl, hk3⟩ := hrel
        go_wp2
        go_loopw [11] (fun i wr => i = .int .i64 0 ∧ Kept (fun _ => False) w wr) (fun i _ => 0)
        case atStart => exact ⟨rfl, hk3⟩
        case round =>
          obtain ⟨rfl, hk4⟩ := hrel
          go_wp2
          go_loopw [14] (fun i wr => i = .int .i64 0 ∧ Kept (fun _ => False) w wr) (fun i _ => 0)
          case atStart => exact ⟨rfl, hk4⟩
          case round =>
            obtain ⟨rfl, hk5⟩ := hrel
            go_wp2
            go_ret
            exact ⟨rfl, hk5⟩
set_option maxRecDepth 100000 in
set_option maxHeartbeats 1000000 in
theorem flatCommands_nil (w : World) : Calls Tryz.prog 118 #[.slice none 0 0] w fun e w' => e = .returned (.bool true) ∧ Kept (fun _ => False) w w' := by
  go_enter Tryz.func118, Tryz.ntmps118
  go_wp2
  go_loopw [3] (fun i wr => i = .int .i64 0 ∧ Kept (fun _ => False) w wr) (fun i _ => 0)
  case atStart => exact ⟨rfl, Kept.refl _ _⟩
  case round =>
    obtain ⟨rfl, hk1⟩ := hrel
    obtain ⟨w1, hr, hkm⟩ := run_make0 (P := Tryz.prog) wr 137 283 Tryz.underlying137 (z := .slice none 0 0) (size := 1) (bytes := 24) (by kernel_rfl)
    have hk1' := Lib.hid (hk1.trans0 hkm)
    clear hk1 hkm
    go_wp2
    go_loopw [6] (fun i wr => i = .int .i64 0 ∧ Kept (fun _ => False) w wr) (fun i _ => 0)
    case atStart => exact ⟨rfl, hk1'.out⟩
    case round =>
      obtain ⟨rfl, hk2⟩ := hrel
      go_wp2
      go_loopw [9] (fun i wr => i = .int .i64 0 ∧ Kept (fun _ => False) w wr) (fun i _ => 0)
      case atStart => exact ⟨rfl, hk2⟩
      case round =>
        obtain ⟨rfl, hk3⟩ := hrel
        go_wp2
        go_loopw [11] (fun i wr => i = .int .i64 0 ∧ Kept (fun _ => False) w wr) (fun i _ => 0)
        case atStart => exact ⟨rfl, hk3⟩
        case round =>
          obtain ⟨rfl, hk4⟩ := hrel
          go_wp2
          go_loopw [14] (fun i wr => i = .int .i64 0 ∧ Kept (fun _ => False) w wr) (fun i _ => 0)
          case atStart => exact ⟨rfl, hk4⟩
          case round =>
            obtain ⟨rfl, hk5⟩ := hrel
            go_wp2
            go_ret
            exact ⟨rfl, hk5⟩
end Go.Proofs.YtnbfhdgojmflhaaGreat
