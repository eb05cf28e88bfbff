/-
  No statement is proved here: what the functions of package device do with no device, and with one that nobody made; parchmentlaw01.none.
-/
import Derived.Test.YtjhbkamgmldkmaaLawa
namespace Go.Proofs.Ytjhbkamgmldkmaa
open Go.RowKit

/-- A device that nobody made. -/
def Unmade (w : World) (p : Nat) (a : Int) : Prop := w.heap[p]? = some (.cells #[.int .i64 0, .map none, .map none, .int .i64 a, .bool false] 61 (0, 0))
section
variable {w : World} {p : Nat} {a : Int}
theorem may_nil (n : Int) : Calls Try.prog 32 #[.pointer none, .int .i64 n] w fun e w' => e = .returned (.int .i64 1) ∧ w = w' := by
  go_enter Try.func32, Try.ntmps32
  go_wp2
  go_ret
  exact ⟨rfl, rfl⟩
theorem read_nil (n : Int) : Calls Try.prog 16 #[.pointer none, .int .i64 n] w fun e w' => e = .returned (.tuple #[.slice none 0 0, .int .i64 1]) ∧ w = w' := by
  go_enter Try.func16, Try.ntmps16
  go_wp2_with (go_at_call 32; refine (may_nil n).mono ?_; rintro e w' ⟨rfl, rfl⟩)
  go_ret2
  exact ⟨rfl, rfl⟩
theorem write_nil (n : Int) (v : Value) : Calls Try.prog 13 #[.pointer none, .int .i64 n, v] w fun e w' => e = .returned (.int .i64 1) ∧ w = w' := by
  go_enter Try.func13, Try.ntmps13
  go_wp2_with (go_at_call 32; refine (may_nil n).mono ?_; rintro e w' ⟨rfl, rfl⟩)
  go_ret
  exact ⟨rfl, rfl⟩
theorem sync_nil : Calls Try.prog 12 #[.pointer none] w fun e w' => e = .returned (.int .i64 1) ∧ w = w' := by
  go_enter Try.func12, Try.ntmps12
  go_wp2_with (go_at_call 32; refine (may_nil 0).mono ?_; rintro e w' ⟨rfl, rfl⟩)
  go_ret
  exact ⟨rfl, rfl⟩
theorem arm_nil (n : Int) : Calls Try.prog 24 #[.pointer none, .int .i64 n] w fun e w' => e = .returned (.tuple #[]) ∧ w = w' := by
  go_enter Try.func24, Try.ntmps24
  go_wp2
  go_end0
  exact ⟨rfl, rfl⟩
theorem wake_nil (v : Value) : Calls Try.prog 15 #[.pointer none, v] w fun e w' => e = .returned (.tuple #[]) ∧ w = w' := by
  go_enter Try.func15, Try.ntmps15
  go_wp2
  refine bodyPost_ret (results_none rfl _ _ _) rfl ?_
  exact ⟨rfl, rfl⟩
theorem down_nil : Calls Try.prog 19 #[.pointer none] w fun e w' => e = .returned (.bool false) ∧ w = w' := by
  go_enter Try.func19, Try.ntmps19
  go_wp2
  go_ret
  exact ⟨rfl, rfl⟩
theorem blocks_nil : Calls Try.prog 23 #[.pointer none] w fun e w' => e = .returned (.int .i64 0) ∧ w = w' := by
  go_enter Try.func23, Try.ntmps23
  go_wp2
  go_ret
  exact ⟨rfl, rfl⟩
theorem copy_nil : Calls Try.prog 27 #[.pointer none] w fun e w' => e = .returned (.pointer none) ∧ w = w' := by
  go_enter Try.func27, Try.ntmps27
  go_wp2
  go_ret
  exact ⟨rfl, rfl⟩
theorem may_un (h : Unmade w p a) (n : Int) : Calls Try.prog 32 #[.pointer (some ⟨p, 0, none⟩), .int .i64 n] w fun e w' => e = .returned (.int .i64 1) ∧ w = w' := by
  have c0 : w.cell? ⟨p, 0, none⟩ = some (.int .i64 0) := cell_blk h rfl
  have c3 : w.cell? ⟨p, 3, none⟩ = some (.int .i64 a) := cell_blk h rfl
  have c4 : w.cell? ⟨p, 4, none⟩ = some (.bool false) := cell_blk h rfl
  have f3 := free_blk h 3
  have H := Lib.hid h
  clear h
  go_enter Try.func32, Try.ntmps32
  go_wp2
  go_ret
  exact ⟨rfl, rfl⟩
theorem read_un (h : Unmade w p a) (n : Int) : Calls Try.prog 16 #[.pointer (some ⟨p, 0, none⟩), .int .i64 n] w fun e w' => e = .returned (.tuple #[.slice none 0 0, .int .i64 1]) ∧ w = w' := by
  have c0 : w.cell? ⟨p, 0, none⟩ = some (.int .i64 0) := cell_blk h rfl
  have c3 : w.cell? ⟨p, 3, none⟩ = some (.int .i64 a) := cell_blk h rfl
  have c4 : w.cell? ⟨p, 4, none⟩ = some (.bool false) := cell_blk h rfl
  have f3 := free_blk h 3
  have H := Lib.hid h
  clear h
  go_enter Try.func16, Try.ntmps16
  go_wp2_with (go_at_call 32; refine (may_un H.out n).mono ?_; rintro e w' ⟨rfl, rfl⟩)
  go_ret2
  exact ⟨rfl, rfl⟩
theorem write_un (h : Unmade w p a) (n : Int) (v : Value) : Calls Try.prog 13 #[.pointer (some ⟨p, 0, none⟩), .int .i64 n, v] w fun e w' => e = .returned (.int .i64 1) ∧ w = w' := by
  have c0 : w.cell? ⟨p, 0, none⟩ = some (.int .i64 0) := cell_blk h rfl
  have c3 : w.cell? ⟨p, 3, none⟩ = some (.int .i64 a) := cell_blk h rfl
  have c4 : w.cell? ⟨p, 4, none⟩ = some (.bool false) := cell_blk h rfl
  have f3 := free_blk h 3
  have H := Lib.hid h
  clear h
  go_enter Try.func13, Try.ntmps13
  go_wp2_with (go_at_call 32; refine (may_un H.out n).mono ?_; rintro e w' ⟨rfl, rfl⟩)
  go_ret
  exact ⟨rfl, rfl⟩
theorem sync_un (h : Unmade w p a) : Calls Try.prog 12 #[.pointer (some ⟨p, 0, none⟩)] w fun e w' => e = .returned (.int .i64 1) ∧ w = w' := by
  have c0 : w.cell? ⟨p, 0, none⟩ = some (.int .i64 0) := cell_blk h rfl
  have c3 : w.cell? ⟨p, 3, none⟩ = some (.int .i64 a) := cell_blk h rfl
  have c4 : w.cell? ⟨p, 4, none⟩ = some (.bool false) := cell_blk h rfl
  have f3 := free_blk h 3
  have H := Lib.hid h
  clear h
  go_enter Try.func12, Try.ntmps12
  go_wp2_with (go_at_call 32; refine (may_un H.out 0).mono ?_; rintro e w' ⟨rfl, rfl⟩)
  go_ret
  exact ⟨rfl, rfl⟩
theorem wake_un (h : Unmade w p a) (v : Value) : Calls Try.prog 15 #[.pointer (some ⟨p, 0, none⟩), v] w fun e w' => e = .returned (.tuple #[]) ∧ w = w' := by
  have c0 : w.cell? ⟨p, 0, none⟩ = some (.int .i64 0) := cell_blk h rfl
  have c3 : w.cell? ⟨p, 3, none⟩ = some (.int .i64 a) := cell_blk h rfl
  have c4 : w.cell? ⟨p, 4, none⟩ = some (.bool false) := cell_blk h rfl
  have f3 := free_blk h 3
  have H := Lib.hid h
  clear h
  go_enter Try.func15, Try.ntmps15
  go_wp2
  refine bodyPost_ret (results_none rfl _ _ _) rfl ?_
  exact ⟨rfl, rfl⟩
theorem down_un (h : Unmade w p a) : Calls Try.prog 19 #[.pointer (some ⟨p, 0, none⟩)] w fun e w' => e = .returned (.bool false) ∧ w = w' := by
  have c0 : w.cell? ⟨p, 0, none⟩ = some (.int .i64 0) := cell_blk h rfl
  have c3 : w.cell? ⟨p, 3, none⟩ = some (.int .i64 a) := cell_blk h rfl
  have c4 : w.cell? ⟨p, 4, none⟩ = some (.bool false) := cell_blk h rfl
  have f3 := free_blk h 3
  have H := Lib.hid h
  clear h
  go_enter Try.func19, Try.ntmps19
  go_wp2
  go_ret
  exact ⟨rfl, rfl⟩
theorem blocks_un (h : Unmade w p a) : Calls Try.prog 23 #[.pointer (some ⟨p, 0, none⟩)] w fun e w' => e = .returned (.int .i64 0) ∧ w = w' := by
  have c0 : w.cell? ⟨p, 0, none⟩ = some (.int .i64 0) := cell_blk h rfl
  have c3 : w.cell? ⟨p, 3, none⟩ = some (.int .i64 a) := cell_blk h rfl
  have c4 : w.cell? ⟨p, 4, none⟩ = some (.bool false) := cell_blk h rfl
  have f3 := free_blk h 3
  have H := Lib.hid h
  clear h
  go_enter Try.func23, Try.ntmps23
  go_wp2
  go_ret
  exact ⟨rfl, rfl⟩
theorem copy_un (h : Unmade w p a) : Calls Try.prog 27 #[.pointer (some ⟨p, 0, none⟩)] w fun e w' => e = .returned (.pointer none) ∧ w = w' := by
  have c0 : w.cell? ⟨p, 0, none⟩ = some (.int .i64 0) := cell_blk h rfl
  have c3 : w.cell? ⟨p, 3, none⟩ = some (.int .i64 a) := cell_blk h rfl
  have c4 : w.cell? ⟨p, 4, none⟩ = some (.bool false) := cell_blk h rfl
  have f3 := free_blk h 3
  have H := Lib.hid h
  clear h
  go_enter Try.func27, Try.ntmps27
  go_wp2
  go_ret
  exact ⟨rfl, rfl⟩
theorem arm_un (h : Unmade w p a) (n : Int) : Calls Try.prog 24 #[.pointer (some ⟨p, 0, none⟩), .int .i64 n] w fun e w' => e = .returned (.tuple #[]) ∧ (∃ a', Unmade w' p a') ∧ Kept (fun x => x = p) w w' := by
  have c0 : w.cell? ⟨p, 0, none⟩ = some (.int .i64 0) := cell_blk h rfl
  have c3 : w.cell? ⟨p, 3, none⟩ = some (.int .i64 a) := cell_blk h rfl
  have c4 : w.cell? ⟨p, 4, none⟩ = some (.bool false) := cell_blk h rfl
  have f3 := free_blk h 3
  have H := Lib.hid h
  clear h
  go_enter Try.func24, Try.ntmps24
  go_wp2
  all_goals
    go_end0
    exact ⟨rfl, ⟨_, set_blk H.out 3 _⟩, Kept.cell w p 3 _⟩
set_option maxRecDepth 100000 in
theorem none_nil (n : Int) : Calls Try.prog 31 #[.pointer none, .int .i64 n] w fun e w' => e = .returned (.bool true) ∧ Kept (fun _ => False) w w' := by
  go_enter Try.func31, Try.ntmps31
  go_wp2_with (first
    | (go_at_call 16; refine (read_nil n).mono ?_; rintro e w' ⟨rfl, rfl⟩)
    | (go_at_call 24; refine (arm_nil n).mono ?_; rintro e w' ⟨rfl, rfl⟩)
    | (go_at_call 15; refine (wake_nil _).mono ?_; rintro e w' ⟨rfl, rfl⟩)
    | (go_at_call 14; refine (full_num 1 1 rfl _).mono ?_; rintro e w2 ⟨g1, rfl, n2, hb2, hk2⟩)
    | (go_at_call 13; refine (write_nil 0 _).mono ?_; rintro e w' ⟨rfl, rfl⟩)
    | (go_at_call 12; refine (sync_nil).mono ?_; rintro e w' ⟨rfl, rfl⟩)
    | (go_at_call 19; refine (down_nil).mono ?_; rintro e w' ⟨rfl, rfl⟩)
    | (go_at_call 23; refine (blocks_nil).mono ?_; rintro e w' ⟨rfl, rfl⟩)
    | (go_at_call 27; refine (copy_nil).mono ?_; rintro e w' ⟨rfl, rfl⟩))
  go_ret
  exact ⟨rfl, hk2⟩
set_option maxRecDepth 100000 in
theorem none_un (h : Unmade w p a) (n : Int) : Calls Try.prog 31 #[.pointer (some ⟨p, 0, none⟩), .int .i64 n] w fun e w' => e = .returned (.bool true) ∧ Kept (fun x => x = p) w w' := by
  have H := Lib.hid h
  have lp := heap_lt h
  clear h
  go_enter Try.func31, Try.ntmps31
  go_wp2_with (go_at_call 16; refine (read_un H.out n).mono ?_; rintro e w' ⟨rfl, rfl⟩)
  go_wp2_with (go_at_call 24; refine (arm_un H.out n).mono ?_; rintro e w1 ⟨rfl, ⟨a1, h1⟩, hk1⟩)
  have H1 := Lib.hid h1
  clear h1
  go_wp2_with (first
    | (go_at_call 15; refine (wake_un H1.out _).mono ?_; rintro e w' ⟨rfl, rfl⟩)
    | (go_at_call 14; refine (full_num 1 1 rfl _).mono ?_; rintro e w2 ⟨g1, rfl, n2, hb2, hk2⟩))
  have H2 := Lib.hid (show Unmade w2 p a1 from hk2.heap H1.out id)
  have HK := Lib.hid (hk1.trans0 hk2)
  clear hk1 hk2 hb2
  go_wp2_with (first
    | (go_at_call 13; refine (write_un H2.out 0 _).mono ?_; rintro e w' ⟨rfl, rfl⟩)
    | (go_at_call 12; refine (sync_un H2.out).mono ?_; rintro e w' ⟨rfl, rfl⟩)
    | (go_at_call 19; refine (down_un H2.out).mono ?_; rintro e w' ⟨rfl, rfl⟩)
    | (go_at_call 23; refine (blocks_un H2.out).mono ?_; rintro e w' ⟨rfl, rfl⟩)
    | (go_at_call 27; refine (copy_un H2.out).mono ?_; rintro e w' ⟨rfl, rfl⟩))
  go_ret
  exact ⟨rfl, HK.out⟩
end

set_option maxRecDepth 100000 in
theorem nil_walk (n : Int) (w : World) : Calls Try.prog 8 #[.int .i64 n] w fun e w' => e = .returned (.bool true) ∧ Kept (fun _ => False) w w' := by
  go_enter Try.func8, Try.ntmps8
  go_wp2_with (go_at_call 9; refine (awake_any _).mono ?_; rintro e w1 ⟨rfl, hk1⟩)
  go_wp2_with fail
  refine (none_nil n).mono ?_
  rintro e w2 ⟨rfl, hk2⟩
  have K2 := Lib.hid (hk1.trans0 hk2)
  clear hk1 hk2
  go_wp2_with (refine wl_box rfl 61 _ rfl (.agg #[.int .i64 0, .map none, .map none, .int .i64 0, .bool false]) rfl ?_)
  refine (none_un (p := w2.heap.size) (a := 0) (heap_alloc_new w2 _) n).mono ?_
  rintro e w4 ⟨rfl, hk4⟩
  have K4 := Lib.hid ((K2.out.alloc (.cells #[.int .i64 0, .map none, .map none, .int .i64 0, .bool false] 61)).new hk4 (by rintro x rfl; exact K2.out.size))
  clear hk4
  go_wp2
  go_ret
  exact ⟨rfl, K4.out⟩
end Go.Proofs.Ytjhbkamgmldkmaa
