/-
  No statement is proved here: what parchmentlaw09's 'awake' does.
-/
import Derived.Test.YtndflnedkpmpfaaGreatDoorPgi
import Derived.Laws.IdiomStrings
import Derived.Lib.SlBytesConst
namespace Go.Proofs.YtndflnedkpmpfaaGreatDoor
open Go.RowKit

theorem OwnB.of_blk {w : World} {g base : Nat} {l : Bytes} (h : w.heap[g]? = some (.cells (cellsOf l) 5 (0, 0))) (hb : base ≤ g) (hn : l.length ≤ maxLen) : OwnB w base g l.length l :=
  ⟨by rw [cellsOf_len, Nat.mul_one], .inr ⟨g, l.length, _, rfl, hb, h, Nat.le_refl _, hn, by rw [size_cellsOf, Nat.mul_one], by rw [← cellsOf_len l, Nat.mul_one]; exact List.take_length⟩⟩
def P0 : Bytes := newP 7
def P1 : Bytes := (insertM P0 0 [98, 99]).2
def P2 : Bytes := (insertM P1 0 [97]).2
def L13 : Bytes := [7, 2, 0, 0, 0, 0, 0, 1, 97, 0, 2, 98, 99]
theorem p0_len : P0.length = 512 := by decide +kernel
theorem p1_ok : (insertM P0 0 [98, 99]).1 = 0 := by decide +kernel
theorem p1_len : P1.length = 512 := by decide +kernel
theorem p2_ok : (insertM P1 0 [97]).1 = 0 := by decide +kernel
theorem p2_len : P2.length = 512 := by decide +kernel
theorem p2_get : getM P2 1 = some [98, 99] := by decide +kernel
theorem p2_room : roomM P2 = 499 := by decide +kernel
theorem p2_end : decide (0 < endM P2) = true := by decide +kernel
theorem p2_end' : decide (0 < endM (P2.take 511)) = false := by decide +kernel
theorem p2_ins : insertM P2 3 [] = (2, P2) := by decide +kernel
theorem p2_13 : P2.take 13 = L13 := by decide +kernel
theorem p2_endle : endM P2 ≤ P2.length := endM_le _
theorem insert_num {w : World} {base g n : Nat} {l cell l' : Bytes} {CA : Option Addr} (h : OwnB w base g 512 l) (hl : l.length = 512) (hS : RdB w CA cell) (hn : cell.length = n) (hcl : n ≤ 1000000) (hg : ∀ b off, CA = some ⟨b, off, none⟩ → b ≠ g) (s r : Int) (cc : Nat) (he : insertM l s cell = (r, l')) :
    Calls Tryz.prog 5 #[.slice (some ⟨g, 0, none⟩) 512 512, .int .i64 s, .slice CA n cc] w fun e w' => e = .returned (.int .i64 r) ∧ OwnB w' base g 512 l' ∧ Kept (fun x => x = g) w w' := by
  have := insert_any base g 512 cc l cell CA w h (by omega) hS (by omega) hg s
  rw [hl, hn, he] at this
  exact this
set_option maxRecDepth 100000 in
set_option maxHeartbeats 1000000 in
theorem awake_any (w : World) : Calls Tryz.prog 15 #[] w fun e w' => e = .returned (.bool true) ∧ Kept (fun _ => False) w w' := by
  have q22 := fun (w : World) (C : Array Value) (n c : Nat) => Lib.run_convert_bytes_const (P := Tryz.prog) w 22 5 C n c Tryz.underlying22 Tryz.underlying5
  go_enter Tryz.func15, Tryz.ntmps15
  go_wp2_with (go_at_call 4; refine (newP_any 7 _).mono ?_; rintro e w1 ⟨g, rfl, hg1, hb1, hk1⟩)
  have ho1 := OwnB.of_blk hb1 (Nat.le_refl g) (by rw [show (newP 7).length = 512 from p0_len]; decide)
  rw [show (newP 7).length = 512 from p0_len] at ho1
  have K1 := Lib.hid hk1
  clear hb1 hk1
  go_wp2_with fail
  have hs1 := ho1.base_le
  have hr1 : RdB (w1.alloc (Obj.cells #[.int .u8 98, .int .u8 99] 5 (2, 3))) (some ⟨w1.heap.size, 0, none⟩) [98, 99] := RdB.of_blk (l := [98, 99]) (heap_alloc_new w1 (Obj.cells #[.int .u8 98, .int .u8 99] 5 (2, 3)))
  have ho1' := ho1.kept ((Kept.refl (fun _ => False) w1).alloc (.cells #[.int .u8 98, .int .u8 99] 5 (2, 3)))
  have n1 : w1.heap.size ≠ g := by have := heap_lt (ho1.form.choose_spec.2.1); omega
  refine (insert_num ho1' p0_len hr1 rfl (by decide) (by rintro b off h; cases h; exact n1) 0 0 2 (l' := P1) (by rw [← p1_ok]; rfl)).mono ?_
  rintro e w2 ⟨rfl, ho2, hk2⟩
  have K2 := Lib.hid ((K1.out.alloc (.cells #[.int .u8 98, .int .u8 99] 5 (2, 3))).new hk2 (by rintro x rfl; omega))
  clear ho1 ho1' hr1 hk2 K1 hs1 n1
  go_wp2_with fail
  have hr2 : RdB (w2.alloc (Obj.cells #[.int .u8 97] 5 (1, 2))) (some ⟨w2.heap.size, 0, none⟩) [97] := RdB.of_blk (l := [97]) (heap_alloc_new w2 (Obj.cells #[.int .u8 97] 5 (1, 2)))
  have ho2' := ho2.kept ((Kept.refl (fun _ => False) w2).alloc (.cells #[.int .u8 97] 5 (1, 2)))
  have n2 : w2.heap.size ≠ g := by have := heap_lt (ho2.form.choose_spec.2.1); omega
  refine (insert_num ho2' p1_len hr2 rfl (by decide) (by rintro b off h; cases h; exact n2) 0 0 1 (l' := P2) (by rw [← p2_ok]; rfl)).mono ?_
  rintro e w3 ⟨rfl, ho3, hk3⟩
  have K3 := Lib.hid ((K2.out.alloc (.cells #[.int .u8 97] 5 (1, 2))).new hk3 (by rintro x rfl; omega))
  clear ho2 ho2' hr2 hk3 K2 n2
  have HO3 := Lib.hid ho3
  clear ho3
  go_wp2_with fail
  have hget := get_any g 0 512 P2 w3 HO3.out.rdp (by rw [p2_len]; omega) (by rw [p2_len]; omega) (by omega) 1
  rw [p2_len, p2_get] at hget
  refine hget.mono ?_
  rintro e w4 ⟨hk4, hx⟩
  rcases hx with ⟨hx, -⟩ | ⟨g2, c2, x, hx, rfl, ho4⟩
  · cases hx
  cases hx
  have K4 := Lib.hid (K3.out.trans0 hk4)
  have HO4 := Lib.hid (HO3.out.kept hk4)
  have HX := Lib.hid ho4
  clear hk4 ho4 HO3 K3 hget
  go_wp2_with fail
  have hnew := heap_alloc_new w4 (Obj.cells (cellsOf L13) 5)
  have K5 := Lib.hid (K4.out.alloc (Obj.cells (cellsOf L13) 5))
  have k45 : Kept (fun _ => False) w4 (w4.alloc (Obj.cells (cellsOf L13) 5)) := (Kept.refl (fun _ => False) w4).alloc _
  have hr5 := RdB.of_blk hnew
  have ho5 := HO4.out.kept k45
  have hx5 := HX.out.kept k45
  have hs5 := same_any (some ⟨g, 0, none⟩) (some ⟨w4.heap.size, 0, none⟩) 512 13 (P2.take 13) L13 _ (ho5.rdp.take 13) hr5 (by rw [p2_13]; decide)
  rw [p2_13, show decide (L13 = L13) = true from decide_eq_true rfl] at hs5
  refine Calls.mono hs5 ?_
  rintro e w5 ⟨rfl, hs⟩
  have K6 := Lib.hid (K5.out.trans0 (hs.kept _))
  have HO6 := Lib.hid (ho5.kept (hs.kept _))
  have hx6 := hx5.kept (hs.kept _)
  have hcv := run_convert_bytes_back (P := Tryz.prog) w5 22 9 5 ⟨g2, 0, none⟩ c2 [98, 99] Tryz.underlying22 Tryz.underlying5 Tryz.underlying9 (fun j hj => by
    have := hx6.cellAt (i := j) hj
    rw [Addr.add_mid, Nat.zero_add, this]
    show some (Value.int .u8 (([98, 99] : Bytes)[j]?.getD 0).toNat) = _
    rw [List.getElem?_eq_getElem hj]; rfl)
  rw [show ([98, 99] : List UInt8).length = 2 from rfl] at hcv
  clear hs hx5 ho5 hr5 k45 hnew K4 hs5 hx6
  have HR := Lib.hid (room_any (some ⟨g, 0, none⟩) 512 P2 w5 HO6.out.rdp (by rw [p2_len]; omega) (by rw [p2_len]; omega) (by omega) (endM_le _))
  have HC := Lib.hid (fun w' (hs : Same w5 w') => check_any (some ⟨g, 0, none⟩) 512 P2 w' ((HO6.out.kept (hs.kept _)).rdp) (by rw [p2_len]; omega) (by rw [p2_len]; omega) (by omega))
  have HC' := Lib.hid (fun w' (hs : Same w5 w') => check_any (some ⟨g, 0, none⟩) 512 (P2.take 511) w' ((HO6.out.kept (hs.kept _)).rdp.take 511) (by rw [List.length_take, p2_len]; omega) (by rw [List.length_take, p2_len]; omega) (by omega))
  have HI := Lib.hid (fun w' (hs : Same w5 w') => insert_num (CA := none) (cell := []) (HO6.out.kept (hs.kept _)) p2_len (fun h => absurd rfl h) rfl (by decide) (fun _ _ h => by cases h) 3 2 0 p2_ins)
  rw [p2_len, p2_room] at HR
  rw [p2_len, p2_end] at HC
  rw [List.length_take, p2_len, p2_end'] at HC'
  go_wp2_with fail
  refine HR.out.mono ?_
  rintro e w6 ⟨rfl, hs6⟩
  have S6 := Lib.hid hs6
  clear hs6
  go_wp2_with fail
  refine (HC.out _ S6.out).mono ?_
  rintro e w7 ⟨rfl, hs7⟩
  have S7 := Lib.hid (S6.out.trans hs7)
  clear hs7
  go_wp2_with fail
  refine (HC'.out _ S7.out).mono ?_
  rintro e w8 ⟨rfl, hs8⟩
  have S8 := Lib.hid (S7.out.trans hs8)
  clear hs8
  go_wp2_with fail
  refine (HI.out _ S8.out).mono ?_
  rintro e w9 ⟨rfl, -, hk9⟩
  have K9 := Lib.hid ((K6.out.trans0 (S8.out.kept _)).new hk9 (by rintro x rfl; omega))
  clear hk9
  go_wp2_with fail
  go_ret
  exact ⟨rfl, K9.out⟩
end Go.Proofs.YtndflnedkpmpfaaGreatDoor
