/-
  No statement is proved here: the contract of the kit's SameSpan, of two spans alike.
-/
import Derived.Test.YtndflnedkpmpfaaGreatDoorRfe
namespace Go.Proofs.YtndflnedkpmpfaaGreatDoor
open Go.RowKit

set_option maxRecDepth 100000 in
theorem sameSpan_any (k f : Int) (A1 A2 B1 B2 : Option Addr) (c1 c2 d1 d2 : Nat) (l1 l2 : Bytes) (w : World) (h1 : RdB w A1 l1) (h2 : RdB w B1 l1) (h3 : RdB w A2 l2) (h4 : RdB w B2 l2) (e1 : l1.length ≤ 1000000) (e2 : l2.length ≤ 1000000) :
    Calls Tryz.prog 51 #[.agg #[.int .i64 k, .int .i64 f, .slice A1 l1.length c1, .slice A2 l2.length c2], .agg #[.int .i64 k, .int .i64 f, .slice B1 l1.length d1, .slice B2 l2.length d2]] w fun e w' => e = .returned (.bool true) ∧ Kept (fun _ => False) w w' := by
  have H1 := Lib.hid (fun (wz : World) (hz : Kept (fun _ => False) w wz) => same_any A1 B1 c1 d1 l1 l1 wz (h1.kept hz (fun _ _ _ _ => id)) (h2.kept hz (fun _ _ _ _ => id)) (by omega))
  have H2 := Lib.hid (fun (wz : World) (hz : Kept (fun _ => False) w wz) => same_any A2 B2 c2 d2 l2 l2 wz (h3.kept hz (fun _ _ _ _ => id)) (h4.kept hz (fun _ _ _ _ => id)) (by omega))
  clear h1 h2 h3 h4
  go_enter Tryz.func51, Tryz.ntmps51
  go_wp2_with (refine wl_box rfl 46 _ rfl (.agg #[.int .i64 k, .int .i64 f, .slice A1 l1.length c1, .slice A2 l2.length c2]) rfl ?_)
  intro px w1 npx mpx hpx kpx
  have HX1 := Lib.hid (show w1.heap[px]? = some (.cells #[.int .i64 k, .int .i64 f, .slice A1 l1.length c1, .slice A2 l2.length c2] 46 (0, 0)) from hpx)
  have K1 := Lib.hid kpx
  clear hpx kpx
  go_wp2_with (refine wl_box rfl 46 _ rfl (.agg #[.int .i64 k, .int .i64 f, .slice B1 l1.length d1, .slice B2 l2.length d2]) rfl ?_)
  intro py w2 npy mpy hpy kpy
  have HY2 := Lib.hid (show w2.heap[py]? = some (.cells #[.int .i64 k, .int .i64 f, .slice B1 l1.length d1, .slice B2 l2.length d2] 46 (0, 0)) from hpy)
  have HX2 := Lib.hid (kpy.heap HX1.out id)
  have K2 := Lib.hid (K1.out.trans0 kpy)
  clear hpy kpy
  have x0 := cell_blk HX2.out (i := 0) rfl
  have x1 := cell_blk HX2.out (i := 1) rfl
  have x2 := cell_blk HX2.out (i := 2) rfl
  have y0 := cell_blk HY2.out (i := 0) rfl
  have y1 := cell_blk HY2.out (i := 1) rfl
  have y2 := cell_blk HY2.out (i := 2) rfl
  go_wp2_with fail
  refine (H1.out _ K2.out).mono ?_
  rintro e w3 ⟨rfl, hs3⟩
  have K23 := Lib.hid (hs3.kept (fun _ => False))
  have x3 := cell_blk (K23.out.heap HX2.out id) (i := 3) rfl
  have y3 := cell_blk (K23.out.heap HY2.out id) (i := 3) rfl
  have K3 := Lib.hid (K2.out.trans0 K23.out)
  clear hs3
  go_wp2_with fail
  refine (H2.out _ K3.out).mono ?_
  rintro e w4 ⟨rfl, hs4⟩
  have K4 := Lib.hid (K3.out.trans0 (hs4.kept (fun _ => False)))
  clear hs4
  go_wp2
  go_ret
  exact ⟨by simp, K4.out⟩
end Go.Proofs.YtndflnedkpmpfaaGreatDoor
