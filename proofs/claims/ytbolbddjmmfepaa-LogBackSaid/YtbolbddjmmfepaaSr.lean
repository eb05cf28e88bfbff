/-
  No statement is proved here: the kit's SameSpan and SameRecord, of two alike.
-/
import Derived.Test.YtbolbddjmmfepaaAww
namespace Go.Proofs.Ytbolbddjmmfepaa
open Go.RowKit

theorem exec_load_row {P : Program} {w : World} {ev : Operand → Value} {o : Oper} (t : TypeId) (x : Operand) (ho : o.op = .load t x) (g : Nat) (hx : ev x = .pointer (some ⟨g, 0, none⟩)) (cs : Array Value) {te : TypeId} {fr : Nat × Nat}
    (hb : w.heap[g]? = some (.cells cs te fr)) {d : TypeDesc} (hu : P.underlying t = some d) (hd : (match d with | .struct _ | .array _ _ => true | _ => false) = true) (hi : (P.info? t).map (·.size) = some cs.size) : (execOp ev o).run P w = .ok (.value (.agg cs)) w := by
  simp only [execOp, ho, hx, Instr.loadAt, Instr.sureAddr, Sem.run_bind, Sem.run_pure, Result.andThen_ok, run_loadVar_row w g te t cs fr d hb hu hd hi]
def spC (k f : Int) (A1 : Option Addr) (n1 c1 : Nat) (A2 : Option Addr) (n2 c2 : Nat) : Array Value := #[.int .i64 k, .int .i64 f, .slice A1 n1 c1, .slice A2 n2 c2]
set_option maxRecDepth 100000 in
theorem sspan_any (k f : Int) (A1 A2 B1 B2 : Option Addr) (c1 c2 d1 d2 : Nat) (l1 l2 : Bytes) (w : World) (h1 : RdB w A1 l1) (h2 : RdB w B1 l1) (h3 : RdB w A2 l2) (h4 : RdB w B2 l2) (e1 : l1.length ≤ 1000000) (e2 : l2.length ≤ 1000000) :
    Calls Try.prog 51 #[.agg (spC k f A1 l1.length c1 A2 l2.length c2), .agg (spC k f B1 l1.length d1 B2 l2.length d2)] w fun e w' => e = .returned (.bool true) ∧ Kept (fun _ => False) w w' := by
  have H1 := Lib.hid (fun (wz : World) (hz : Kept (fun _ => False) w wz) => same_any A1 B1 c1 d1 l1 l1 wz (h1.kept hz (fun _ _ _ _ => id)) (h2.kept hz (fun _ _ _ _ => id)) (by omega))
  have H2 := Lib.hid (fun (wz : World) (hz : Kept (fun _ => False) w wz) => same_any A2 B2 c2 d2 l2 l2 wz (h3.kept hz (fun _ _ _ _ => id)) (h4.kept hz (fun _ _ _ _ => id)) (by omega))
  clear h1 h2 h3 h4
  go_enter Try.func51, Try.ntmps51
  go_wp2_with (refine wl_box rfl 25 _ rfl (.agg (spC k f A1 l1.length c1 A2 l2.length c2)) rfl ?_)
  intro px w1 npx mpx hpx kpx
  have HX1 := Lib.hid (show w1.heap[px]? = some (.cells (spC k f A1 l1.length c1 A2 l2.length c2) 25 (0, 0)) from hpx)
  have K1 := Lib.hid kpx
  clear hpx kpx
  go_wp2_with (refine wl_box rfl 25 _ rfl (.agg (spC k f B1 l1.length d1 B2 l2.length d2)) rfl ?_)
  intro py w2 npy mpy hpy kpy
  have HY2 := Lib.hid (show w2.heap[py]? = some (.cells (spC k f B1 l1.length d1 B2 l2.length d2) 25 (0, 0)) from hpy)
  have HX2 := Lib.hid (kpy.heap HX1.out id)
  have K2 := Lib.hid (K1.out.trans0 kpy)
  clear hpy kpy
  have x0 : w2.cell? ⟨px, 0, none⟩ = some (.int .i64 k) := cell_blk HX2.out rfl
  have x1 : w2.cell? ⟨px, 1, none⟩ = some (.int .i64 f) := cell_blk HX2.out rfl
  have x2 : w2.cell? ⟨px, 2, none⟩ = some (.slice A1 l1.length c1) := cell_blk HX2.out rfl
  have y0 : w2.cell? ⟨py, 0, none⟩ = some (.int .i64 k) := cell_blk HY2.out rfl
  have y1 : w2.cell? ⟨py, 1, none⟩ = some (.int .i64 f) := cell_blk HY2.out rfl
  have y2 : w2.cell? ⟨py, 2, none⟩ = some (.slice B1 l1.length d1) := cell_blk HY2.out rfl
  go_wp2_with fail
  refine (H1.out _ K2.out).mono ?_
  rintro e w3 ⟨rfl, hs3⟩
  have K23 := Lib.hid (hs3.kept (fun _ => False))
  have x3 : w3.cell? ⟨px, 3, none⟩ = some (.slice A2 l2.length c2) := cell_blk (K23.out.heap HX2.out id) rfl
  have y3 : w3.cell? ⟨py, 3, none⟩ = some (.slice B2 l2.length d2) := cell_blk (K23.out.heap HY2.out id) rfl
  have K3 := Lib.hid (K2.out.trans0 K23.out)
  clear hs3
  go_wp2_with fail
  refine (H2.out _ K3.out).mono ?_
  rintro e w4 ⟨rfl, hs4⟩
  have K4 := Lib.hid (K3.out.trans0 (hs4.kept (fun _ => False)))
  clear hs4
  go_wp2
  go_ret
  exact ⟨by simp, K4.out⟩
set_option maxRecDepth 100000 in
set_option maxHeartbeats 800000 in
theorem srec_any (r : RecM) (A1 A2 B1 B2 : Option Addr) (c1 c2 d1 d2 : Nat) (w : World) (h1 : RdB w A1 r.old) (h2 : RdB w B1 r.old) (h3 : RdB w A2 r.new) (h4 : RdB w B2 r.new) (e1 : r.old.length ≤ 1000000) (e2 : r.new.length ≤ 1000000) :
    Calls Try.prog 16 #[.agg (recC r A1 c1 A2 c2), .agg (recC r B1 d1 B2 d2)] w fun e w' => e = .returned (.bool true) ∧ Kept (fun _ => False) w w' := by
  have HS := Lib.hid (fun (wz : World) (hz : Kept (fun _ => False) w wz) => sspan_any r.blk r.off A1 A2 B1 B2 c1 c2 d1 d2 r.old r.new wz (h1.kept hz (fun _ _ _ _ => id)) (h2.kept hz (fun _ _ _ _ => id)) (h3.kept hz (fun _ _ _ _ => id)) (h4.kept hz (fun _ _ _ _ => id)) e1 e2)
  clear h1 h2 h3 h4
  go_enter Try.func16, Try.ntmps16
  go_wp2_with (refine wl_box rfl 27 _ rfl (.agg (recC r A1 c1 A2 c2)) rfl ?_)
  intro px w1 npx mpx hpx kpx
  have HX1 := Lib.hid (show w1.heap[px]? = some (.cells (recC r A1 c1 A2 c2) 27 (0, 0)) from hpx)
  have K1 := Lib.hid kpx
  clear hpx kpx
  go_wp2_with (refine wl_box rfl 27 _ rfl (.agg (recC r B1 d1 B2 d2)) rfl ?_)
  intro py w2 npy mpy hpy kpy
  have HY2 := Lib.hid (show w2.heap[py]? = some (.cells (recC r B1 d1 B2 d2) 27 (0, 0)) from hpy)
  have HX2 := Lib.hid (kpy.heap HX1.out id)
  have K2 := Lib.hid (K1.out.trans0 kpy)
  clear hpy kpy
  obtain ⟨x0, x1, x2, x3, x4, x5, x6, x7, x8, x9⟩ := recAt_of HX2.out
  obtain ⟨y0, y1, y2, y3, y4, y5, y6, y7, y8, y9⟩ := recAt_of HY2.out
  go_wp2_with (first
    | (refine wl_load_mid rfl 25 _ rfl px 6 rfl (spC r.blk r.off A1 r.old.length c1 A2 r.new.length c2) (cells_mid HX2.out 6 _ (span_mid r A1 c1 A2 c2)) Try.underlying25 rfl (zero_of_info infoSpan3).2 ?_)
    | (refine wl_load_mid rfl 25 _ rfl py 6 rfl (spC r.blk r.off B1 r.old.length d1 B2 r.new.length d2) (cells_mid HY2.out 6 _ (span_mid r B1 d1 B2 d2)) Try.underlying25 rfl (zero_of_info infoSpan3).2 ?_))
  refine (HS.out _ K2.out).mono ?_
  rintro e w3 ⟨rfl, hk3⟩
  have K3 := Lib.hid (K2.out.trans0 hk3)
  clear hk3
  go_wp2
  go_ret
  exact ⟨rfl, K3.out⟩
end Go.Proofs.Ytbolbddjmmfepaa
