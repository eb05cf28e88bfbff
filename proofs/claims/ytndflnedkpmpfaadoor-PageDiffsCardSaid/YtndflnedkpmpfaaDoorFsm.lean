/-
  No statement is proved here: the verifier's mark of a span.
-/
import Derived.Test.YtndflnedkpmpfaaDoorFsp
import Derived.Test.YtndflnedkpmpfaaDoorSms
import Derived.BigQuiet
namespace Go.Proofs.YtndflnedkpmpfaaDoor
open Go.RowKit

def mkC (k i : Int) : Array Value := #[.int .i64 (markM k i), .int .i64 0, .slice none 0 0, .slice none 0 0]
def mkS (k i : Nat) : List Value := [.int .i64 (markM (k : Int) (i : Int)), .int .i64 0, .slice none 0 0, .slice none 0 0]
theorem mkS_len (k i : Nat) : (mkS k i).length = 4 := rfl
theorem mkS_get {k n i : Nat} (hi : i < n) {l : List Value} (hl : l.take (n * 4) = mkL (mkS k) n) (hz : n * 4 ≤ l.length) : ∀ j u, (mkC (k : Int) (i : Int))[j]? = some u → l[i * 4 + j]? = some u := by
  intro j u hu
  have hj : j < 4 := by
    have := (Array.getElem?_eq_some_iff.1 hu).1
    exact this
  have h2 : (i + 1) * 4 ≤ n * 4 := Nat.mul_le_mul_right 4 hi
  have := mkL_get (f := mkS k) (mkS_len k) hi hj
  rw [← hl, List.getElem?_take, if_pos (by omega)] at this
  rw [this]
  rw [← hu]
  simp [mkS, mkC]
theorem infoSpan2 : (Tryd.prog.info? 38).map (fun i => (i.zero, i.size)) = some (some (.agg #[.int .i64 0, .int .i64 0, .slice none 0 0, .slice none 0 0]), 4) := by kernel_rfl
theorem zeroSpan (w : World) : (zeroValue 38).run Tryd.prog w = .ok (.agg #[.int .i64 0, .int .i64 0, .slice none 0 0, .slice none 0 0]) w := (zero_of_info infoSpan2).1 w
set_option maxHeartbeats 400000 in
theorem markSpan_any (k i : Int) (k0 : 0 ≤ k) (k1 : k ≤ 1000000) (i0 : 0 ≤ i) (i1 : i ≤ 1000000000000) (w : World) :
    Calls Tryd.prog 79 #[.int .i64 k, .int .i64 i] w fun e w' => e = .returned (.agg #[.int .i64 (markM k i), .int .i64 0, .slice none 0 0, .slice none 0 0]) ∧ Kept (fun _ => False) w w' := by
  go_enter Tryd.func79, Tryd.ntmps79
  go_wp2_with (refine wl_alloc' rfl 38 rfl #[.int .i64 0, .int .i64 0, .slice none 0 0, .slice none 0 0] zeroSpan ?_)
  intro g3 w3 n3 m3 hb3 hk3
  go_wp2_with (first
    | (go_at_call 53; refine (mark_any k i (by omega) (by omega) (by omega) (by omega) _).mono ?_; rintro e wx ⟨rfl, rfl⟩)
    | refine wl_store_row rfl 38 _ _ rfl g3 #[.int .i64 (markM k i), .int .i64 0, .slice none 0 0, .slice none 0 0] _ rfl rfl hb3 (zero_of_info infoSpan2).2 rfl (by simp [Value.oneCell']) ?_)
  intro w4 hb4 hk4
  have hK := hk3.new hk4 (by rintro x rfl; omega)
  have d0 : w4.cell? ⟨g3, 0, none⟩ = some (.int .i64 (markM k i)) := cell_blk hb4 rfl
  have d1 : w4.cell? ⟨g3, 1, none⟩ = some (.int .i64 0) := cell_blk hb4 rfl
  have d2 : w4.cell? ⟨g3, 2, none⟩ = some (.slice none 0 0) := cell_blk hb4 rfl
  have d3 : w4.cell? ⟨g3, 3, none⟩ = some (.slice none 0 0) := cell_blk hb4 rfl
  clear hb3 hk3 hk4
  go_wp2
  refine bodyPost_ret (results_cell_row rfl _ w4 g3 38 #[.int .i64 (markM k i), .int .i64 0, .slice none 0 0, .slice none 0 0] (0, 0) _ rfl hb4 Tryd.underlying38 rfl (zero_of_info infoSpan2).2) rfl ⟨rfl, hK⟩
/-- A mark is itself. -/
theorem markSame (k i : Int) (w : World) :
    Calls Tryd.prog 46 #[.agg #[.int .i64 (markM k i), .int .i64 0, .slice none 0 0, .slice none 0 0], .agg #[.int .i64 (markM k i), .int .i64 0, .slice none 0 0, .slice none 0 0]] w fun e w' => e = .returned (.bool true) ∧ Kept (fun _ => False) w w' :=
  sameSpan_any (markM k i) 0 none none none none 0 0 0 0 [] [] w (fun h => absurd rfl h) (fun h => absurd rfl h) (fun h => absurd rfl h) (fun h => absurd rfl h) (by simp) (by simp)
/-- A store of a struct, in a region that draws its order. -/
theorem step_store_mid {P : Program} {ops : Array Oper} {Q : Exit → Act → World → Prop} {E : Prop} {K : Act → World → Prop} {a : Act} {w : World} {o : Oper} (hg : o.guard = none) (t : TypeId) (x y : Operand) (ho : o.op = .store t x y) (g off : Nat) (cs old : Array Value) (hx : a.eval x = .pointer (some ⟨g, off, none⟩)) (hy : a.eval y = .agg cs) {te : TypeId}
    (hb : w.heap[g]? = some (.cells old te (0, 0))) (hi : (P.info? t).map (·.size) = some cs.size) (hold : off + cs.size ≤ old.size) (h1 : ∀ v ∈ cs.toList, v.oneCell' = true)
    (k : ∀ w', w'.heap[g]? = some (.cells (putL old.toList off cs.toList).toArray te (0, 0)) → Kept (fun x => x = g) w w' → K (a.put o.dst undef) w') : if Region.wanted o (yielded ops a.tmps) = true then Oper.wp P o a w K Q else E := by
  rw [if_pos (by simp [Region.wanted, hg])]
  have hr := run_store_mid (P := P) t g off cs old hb hi hold h1
  unfold Oper.wp
  simp only [execOp, ho, hx, hy]
  rw [Sem.run_bind, hr]
  exact k _ (setRow_heap w g old _ te (0, 0) hb) ((Kept.refl (fun x => x = g) w).setRow (.inr rfl) _)
/-- A load of a struct, in a region whose operations only read. -/
theorem wq_load_mid {P : Program} {ops : Array Oper} {C : World → Prop} {Q : Act → Prop} {a : Act} {o : Oper} {rest : List Oper} (hw : Region.wanted o (yielded ops a.tmps) = true) (t : TypeId) (x : Operand) (ho : o.op = .load t x) (b off : Nat) (hx : a.eval x = .pointer (some ⟨b, off, none⟩)) (cs : Array Value)
    (hc : ∀ w, C w → ∀ j v, cs[j]? = some v → w.cell? ⟨b, off + j, none⟩ = some v) {d : TypeDesc} (hu : P.underlying t = some d) (hd : (match d with | .struct _ | .array _ _ => true | _ => false) = true) (hi : (P.info? t).map (·.size) = some cs.size)
    (k : wpQuiet P ops C Q rest (a.put o.dst (.agg cs))) : wpQuiet P ops C Q (o :: rest) a := by
  show if Region.wanted o (yielded ops a.tmps) = true then _ else _
  rw [if_pos hw]
  refine ⟨.agg cs, fun w hC => ?_, k⟩
  unfold Oper.quietAt
  simp only [execOp, ho, hx, Sem.run_bind, run_loadAt_cells t b off cs (hc w hC) hu hd hi, Result.andThen_ok]
  exact ⟨rfl, rfl⟩
/-- As 'wp_region_quiet_lit', at whatever class of worlds. -/
theorem wp_region_quiet_cls {P : Program} {C : World → Prop} {id : Nat} {Q : Exit → Act → World → Prop} {a : Act} {w : World} {l : List Oper} (hm : P.follows .mixedOrders = true) (hB : Region.lexB .any l.toArray = true) (hC : C w.drew)
    (h : wpQuiet P l.toArray C (fun a' => ∀ w', C w' → Q .normal a' w') l a) : (Code.region id l.toArray true).wp P Q a w :=
  wp_region_quiet (C := C) hm hB hC (by simpa using h)
/-- The worlds in which all stands that stood. -/
theorem class_any (w : World) : ∃ (T : Type) (f : T → World) (_ : Nonempty T), (∃ n, w.drew = f n) ∧ (∀ n wx, Kept (fun _ => False) (f n) wx → ∃ m, wx = f m) ∧ (∀ n, Kept (fun _ => False) w (f n)) :=
  ⟨{ x : World // Kept (fun _ => False) w x }, fun x => x.1, ⟨⟨w, Kept.refl _ _⟩⟩, ⟨⟨w.drew, (Kept.refl _ _).drew⟩, rfl⟩, fun n wx hx => ⟨⟨wx, n.2.trans0 hx⟩, rfl⟩, fun n => n.2⟩
end Go.Proofs.YtndflnedkpmpfaaDoor
