/-
  No statement is proved here: the kit's LentSpan, LentRecord, KeptSpan, KeptRecord, CopyBytes, CopySpan, CopyRecord.
-/
import Derived.Test.YtbolbddjmmfepaaSr
import Derived.Test.YtbolbddjmmfepaaKept
import Derived.Test.YtbolbddjmmfepaaLgi
import Derived.Laws.CopyRow
namespace Go.Proofs.Ytbolbddjmmfepaa
open Go.RowKit

/-- Cells written over, from a place on. -/
def putQ (l : List Value) (o : Nat) (vs : List Value) : List Value := l.take o ++ vs ++ l.drop (o + vs.length)
theorem run_store_midQ {P : Program} {w : World} (t : TypeId) (g off : Nat) (cs old : Array Value) {te : TypeId} (hb : w.heap[g]? = some (.cells old te (0, 0))) (hi : (P.info? t).map (·.size) = some cs.size) (hold : off + cs.size ≤ old.size) (h1 : ∀ v ∈ cs.toList, v.oneCell' = true) :
    (Instr.storeAt t (.pointer (some ⟨g, off, none⟩)) (.agg cs)).run P w = .ok () (w.setRow g (putQ old.toList off cs.toList).toArray) := by
  have hst := run_storeCells_at P g off te cs.toList 0 old w hb (by simpa using hold) h1
  cases hq : P.info? t with
  | none => simp [hq] at hi
  | some i =>
    have hs : i.size = cs.size := by simpa [hq] using hi
    simp [Instr.storeAt, Instr.sureAddr, storeVar, Value.cells, sizeOf, typeInfo, hq, hs, Sem.run_bind, Result.andThen, hst, putQ]
/-- A store of a struct, into a block. -/
theorem wl_store_midQ {P : Program} {ops : Array Oper} {Q : Exit → Act → World → Prop} {a : Act} {w : World} {rest : List Oper} {o : Oper} (hg : o.guard = none) (t : TypeId) (x y : Operand) (ho : o.op = .store t x y) (g off : Nat) (cs old : Array Value) (hx : a.eval x = .pointer (some ⟨g, off, none⟩)) (hy : a.eval y = .agg cs) {te : TypeId}
    (hb : w.heap[g]? = some (.cells old te (0, 0))) (hi : (P.info? t).map (·.size) = some cs.size) (hold : off + cs.size ≤ old.size) (h1 : ∀ v ∈ cs.toList, v.oneCell' = true)
    (k : ∀ w', w'.heap[g]? = some (.cells (putQ old.toList off cs.toList).toArray te (0, 0)) → Kept (fun x => x = g) w w' → wpList P ops Q rest (a.put o.dst undef) w') : wpList P ops Q (o :: rest) a w := by
  refine wl_skip hg ?_ (k _ (setRow_heap w g old _ te (0, 0) hb) ((Kept.refl (fun x => x = g) w).setRow (.inr rfl) _))
  have := run_store_midQ (P := P) t g off cs old hb hi hold h1
  simp only [execOp, ho, hx, hy]
  rw [Sem.run_bind, this]
  rfl
theorem lentL_take (l : Bytes) : (lentL l 12).take l.length = l := by unfold lentL; rw [List.take_left']; rfl
theorem OwnB.rdl {w : World} {base g cap : Nat} {l : Bytes} (h : OwnB w base g cap (lentL l 12)) : RdB w (some ⟨g, 0, none⟩) l := by
  have := h.v.rd.takeG l.length
  rwa [lentL_take] at this
theorem zSpan4 (w : World) : (zeroValue 25).run Try.prog w = .ok (.agg #[.int .i64 0, .int .i64 0, .slice none 0 0, .slice none 0 0]) w := zeroSpan3 w
theorem one_spC (k f : Int) (A1 : Option Addr) (n1 c1 : Nat) (A2 : Option Addr) (n2 c2 : Nat) : (spC k f A1 n1 c1 A2 n2 c2).all (·.oneCell') = true := by simp [spC, Value.oneCell']
theorem sizeSpan : (Try.prog.info? 25).map (·.size) = some 4 := (zero_of_info infoSpan3).2
theorem copyBK_any (A : Option Addr) (c : Nat) (l : Bytes) (w : World) (h : RdB w A l) (hl : l.length ≤ 1000000) :
    Calls Try.prog 19 #[.slice A l.length c] w fun e w' => ∃ v, e = .returned v ∧ OwnV w' w.heap.size v l ∧ Kept (fun _ => False) w w' := by
  have H := Lib.hid h
  clear h
  go_enter Try.func19, Try.ntmps19
  go_wp2_with (at_builtin; refine wl_appendV rfl _ _ rfl w.heap.size (.slice none 0 0) [] l rfl (OwnV.nil _ _) A c rfl H.out (by simp; omega) (Nat.le_refl _) ?_)
  intro v w1 ho hk _
  have HO := Lib.hid (show OwnV w1 w.heap.size v l from ho)
  have HK := Lib.hid (hk.mono (T := fun _ => False) (fun x _ e => by simp [Value.ownBlock] at e))
  clear ho hk
  go_wp2
  go_ret
  exact ⟨v, rfl, HO.out, HK.out⟩
/-- Bytes as they are lent: with marks behind them. -/
def LentV (w : World) (base : Nat) (v : Value) (l : Bytes) : Prop := ∃ g cap, v = .slice (some ⟨g, 0, none⟩) l.length cap ∧ OwnB w base g cap (lentL l 12)
theorem LentV.keep {S : Nat → Prop} {w w' : World} {base : Nat} {v : Value} {l : Bytes} (h : LentV w base v l) (hk : Kept S w w') (hn : ∀ x, base ≤ x → x < w.heap.size → ¬ S x) : LentV w' base v l := by
  obtain ⟨g, cap, rfl, ho⟩ := h
  refine ⟨g, cap, rfl, ho.keep hk ?_⟩
  obtain ⟨cur, h1, h2, _⟩ := ho.form
  exact hn g h1 (heap_lt h2)
theorem LentV.low {w : World} {base base' : Nat} {v : Value} {l : Bytes} (h : LentV w base v l) (hb : base' ≤ base) : LentV w base' v l := by
  obtain ⟨g, cap, rfl, ho⟩ := h
  exact ⟨g, cap, rfl, OwnV.low (v := .slice (some ⟨g, 0, none⟩) (lentL l 12).length cap) ho hb⟩
theorem LentV.slice {w : World} {base : Nat} {v : Value} {l : Bytes} (h : LentV w base v l) : ∃ A c, v = .slice A l.length c ∧ True := by
  obtain ⟨g, cap, rfl, ho⟩ := h
  exact ⟨_, _, rfl, trivial⟩
theorem LentV.one {w : World} {base : Nat} {v : Value} {l : Bytes} (h : LentV w base v l) {x : Nat} (hx : v.ownBlock = some x) : base ≤ x ∧ x < w.heap.size := by
  obtain ⟨g, cap, rfl, ho⟩ := h
  cases hx
  obtain ⟨cur, h1, h2, _⟩ := ho.form
  exact ⟨h1, heap_lt h2⟩
theorem LentV.rd {w : World} {base : Nat} {A : Option Addr} {n c : Nat} {l : Bytes} (h : LentV w base (.slice A n c) l) : RdB w A l := by
  obtain ⟨g, cap, e, ho⟩ := h
  cases e
  exact ho.rdl
theorem lentV_any (A : Option Addr) (c : Nat) (l : Bytes) (w : World) (h : RdB w A l) (hl : l.length ≤ 1000000) :
    Calls Try.prog 11 #[.slice A l.length c] w fun e w' => ∃ v, e = .returned v ∧ LentV w' w.heap.size v l ∧ Kept (fun _ => False) w w' := by
  refine (lentB_any A c l w h hl).mono ?_
  rintro e w' ⟨g, cap, rfl, ho, hk⟩
  exact ⟨_, rfl, ⟨g, cap, rfl, ho⟩, hk⟩
set_option maxRecDepth 100000 in
set_option maxHeartbeats 800000 in
theorem lspan_any (k f : Int) (A1 A2 : Option Addr) (c1 c2 : Nat) (l1 l2 : Bytes) (w : World) (h1 : RdB w A1 l1) (h3 : RdB w A2 l2) (e1 : l1.length ≤ 1000000) (e2 : l2.length ≤ 1000000) :
    Calls Try.prog 37 #[.agg (spC k f A1 l1.length c1 A2 l2.length c2)] w fun e w' => ∃ B1 d1 B2 d2, e = .returned (.agg (spC k f B1 l1.length d1 B2 l2.length d2)) ∧ LentV w' w.heap.size (.slice B1 l1.length d1) l1 ∧ LentV w' w.heap.size (.slice B2 l2.length d2) l2 ∧
      (∀ x, (Value.slice B1 l1.length d1).ownBlock = some x → (Value.slice B2 l2.length d2).ownBlock = some x → False) ∧ Kept (fun _ => False) w w' := by
  have H1 := Lib.hid (fun (wz : World) (hz : Kept (fun _ => False) w wz) => lentV_any A1 c1 l1 wz (h1.kept hz (fun _ _ _ _ => id)) e1)
  have H2 := Lib.hid (fun (wz : World) (hz : Kept (fun _ => False) w wz) => lentV_any A2 c2 l2 wz (h3.kept hz (fun _ _ _ _ => id)) e2)
  clear h1 h3
  go_enter Try.func37, Try.ntmps37
  go_wp2_with (refine wl_box rfl 25 _ rfl (.agg (spC k f A1 l1.length c1 A2 l2.length c2)) rfl ?_)
  intro x w1 nx mx hx kx
  have HX1 := Lib.hid (show w1.heap[x]? = some (.cells (spC k f A1 l1.length c1 A2 l2.length c2) 25 (0, 0)) from hx)
  have K1 := Lib.hid kx
  clear hx kx
  go_wp2_with (refine wl_alloc' rfl 25 rfl #[.int .i64 0, .int .i64 0, .slice none 0 0, .slice none 0 0] zeroSpan3 ?_)
  intro y w2 ny my hy ky
  have HY2 := Lib.hid hy
  have HX2 := Lib.hid (ky.heap HX1.out id)
  have K2 := Lib.hid (K1.out.trans0 ky)
  have XL := Lib.hid (heap_lt HX1.out)
  have x2 : w2.cell? ⟨x, 2, none⟩ = some (.slice A1 l1.length c1) := cell_blk HX2.out rfl
  clear hy ky HX1
  go_wp2_with fail
  refine (H1.out _ K2.out).mono ?_
  rintro e w3 ⟨v3, rfl, ho3, hk3⟩
  obtain ⟨B1, d1, rfl, _⟩ := ho3.slice
  have HO3 := Lib.hid ho3
  have HX3 := Lib.hid (hk3.heap HX2.out id)
  have HY3 := Lib.hid (hk3.heap HY2.out id)
  have K3 := Lib.hid (K2.out.trans0 hk3)
  have KS3 := Lib.hid hk3.size
  clear ho3 hk3 x2
  go_wp2_with (refine wl_store1 rfl 23 _ _ rfl x 2 (.slice B1 l1.length d1) (spC k f A1 l1.length c1 A2 l2.length c2) rfl rfl HX3.out (by kernel_rfl) (by show 2 < 4; decide) rfl ?_)
  intro w4 hb4 hk4
  have HX4 := Lib.hid (show w4.heap[x]? = some (.cells (spC k f B1 l1.length d1 A2 l2.length c2) 25 (0, 0)) from hb4)
  have HY4 := Lib.hid (hk4.heap HY3.out (by have := XL.out; omega))
  have HO4 := Lib.hid (HO3.out.keep hk4 (fun z a b e => by have := XL.out; omega))
  have K4 := Lib.hid (K3.out.new hk4 (by rintro x rfl; exact nx))
  have K24 := Lib.hid (Nat.le_trans KS3.out hk4.size)
  have x3 : w4.cell? ⟨x, 3, none⟩ = some (.slice A2 l2.length c2) := cell_blk HX4.out rfl
  clear hb4 hk4 HX3 HY3
  go_wp2_with fail
  refine (H2.out _ K4.out).mono ?_
  rintro e w5 ⟨v5, rfl, ho5, hk5⟩
  obtain ⟨B2, d2, rfl, _⟩ := ho5.slice
  have HO5 := Lib.hid ho5
  have HX5 := Lib.hid (hk5.heap HX4.out id)
  have HY5 := Lib.hid (hk5.heap HY4.out id)
  have HOa5 := Lib.hid (HO4.out.keep hk5 (fun _ _ _ => id))
  have K5 := Lib.hid (K4.out.trans0 hk5)
  clear ho5 hk5 x3
  go_wp2_with (refine wl_store1 rfl 23 _ _ rfl x 3 (.slice B2 l2.length d2) (spC k f B1 l1.length d1 A2 l2.length c2) rfl rfl HX5.out (by kernel_rfl) (by show 3 < 4; decide) rfl ?_)
  intro w6 hb6 hk6
  have HX6 := Lib.hid (show w6.heap[x]? = some (.cells (spC k f B1 l1.length d1 B2 l2.length d2) 25 (0, 0)) from hb6)
  have HY6 := Lib.hid (hk6.heap HY5.out (by have := XL.out; omega))
  have S4 := K24
  have HO6 := Lib.hid (HO5.out.keep hk6 (fun z a b e => by have := XL.out; have := S4.out; omega))
  have HOa6 := Lib.hid (HOa5.out.keep hk6 (fun z a b e => by have := XL.out; omega))
  have K6 := Lib.hid (K5.out.new hk6 (by rintro x rfl; exact nx))
  clear hb6 hk6 HX5 HY5
  go_wp2_with (first
    | (refine wl_load_row rfl 25 _ rfl x rfl (spC k f B1 l1.length d1 B2 l2.length d2) HX6.out Try.underlying25 rfl sizeSpan ?_)
    | (refine wl_store_row rfl 25 _ _ rfl y (spC k f B1 l1.length d1 B2 l2.length d2) _ rfl rfl HY6.out sizeSpan rfl (one_spC _ _ _ _ _ _ _ _) ?_))
  intro w7 hb7 hk7
  have HO7 := Lib.hid (HO6.out.keep hk7 (fun z a b e => by have := S4.out; omega))
  have HOa7 := Lib.hid (HOa6.out.keep hk7 (fun z a b e => by omega))
  have K7 := Lib.hid (K6.out.new hk7 (by rintro x rfl; have := K1.out.size; omega))
  have HY7 := Lib.hid hb7
  have S2 := Lib.hid K2.out.size
  have LT := Lib.hid (fun x hx hx2 => show False by have h1 := (HO4.out.one (x := x) hx).2; have h2 := (HO5.out.one (x := x) hx2).1; omega)
  clear hb7 hk7
  go_wp2
  try simp only [Exit.inBlock, Exit.then]
  refine bodyPost_ret (results_cell_row rfl _ w7 y 25 _ (0, 0) _ rfl HY7.out Try.underlying25 rfl sizeSpan) rfl ?_
  exact ⟨B1, d1, B2, d2, rfl, HOa7.out.low S2.out, HO7.out.low (Nat.le_trans S2.out S4.out), LT.out, K7.out⟩
set_option maxRecDepth 100000 in
set_option maxHeartbeats 800000 in
theorem lrec_any (r : RecM) (A1 A2 : Option Addr) (c1 c2 : Nat) (w : World) (h1 : RdB w A1 r.old) (h3 : RdB w A2 r.new) (e1 : r.old.length ≤ 1000000) (e2 : r.new.length ≤ 1000000) :
    Calls Try.prog 8 #[.agg (recC r A1 c1 A2 c2)] w fun e w' => ∃ B1 d1 B2 d2, e = .returned (.agg (recC r B1 d1 B2 d2)) ∧ LentV w' w.heap.size (.slice B1 r.old.length d1) r.old ∧ LentV w' w.heap.size (.slice B2 r.new.length d2) r.new ∧
      (∀ x, (Value.slice B1 r.old.length d1).ownBlock = some x → (Value.slice B2 r.new.length d2).ownBlock = some x → False) ∧ Kept (fun _ => False) w w' := by
  have HS := Lib.hid (fun (wz : World) (hz : Kept (fun _ => False) w wz) => lspan_any r.blk r.off A1 A2 c1 c2 r.old r.new wz (h1.kept hz (fun _ _ _ _ => id)) (h3.kept hz (fun _ _ _ _ => id)) e1 e2)
  clear h1 h3
  go_enter Try.func8, Try.ntmps8
  go_wp2_with (refine wl_box rfl 27 _ rfl (.agg (recC r A1 c1 A2 c2)) rfl ?_)
  intro x w1 nx mx hx kx
  have HX1 := Lib.hid (show w1.heap[x]? = some (.cells (recC r A1 c1 A2 c2) 27 (0, 0)) from hx)
  have K1 := Lib.hid kx
  clear hx kx
  go_wp2_with (refine wl_alloc' rfl 27 rfl zRecC zeroRec ?_)
  intro y w2 ny my hy ky
  have HY2 := Lib.hid hy
  have HX2 := Lib.hid (ky.heap HX1.out id)
  have K2 := Lib.hid (K1.out.trans0 ky)
  have XL := Lib.hid (heap_lt HX1.out)
  clear hy ky HX1
  go_wp2_with (refine wl_load_mid rfl 25 _ rfl x 6 rfl (spC r.blk r.off A1 r.old.length c1 A2 r.new.length c2) (cells_mid HX2.out 6 _ (span_mid r A1 c1 A2 c2)) Try.underlying25 rfl sizeSpan ?_)
  refine (HS.out _ K2.out).mono ?_
  rintro e w3 ⟨B1, d1, B2, d2, rfl, ho1, ho2, hap, hk3⟩
  have HO1 := Lib.hid ho1
  have HO2 := Lib.hid ho2
  have HAP := Lib.hid hap
  have HX3 := Lib.hid (hk3.heap HX2.out id)
  have HY3 := Lib.hid (hk3.heap HY2.out id)
  have K3 := Lib.hid (K2.out.trans0 hk3)
  clear ho1 ho2 hap hk3 HX2 HY2
  go_wp2_with (refine wl_store_midQ rfl 25 _ _ rfl x 6 (spC r.blk r.off B1 r.old.length d1 B2 r.new.length d2) (recC r A1 c1 A2 c2) rfl rfl HX3.out sizeSpan (by show 6 + 4 ≤ 10; decide) (by simp [spC, Value.oneCell']) ?_)
  intro w4 hb4 hk4
  have HX4 := Lib.hid (show w4.heap[x]? = some (.cells (recC r B1 d1 B2 d2) 27 (0, 0)) from hb4)
  have HY4 := Lib.hid (hk4.heap HY3.out (by have := XL.out; omega))
  have HOa := Lib.hid (HO1.out.keep hk4 (fun z a b e => by have := XL.out; omega))
  have HOb := Lib.hid (HO2.out.keep hk4 (fun z a b e => by have := XL.out; omega))
  have K4 := Lib.hid (K3.out.new hk4 (by rintro x rfl; exact nx))
  clear hb4 hk4 HX3 HY3
  go_wp2_with (first
    | (refine wl_load_row rfl 27 _ rfl x rfl (recC r B1 d1 B2 d2) HX4.out Try.underlying27 rfl sizeRec ?_)
    | (refine wl_store_row rfl 27 _ _ rfl y (recC r B1 d1 B2 d2) _ rfl rfl HY4.out sizeRec rfl (one_recC _ _ _ _ _) ?_))
  intro w7 hb7 hk7
  have HOa7 := Lib.hid (HOa.out.keep hk7 (fun z a b e => by omega))
  have HOb7 := Lib.hid (HOb.out.keep hk7 (fun z a b e => by omega))
  have K7 := Lib.hid (K4.out.new hk7 (by rintro x rfl; have := K1.out.size; omega))
  have HY7 := Lib.hid hb7
  have S2 := Lib.hid K2.out.size
  clear hb7 hk7
  go_wp2
  try simp only [Exit.inBlock, Exit.then]
  refine bodyPost_ret (results_cell_row rfl _ w7 y 27 _ (0, 0) _ rfl HY7.out Try.underlying27 rfl sizeRec) rfl ?_
  exact ⟨B1, d1, B2, d2, rfl, HOa7.out.low S2.out, HOb7.out.low S2.out, HAP.out, K7.out⟩
theorem keptV_any (A : Option Addr) (c : Nat) (B : Option Addr) (d base : Nat) (l : Bytes) (w : World) (h : RdB w A l) (ho : LentV w base (.slice B l.length d) l) (hl : l.length ≤ 1000000) :
    Calls Try.prog 17 #[.slice B l.length d, .slice A l.length c] w fun e w' => e = .returned (.bool true) ∧ Kept (fun _ => False) w w' := by
  obtain ⟨g, cap, e, ho⟩ := ho
  cases e
  refine (keptB_any A g base d c l w h ho hl).mono ?_
  rintro e w' ⟨rfl, hs⟩
  exact ⟨rfl, hs.kept _⟩
set_option maxRecDepth 100000 in
set_option maxHeartbeats 800000 in
theorem kspan_any (k f : Int) (A1 A2 B1 B2 : Option Addr) (c1 c2 d1 d2 base : Nat) (l1 l2 : Bytes) (w : World) (h1 : RdB w A1 l1) (h2 : LentV w base (.slice B1 l1.length d1) l1) (h3 : RdB w A2 l2) (h4 : LentV w base (.slice B2 l2.length d2) l2) (e1 : l1.length ≤ 1000000) (e2 : l2.length ≤ 1000000) :
    Calls Try.prog 50 #[.agg (spC k f B1 l1.length d1 B2 l2.length d2), .agg (spC k f A1 l1.length c1 A2 l2.length c2)] w fun e w' => e = .returned (.bool true) ∧ Kept (fun _ => False) w w' := by
  have HS := Lib.hid (fun (wz : World) (hz : Kept (fun _ => False) w wz) => sspan_any k f B1 B2 A1 A2 d1 d2 c1 c2 l1 l2 wz ((h2.keep hz (fun _ _ _ => id)).rd) (h1.kept hz (fun _ _ _ _ => id)) ((h4.keep hz (fun _ _ _ => id)).rd) (h3.kept hz (fun _ _ _ _ => id)) e1 e2)
  have H1 := Lib.hid (fun (wz : World) (hz : Kept (fun _ => False) w wz) => keptV_any A1 c1 B1 d1 base l1 wz (h1.kept hz (fun _ _ _ _ => id)) (h2.keep hz (fun _ _ _ => id)) e1)
  have H2 := Lib.hid (fun (wz : World) (hz : Kept (fun _ => False) w wz) => keptV_any A2 c2 B2 d2 base l2 wz (h3.kept hz (fun _ _ _ _ => id)) (h4.keep hz (fun _ _ _ => id)) e2)
  clear h1 h2 h3 h4
  go_enter Try.func50, Try.ntmps50
  go_wp2_with (refine wl_box rfl 25 _ rfl (.agg (spC k f B1 l1.length d1 B2 l2.length d2)) rfl ?_)
  intro px w1 npx mpx hpx kpx
  have HX1 := Lib.hid (show w1.heap[px]? = some (.cells (spC k f B1 l1.length d1 B2 l2.length d2) 25 (0, 0)) from hpx)
  have K1 := Lib.hid kpx
  clear hpx kpx
  go_wp2_with (refine wl_box rfl 25 _ rfl (.agg (spC k f A1 l1.length c1 A2 l2.length c2)) rfl ?_)
  intro py w2 npy mpy hpy kpy
  have HY2 := Lib.hid (show w2.heap[py]? = some (.cells (spC k f A1 l1.length c1 A2 l2.length c2) 25 (0, 0)) from hpy)
  have HX2 := Lib.hid (kpy.heap HX1.out id)
  have K2 := Lib.hid (K1.out.trans0 kpy)
  clear hpy kpy
  go_wp2_with (first
    | (refine wl_load_row rfl 25 _ rfl px rfl (spC k f B1 l1.length d1 B2 l2.length d2) HX2.out Try.underlying25 rfl sizeSpan ?_)
    | (refine wl_load_row rfl 25 _ rfl py rfl (spC k f A1 l1.length c1 A2 l2.length c2) HY2.out Try.underlying25 rfl sizeSpan ?_))
  refine (HS.out _ K2.out).mono ?_
  rintro e w3 ⟨rfl, hk3⟩
  have HX3 := Lib.hid (hk3.heap HX2.out id)
  have HY3 := Lib.hid (hk3.heap HY2.out id)
  have K3 := Lib.hid (K2.out.trans0 hk3)
  have x2 : w3.cell? ⟨px, 2, none⟩ = some (.slice B1 l1.length d1) := cell_blk HX3.out rfl
  have y2 : w3.cell? ⟨py, 2, none⟩ = some (.slice A1 l1.length c1) := cell_blk HY3.out rfl
  clear hk3
  go_wp2_with fail
  refine (H1.out _ K3.out).mono ?_
  rintro e w4 ⟨rfl, hk4⟩
  have K4 := Lib.hid (K3.out.trans0 hk4)
  have x3 : w4.cell? ⟨px, 3, none⟩ = some (.slice B2 l2.length d2) := cell_blk (hk4.heap HX3.out id) rfl
  have y3 : w4.cell? ⟨py, 3, none⟩ = some (.slice A2 l2.length c2) := cell_blk (hk4.heap HY3.out id) rfl
  clear hk4 x2 y2
  go_wp2_with fail
  refine (H2.out _ K4.out).mono ?_
  rintro e w5 ⟨rfl, hk5⟩
  have K5 := Lib.hid (K4.out.trans0 hk5)
  clear hk5
  go_wp2
  go_ret
  exact ⟨rfl, K5.out⟩
set_option maxRecDepth 100000 in
set_option maxHeartbeats 800000 in
theorem krec_any (r : RecM) (A1 A2 B1 B2 : Option Addr) (c1 c2 d1 d2 base : Nat) (w : World) (h1 : RdB w A1 r.old) (h2 : LentV w base (.slice B1 r.old.length d1) r.old) (h3 : RdB w A2 r.new) (h4 : LentV w base (.slice B2 r.new.length d2) r.new) (e1 : r.old.length ≤ 1000000) (e2 : r.new.length ≤ 1000000) :
    Calls Try.prog 15 #[.agg (recC r B1 d1 B2 d2), .agg (recC r A1 c1 A2 c2)] w fun e w' => e = .returned (.bool true) ∧ Kept (fun _ => False) w w' := by
  have HS := Lib.hid (fun (wz : World) (hz : Kept (fun _ => False) w wz) => srec_any r B1 B2 A1 A2 d1 d2 c1 c2 wz ((h2.keep hz (fun _ _ _ => id)).rd) (h1.kept hz (fun _ _ _ _ => id)) ((h4.keep hz (fun _ _ _ => id)).rd) (h3.kept hz (fun _ _ _ _ => id)) e1 e2)
  have H1 := Lib.hid (fun (wz : World) (hz : Kept (fun _ => False) w wz) => kspan_any r.blk r.off A1 A2 B1 B2 c1 c2 d1 d2 base r.old r.new wz (h1.kept hz (fun _ _ _ _ => id)) (h2.keep hz (fun _ _ _ => id)) (h3.kept hz (fun _ _ _ _ => id)) (h4.keep hz (fun _ _ _ => id)) e1 e2)
  clear h1 h2 h3 h4
  go_enter Try.func15, Try.ntmps15
  go_wp2_with (refine wl_box rfl 27 _ rfl (.agg (recC r B1 d1 B2 d2)) rfl ?_)
  intro px w1 npx mpx hpx kpx
  have HX1 := Lib.hid (show w1.heap[px]? = some (.cells (recC r B1 d1 B2 d2) 27 (0, 0)) from hpx)
  have K1 := Lib.hid kpx
  clear hpx kpx
  go_wp2_with (refine wl_box rfl 27 _ rfl (.agg (recC r A1 c1 A2 c2)) rfl ?_)
  intro py w2 npy mpy hpy kpy
  have HY2 := Lib.hid (show w2.heap[py]? = some (.cells (recC r A1 c1 A2 c2) 27 (0, 0)) from hpy)
  have HX2 := Lib.hid (kpy.heap HX1.out id)
  have K2 := Lib.hid (K1.out.trans0 kpy)
  clear hpy kpy
  go_wp2_with (first
    | (refine wl_load_row rfl 27 _ rfl px rfl (recC r B1 d1 B2 d2) HX2.out Try.underlying27 rfl sizeRec ?_)
    | (refine wl_load_row rfl 27 _ rfl py rfl (recC r A1 c1 A2 c2) HY2.out Try.underlying27 rfl sizeRec ?_))
  refine (HS.out _ K2.out).mono ?_
  rintro e w3 ⟨rfl, hk3⟩
  have HX3 := Lib.hid (hk3.heap HX2.out id)
  have HY3 := Lib.hid (hk3.heap HY2.out id)
  have K3 := Lib.hid (K2.out.trans0 hk3)
  obtain ⟨x0, x1, x2, x3, x4, x5, x6, x7, x8, x9⟩ := recAt_of HX3.out
  obtain ⟨y0, y1, y2, y3, y4, y5, y6, y7, y8, y9⟩ := recAt_of HY3.out
  clear hk3
  go_wp2_with (first
    | (refine wl_load_mid rfl 25 _ rfl px 6 rfl (spC r.blk r.off B1 r.old.length d1 B2 r.new.length d2) (cells_mid HX3.out 6 _ (span_mid r B1 d1 B2 d2)) Try.underlying25 rfl sizeSpan ?_)
    | (refine wl_load_mid rfl 25 _ rfl py 6 rfl (spC r.blk r.off A1 r.old.length c1 A2 r.new.length c2) (cells_mid HY3.out 6 _ (span_mid r A1 c1 A2 c2)) Try.underlying25 rfl sizeSpan ?_))
  refine (H1.out _ K3.out).mono ?_
  rintro e w4 ⟨rfl, hk4⟩
  have K4 := Lib.hid (K3.out.trans0 hk4)
  clear hk4
  go_wp2
  go_ret
  exact ⟨rfl, K4.out⟩
end Go.Proofs.Ytbolbddjmmfepaa
