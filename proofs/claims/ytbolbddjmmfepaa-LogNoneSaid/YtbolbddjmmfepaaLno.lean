/-
  No statement is proved here: a log that isn't there; parchmentlaw10.LogNone.
-/
import Derived.Test.YtbolbddjmmfepaaSr
namespace Go.Proofs.Ytbolbddjmmfepaa
open Go.RowKit

def zLogC : Array Value := #[.pointer none, .int .i64 0, .int .i64 0, .int .i64 0, .int .i64 0, .int .i64 0, .int .i64 0, .slice none 0 0, .slice none 0 0, .int .i64 0]
/-- No log, or one that nobody made. -/
def NoLog (w : World) (v : Value) : Prop := v = .pointer none ∨ ∃ q, v = .pointer (some ⟨q, 0, none⟩) ∧ w.heap[q]? = some (.cells zLogC 47 (0, 0))
theorem NoLog.keep {w w' : World} {v : Value} (h : NoLog w v) (hk : Kept (fun _ => False) w w') : NoLog w' v := by
  rcases h with h | ⟨q, h1, h2⟩
  · exact .inl h
  · exact .inr ⟨q, h1, hk.heap h2 id⟩
theorem there_no (w : World) (v : Value) (h : NoLog w v) : Calls Try.prog 55 #[v] w fun e w' => e = .returned (.bool false) ∧ w = w' := by
  rcases h with rfl | ⟨q, rfl, h⟩
  · go_enter Try.func55, Try.ntmps55
    go_wp2
    go_ret
    exact ⟨rfl, rfl⟩
  · have c0 : w.cell? ⟨q, 0, none⟩ = some (.pointer none) := cell_blk h rfl
    clear h
    go_enter Try.func55, Try.ntmps55
    go_wp2
    go_ret
    exact ⟨rfl, rfl⟩
theorem append_no (w : World) (v : Value) (h : NoLog w v) (r : RecM) (A1 : Option Addr) (c1 : Nat) (A2 : Option Addr) (c2 : Nat) : Calls Try.prog 22 #[v, .agg (recC r A1 c1 A2 c2)] w fun e w' => e = .returned (.tuple #[.int .i64 0, .int .i64 1]) ∧ Kept (fun _ => False) w w' := by
  have H := Lib.hid h
  clear h
  go_enter Try.func22, Try.ntmps22
  go_wp2_with (refine wl_box rfl 27 _ rfl (.agg (recC r A1 c1 A2 c2)) rfl ?_)
  intro y w1 y1 y2 hb1 hk1
  have HT := Lib.hid (there_no w1 v (H.out.keep hk1))
  have HK := Lib.hid hk1
  clear hb1 hk1
  go_wp2_with (go_at_call 55; refine HT.out.mono ?_; rintro e wx ⟨rfl, rfl⟩)
  go_ret2
  exact ⟨rfl, HK.out⟩
theorem read_no' (w : World) (v : Value) (h : NoLog w v) (n : Int) : Calls Try.prog 23 #[v, .int .i64 n] w fun e w' => e = .returned (.tuple #[.agg zRecC, .int .i64 1]) ∧ Kept (fun _ => False) w w' := by
  have H := Lib.hid h
  have B0 := bR0'
  clear h
  go_enter Try.func23, Try.ntmps23
  go_wp2_with (refine wl_alloc' rfl 27 rfl zRecC zeroRec ?_)
  intro y w1 y1 y2 hb1 hk1
  have HT := Lib.hid (there_no w1 v (H.out.keep hk1))
  have HY := Lib.hid hb1
  have HK := Lib.hid hk1
  clear hb1 hk1
  go_wp2_with fail
  refine HT.out.mono ?_
  rintro e wx ⟨rfl, rfl⟩
  go_wp2_with (refine wl_store_row rfl 27 _ _ rfl y zRecC _ rfl rfl HY.out sizeRec rfl (one_recC _ _ _ _ _) ?_)
  intro w2 hb2 hk2
  have HK2 := Lib.hid (HK.out.new hk2 (by rintro x rfl; exact y1))
  have HY2 := Lib.hid hb2
  clear hb2 hk2
  go_wp2
  try simp only [Exit.inBlock, Exit.then]
  refine bodyPost_ret (results_cell_r2 rfl _ _ y _ rfl HY2.out Try.underlying27 rfl sizeRec) rfl ?_
  exact ⟨rfl, HK2.out⟩
set_option maxRecDepth 100000 in
theorem force_no (w : World) (v : Value) (h : NoLog w v) : Calls Try.prog 24 #[v] w fun e w' => e = .returned (.int .i64 1) ∧ w = w' := by
  have HT := Lib.hid (there_no w v h)
  clear h
  go_enter Try.func24, Try.ntmps24
  go_wp2_with (go_at_call 55; refine HT.out.mono ?_; rintro e wx ⟨rfl, rfl⟩)
  go_ret
  exact ⟨rfl, rfl⟩
theorem trim_no (w : World) (v : Value) (h : NoLog w v) (n : Int) : Calls Try.prog 25 #[v, .int .i64 n] w fun e w' => e = .returned (.int .i64 1) ∧ w = w' := by
  have HT := Lib.hid (there_no w v h)
  clear h
  go_enter Try.func25, Try.ntmps25
  go_wp2_with (go_at_call 55; refine HT.out.mono ?_; rintro e wx ⟨rfl, rfl⟩)
  go_ret
  exact ⟨rfl, rfl⟩
theorem from_no (w : World) (v : Value) (h : NoLog w v) (n : Int) : Calls Try.prog 26 #[v, .int .i64 n] w fun e w' => e = .returned (.slice none 0 0) ∧ w = w' := by
  have HT := Lib.hid (there_no w v h)
  clear h
  go_enter Try.func26, Try.ntmps26
  go_wp2_with (go_at_call 55; refine HT.out.mono ?_; rintro e wx ⟨rfl, rfl⟩)
  go_ret
  exact ⟨rfl, rfl⟩
theorem oldest_no (w : World) (v : Value) (h : NoLog w v) : Calls Try.prog 27 #[v] w fun e w' => e = .returned (.int .i64 0) ∧ w = w' := by
  have HT := Lib.hid (there_no w v h)
  clear h
  go_enter Try.func27, Try.ntmps27
  go_wp2_with (go_at_call 55; refine HT.out.mono ?_; rintro e wx ⟨rfl, rfl⟩)
  go_ret
  exact ⟨rfl, rfl⟩
theorem end_no (w : World) (v : Value) (h : NoLog w v) : Calls Try.prog 28 #[v] w fun e w' => e = .returned (.int .i64 0) ∧ w = w' := by
  have HT := Lib.hid (there_no w v h)
  clear h
  go_enter Try.func28, Try.ntmps28
  go_wp2_with (go_at_call 55; refine HT.out.mono ?_; rintro e wx ⟨rfl, rfl⟩)
  go_ret
  exact ⟨rfl, rfl⟩
theorem safe_no (w : World) (v : Value) (h : NoLog w v) : Calls Try.prog 29 #[v] w fun e w' => e = .returned (.int .i64 0) ∧ w = w' := by
  have HT := Lib.hid (there_no w v h)
  clear h
  go_enter Try.func29, Try.ntmps29
  go_wp2_with (go_at_call 55; refine HT.out.mono ?_; rintro e wx ⟨rfl, rfl⟩)
  go_ret
  exact ⟨rfl, rfl⟩
theorem room_no (w : World) (v : Value) (h : NoLog w v) : Calls Try.prog 30 #[v] w fun e w' => e = .returned (.int .i64 0) ∧ w = w' := by
  have HT := Lib.hid (there_no w v h)
  clear h
  go_enter Try.func30, Try.ntmps30
  go_wp2_with (go_at_call 55; refine HT.out.mono ?_; rintro e wx ⟨rfl, rfl⟩)
  go_ret
  exact ⟨rfl, rfl⟩
theorem bLog0 (wz : World) : (Instr.build 47 #[]).run Try.prog wz = .ok (.agg zLogC) wz := run_build wz _ _ _ (by kernel_rfl)
theorem kept_of_same {P : Program} {f : FuncId} {args : Array Value} {w : World} {v : Ending} (h : Calls P f args w fun e w' => e = v ∧ w = w') : Calls P f args w fun e w' => e = v ∧ Kept (fun _ => False) w w' :=
  h.mono fun e w' h => ⟨h.1, by rw [← h.2]; exact Kept.refl _ _⟩
theorem class_anyL (w : World) : ∃ (T : Type) (f : T → World) (_ : Nonempty T), (∃ n, w.drew = f n) ∧ (∀ n wx, Kept (fun _ => False) (f n) wx → ∃ m, wx = f m) ∧ (∀ n, Kept (fun _ => False) w (f n)) :=
  ⟨{ x : World // Kept (fun _ => False) w x }, fun x => x.1, ⟨⟨w, Kept.refl _ _⟩⟩, ⟨⟨w.drew, (Kept.refl _ _).drew⟩, rfl⟩, fun n wx hx => ⟨⟨wx, n.2.trans0 hx⟩, rfl⟩, fun n => n.2⟩
theorem wp_region_quiet_clsL {P : Program} {C : World → Prop} {id : Nat} {Q : Exit → Act → World → Prop} {a : Act} {w : World} {l : List Oper} (hm : P.follows .mixedOrders = true) (hB : Region.lexB .any l.toArray = true) (hC : C w.drew)
    (h : wpQuiet P l.toArray C (fun a' => ∀ w', C w' → Q .normal a' w') l a) : (Code.region id l.toArray true).wp P Q a w :=
  wp_region_quiet (C := C) hm hB hC (by simpa using h)
/-- A load of a struct, in a region whose operations only read. -/
theorem wq_load_midL {P : Program} {ops : Array Oper} {C : World → Prop} {Q : Act → Prop} {a : Act} {o : Oper} {rest : List Oper} (hw : Region.wanted o (yielded ops a.tmps) = true) (t : TypeId) (x : Operand) (ho : o.op = .load t x) (b off : Nat) (hx : a.eval x = .pointer (some ⟨b, off, none⟩)) (cs : Array Value)
    (hc : ∀ w, C w → ∀ (j : Nat) v, cs[j]? = some v → w.cell? ⟨b, off + j, none⟩ = some v) {d : TypeDesc} (hu : P.underlying t = some d) (hd : (match d with | .struct _ | .array _ _ => true | _ => false) = true) (hi : (P.info? t).map (·.size) = some cs.size)
    (k : wpQuiet P ops C Q rest (a.put o.dst (.agg cs))) : wpQuiet P ops C Q (o :: rest) a := by
  show if Region.wanted o (yielded ops a.tmps) = true then _ else _
  rw [if_pos hw]
  refine ⟨.agg cs, fun w hC => ?_, k⟩
  unfold Oper.quietAt
  simp only [execOp, ho, hx, Sem.run_bind, run_loadAt_cells t b off cs (hc w hC) hu hd hi, Result.andThen_ok]
  exact ⟨rfl, rfl⟩
set_option maxRecDepth 100000 in
set_option maxHeartbeats 3200000 in
theorem logNone_any (r : RecM) (A1 : Option Addr) (c1 : Nat) (A2 : Option Addr) (c2 : Nat) (lsn : Int) (w : World) :
    Calls Try.prog 5 #[.agg (recC r A1 c1 A2 c2), .int .i64 lsn] w fun e w' => e = .returned (.bool true) ∧ Kept (fun _ => False) w w' := by
  have BL := bLog0
  have B0 := bR0'
  go_enter Try.func5, Try.ntmps5
  go_wp2_with (refine wl_box rfl 27 _ rfl (.agg (recC r A1 c1 A2 c2)) rfl ?_)
  intro y w1 y1 y2 hb1 hk1
  have HY := Lib.hid hb1
  have HK1 := Lib.hid hk1
  clear hb1 hk1
  go_wp2_with fail
  refine (awake_any w1).mono ?_
  rintro e w2 ⟨rfl, hk2⟩
  have HK2 := Lib.hid (HK1.out.trans0 hk2)
  have HY2 := Lib.hid (hk2.heap HY.out id)
  clear hk2
  go_wp2_with (refine wl_box rfl 47 _ rfl (.agg zLogC) rfl ?_)
  intro z w3 z1 z2 hb3 hk3
  have HZ3 := Lib.hid (show w3.heap[z]? = some (.cells zLogC 47 (0, 0)) from hb3)
  have HK3 := Lib.hid (HK2.out.trans0 hk3)
  have HY3 := Lib.hid (hk3.heap HY2.out id)
  clear hb3 hk3 BL
  go_wp2_with fail
  obtain ⟨w4, hw4⟩ : ∃ w4, w4 = w3.alloc (.cells #[.pointer none, .pointer (some ⟨z, 0, none⟩)] 43) := ⟨_, rfl⟩
  have hk4 : Kept (fun _ => False) w3 w4 := by rw [hw4]; exact (Kept.refl _ w3).alloc _
  have HR4 := Lib.hid (show w4.heap[w3.heap.size]? = some (.cells #[.pointer none, .pointer (some ⟨z, 0, none⟩)] 43 (0, 0)) from by rw [hw4]; exact heap_alloc_new w3 _)
  have HZ4 := Lib.hid (hk4.heap HZ3.out id)
  have HK4 := Lib.hid (HK3.out.trans0 hk4)
  have HY4 := Lib.hid (hk4.heap HY3.out id)
  rw [← hw4]
  generalize w3.heap.size = gr at HR4
  clear hw4 hk4
  go_loopw [6] (fun i wr => ∃ k : Nat, k ≤ 2 ∧ i = .int .i64 k ∧ Kept (fun _ => False) w4 wr) (fun i wr => 2 - (intOf i).toNat)
  case atStart => exact ⟨0, by omega, rfl, Kept.refl _ _⟩
  case round =>
    obtain ⟨k, hk2, rfl, hkr⟩ := hrel
    have HKr := Lib.hid hkr
    clear hkr
    by_cases hlt : k < 2
    · have i1 : (k : Int) < 2 := by omega
      obtain ⟨v, hcv, hno⟩ : ∃ v, w4.cell? ⟨gr, k, none⟩ = some v ∧ NoLog w4 v := by
        match k, hlt with
        | 0, _ => exact ⟨.pointer none, cell_blk HR4.out rfl, .inl rfl⟩
        | 1, _ => exact ⟨.pointer (some ⟨z, 0, none⟩), cell_blk HR4.out rfl, .inr ⟨z, rfl, HZ4.out⟩⟩
      have HCV := Lib.hid (fun (w' : World) (hk : Kept (fun _ => False) w4 w') => (World.cell?_of_block (hk.block gr (block_lt_of_cell hcv) id)).trans hcv)
      have HNO := Lib.hid hno
      clear hcv hno
      go_wp2_with fail
      refine startL 10 (fun w' => Kept (fun _ => False) w4 w') (by kernel_rfl) HKr.out.drew (fun hH => ?_)
      simp only [List.length_cons, List.length_nil, List.replicate]
      refine takeL 0 ?_ rfl (by kernel_rfl) (fun _ _ _ h => h) (by rfl) (fun w' hw' => ?_) hH ?_
      rotate_left
      · have cv : w'.cell? ⟨gr, k, none⟩ = some v := HCV.out w' hw'
        go_simp
        all_goals with_reducible rfl
      simp only [Act.put, List.setIfInBounds_toArray, List.set_cons_zero, List.set_cons_succ]
      refine takeL 1 ?_ rfl (by kernel_rfl) (fun _ _ _ h => h) (by rfl) (fun w' hw' => ?_) hH ?_
      rotate_left
      · have cv : w'.cell? ⟨gr, k, none⟩ = some v := HCV.out w' hw'
        go_simp
        all_goals with_reducible rfl
      simp only [Act.put, List.setIfInBounds_toArray, List.set_cons_zero, List.set_cons_succ]
      refine takeL 2 ?_ rfl (by kernel_rfl) (fun _ _ _ h => h) (by rfl) (fun w' hw' => ?_) hH ?_
      rotate_left
      · have cv : w'.cell? ⟨gr, k, none⟩ = some v := HCV.out w' hw'
        go_simp
        all_goals with_reducible rfl
      simp only [Act.put, List.setIfInBounds_toArray, List.set_cons_zero, List.set_cons_succ]
      refine takeL 3 ?_ rfl (by kernel_rfl) (fun _ _ _ h => h) (by rfl) (fun w' hw' => ?_) hH ?_
      rotate_left
      · have cv : w'.cell? ⟨gr, k, none⟩ = some v := HCV.out w' hw'
        go_simp
        all_goals with_reducible rfl
      simp only [Act.put, List.setIfInBounds_toArray, List.set_cons_zero, List.set_cons_succ]
      refine takeL 4 (.agg (recC r A1 c1 A2 c2)) rfl (by kernel_rfl) (fun _ _ _ h => h) (by rfl) (fun w' hw' => exec_load_row 27 _ rfl y rfl (recC r A1 c1 A2 c2) (hw'.heap HY4.out id) Try.underlying27 rfl sizeRec) hH ?_
      simp only [Act.put, List.setIfInBounds_toArray, List.set_cons_zero, List.set_cons_succ]
      refine stepL 5 rfl (by kernel_rfl) (fun K hK => ?_)
      go_simp
      refine (append_no _ v (HNO.out.keep HKr.out.drew) r A1 c1 A2 c2).mono ?_
      rintro e w5 ⟨rfl, hk5⟩
      have HK5 := Lib.hid (HKr.out.drew.trans0 hk5)
      clear hk5
      go_simp
      refine hK.out _ _ (fun _ => HK5.out) (fun hH => ?_)
      simp only [List.setIfInBounds_toArray, List.set_cons_zero, List.set_cons_succ]
      clear hK K
      refine stepL 6 rfl (by kernel_rfl) (fun K hK => ?_)
      go_simp
      refine hK.out _ _ (fun _ => HK5.out) (fun hH => ?_)
      simp only [List.setIfInBounds_toArray, List.set_cons_zero, List.set_cons_succ]
      clear hK K
      refine takeL 7 ?_ rfl (by kernel_rfl) (fun _ _ _ h => h) (by rfl) (fun w' hw' => ?_) HK5.out ?_
      rotate_left
      · skip
        go_simp
        all_goals with_reducible rfl
      simp only [Act.put, List.setIfInBounds_toArray, List.set_cons_zero, List.set_cons_succ]
      refine takeL 8 ?_ rfl (by kernel_rfl) (fun _ _ _ h => h) (by rfl) (fun w' hw' => ?_) HK5.out ?_
      rotate_left
      · skip
        go_simp
        all_goals with_reducible rfl
      simp only [Act.put, List.setIfInBounds_toArray, List.set_cons_zero, List.set_cons_succ]
      refine stepL 9 rfl (by kernel_rfl) (fun K hK => ?_)
      go_simp
      refine hK.out _ _ (fun _ => HK5.out) (fun hH => ?_)
      simp only [List.setIfInBounds_toArray, List.set_cons_zero, List.set_cons_succ]
      clear hK K
      refine stepL 10 rfl (by kernel_rfl) (fun K hK => ?_)
      go_simp
      refine hK.out _ _ (fun h => absurd rfl h) (fun hH => ?_)
      simp only [List.setIfInBounds_toArray, List.set_cons_zero, List.set_cons_succ]
      clear hK K
      refine doneL (by kernel_rfl) ?_ _
      have cv5 : w5.cell? ⟨gr, k, none⟩ = some v := HCV.out w5 HK5.out
      go_wp2_with fail
      refine (read_no' w5 v (HNO.out.keep HK5.out) lsn).mono ?_
      rintro e w6 ⟨rfl, hk6⟩
      have HK6 := Lib.hid (HK5.out.trans0 hk6)
      clear hk6
      go_wp2_with (refine wl_alloc' rfl 27 rfl zRecC zeroRec ?_)
      intro g w7 g1 g2 hb7 hk7
      refine wl_store_row rfl 27 _ _ rfl g zRecC _ rfl rfl hb7 sizeRec rfl (one_recC _ _ _ _ _) ?_
      intro w8 hb8 hk8
      have HK8 := Lib.hid (HK6.out.trans0 (hk7.new hk8 (by rintro x rfl; exact g1)))
      have HG8 := Lib.hid hb8
      have HN8 := Lib.hid (HNO.out.keep HK8.out)
      have HCV8 := Lib.hid (fun (w' : World) (hk : Kept (fun _ => False) w8 w') => HCV.out w' (HK8.out.trans0 hk))
      have HSR := Lib.hid (show ∀ wz, Kept (fun _ => False) w8 wz → Calls Try.prog 16 #[.agg zRecC, .agg zRecC] wz fun e w' => e = .returned (.bool true) ∧ Kept (fun _ => False) wz w' from fun wz _ => srec_any zRec none none none none 0 0 0 0 wz (rd_nil _ _) (rd_nil _ _) (rd_nil _ _) (rd_nil _ _) (by decide) (by decide))
      clear hb7 hk7 hb8 hk8
      clear cv5
      go_wp2_with fail
      obtain ⟨T, f, hne, hT0, hT3, hT4⟩ := class_anyL w8
      have HT0 := Lib.hid hT0
      have HT3 := Lib.hid hT3
      have HT4 := Lib.hid hT4
      have hcv : ∀ n, (f n).cell? ⟨gr, k, none⟩ = some v := fun n => HCV8.out _ (hT4 n)
      have HHG := Lib.hid (show ∀ w, (∃ n : T, w = f n) → ∀ (j : Nat) u, zRecC[j]? = some u → w.cell? ⟨g, 0 + j, none⟩ = some u from by
        rintro _ ⟨n, rfl⟩ j u hu
        rw [Nat.zero_add]
        exact cell_blk ((hT4 n).heap HG8.out id) hu)
      have HSRf := Lib.hid (fun n => HSR.out (f n) (hT4 n))
      have HFo := Lib.hid (fun n => kept_of_same (force_no (f n) v (HN8.out.keep (hT4 n))))
      have HTr := Lib.hid (fun n => kept_of_same (trim_no (f n) v (HN8.out.keep (hT4 n)) lsn))
      have HFr := Lib.hid (fun n => kept_of_same (from_no (f n) v (HN8.out.keep (hT4 n)) lsn))
      have HOl := Lib.hid (fun n => kept_of_same (oldest_no (f n) v (HN8.out.keep (hT4 n))))
      have HEn := Lib.hid (fun n => kept_of_same (end_no (f n) v (HN8.out.keep (hT4 n))))
      have HSa := Lib.hid (fun n => kept_of_same (safe_no (f n) v (HN8.out.keep (hT4 n))))
      have HRo := Lib.hid (fun n => kept_of_same (room_no (f n) v (HN8.out.keep (hT4 n))))
      clear hT0 hT3 hT4
      refine wp_region_quiet_clsL (C := fun w' => ∃ n : T, w' = f n) (by kernel_rfl) (by kernel_rfl) HT0.out ?_
      iterate 11 (go_big_quiet_step (fail))
      refine wq_load_midL rfl 27 _ rfl g 0 rfl zRecC HHG.out Try.underlying27 rfl sizeRec ?_
      simp only [Act.put, List.setIfInBounds_toArray, List.set_cons_zero, List.set_cons_succ]
      repeat (go_big_quiet_step (first
        | (go_at_call 16; exact (HSRf.out _).mono (fun _ _ h => ⟨h.1, HT3.out _ _ h.2⟩))
        | (go_at_call 24; exact (HFo.out _).mono (fun _ _ h => ⟨h.1, HT3.out _ _ h.2⟩))
        | (go_at_call 25; exact (HTr.out _).mono (fun _ _ h => ⟨h.1, HT3.out _ _ h.2⟩))
        | (go_at_call 26; exact (HFr.out _).mono (fun _ _ h => ⟨h.1, HT3.out _ _ h.2⟩))
        | (go_at_call 27; exact (HOl.out _).mono (fun _ _ h => ⟨h.1, HT3.out _ _ h.2⟩))
        | (go_at_call 28; exact (HEn.out _).mono (fun _ _ h => ⟨h.1, HT3.out _ _ h.2⟩))
        | (go_at_call 29; exact (HSa.out _).mono (fun _ _ h => ⟨h.1, HT3.out _ _ h.2⟩))
        | (go_at_call 30; exact (HRo.out _).mono (fun _ _ h => ⟨h.1, HT3.out _ _ h.2⟩))))
      refine wpQuiet_nil ?_
      intro _ hw'
      obtain ⟨nq, hw''⟩ := hw'
      subst hw''
      have HK9 := Lib.hid (HK8.out.trans0 (HT4.out nq))
      generalize f nq = w9 at HK9 ⊢
      go_wp2
      go_roundw
      case rel => exact ⟨k + 1, by omega, by go_num, HK9.out⟩
      case measure => simp [intOf]; omega
    · have i1 : ¬ (k : Int) < 2 := by omega
      go_wp2_with fail
      refine (open_nil 0 4 1 1 _).mono ?_
      rintro e w5 ⟨rfl, rfl⟩
      go_wp2_with fail
      refine (new_ok 4 (by decide) (by decide) _).mono ?_
      rintro e w6 ⟨p, ms, mo, rfl, hd6, hk6, _, _, _⟩
      have HD6 := Lib.hid hd6
      have HK6 := Lib.hid (HKr.out.trans0 hk6)
      clear hd6 hk6
      go_wp2_with fail
      refine (open_bad w6 p ms mo _ HD6.out 0 4 1 0 (by decide)).mono ?_
      rintro e wx ⟨rfl, rfl⟩
      go_wp2_with fail
      refine (new_ok 4 (by decide) (by decide) _).mono ?_
      rintro e w7 ⟨p2, ms2, mo2, rfl, hd7, hk7, _, _, _⟩
      have HD7 := Lib.hid hd7
      have HK7 := Lib.hid (HK6.out.trans0 hk7)
      clear hd7 hk7
      go_wp2_with fail
      refine (open_bad w7 p2 ms2 mo2 _ HD7.out 0 5 1 1 (by decide)).mono ?_
      rintro e wx ⟨rfl, rfl⟩
      go_wp2
      go_ret
      exact ⟨rfl, HK4.out.trans0 HK7.out⟩
end Go.Proofs.Ytbolbddjmmfepaa
