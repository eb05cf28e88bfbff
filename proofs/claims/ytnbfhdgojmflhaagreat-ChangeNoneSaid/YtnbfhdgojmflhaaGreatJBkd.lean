/-
  No statement is proved here: a part of what the claim's last text rests on.
-/
import Derived.Test.YtnbfhdgojmflhaaGreatJBkc
import Derived.Test.YtnbfhdgojmflhaaGreatJGw
import Derived.Laws.ResultCell
import Derived.Laws.Rows
namespace Go.Proofs.YtnbfhdgojmflhaaGreat
open Go.RowKit
section
variable {P : Program} {ops : Array Oper} {Q : Exit → Act → World → Prop} {md : Region.Mode} {S : World → Prop} {last : Nat}
theorem forkB (i j : Nat) {l : List Oper} {oi oj : Oper} {fuel : Nat} {listed : Array Bool} {a : Act} {w : World} (hi : atL l i = some oi) (hj : atL l j = some oj) (hr : Region.ready md l.toArray listed = [i, j])
    (h1 : ∀ K' : Act → World → Prop, RowKit.Hid (∀ a w, (i ≠ last → S w) → ((i ≠ last → S w) → wpAnyL P md l.toArray Q S last fuel (listed.setIfInBounds i true) a w) → K' a w) → if Region.wanted oi (yielded l.toArray a.tmps) = true then Oper.wp P oi a w K' Q else K' (a.put oi.dst undef) w)
    (h2 : ∀ K' : Act → World → Prop, RowKit.Hid (∀ a w, (j ≠ last → S w) → ((j ≠ last → S w) → wpAnyL P md l.toArray Q S last fuel (listed.setIfInBounds j true) a w) → K' a w) → if Region.wanted oj (yielded l.toArray a.tmps) = true then Oper.wp P oj a w K' Q else K' (a.put oj.dst undef) w) :
    wpAnyL P md l.toArray Q S last (fuel + 1) listed a w := by
  have hi' : l.toArray[i]? = some oi := by rw [← hi, atL_spec]; simp
  have hj' : l.toArray[j]? = some oj := by rw [← hj, atL_spec]; simp
  refine ⟨fun h0 => (by rw [hr] at h0; cases h0), ?_⟩
  rw [hr]
  intro x hx
  simp only [List.mem_cons, List.not_mem_nil, or_false] at hx
  rcases hx with rfl | rfl
  · exact wpOp_step hi' (fun K' hK => h1 K' (Lib.hid (fun a w hS hW => hK a w ⟨hS, hW hS⟩)))
  · exact wpOp_step hj' (fun K' hK => h2 K' (Lib.hid (fun a w hS hW => hK a w ⟨hS, hW hS⟩)))
end
theorem results_cell_rowM {P : Program} {fn : Func} {p u : Tmp} {ty : TypeId} (h : fn.results = #[.cell p ty, .tmp u]) (tmps : Array Value) (w : World) (g : Nat) (cs : Array Value) {t : TypeId} {fr : Nat × Nat} {d : TypeDesc} (hp : tmps.getD p undef = .pointer (some ⟨g, 0, none⟩)) (hg : w.heap[g]? = some (.cells cs t fr))
    (hu : P.underlying ty = some d) (hd : (match d with | .struct _ | .array _ _ => true | _ => false) = true) (hi : (P.info? ty).map (·.size) = some cs.size) : (results fn tmps).run P w = .ok (.tuple #[.agg cs, tmps.getD u undef]) w := by
  rw [results_cell_tmp h, hp]
  simp [asAddr, Result.andThen, run_loadVar_row w g t ty cs fr d hg hu hd hi]
def zM : MasM := ⟨0, 0, 0⟩
def decM (l : Bytes) : MasM := ⟨getI (l.drop 4), getI (l.drop 12), getI (l.drop 20)⟩
def masterM (l : Bytes) (k : Int) : MasM × Bool := if ¬ (decM l).may ∨ (decM l).seq.tmod 2 ≠ k then (zM, false) else (decM l, decide (mBytes (decM l) = l))
theorem getI_isI (l : Bytes) : isI (getI l) := by
  have h := valN_lt (l.take 8)
  have h2 : (256 : Nat) ^ (l.take 8).length ≤ 256 ^ 8 := Nat.pow_le_pow_right (by decide) (by rw [List.length_take]; omega)
  unfold getI isI
  have h3 : valN (l.take 8) 0 < 256 ^ 8 := Nat.lt_of_lt_of_le h h2
  omega
theorem infoMas : (Tryz.prog.info? 62).map (fun i => (i.zero, i.size)) = some (some (.agg (masC zM)), 3) := by kernel_rfl
theorem zeroMas (w : World) : (zeroValue 62).run Tryz.prog w = .ok (.agg (masC zM)) w := (zero_of_info infoMas).1 w
theorem sizeMas : (Tryz.prog.info? 62).map (·.size) = some 3 := (zero_of_info infoMas).2
theorem one_mas (m : MasM) : (masC m).all (·.oneCell') = true := by simp [masC, Value.oneCell']
theorem bM0 (wz : World) : (Instr.build 62 #[]).run Tryz.prog wz = .ok (.agg (masC zM)) wz := run_build wz _ _ _ (by kernel_rfl)
theorem bM3 (a b c : Int) (wz : World) : (Instr.build 62 #[(0, .int .i64 a), (1, .int .i64 b), (2, .int .i64 c)]).run Tryz.prog wz = .ok (.agg #[.int .i64 a, .int .i64 b, .int .i64 c]) wz := run_build wz _ _ _ (by kernel_rfl)
theorem zeroArr3 (w : World) : (zeroValue 207).run Tryz.prog w = .ok (.agg #[.int .i64 0, .int .i64 0, .int .i64 0]) w := (zero_of_info (n := 3) (by kernel_rfl)).1 w
theorem conv_str {w : World} {A : Option Addr} {c n : Nat} {l : Bytes} (hn : l.length = n) (h : RdB w A l) (h0 : 0 < n) : (convert 26 9 (.slice A n c)).run Tryz.prog w = .ok (.string ⟨l.toArray⟩) w := by
  subst hn
  obtain ⟨b, off, rfl, -⟩ := h (by rintro rfl; simp at h0)
  have := run_convert_bytes_arg (P := Tryz.prog) w 26 5 Tryz.underlying26 Tryz.underlying5 b off l.length c (l.map fun x => (x.toNat : Int)) (by simp) (fun i hi => by
    obtain ⟨b', off', e, hc⟩ := h.cell hi
    cases e
    rw [hc, List.getD_eq_getElem?_getD, List.getElem?_map, List.getElem?_eq_getElem hi, bAt_get hi]
    rfl) 9 Tryz.underlying9
  have e : (fun n : Int => UInt8.ofNat n.toNat) ∘ (fun x : UInt8 => (x.toNat : Int)) = id := by
    funext x; simp
  have e2 : strOfNums (l.map fun x => (x.toNat : Int)) = ⟨l.toArray⟩ := by
    unfold strOfNums
    rw [List.map_map, e, List.map_id]
  rw [this, e2]
def mArr (l : Bytes) (k : Nat) : Array Value := #[.int .i64 (if 0 < k then getI (l.drop 4) else 0), .int .i64 (if 1 < k then getI (l.drop 12) else 0), .int .i64 (if 2 < k then getI (l.drop 20) else 0)]
theorem mArr_set (l : Bytes) {k : Nat} (hk : k < 3) : (mArr l k).setIfInBounds k (.int .i64 (getI (l.drop (4 + 8 * k)))) = mArr l (k + 1) := by
  rcases (show k = 0 ∨ k = 1 ∨ k = 2 by omega) with rfl | rfl | rfl <;> rfl
set_option maxRecDepth 100000 in
set_option maxHeartbeats 1600000 in
theorem master_any (A : Option Addr) (c : Nat) (l : Bytes) (k : Int) (w : World) (h : RdB w A l) (hl : l.length = 512) (hc : 512 ≤ c) (hc2 : c ≤ 9223372036854775807) :
    Calls Tryz.prog 76 #[.slice A 512 c, .int .i64 k] w fun e w' => e = .returned (.tuple #[.agg (masC (masterM l k).1), .bool (masterM l k).2]) ∧ Kept (fun _ => False) w w' := by
  obtain ⟨b, off, rfl, -⟩ := h (by rintro rfl; simp at hl)
  have H := Lib.hid h
  have HL := Lib.hid hl
  clear h hl
  have B0 := bM0
  have BA := bM3
  go_enter Tryz.func76, Tryz.ntmps76
  go_wp2_with (refine wl_alloc' rfl 62 rfl (masC zM) zeroMas ?_)
  intro pr w1 l1 m1 hb1 hk1
  have HP := Lib.hid hb1
  have HK1 := Lib.hid hk1
  clear hb1 hk1
  go_wp2_with (refine wl_alloc' rfl 207 rfl #[.int .i64 0, .int .i64 0, .int .i64 0] zeroArr3 ?_)
  intro ga w2 l2 m2 hb2 hk2
  have HG := Lib.hid (show w2.heap[ga]? = some (.cells (mArr l 0) 207 (0, 0)) from hb2)
  have HP2 := Lib.hid (hk2.heap HP.out id)
  have HK2 := Lib.hid (HK1.out.trans0 hk2)
  have hne : pr ≠ ga := by have := heap_lt HP.out; omega
  clear hb2 hk2 HP HK1
  go_wp2_with fail
  go_loopw [13] (fun i wr => ∃ j : Nat, j ≤ 3 ∧ i = .int .i64 j ∧ wr.heap[ga]? = some (.cells (mArr l j) 207 (0, 0)) ∧ wr.heap[pr]? = some (.cells (masC zM) 62 (0, 0)) ∧ Kept (fun _ => False) w wr) (fun i wr => 3 - (intOf i).toNat)
  case atStart => exact ⟨0, by omega, rfl, HG.out, HP2.out, HK2.out⟩
  case round =>
    obtain ⟨j, hj, rfl, hg, hp, hkr⟩ := hrel
    have HG := Lib.hid hg
    have HP := Lib.hid hp
    have HK := Lib.hid hkr
    clear hg hp hkr HP2 HK2
    by_cases hlt : j < 3
    · have i1 : (j : Int) < 3 := by omega
      have x1 : wrap64 (8 * (j : Int)) = 8 * (j : Int) := by unfold wrap64; omega
      have x2 : wrap64 (4 + 8 * (j : Int)) = ((4 + 8 * j : Nat) : Int) := by unfold wrap64; omega
      have hA : slA (some ⟨b, off, none⟩) (4 + 8 * j) c = some ⟨b, off + (4 + 8 * j), none⟩ := by unfold slA; rw [if_neg (by omega)]; simp [Addr.add_mid]
      have HGT := Lib.hid (getI_any (slA (some ⟨b, off, none⟩) (4 + 8 * j) c) (512 - (4 + 8 * j)) (c - (4 + 8 * j)) (l.drop (4 + 8 * j)) wr (by rw [List.length_drop, HL.out]) ((H.out.kept HK.out (fun _ _ _ _ => id)).sl _ c (by rw [HL.out]; exact hc)) (by omega))
      obtain ⟨x, hx⟩ : ∃ x, x = getI (l.drop (4 + 8 * j)) := ⟨_, rfl⟩
      rw [← hx, hA] at HGT
      have HX := Lib.hid hx
      clear hx hA
      go_wp2_with fail
      refine HGT.out.mono ?_
      rintro e wx ⟨rfl, rfl⟩
      clear HGT
      go_wp2_with (refine wl_store1 rfl _ _ _ rfl ga j (.int .i64 x) (mArr l j) rfl rfl HG.out (by kernel_rfl) (by show j < 3; omega) rfl ?_)
      intro w4 hb4 hk4
      rw [HX.out, mArr_set l hlt] at hb4
      have HG4 := Lib.hid hb4
      have HP4 := Lib.hid (hk4.heap HP.out (fun e => hne e))
      have HK4 := Lib.hid (HK.out.new hk4 (fun z hz => by subst hz; have := l2; have := l1; omega))
      clear hb4 hk4
      go_wp2
      go_roundw
      case rel => exact ⟨j + 1, by omega, by go_num, HG4.out, HP4.out, HK4.out⟩
      case measure => simp [intOf]; omega
    · have ej : j = 3 := by omega
      subst ej
      have ea : mArr l 3 = #[.int .i64 (getI (l.drop 4)), .int .i64 (getI (l.drop 12)), .int .i64 (getI (l.drop 20))] := rfl
      obtain ⟨s, t, o, hd⟩ : ∃ s t o, decM l = ⟨s, t, o⟩ := ⟨_, _, _, rfl⟩
      have hg3 := HG.out
      rw [ea] at hg3
      have q0 : getI (l.drop 4) = s := congrArg MasM.seq hd
      have q1 : getI (l.drop 12) = t := congrArg MasM.turn hd
      have q2 : getI (l.drop 20) = o := congrArg MasM.oldest hd
      have HIS := Lib.hid (show isI s ∧ isI t ∧ isI o from ⟨by rw [← q0]; exact getI_isI _, by rw [← q1]; exact getI_isI _, by rw [← q2]; exact getI_isI _⟩)
      rw [q0, q1, q2] at hg3
      have HD := Lib.hid hd
      have g0 : wr.cell? ⟨ga, 0, none⟩ = some (.int .i64 s) := cell_blk hg3 rfl
      have g1 : wr.cell? ⟨ga, 1, none⟩ = some (.int .i64 t) := cell_blk hg3 rfl
      have g2 : wr.cell? ⟨ga, 2, none⟩ = some (.int .i64 o) := cell_blk hg3 rfl
      clear hg3 q0 q1 q2 hd ea
      go_wp2_with (refine wl_alloc' rfl 62 rfl (masC zM) zeroMas ?_)
      intro gm w4 l4 m4 hb4 hk4
      refine wl_store_row rfl 62 _ _ rfl gm (masC ⟨s, t, o⟩) (masC zM) rfl rfl hb4 sizeMas rfl (one_mas _) ?_
      intro w5 hb5 hk5
      have hk45 : Kept (fun _ => False) wr w5 := hk4.new hk5 (fun z hz => by subst hz; exact l4)
      have HM5 := Lib.hid hb5
      have HP5 := Lib.hid (hk45.heap HP.out id)
      have HK5 := Lib.hid (HK.out.trans0 hk45)
      have HMY := Lib.hid (may_any12 ⟨s, t, o⟩ w5)
      have c0 : w5.cell? ⟨gm, 0, none⟩ = some (.int .i64 s) := cell_blk hb5 rfl
      have c1 : w5.cell? ⟨gm, 1, none⟩ = some (.int .i64 t) := cell_blk hb5 rfl
      have c2 : w5.cell? ⟨gm, 2, none⟩ = some (.int .i64 o) := cell_blk hb5 rfl
      have hprm : pr < gm := by have := heap_lt HP.out; omega
      clear hb4 hk4 hb5 hk5 hk45 g0 g1 g2 HG HP HK
      go_wp2_with fail
      refine HMY.out.mono ?_
      rintro e w6 ⟨rfl, hk6⟩
      have HM6 := Lib.hid (hk6.heap HM5.out id)
      have HP6 := Lib.hid (hk6.heap HP5.out id)
      have HK6 := Lib.hid (HK5.out.trans0 hk6)
      have c0 : w6.cell? ⟨gm, 0, none⟩ = some (.int .i64 s) := cell_blk HM6.out rfl
      clear hk6 HMY HM5 HP5 HK5
      have HNO := Lib.hid (show ¬ (MasM.may ⟨s, t, o⟩ ∧ s.tmod 2 = k) → masterM l k = (zM, false) from fun h => by
        unfold masterM
        rw [HD.out]
        rw [if_pos]
        by_cases hm : MasM.may ⟨s, t, o⟩
        · exact .inr (fun e => h ⟨hm, e⟩)
        · exact .inl hm)
      have HYES := Lib.hid (show MasM.may ⟨s, t, o⟩ → s.tmod 2 = k → masterM l k = (⟨s, t, o⟩, decide (mBytes ⟨s, t, o⟩ = l)) from fun h1 h2 => by
        unfold masterM
        rw [HD.out]
        rw [if_neg]
        rintro (h | h)
        · exact h h1
        · exact h h2)
      have REJ : ∀ wz, Kept (fun _ => False) w wz → wz.heap[pr]? = some (.cells (masC zM) 62 (0, 0)) → True := fun _ _ _ => trivial
      clear REJ
      by_cases hm : MasM.may ⟨s, t, o⟩
      · rw [decide_eq_true hm]
        have HMM := Lib.hid hm
        clear hm
        by_cases hs : s.tmod 2 = k
        · have hsb : (s.tmod 2 != k) = false := by rw [bne_eq_false_iff_eq]; exact hs
          have HS := Lib.hid hs
          have HMB := Lib.hid (fun wz => mbytes_any ⟨s, t, o⟩ wz HIS.out.1 HIS.out.2.1 HIS.out.2.2)
          have HS0 := Lib.hid (show (w6.drew).heap[gm]? = some (.cells (masC ⟨s, t, o⟩) 62 (0, 0)) ∧ (w6.drew).heap[pr]? = some (.cells (masC zM) 62 (0, 0)) ∧ RdB (w6.drew) (some ⟨b, off, none⟩) l from ⟨HM6.out, HP6.out, H.out.kept HK6.out.drew (fun _ _ _ _ => id)⟩)
          have HC := Lib.hid (fun (w' : World) (h : w'.heap[gm]? = some (.cells (masC ⟨s, t, o⟩) 62 (0, 0))) => show w'.cell? ⟨gm, 0, none⟩ = some (.int .i64 s) ∧ w'.cell? ⟨gm, 1, none⟩ = some (.int .i64 t) ∧ w'.cell? ⟨gm, 2, none⟩ = some (.int .i64 o) from ⟨cell_blk h rfl, cell_blk h rfl, cell_blk h rfl⟩)
          have hpg : pr ≠ gm := by omega
          go_wp2_with fail
          refine startL 8 (fun w' => w'.heap[gm]? = some (.cells (masC ⟨s, t, o⟩) 62 (0, 0)) ∧ (∃ n : MasM, w'.heap[pr]? = some (.cells (masC n) 62 (0, 0))) ∧ RdB w' (some ⟨b, off, none⟩) l) (by kernel_rfl) ⟨HS0.out.1, ⟨_, HS0.out.2.1⟩, HS0.out.2.2⟩ (fun hH => ?_)
          simp only [List.length_cons, List.length_nil, List.replicate]
          refine takeL 0 ?_ rfl (by kernel_rfl) (fun _ _ _ h => h) (by rfl) (fun w' hw' => ?_) hH ?_
          rotate_left
          · obtain ⟨c0, c1, c2⟩ := HC.out w' hw'.1
            go_simp <;> with_reducible rfl
          simp only [Act.put, oZa, oZb, oZc]
          refine takeL 1 ?_ rfl (by kernel_rfl) (fun _ _ _ h => h) (by rfl) (fun w' hw' => ?_) hH ?_
          rotate_left
          · obtain ⟨c0, c1, c2⟩ := HC.out w' hw'.1
            go_simp <;> with_reducible rfl
          simp only [Act.put, oZa, oZb, oZc]
          refine takeL 4 ?_ rfl (by kernel_rfl) (fun _ _ _ h => h) (by rfl) (fun w' hw' => ?_) hH ?_
          rotate_left
          · obtain ⟨c0, c1, c2⟩ := HC.out w' hw'.1
            go_simp <;> with_reducible rfl
          simp only [Act.put, oZa, oZb, oZc]
          refine takeL 5 ?_ rfl (by kernel_rfl) (fun _ _ _ h => h) (by rfl) (fun w' hw' => ?_) hH ?_
          rotate_left
          · have e := conv_str (c := c) HL.out hw'.2.2 (by decide)
            go_simp <;> with_reducible rfl
          simp only [Act.put, oZa, oZb, oZc]
          refine stepL 2 rfl (by kernel_rfl) (fun K hK => ?_)
          go_simp
          refine (HMB.out _).mono ?_
          rintro e w7 ⟨g7, cap7, rfl, ho7, hk7⟩
          have HS7 := Lib.hid (show w7.heap[gm]? = some (.cells (masC ⟨s, t, o⟩) 62 (0, 0)) ∧ w7.heap[pr]? = some (.cells (masC zM) 62 (0, 0)) ∧ RdB w7 (some ⟨b, off, none⟩) l from ⟨hk7.heap HS0.out.1 id, hk7.heap HS0.out.2.1 id, HS0.out.2.2.kept hk7 (fun _ _ _ _ => id)⟩)
          have HK7 := Lib.hid (HK6.out.drew.trans0 hk7)
          have HE7 := Lib.hid (fun (w' : World) (hk : Kept (fun _ => False) w7 w') => conv_str (c := cap7) (mBytes_len ⟨s, t, o⟩) (ho7.v.rd.kept hk (fun _ _ _ _ => id)) (by decide))
          have HE8 := Lib.hid (fun (w' : World) (hk : Kept (fun x => x = pr) w7 w') => conv_str (c := cap7) (mBytes_len ⟨s, t, o⟩) (ho7.v.rd.kept hk (fun b' o' e _ h => by cases e; have := ho7.base_le; have := heap_lt HP6.out; have e2 : w6.drew.heap.size = w6.heap.size := rfl; omega)) (by decide))
          have HSX := Lib.hid (show w7.heap[gm]? = some (.cells (masC ⟨s, t, o⟩) 62 (0, 0)) ∧ (∃ n : MasM, w7.heap[pr]? = some (.cells (masC n) 62 (0, 0))) ∧ RdB w7 (some ⟨b, off, none⟩) l from ⟨HS7.out.1, ⟨_, HS7.out.2.1⟩, HS7.out.2.2⟩)
          have HPB := Lib.hid (show ∀ (b' : Nat), b' = b → b < w.heap.size → b' ≠ pr from fun b' _ h e => by have := l1; omega)
          have HB0 := Lib.hid (show b < w.heap.size from by obtain ⟨b2, o2, e2, hc⟩ := H.out.cell (k := 0) (by rw [HL.out]; decide); cases e2; exact block_lt_of_cell hc)
          obtain ⟨m, hm⟩ : ∃ m : MasM, m = ⟨s, t, o⟩ := ⟨_, rfl⟩
          have HM := Lib.hid hm
          obtain ⟨X, hX⟩ : ∃ X, X = mBytes ⟨s, t, o⟩ := ⟨_, rfl⟩
          rw [← hX] at HE7 HE8 HYES
          have HY2 := Lib.hid (HYES.out HMM.out HS.out)
          clear ho7 hk7 hm hX
          have e7 := HE7.out w7 (Kept.refl _ _)
          go_simp
          refine hK.out _ _ (fun _ => HSX.out) (fun _ => ?_)
          simp only [oZa, oZb, oZc]
          clear hK K hH
          refine forkB 3 7 rfl rfl (by kernel_rfl) (fun K hK => ?_) (fun K hK => ?_)
          · go_simp
            refine hK.out _ _ (fun _ => HSX.out) (fun _ => ?_)
            simp only [oZa, oZb, oZc]
            clear hK K e7
            refine takeL 6 ?_ rfl (by kernel_rfl) (fun _ _ _ h => h) (by rfl) (fun w' hw' => ?_) HSX.out ?_
            rotate_left
            · skip
              go_simp <;> with_reducible rfl
            simp only [Act.put, oZa, oZb, oZc]
            refine stepL 7 rfl (by kernel_rfl) (fun K hK => ?_)
            refine step_store_row rfl 62 _ _ rfl pr (masC ⟨s, t, o⟩) (masC zM) rfl rfl HS7.out.2.1 sizeMas rfl (one_mas _) ?_
            intro w8 hb8 hk8
            have HP8 := Lib.hid hb8
            have HK8 := Lib.hid (HK7.out.new hk8 (fun z hz => by subst hz; exact l1))
            have HS8 := Lib.hid (show w8.heap[gm]? = some (.cells (masC ⟨s, t, o⟩) 62 (0, 0)) ∧ (∃ n : MasM, w8.heap[pr]? = some (.cells (masC n) 62 (0, 0))) ∧ RdB w8 (some ⟨b, off, none⟩) l from ⟨hk8.heap HS7.out.1 (fun e => hpg e.symm), ⟨_, hb8⟩, HS7.out.2.2.kept hk8 (fun b' o' e _ h => by cases e; exact HPB.out b rfl HB0.out h)⟩)
            clear hb8 hk8
            refine hK.out _ _ (fun _ => HS8.out) (fun _ => ?_)
            simp only [oZa, oZb, oZc]
            clear hK K
            refine stepL 8 rfl (by kernel_rfl) (fun K hK => ?_)
            go_simp
            refine hK.out _ _ (fun h => absurd rfl h) (fun _ => ?_)
            simp only [oZa, oZb, oZc]
            clear hK K
            refine doneL (by kernel_rfl) ?_ _
            go_wp2
            try simp only [Exit.inBlock, Exit.then]
            refine bodyPost_ret (results_cell_rowM rfl _ _ pr (masC ⟨s, t, o⟩) rfl HP8.out Tryz.underlying62 rfl sizeMas) rfl ?_
            refine ⟨?_, HK8.out⟩
            rw [HY2.out]
            show Ending.returned (.tuple #[.agg (masC ⟨s, t, o⟩), .bool (X == l)]) = .returned (.tuple #[.agg (masC ⟨s, t, o⟩), .bool (decide (X = l))])
            have hbe : (X == l) = decide (X = l) := by rw [Bool.eq_iff_iff]; simp
            rw [hbe]
          · refine step_store_row rfl 62 _ _ rfl pr (masC ⟨s, t, o⟩) (masC zM) rfl rfl HS7.out.2.1 sizeMas rfl (one_mas _) ?_
            intro w8 hb8 hk8
            have HP8 := Lib.hid hb8
            have HK8 := Lib.hid (HK7.out.new hk8 (fun z hz => by subst hz; exact l1))
            have HS8 := Lib.hid (show w8.heap[gm]? = some (.cells (masC ⟨s, t, o⟩) 62 (0, 0)) ∧ (∃ n : MasM, w8.heap[pr]? = some (.cells (masC n) 62 (0, 0))) ∧ RdB w8 (some ⟨b, off, none⟩) l from ⟨hk8.heap HS7.out.1 (fun e => hpg e.symm), ⟨_, hb8⟩, HS7.out.2.2.kept hk8 (fun b' o' e _ h => by cases e; exact HPB.out b rfl HB0.out h)⟩)
            have e8 := HE8.out w8 hk8
            clear hb8 hk8 e7
            refine hK.out _ _ (fun _ => HS8.out) (fun _ => ?_)
            simp only [oZa, oZb, oZc]
            clear hK K
            refine stepL 3 rfl (by kernel_rfl) (fun K hK => ?_)
            go_simp
            refine hK.out _ _ (fun _ => HS8.out) (fun _ => ?_)
            simp only [oZa, oZb, oZc]
            clear hK K e8
            refine takeL 6 ?_ rfl (by kernel_rfl) (fun _ _ _ h => h) (by rfl) (fun w' hw' => ?_) HS8.out ?_
            rotate_left
            · skip
              go_simp <;> with_reducible rfl
            simp only [Act.put, oZa, oZb, oZc]
            refine stepL 8 rfl (by kernel_rfl) (fun K hK => ?_)
            go_simp
            refine hK.out _ _ (fun h => absurd rfl h) (fun _ => ?_)
            simp only [oZa, oZb, oZc]
            clear hK K
            refine doneL (by kernel_rfl) ?_ _
            go_wp2
            try simp only [Exit.inBlock, Exit.then]
            refine bodyPost_ret (results_cell_rowM rfl _ _ pr (masC ⟨s, t, o⟩) rfl HP8.out Tryz.underlying62 rfl sizeMas) rfl ?_
            refine ⟨?_, HK8.out⟩
            rw [HY2.out]
            show Ending.returned (.tuple #[.agg (masC ⟨s, t, o⟩), .bool (X == l)]) = .returned (.tuple #[.agg (masC ⟨s, t, o⟩), .bool (decide (X = l))])
            have hbe : (X == l) = decide (X = l) := by rw [Bool.eq_iff_iff]; simp
            rw [hbe]
        · have hsb : (s.tmod 2 != k) = true := by rw [bne_iff_ne]; exact hs
          have HE := Lib.hid (HNO.out (fun h => hs h.2))
          clear hs
          go_wp2_with (refine wl_store_row rfl 62 _ _ rfl pr (masC zM) (masC zM) rfl rfl HP6.out sizeMas rfl (one_mas _) ?_)
          intro w8 hb8 hk8
          have HP8 := Lib.hid hb8
          have HK8 := Lib.hid (HK6.out.new hk8 (fun z hz => by subst hz; exact l1))
          clear hb8 hk8
          go_wp2
          try simp only [Exit.inBlock, Exit.then]
          refine bodyPost_ret (results_cell_rowM rfl _ _ pr (masC zM) rfl HP8.out Tryz.underlying62 rfl sizeMas) rfl ?_
          exact ⟨by rw [HE.out]; rfl, HK8.out⟩
      · rw [decide_eq_false hm]
        have HE := Lib.hid (HNO.out (fun h => hm h.1))
        clear hm
        go_wp2_with (refine wl_store_row rfl 62 _ _ rfl pr (masC zM) (masC zM) rfl rfl HP6.out sizeMas rfl (one_mas _) ?_)
        intro w8 hb8 hk8
        have HP8 := Lib.hid hb8
        have HK8 := Lib.hid (HK6.out.new hk8 (fun z hz => by subst hz; exact l1))
        clear hb8 hk8
        go_wp2
        try simp only [Exit.inBlock, Exit.then]
        refine bodyPost_ret (results_cell_rowM rfl _ _ pr (masC zM) rfl HP8.out Tryz.underlying62 rfl sizeMas) rfl ?_
        exact ⟨by rw [HE.out]; rfl, HK8.out⟩
end Go.Proofs.YtnbfhdgojmflhaaGreat
