/-
  No statement is proved here: the verifier's flatSpans, of rows that lie apart.
-/
import Derived.Test.YtndflnedkpmpfaaGreatDoorFsm
import Derived.BigQuiet
namespace Go.Proofs.YtndflnedkpmpfaaGreatDoor
open Go.RowKit

theorem madeSpan_one (n : Nat) : ∀ u ∈ (madeCells (Value.agg #[.int .i64 0, .int .i64 0, .slice none 0 0, .slice none 0 0]).cells (n * 4)).toList, u.oneCell' = true := by
  intro u hu
  unfold madeCells at hu
  rw [Array.toList_map, List.mem_map] at hu
  obtain ⟨x, -, rfl⟩ := hu
  have h4 : ∀ j, j < 4 → ((Value.agg #[.int .i64 0, .int .i64 0, .slice none 0 0, .slice none 0 0]).cells[j]!).oneCell' = true := by
    intro j hj
    match j, hj with
    | 0, _ => rfl
    | 1, _ => rfl
    | 2, _ => rfl
    | 3, _ => rfl
  exact h4 _ (Nat.mod_lt _ (by decide))
set_option maxRecDepth 100000 in
set_option maxHeartbeats 8000000 in
theorem flatSpans_any (w : World) (B gl cl m : Nat) (A : Nat → Option Addr) (N C : Nat → Nat) (V : Nat → List Value) (h : FX 46 4 w B gl m A N C V) (hs : Sep m gl A) (hm : m ≤ 1000) (hN : ∀ k, k < m → N k ≤ 1000000) (hB : B ≤ w.heap.size) :
    Calls Tryz.prog 69 #[.slice (some ⟨gl, 0, none⟩) m cl] w fun e w' => e = .returned (.bool true) ∧ Kept (OwnS m A) w w' := by
  have H := Lib.hid h
  have HS := Lib.hid hs
  have HN := Lib.hid hN
  have HB := Lib.hid hB
  clear h hs hN hB
  go_enter Tryz.func69, Tryz.ntmps69
  go_wp2
  go_loopw [3] (fun i wr => ∃ (k : Nat) (V : Nat → List Value), k ≤ m ∧ i = .int .i64 k ∧ FX 46 4 wr B gl m A N C V ∧ (∀ j, j < k → V j = mkL (mkS j) (N j)) ∧ Kept (OwnS m A) w wr) (fun i _ => m - (intOf i).toNat)
  case atStart => exact ⟨0, V, Nat.zero_le _, rfl, H.out, by omega, Kept.refl _ _⟩
  case round =>
    obtain ⟨k, V1, hk, rfl, hF, hL, hkr⟩ := hrel
    have HF := Lib.hid hF
    have HL := Lib.hid hL
    have HK := Lib.hid hkr
    clear hF hL hkr
    by_cases hlt : k < m
    · have i0 : (0 : Int) ≤ (k : Int) := by omega
      have i1 : (k : Int) < (m : Int) := by omega
      have hNk := HN.out k hlt
      go_wp2
      go_loopw [4] (fun i wr => ∃ (t : Nat) (V : Nat → List Value), t ≤ N k ∧ i = .int .i64 t ∧ FX 46 4 wr B gl m A N C V ∧ (∀ j, j < k → V j = mkL (mkS j) (N j)) ∧ (V k).take (t * 4) = mkL (mkS k) t ∧ Kept (OwnS m A) w wr) (fun i _ => N k - (intOf i).toNat)
      case atStart => exact ⟨0, V1, Nat.zero_le _, rfl, HF.out, HL.out, by simp [mkL], HK.out⟩
      case round =>
        obtain ⟨t, V2, ht, rfl, hF2, hL2, hS2, hk2⟩ := hrel
        have HF2 := Lib.hid hF2
        have HL2 := Lib.hid hL2
        have HS2 := Lib.hid hS2
        have HK2 := Lib.hid hk2
        have c1 := hF2.tab k hlt
        clear hF2 hL2 hS2 hk2 HF HL HK
        by_cases hlt2 : t < N k
        · as_aux_lemma =>
          obtain ⟨g, hg, h63⟩ := HF2.out.has hlt hlt2
          have HG := Lib.hid hg
          have hr := HF2.out.row k hlt
          rw [hg] at c1 hr
          obtain ⟨b1, b2, b3, b4, cur, hcur, hsz, hput⟩ := ownsRow_mid hr
          have hgl : gl ≠ g := fun e => HS.out.ngl k hlt (by rw [hg, e]; rfl)
          have t0 : (0 : Int) ≤ (t : Int) := by omega
          have t1 : (t : Int) < (N k : Int) := by omega
          have HM := Lib.hid (fun wx => markSpan_any (k : Int) (t : Int) (by omega) (by omega) (by omega) (by omega) wx)
          have HP := Lib.hid hput
          have HC := Lib.hid hcur
          have HSZ := Lib.hid (show t * 4 + 4 ≤ cur.size from by have h2 : (t + 1) * 4 ≤ N k * 4 := Nat.mul_le_mul_right 4 hlt2; omega)
          have C1 := Lib.hid c1
          clear hg hr hput hcur hsz
          go_wp2
          clear c1
          refine startL 9 (fun w' => Kept (fun _ => False) wr w') (by kernel_rfl) (Kept.refl _ _).drew (fun hH => ?_)
          simp only [List.length_cons, List.length_nil, List.replicate]
          refine takeL 0 (.slice (some ⟨gl, 0, none⟩) m cl) rfl (by kernel_rfl) (fun _ _ _ h => h) (by rfl) (fun w' hw' => ?_) hH ?_
          · go_simp
          simp only [Act.put, List.setIfInBounds_toArray, List.set_cons_zero, List.set_cons_succ]
          refine takeL 1 (.int .i64 (k : Int)) rfl (by kernel_rfl) (fun _ _ _ h => h) (by rfl) (fun w' hw' => ?_) hH ?_
          · go_simp
          simp only [Act.put, List.setIfInBounds_toArray, List.set_cons_zero, List.set_cons_succ]
          refine takeL 4 (.int .i64 (t : Int)) rfl (by kernel_rfl) (fun _ _ _ h => h) (by rfl) (fun w' hw' => ?_) hH ?_
          · go_simp
          simp only [Act.put, List.setIfInBounds_toArray, List.set_cons_zero, List.set_cons_succ]
          refine takeL 5 (.int .i64 (k : Int)) rfl (by kernel_rfl) (fun _ _ _ h => h) (by rfl) (fun w' hw' => ?_) hH ?_
          · go_simp
          simp only [Act.put, List.setIfInBounds_toArray, List.set_cons_zero, List.set_cons_succ]
          refine takeL 6 (.int .i64 (t : Int)) rfl (by kernel_rfl) (fun _ _ _ h => h) (by rfl) (fun w' hw' => ?_) hH ?_
          · go_simp
          simp only [Act.put, List.setIfInBounds_toArray, List.set_cons_zero, List.set_cons_succ]
          refine takeL 2 (.pointer (some ⟨gl, k, none⟩)) rfl (by kernel_rfl) (fun _ _ _ h => h) (by rfl) (fun w' hw' => ?_) hH ?_
          · go_simp
          simp only [Act.put, List.setIfInBounds_toArray, List.set_cons_zero, List.set_cons_succ]
          refine takeL 3 (.slice (some ⟨g, 0, none⟩) (N k) (C k)) rfl (by kernel_rfl) (fun _ _ _ h => h) (by rfl) (fun w' hw' => ?_) hH ?_
          · have cc := (World.cell?_of_block (hw'.block gl (block_lt_of_cell C1.out) id)).trans C1.out
            go_simp
          simp only [Act.put, List.setIfInBounds_toArray, List.set_cons_zero, List.set_cons_succ]
          refine stepL 7 rfl (by kernel_rfl) (fun K hK => ?_)
          go_simp
          go_at_call 89
          refine (HM.out _).mono ?_
          rintro e w3 ⟨rfl, hk3⟩
          have K3 := Lib.hid (((Kept.refl (fun _ => False) wr).drew).trans0 hk3)
          clear hk3
          go_simp
          refine hK.out _ _ (fun _ => K3.out) (fun _ => ?_)
          simp only [Act.put, List.setIfInBounds_toArray, List.set_cons_zero, List.set_cons_succ]
          clear hK K
          refine takeL 8 (.pointer (some ⟨g, t * 4, none⟩)) rfl (by kernel_rfl) (fun _ _ _ h => h) (by rfl) (fun w' hw' => ?_) K3.out ?_
          · go_simp
          simp only [Act.put, List.setIfInBounds_toArray, List.set_cons_zero, List.set_cons_succ]
          refine stepL 9 rfl (by kernel_rfl) (fun K hK => ?_)
          refine step_store_mid rfl 46 _ _ (by rfl) g (t * 4) #[.int .i64 (markM (k : Int) (t : Int)), .int .i64 0, .slice none 0 0, .slice none 0 0] cur (by rfl) (by rfl) (K3.out.heap HC.out id) (zero_of_info infoSpan2).2 HSZ.out (by simp [Value.oneCell']) ?_
          intro w4 hb4 hk4
          have HB4 := Lib.hid hb4
          have K4 := Lib.hid hk4
          clear hb4 hk4
          refine hK.out _ _ (fun h => absurd rfl h) (fun _ => ?_)
          simp only [Act.put, List.setIfInBounds_toArray, List.set_cons_zero, List.set_cons_succ]
          clear hK K
          refine doneL (by kernel_rfl) ?_ _
          have HF3 := Lib.hid ((HF2.out.kept0 K3.out).put HS.out hlt HG.out K4.out (v := putL (V2 k) (t * 4) (mkS k t)) (by rw [HG.out]; exact HP.out w4 t (mkS k t) hlt2 rfl HB4.out))
          have HK3 := Lib.hid ((HK2.out.trans0 K3.out).trans K4.out (fun x _ e => ⟨k, hlt, by rw [e, HG.out]; rfl⟩))
          have hlen := HF2.out.len hlt
          go_wp2
          go_roundw
          case rel =>
            refine ⟨t + 1, _, by omega, by go_num, HF3.out, fun j hj => ?_, ?_, HK3.out⟩
            · rw [updV, if_neg (by omega)]; exact HL2.out j hj
            · have h2 : (t + 1) * 4 ≤ N k * 4 := Nat.mul_le_mul_right 4 hlt2
              rw [updV, if_pos rfl, mkL_succ, ← HS2.out, Nat.succ_mul]
              exact putL_take (vs := mkS k t) (by rw [mkS_len]; omega)
          case measure => simp [intOf]; omega
        · have hge : ¬ ((t : Int) < (N k : Int)) := by omega
          go_wp2
          go_roundw
          case rel =>
            refine ⟨k + 1, V2, by omega, by go_num, HF2.out, fun j hj => ?_, HK2.out⟩
            by_cases e : j < k
            · exact HL2.out j e
            · obtain rfl : j = k := by omega
              obtain rfl : t = N j := by omega
              have hlen := HF2.out.len hlt
              rw [← HS2.out, List.take_of_length_le (by omega)]
          case measure => simp [intOf]; omega
    · have hge : ¬ ((k : Int) < (m : Int)) := by omega
      obtain rfl : k = m := by omega
      have HF1 := Lib.hid (HF.out.congr (L' := fun j => mkL (mkS j) (N j)) HL.out)
      have hszk := HK.out.size
      clear HF HL
      go_wp2_with (refine wl_makeG rfl _ _ 50 34 rfl (z := .slice none 0 0) (size := 1) (bytes := 24) Tryz.underlying50 (by kernel_rfl) .i64 .i64 k k rfl rfl (Nat.le_refl _) (by omega) (by omega) ?_)
      intro gg w2 ngg mgg hbg hkg
      have HF2 := Lib.hid (HF1.out.kept0 hkg)
      have HK2 := Lib.hid (HK.out.trans0 hkg)
      have HG2 := Lib.hid (show GX 34 46 4 w2 B gg gl k 0 A N _ (fun _ => []) from ⟨hbg, by rw [size_madeCells], by omega⟩)
      have HAL := Lib.hid (show ∀ j x, j < k → ob (A j) = some x → x < gg from fun j x hj hx => by have := (HF1.out.lt hj hx).1; omega)
      have nw : w.heap.size ≤ gg := by omega
      have hglgg : 0 < k → gl < gg := fun h0 => by have := block_lt_of_cell (HF1.out.tab 0 h0); simp only at this; omega
      have HGG := Lib.hid hglgg
      clear hbg hkg HF1 HK hlt hk hge hglgg H
      go_wp2
      go_loopw [6] (fun i wr => ∃ (t : Nat) (arr : Array Value) (T : Nat → List Value), t ≤ k ∧ i = .int .i64 t ∧ FX 46 4 wr B gl k A N C (fun j => mkL (mkS j) (N j)) ∧ GX 34 46 4 wr B gg gl k t A N arr T ∧ (∀ j, j < t → T j = mkL (mkS j) (N j + 64)) ∧ Kept (OwnS k A) w wr) (fun i _ => k - (intOf i).toNat)
      case atStart => exact ⟨0, _, _, Nat.zero_le _, rfl, HF2.out, HG2.out, by omega, HK2.out⟩
      case round =>
        obtain ⟨t, arr, T, ht, rfl, hF, hG, hT, hkr⟩ := hrel
        have HF := Lib.hid hF
        have HG := Lib.hid hG
        have HT := Lib.hid hT
        have HK := Lib.hid hkr
        clear hF hG hT hkr HF2 HG2 HK2
        by_cases hlt : t < k
        · have i0 : (0 : Int) ≤ (t : Int) := by omega
          have i1 : (t : Int) < (k : Int) := by omega
          have c1 := HF.out.tab t hlt
          have hNt := HN.out t hlt
          have hggl := heap_lt HG.out.hb
          obtain ⟨wq, rfl⟩ : ∃ x : World, x = wr := ⟨_, rfl⟩
          go_wp2
          go_loopw [7, 8] (fun gv i wr => ∃ (s : Nat) (A' : Option Addr) (c' : Nat), s ≤ 64 ∧ i = .int .i64 s ∧ gv = .slice A' (N t + s) c' ∧ wr.ownsRow B 46 4 (.slice A' (N t + s) c') (N t + s) (mkL (mkS t) (N t + s)) ∧
            wr.ownsRow B 46 4 (.slice (A t) (N t) (C t)) (N t) (mkL (mkS t) (N t)) ∧ ((A' = A t ∧ c' = C t) ∨ (∀ x, ob A' = some x → wq.heap.size ≤ x)) ∧ Kept (fun x => ob (A t) = some x) wq wr) (fun gv i _ => 64 - (intOf i).toNat)
          case atStart => exact ⟨0, A t, C t, by omega, rfl, rfl, HF.out.row t hlt, HF.out.row t hlt, .inl ⟨rfl, rfl⟩, Kept.refl _ _⟩
          case round =>
            obtain ⟨s, A', c', hs, rfl, rfl, hrow, hV, hA', hkx⟩ := hrel
            have HR := Lib.hid hrow
            have HV := Lib.hid hV
            have HA' := Lib.hid hA'
            have HX := Lib.hid hkx
            have szx := hkx.size
            have szq := HK.out.size
            clear hrow hV hA' hkx
            by_cases h64 : s < 64
            · as_aux_lemma =>
              have s1 : (s : Int) < 64 := by omega
              have c1x := (World.cell?_of_block (HX.out.block gl (block_lt_of_cell c1) (HS.out.ngl t hlt))).trans c1
              have HM := Lib.hid (fun wx => markSpan_any (t : Int) ((N t : Int) + (s : Int)) (by omega) (by omega) (by omega) (by omega) wx)
              go_wp2_with fail
              refine (HM.out _).mono ?_
              rintro e wx ⟨rfl, hkc⟩
              have ka : Kept (fun _ => False) wr (wx.alloc (.cells #[.int .i64 (markM (t : Int) ((N t : Int) + (s : Int))), .int .i64 0, .slice none 0 0, .slice none 0 0] 46)) := hkc.alloc _
              have HRa := Lib.hid (ownsRow_keep HR.out ka (fun _ _ => id))
              have HVa := Lib.hid (ownsRow_keep HV.out ka (fun _ _ => id))
              have HXa := Lib.hid (HX.out.trans0 ka)
              have HW := Lib.hid (show ∀ (j : Nat) (u : Value), [Value.int .i64 (markM (t : Int) ((N t : Int) + (s : Int))), .int .i64 0, .slice none 0 0, .slice none 0 0][j]? = some u → (wx.alloc (.cells #[.int .i64 (markM (t : Int) ((N t : Int) + (s : Int))), .int .i64 0, .slice none 0 0, .slice none 0 0] 46)).cell? ⟨wx.heap.size, 0 + j, none⟩ = some u from fun j u hu => cell_blk (heap_alloc_new wx _) (by simpa using hu))
              have sza := HXa.out.size
              have szc := hkc.size
              clear ka hkc
              go_wp2_with (at_builtin; refine wl_appendS rfl _ _ 34 rfl B 46 Tryz.underlying34 infoSpan rfl (by omega) (.slice A' (N t + s) c') (N t + s) (mkL (mkS t) (N t + s)) rfl HRa.out wx.heap.size 0 1 1 [Value.int .i64 (markM (t : Int) ((N t : Int) + (s : Int))), .int .i64 0, .slice none 0 0, .slice none 0 0] rfl rfl HW.out (by simp [Value.oneCell']) (by omega) (by have : maxLen = 9223372036854775807 := rfl; omega) (by omega) (by have := HB.out; omega) ?_)
              intro g3 cap3 w3 ho3 hv3 hsp3 m3
              obtain ⟨ys, ey⟩ := mkL_pre (mkS t) (N t) (s + 1)
              have es : mkS t (N t + s) = [Value.int .i64 (markM (t : Int) ((N t : Int) + (s : Int))), .int .i64 0, .slice none 0 0, .slice none 0 0] := by unfold mkS; rw [Int.natCast_add]
              have ho3' : w3.ownsRow B 46 4 (.slice (some ⟨g3, 0, none⟩) (N t + (s + 1)) cap3) (N t + (s + 1)) (mkL (mkS t) (N t + (s + 1))) := by
                rw [show N t + (s + 1) = (N t + s) + 1 from rfl, mkL_succ, es]
                exact ho3
              have hg1 := grow_oneX (fun x hx => (HF.out.lt hlt hx).1) HVa.out ys HA'.out HXa.out (by rw [← ey]; exact ho3') (hsp3.imp id (fun h => ⟨by omega, h.2⟩))
              have HO3 := Lib.hid ho3'
              have HG1 := Lib.hid hg1
              clear ho3 hv3 hsp3 ho3' hg1 HRa HVa HXa HW ey c1x HM
              go_wp2
              go_roundw
              case rel => exact ⟨s + 1, some ⟨g3, 0, none⟩, cap3, by omega, by go_num, rfl, HO3.out, HG1.out.1, HG1.out.2.1.imp (fun h => h) id, HG1.out.2.2⟩
              case measure => simp [intOf]; omega
            · as_aux_lemma =>
              have hge : ¬ ((s : Int) < 64) := by omega
              obtain rfl : s = 64 := by omega
              have hrow := HR.out
              obtain ⟨A5, cap5, e5, hA5⟩ := row_form' hrow
              injection e5 with e5 _ e6
              subst e5; subst e6
              obtain ⟨g5, rfl⟩ := hA5 (by omega)
              have hGx := HG.out.keep HX.out (fun e => by have := HAL.out t gg hlt e; omega) (fun j g hj _ _ _ hi => hi t hlt (by omega))
              have hFx : FX 46 4 wr B gl k A N C (fun j => mkL (mkS j) (N j)) := ⟨fun j hj => (World.cell?_of_block (HX.out.block gl (block_lt_of_cell (HF.out.tab j hj)) (HS.out.ngl t hlt))).trans (HF.out.tab j hj), fun j hj => by
                by_cases e : j = t
                · subst e; exact HV.out
                · exact ownsRow_keep (HF.out.row j hj) HX.out (fun x hx e' => by rw [ownBlock_slice] at hx; exact e (HS.out.dis j t x hj hlt hx e'))⟩
              have hlq : ∀ j x, j < k → ob (A j) = some x → x < wq.heap.size := fun j x hj hx => (HF.out.lt hj hx).1
              have hglq := block_lt_of_cell c1
              simp only at hglq
              have q1 : g5 ≠ gg := by
                rcases HA'.out with ⟨e, _⟩ | e
                · have := HAL.out t g5 hlt (by rw [← e]; rfl); omega
                · have := e g5 rfl; omega
              have q2 : g5 ≠ gl := by
                rcases HA'.out with ⟨e, _⟩ | e
                · intro e2; exact HS.out.ngl t hlt (by rw [← e, e2]; rfl)
                · have := e g5 rfl; omega
              have q3 : ∀ i, i < k → i ≠ t → ob (A i) ≠ some g5 := by
                intro i hi hit hob
                rcases HA'.out with ⟨e, _⟩ | e
                · exact hit (HS.out.dis i t g5 hi hlt hob (by rw [← e]; rfl))
                · have := e g5 rfl; have := hlq i g5 hi hob; omega
              have HP := Lib.hid (hGx.put hlt hrow q1 q2 q3)
              have d1 := cell_blk hGx.hb (i := t) (v := arr[t]'(by rw [hGx.hz]; exact hlt)) (by simp)
              generalize arr[t]'_ = old at d1
              have d2 := free_blk hGx.hb t
              have HF4 := Lib.hid (hFx.keep (Kept.cell wr gg t (.slice (some ⟨g5, 0, none⟩) (N t + 64) c')) (fun j x hj hx e => by have := HAL.out j x hj hx; omega) (fun e => by have := HGG.out (by omega); omega))
              have HK4 := Lib.hid ((HK.out.trans HX.out (fun x _ e => ⟨t, hlt, e⟩)).trans (Kept.cell wr gg t (.slice (some ⟨g5, 0, none⟩) (N t + 64) c')) (fun x hx e => by exfalso; omega))
              have hz4 := hGx.hz
              clear hrow hA5 hGx hFx hlq q1 q2 q3 HR HV
              go_wp2
              go_roundw
              case rel =>
                refine ⟨t + 1, _, _, by omega, by go_num, HF4.out, HP.out, fun j hj => ?_, HK4.out⟩
                by_cases e : j = t
                · subst e; rw [updV, if_pos rfl]
                · rw [updV, if_neg e]; exact HT.out j (by omega)
              case measure => simp [intOf]; omega
        · have hge : ¬ ((t : Int) < (k : Int)) := by omega
          obtain rfl : t = k := by omega
          clear hlt ht
          go_wp2
          obtain ⟨w3, rfl⟩ : ∃ x : World, x = wr := ⟨_, rfl⟩
          have sz3 := HK.out.size
          go_loopw [9] (fun i wr => ∃ s : Nat, s ≤ t ∧ i = .int .i64 s ∧ Kept (fun _ => False) w3 wr) (fun i _ => t - (intOf i).toNat)
          case atStart => exact ⟨0, Nat.zero_le _, rfl, Kept.refl _ _⟩
          case round =>
            obtain ⟨s, hs, rfl, hkx⟩ := hrel
            have HX := Lib.hid hkx
            clear hkx
            by_cases hlt : s < t
            · have i0 : (0 : Int) ≤ (s : Int) := by omega
              have i1 : (s : Int) < (t : Int) := by omega
              have hNs := HN.out s hlt
              obtain ⟨g, cg, d1, dg, d63, hcell⟩ := HG.out.tcells hlt
              have D1 := Lib.hid d1
              have DC := Lib.hid hcell
              have D1x := Lib.hid ((World.cell?_of_block (HX.out.block gg (block_lt_of_cell d1) id)).trans d1)
              have d1x := D1x.out
              clear d1 hcell
              go_wp2
              go_loopw [10] (fun i wr => ∃ r : Nat, r ≤ N s + 64 ∧ i = .int .i64 r ∧ Kept (fun _ => False) w3 wr) (fun i _ => N s + 64 - (intOf i).toNat)
              case atStart => exact ⟨0, Nat.zero_le _, rfl, HX.out⟩
              case round =>
                obtain ⟨r, hr, rfl, hky⟩ := hrel
                have HY := Lib.hid hky
                have d1 := (World.cell?_of_block (hky.block gg (block_lt_of_cell D1.out) id)).trans D1.out
                clear hky d1x
                by_cases hlt2 : r < N s + 64
                · have d2 : ∀ (wz : World), Kept (fun _ => False) w3 wz → ∀ j u, (#[.int .i64 (markM (s : Int) (r : Int)), .int .i64 0, .slice none 0 0, .slice none 0 0] : Array Value)[j]? = some u → wz.cell? ⟨g, r * 4 + j, none⟩ = some u := fun wz hz j u hu => by
                    have hj : j < 4 := (Array.getElem?_eq_some_iff.1 hu).1
                    rw [World.cell?_of_block (hz.block g dg id), DC.out r j hlt2 hj, HT.out s hlt, mkL_get (mkS_len s) hlt2 hj, ← hu]
                    simp [mkS]
                  have D2 := Lib.hid d2
                  have r0 : (0 : Int) ≤ (r : Int) := by omega
                  have r1 : (r : Int) < (N s : Int) + 64 := by omega
                  have HM := Lib.hid (fun wx => markSpan_any (s : Int) (r : Int) (by omega) (by omega) (by omega) (by omega) wx)
                  have HMS := Lib.hid (fun wx => markSame (s : Int) (r : Int) wx)
                  obtain ⟨T', f, hne, hT0, hT3, hT4⟩ := class_any wr
                  have HT0 := Lib.hid hT0
                  have HT3 := Lib.hid hT3
                  have HT4 := Lib.hid (fun n => HY.out.trans0 (hT4 n))
                  clear d2 hT0 hT3 hT4
                  have hT1 : ∀ n, (f n).cell? ⟨gg, s, none⟩ = some (.slice (some ⟨g, 0, none⟩) (N s + 64) cg) := fun n => (World.cell?_of_block ((HT4.out n).block gg (block_lt_of_cell D1.out) id)).trans D1.out
                  have hT2 : ∀ n, (f n).cell? ⟨gl, s, none⟩ = some (.slice (A s) (N s) (C s)) := fun n => (HF.out.kept0 (HT4.out n)).tab s hlt
                  by_cases hlt3 : r < N s
                  · as_aux_lemma =>
                    obtain ⟨g', hg', -, dg', hc'⟩ := HF.out.cells hlt hlt3
                    have D3 := Lib.hid (show ∀ (wz : World), Kept (fun _ => False) w3 wz → ∀ j u, (#[.int .i64 (markM (s : Int) (r : Int)), .int .i64 0, .slice none 0 0, .slice none 0 0] : Array Value)[j]? = some u → wz.cell? ⟨g', r * 4 + j, none⟩ = some u from fun wz hz j u hu => by
                      have hj : j < 4 := (Array.getElem?_eq_some_iff.1 hu).1
                      rw [World.cell?_of_block (hz.block g' dg' id), hc' j hj, mkL_get (mkS_len s) hlt3 hj, ← hu]
                      simp [mkS])
                    rw [hg'] at hT2
                    have r2 : (r : Int) < (N s : Int) := by omega
                    have hd : decide (r < N s) = true := by simpa using hlt3
                    clear hg' hc'
                    go_wp2
                    refine wp_region_quiet_cls (C := fun w' => ∃ n : T', w' = f n) (by kernel_rfl) (by kernel_rfl) HT0.out ?_
                    iterate 6 go_big_quiet_step (first | (go_at_call 89; exact (HM.out _).mono (fun _ _ h => ⟨h.1, HT3.out _ _ h.2⟩)) | (go_at_call 51; exact (HMS.out _).mono (fun _ _ h => ⟨h.1, HT3.out _ _ h.2⟩)))
                    refine wq_load_mid (by kernel_rfl) 46 _ rfl g (r * 4) rfl _ (fun w' hw' => by obtain ⟨n, rfl⟩ := hw'; exact D2.out _ (HT4.out n)) Tryz.underlying46 rfl (by kernel_rfl) ?_
                    simp only [Act.put, List.setIfInBounds_toArray, List.set_cons_zero, List.set_cons_succ]
                    iterate 20 go_big_quiet_step (first | (go_at_call 89; exact (HM.out _).mono (fun _ _ h => ⟨h.1, HT3.out _ _ h.2⟩)) | (go_at_call 51; exact (HMS.out _).mono (fun _ _ h => ⟨h.1, HT3.out _ _ h.2⟩)))
                    refine wq_load_mid (by kernel_rfl) 46 _ rfl g' (r * 4) rfl _ (fun w' hw' => by obtain ⟨n, rfl⟩ := hw'; exact D3.out _ (HT4.out n)) Tryz.underlying46 rfl (by kernel_rfl) ?_
                    simp only [Act.put, List.setIfInBounds_toArray, List.set_cons_zero, List.set_cons_succ]
                    iterate 7 go_big_quiet_step (first | (go_at_call 89; exact (HM.out _).mono (fun _ _ h => ⟨h.1, HT3.out _ _ h.2⟩)) | (go_at_call 51; exact (HMS.out _).mono (fun _ _ h => ⟨h.1, HT3.out _ _ h.2⟩)))
                    refine wpQuiet_nil ?_
                    intro _ hw'
                    obtain ⟨nq, hw''⟩ := hw'
                    subst hw''
                    have HKn := Lib.hid (HT4.out nq)
                    clear hT1 hT2 HT0 HT3 HT4 D2 D3
                    generalize f nq = wn at HKn ⊢
                    go_wp2
                    go_roundw
                    case rel => exact ⟨r + 1, by omega, by go_num, HKn.out⟩
                    case measure => simp [intOf]; omega
                  · as_aux_lemma =>
                    have hd : decide (r < N s) = false := by simpa using hlt3
                    go_wp2
                    refine wp_region_quiet_cls (C := fun w' => ∃ n : T', w' = f n) (by kernel_rfl) (by kernel_rfl) HT0.out ?_
                    iterate 6 go_big_quiet_step (first | (go_at_call 89; exact (HM.out _).mono (fun _ _ h => ⟨h.1, HT3.out _ _ h.2⟩)) | (go_at_call 51; exact (HMS.out _).mono (fun _ _ h => ⟨h.1, HT3.out _ _ h.2⟩)))
                    refine wq_load_mid (by kernel_rfl) 46 _ rfl g (r * 4) rfl _ (fun w' hw' => by obtain ⟨n, rfl⟩ := hw'; exact D2.out _ (HT4.out n)) Tryz.underlying46 rfl (by kernel_rfl) ?_
                    simp only [Act.put, List.setIfInBounds_toArray, List.set_cons_zero, List.set_cons_succ]
                    iterate 28 go_big_quiet_step (first | (go_at_call 89; exact (HM.out _).mono (fun _ _ h => ⟨h.1, HT3.out _ _ h.2⟩)) | (go_at_call 51; exact (HMS.out _).mono (fun _ _ h => ⟨h.1, HT3.out _ _ h.2⟩)))
                    refine wpQuiet_nil ?_
                    intro _ hw'
                    obtain ⟨nq, hw''⟩ := hw'
                    subst hw''
                    have HKn := Lib.hid (HT4.out nq)
                    clear hT1 hT2 HT0 HT3 HT4 D2
                    generalize f nq = wn at HKn ⊢
                    go_wp2
                    go_roundw
                    case rel => exact ⟨r + 1, by omega, by go_num, HKn.out⟩
                    case measure => simp [intOf]; omega
                · have hge : ¬ ((r : Int) < (N s : Int) + 64) := by omega
                  go_wp2
                  go_roundw
                  case rel => exact ⟨s + 1, by omega, by go_num, HY.out⟩
                  case measure => simp [intOf]; omega
            · have hge : ¬ ((s : Int) < (t : Int)) := by omega
              have HF5 := Lib.hid (HF.out.kept0 HX.out)
              have HG5 := Lib.hid (show GX 34 46 4 wr B gg gl t 0 A N arr (fun _ => []) from ⟨(HG.out.kept0 HX.out).hb, HG.out.hz, by omega⟩)
              have HK5 := Lib.hid (HK.out.trans0 HX.out)
              clear HF HG HK HT HX hlt
              go_wp2
              go_loopw [11] (fun i wr => ∃ (s : Nat) (arr : Array Value) (T : Nat → List Value), s ≤ t ∧ i = .int .i64 s ∧ FX 46 4 wr B gl t A N C (fun j => mkL (mkS j) (N j)) ∧ GX 34 46 4 wr B gg gl t s A N arr T ∧ (∀ j, j < s → (T j).take (N j * 4) = mkL (mkS j) (N j)) ∧ Kept (OwnS t A) w wr) (fun i _ => t - (intOf i).toNat)
              case atStart => exact ⟨0, _, _, Nat.zero_le _, rfl, HF5.out, HG5.out, by omega, HK5.out⟩
              case round =>
                obtain ⟨s, arr, T, hs, rfl, hF, hG, hT, hkr⟩ := hrel
                have HF := Lib.hid hF
                have HG := Lib.hid hG
                have HT := Lib.hid hT
                have HK := Lib.hid hkr
                have szr := hkr.size
                clear hF hG hT hkr HF5 HG5 HK5
                by_cases hlt : s < t
                · have i0 : (0 : Int) ≤ (s : Int) := by omega
                  have i1 : (s : Int) < (t : Int) := by omega
                  have hNs := HN.out s hlt
                  go_wp2_with (refine wl_makeG rfl _ _ 34 46 rfl (z := .agg #[.int .i64 0, .int .i64 0, .slice none 0 0, .slice none 0 0]) (size := 4) (bytes := 64) Tryz.underlying34 infoSpan .i64 .i64 64 64 rfl rfl (Nat.le_refl _) (by omega) (by omega) ?_)
                  intro gm wm nm mm hbm hkm
                  have HFm := Lib.hid (HF.out.kept0 hkm)
                  have HKMM := Lib.hid hkm
                  have HKm := Lib.hid (HK.out.trans0 hkm)
                  have HBm := Lib.hid hbm
                  have szm := hkm.size
                  have hgm : w.heap.size ≤ gm := by omega
                  have HGMl := Lib.hid (show (∀ j x, j < t → ob (A j) = some x → x < gm) ∧ gl < gm ∧ gg < gm from ⟨fun j x hj hx => by have := (HF.out.lt hj hx).1; omega, by have := block_lt_of_cell (HF.out.tab s hlt); simp only at this; omega, by have := heap_lt HG.out.hb; omega⟩)
                  clear hbm hkm HF HK
                  go_wp2
                  go_loopw [13] (fun i wr => ∃ (r : Nat) (lm : List Value), r ≤ 64 ∧ i = .int .i64 r ∧ lm.length = 256 ∧ (∀ u ∈ lm, u.oneCell' = true) ∧ wr.heap[gm]? = some (.cells lm.toArray 46 (0, 0)) ∧ Kept (fun x => x = gm) wm wr) (fun i _ => 64 - (intOf i).toNat)
                  case atStart => exact ⟨0, (madeCells (Value.agg #[.int .i64 0, .int .i64 0, .slice none 0 0, .slice none 0 0]).cells (64 * 4)).toList, by omega, rfl, by rw [Array.length_toList, size_madeCells], madeSpan_one 64, by rw [Array.toArray_toList]; exact HBm.out, Kept.refl _ _⟩
                  case round =>
                    obtain ⟨r, lm, hr, rfl, hlm, h1l, hbl, hkl⟩ := hrel
                    have HLM := Lib.hid hlm
                    have H1L := Lib.hid h1l
                    have HBL := Lib.hid hbl
                    have HKL := Lib.hid hkl
                    by_cases h64 : r < 64
                    · as_aux_lemma =>
                      have r0 : (0 : Int) ≤ (r : Int) := by omega
                      have r1 : (r : Int) < 64 := by omega
                      have HM := Lib.hid (fun wx => markSpan_any ((s : Int) + (t : Int)) (r : Int) (by omega) (by omega) (by omega) (by omega) wx)
                      clear hlm hbl hkl h1l
                      go_wp2_with fail
                      refine (HM.out _).mono ?_
                      rintro e wx ⟨rfl, hkc⟩
                      have HBX := Lib.hid (hkc.heap HBL.out id)
                      have HKX := Lib.hid (HKL.out.trans0 hkc)
                      clear hkc
                      go_wp2_with (refine wl_store_mid rfl 46 _ _ rfl gm (r * 4) #[.int .i64 (markM ((s : Int) + (t : Int)) (r : Int)), .int .i64 0, .slice none 0 0, .slice none 0 0] lm.toArray (by first | rfl | simp) rfl HBX.out (zero_of_info infoSpan2).2 (by have := HLM.out; simp; omega) (by simp [Value.oneCell']) ?_)
                      intro w4 hb4 hk4
                      have HB4 := Lib.hid hb4
                      have HK4 := Lib.hid (HKX.out.trans' hk4)
                      clear hb4 hk4
                      go_wp2
                      go_roundw
                      case rel =>
                        refine ⟨r + 1, putL lm (r * 4) [.int .i64 (markM ((s : Int) + (t : Int)) (r : Int)), .int .i64 0, .slice none 0 0, .slice none 0 0], by omega, by go_num, ?_, ?_, HB4.out, HK4.out⟩
                        · rw [putL_len (by have := HLM.out; simp; omega), HLM.out]
                        · intro u hu
                          simp only [putL, List.mem_append] at hu
                          rcases hu with (hu | hu) | hu
                          · exact H1L.out u (List.mem_of_mem_take hu)
                          · simp at hu
                            rcases hu with rfl | rfl | rfl <;> rfl
                          · exact H1L.out u (List.mem_of_mem_drop hu)
                      case measure => simp [intOf]; omega
                    · as_aux_lemma =>
                      have hge : ¬ ((r : Int) < 64) := by omega
                      have HF6 := Lib.hid (HFm.out.keep hkl (fun j x hj hx e => by have := HGMl.out.1 j x hj hx; omega) (by have := HGMl.out.2.1; omega))
                      have HG6 := Lib.hid (HG.out.keep (S := fun x => x = gm) ((HKMM.out.mono (fun _ _ e => e.elim)).trans' hkl) (by have := HGMl.out.2.2; omega) (fun j g hj hg _ _ _ e => by omega))
                      have c1 := HF6.out.tab s hlt
                      have hrow := HF6.out.row s hlt
                      have HR := Lib.hid hrow
                      have HW := Lib.hid (show ∀ (j : Nat) (u : Value), lm[j]? = some u → wr.cell? ⟨gm, 0 + j, none⟩ = some u from fun j u hu => cell_blk hbl (by simpa using hu))
                      have HK6 := Lib.hid (HKm.out.trans hkl (fun x hx e => by omega))
                      clear hlm hbl hkl hrow HFm HG HKm HBm h1l
                      go_wp2_with (at_builtin; refine wl_appendS rfl _ _ 34 rfl B 46 Tryz.underlying34 infoSpan rfl (by omega) (.slice (A s) (N s) (C s)) (N s) (mkL (mkS s) (N s)) rfl HR.out gm 0 64 64 lm rfl (by rw [HLM.out]) HW.out H1L.out (by omega) (by have : maxLen = 9223372036854775807 := rfl; omega) (by omega) (by have := HB.out; have := HK6.out.size; omega) ?_)
                      intro g3 cap3 w8 ho8 hv8 hsp8 m8
                      have hko : Kept (fun x => ob (A s) = some x) wr w8 := by
                        rcases hsp8 with ⟨⟨e1, _⟩, h⟩ | ⟨_, h⟩
                        · exact h.mono (fun x _ e => by rw [e1, e]; rfl)
                        · exact h.mono (fun _ _ e => e.elim)
                      have hob : ob (A s) = some g3 ∨ wr.heap.size ≤ g3 := by
                        rcases hsp8 with ⟨⟨e1, _⟩, h⟩ | ⟨e, _⟩
                        · left; rw [e1]; rfl
                        · right; omega
                      have hlq : ∀ j x, j < t → ob (A j) = some x → x < wr.heap.size := fun j x hj hx => (HF6.out.lt hj hx).1
                      have hglq := block_lt_of_cell c1
                      have hggq := heap_lt HG6.out.hb
                      simp only at hglq
                      have hF8 : FX 46 4 w8 B gl t A N C (fun j => mkL (mkS j) (N j)) := ⟨fun j hj => (World.cell?_of_block (hko.block gl (block_lt_of_cell (HF6.out.tab j hj)) (HS.out.ngl s hlt))).trans (HF6.out.tab j hj), fun j hj => by
                        by_cases e : j = s
                        · subst e; exact hv8
                        · exact ownsRow_keep (HF6.out.row j hj) hko (fun x hx e' => by rw [ownBlock_slice] at hx; exact e (HS.out.dis j s x hj hlt hx e'))⟩
                      have hG8 := HG6.out.keep hko (fun e => by have := HAL.out s gg hlt e; omega) (fun j g hj _ _ _ hi => hi s hlt (by omega))
                      have q1 : g3 ≠ gg := by
                        rcases hob with e | e
                        · have := HAL.out s g3 hlt e; omega
                        · omega
                      have q2 : g3 ≠ gl := by
                        rcases hob with e | e
                        · intro e2; exact HS.out.ngl s hlt (by rw [← e2]; exact e)
                        · omega
                      have q3 : ∀ i, i < t → i ≠ s → ob (A i) ≠ some g3 := by
                        intro i hi hit hob2
                        rcases hob with e | e
                        · exact hit (HS.out.dis i s g3 hi hlt hob2 e)
                        · have := hlq i g3 hi hob2; omega
                      have HP := Lib.hid (hG8.put hlt ho8 q1 q2 q3)
                      have d1 := cell_blk hG8.hb (i := s) (v := arr[s]'(by rw [hG8.hz]; exact hlt)) (by simp)
                      generalize arr[s]'_ = old at d1
                      have d2 := free_blk hG8.hb s
                      have HF9 := Lib.hid (hF8.keep (Kept.cell w8 gg s (.slice (some ⟨g3, 0, none⟩) (N s + 64) cap3)) (fun j x hj hx e => by have := HAL.out j x hj hx; omega) (fun e => by have := HGG.out (by omega); omega))
                      have HK9 := Lib.hid ((HK6.out.trans hko (fun x _ e => ⟨s, hlt, e⟩)).trans (Kept.cell w8 gg s (.slice (some ⟨g3, 0, none⟩) (N s + 64) cap3)) (fun x hx e => by exfalso; omega))
                      clear ho8 hv8 hsp8 hko hob hlq hF8 hG8 q1 q2 q3 c1
                      go_wp2
                      go_roundw
                      case rel =>
                        refine ⟨s + 1, _, _, by omega, by go_num, HF9.out, HP.out, fun j hj => ?_, HK9.out⟩
                        by_cases e : j = s
                        · subst e
                          rw [updV, if_pos rfl, List.take_append_of_le_length (by rw [mkL_len (mkS_len j)]; exact Nat.le_refl _), List.take_of_length_le (by rw [mkL_len (mkS_len j)]; exact Nat.le_refl _)]
                        · rw [updV, if_neg e]; exact HT.out j (by omega)
                      case measure => simp [intOf]; omega
                · have hge : ¬ ((s : Int) < (t : Int)) := by omega
                  obtain rfl : s = t := by omega
                  clear hlt hs
                  go_wp2
                  obtain ⟨w7, rfl⟩ : ∃ x : World, x = wr := ⟨_, rfl⟩
                  go_loopw [14] (fun i wr => ∃ q : Nat, q ≤ s ∧ i = .int .i64 q ∧ Kept (fun _ => False) w7 wr) (fun i _ => s - (intOf i).toNat)
                  case atStart => exact ⟨0, Nat.zero_le _, rfl, Kept.refl _ _⟩
                  case round =>
                    obtain ⟨q, hq, rfl, hkx⟩ := hrel
                    have HX := Lib.hid hkx
                    clear hkx
                    by_cases hlt : q < s
                    · have i0 : (0 : Int) ≤ (q : Int) := by omega
                      have i1 : (q : Int) < (s : Int) := by omega
                      have hNs := HN.out q hlt
                      have c0 := (HF.out.kept0 HX.out).tab q hlt
                      obtain ⟨g, cg, d1, dg, d63, hcell⟩ := HG.out.tcells hlt
                      have D1 := Lib.hid d1
                      have DC := Lib.hid hcell
                      clear d1 hcell
                      go_wp2
                      go_loopw [15] (fun i wr => ∃ r : Nat, r ≤ N q ∧ i = .int .i64 r ∧ Kept (fun _ => False) w7 wr) (fun i _ => N q - (intOf i).toNat)
                      case atStart => exact ⟨0, Nat.zero_le _, rfl, HX.out⟩
                      case round =>
                        obtain ⟨r, hr, rfl, hky⟩ := hrel
                        have HY := Lib.hid hky
                        have c1 := (HF.out.kept0 hky).tab q hlt
                        clear c0 hky
                        by_cases hlt2 : r < N q
                        · as_aux_lemma =>
                          obtain ⟨g', hg', -, dg', hc'⟩ := HF.out.cells hlt hlt2
                          have D2 := Lib.hid (show ∀ (wz : World), Kept (fun _ => False) w7 wz → ∀ j u, (#[.int .i64 (markM (q : Int) (r : Int)), .int .i64 0, .slice none 0 0, .slice none 0 0] : Array Value)[j]? = some u → wz.cell? ⟨g, r * 4 + j, none⟩ = some u from fun wz hz j u hu => by
                            have hj : j < 4 := (Array.getElem?_eq_some_iff.1 hu).1
                            have h2 : (r + 1) * 4 ≤ N q * 4 := Nat.mul_le_mul_right 4 hlt2
                            have e := mkL_get (f := mkS q) (mkS_len q) hlt2 hj
                            rw [← HT.out q hlt, List.getElem?_take, if_pos (by omega)] at e
                            rw [World.cell?_of_block (hz.block g dg id), DC.out r j (by omega) hj, e, ← hu]
                            simp [mkS])
                          have D3 := Lib.hid (show ∀ (wz : World), Kept (fun _ => False) w7 wz → ∀ j u, (#[.int .i64 (markM (q : Int) (r : Int)), .int .i64 0, .slice none 0 0, .slice none 0 0] : Array Value)[j]? = some u → wz.cell? ⟨g', r * 4 + j, none⟩ = some u from fun wz hz j u hu => by
                            have hj : j < 4 := (Array.getElem?_eq_some_iff.1 hu).1
                            rw [World.cell?_of_block (hz.block g' dg' id), hc' j hj, mkL_get (mkS_len q) hlt2 hj, ← hu]
                            simp [mkS])
                          have r0 : (0 : Int) ≤ (r : Int) := by omega
                          have r1 : (r : Int) < (N q : Int) + 64 := by omega
                          have r2 : (r : Int) < (N q : Int) := by omega
                          have HM := Lib.hid (fun wx => markSpan_any (q : Int) (r : Int) (by omega) (by omega) (by omega) (by omega) wx)
                          have HMS := Lib.hid (fun wx => markSame (q : Int) (r : Int) wx)
                          obtain ⟨T', f, hne, hT0, hT3, hT4⟩ := class_any wr
                          have HT0 := Lib.hid hT0
                          have HT3 := Lib.hid hT3
                          have HT4 := Lib.hid (fun n => HY.out.trans0 (hT4 n))
                          clear hT0 hT3 hT4
                          have hT1 : ∀ n, (f n).cell? ⟨gg, q, none⟩ = some (.slice (some ⟨g, 0, none⟩) (N q + 64) cg) := fun n => (World.cell?_of_block ((HT4.out n).block gg (block_lt_of_cell D1.out) id)).trans D1.out
                          have hT2 : ∀ n, (f n).cell? ⟨gl, q, none⟩ = some (.slice (A q) (N q) (C q)) := fun n => (HF.out.kept0 (HT4.out n)).tab q hlt
                          rw [hg'] at hT2
                          clear hg' hc'
                          go_wp2
                          refine wp_region_quiet_cls (C := fun w' => ∃ n : T', w' = f n) (by kernel_rfl) (by kernel_rfl) HT0.out ?_
                          iterate 6 go_big_quiet_step (first | (go_at_call 89; exact (HM.out _).mono (fun _ _ h => ⟨h.1, HT3.out _ _ h.2⟩)) | (go_at_call 51; exact (HMS.out _).mono (fun _ _ h => ⟨h.1, HT3.out _ _ h.2⟩)))
                          refine wq_load_mid (by kernel_rfl) 46 _ rfl g' (r * 4) rfl _ (fun w' hw' => by obtain ⟨n, rfl⟩ := hw'; exact D3.out _ (HT4.out n)) Tryz.underlying46 rfl (by kernel_rfl) ?_
                          simp only [Act.put, List.setIfInBounds_toArray, List.set_cons_zero, List.set_cons_succ]
                          iterate 12 go_big_quiet_step (first | (go_at_call 89; exact (HM.out _).mono (fun _ _ h => ⟨h.1, HT3.out _ _ h.2⟩)) | (go_at_call 51; exact (HMS.out _).mono (fun _ _ h => ⟨h.1, HT3.out _ _ h.2⟩)))
                          refine wq_load_mid (by kernel_rfl) 46 _ rfl g (r * 4) rfl _ (fun w' hw' => by obtain ⟨n, rfl⟩ := hw'; exact D2.out _ (HT4.out n)) Tryz.underlying46 rfl (by kernel_rfl) ?_
                          simp only [Act.put, List.setIfInBounds_toArray, List.set_cons_zero, List.set_cons_succ]
                          iterate 6 go_big_quiet_step (first | (go_at_call 89; exact (HM.out _).mono (fun _ _ h => ⟨h.1, HT3.out _ _ h.2⟩)) | (go_at_call 51; exact (HMS.out _).mono (fun _ _ h => ⟨h.1, HT3.out _ _ h.2⟩)))
                          refine wpQuiet_nil ?_
                          intro _ hw'
                          obtain ⟨nq, hw''⟩ := hw'
                          subst hw''
                          have HKn := Lib.hid (HT4.out nq)
                          clear hT1 hT2 HT0 HT3 HT4 D2 D3
                          generalize f nq = wn at HKn ⊢
                          go_wp2
                          go_roundw
                          case rel => exact ⟨r + 1, by omega, by go_num, HKn.out⟩
                          case measure => simp [intOf]; omega
                        · have hge : ¬ ((r : Int) < (N q : Int)) := by omega
                          go_wp2
                          go_roundw
                          case rel => exact ⟨q + 1, by omega, by go_num, HY.out⟩
                          case measure => simp [intOf]; omega
                    · have hge : ¬ ((q : Int) < (s : Int)) := by omega
                      go_wp2
                      go_ret
                      exact ⟨rfl, HK.out.trans0 HX.out⟩
end Go.Proofs.YtndflnedkpmpfaaGreatDoor
