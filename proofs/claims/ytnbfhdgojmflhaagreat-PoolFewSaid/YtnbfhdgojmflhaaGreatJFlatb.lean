/-
  No statement is proved here: a part of what the claim's last text rests on.
-/
import Derived.Test.YtnbfhdgojmflhaaGreatJFlata
import Derived.Deep.RegionHeld3
namespace Go.Proofs.YtnbfhdgojmflhaaGreat
open Go.RowKit
set_option maxRecDepth 100000 in
set_option maxHeartbeats 8000000 in
theorem flatBytes_any (w : World) (B gl cl m : Nat) (A : Nat → Option Addr) (N C : Nat → Nat) (L : Nat → Bytes) (h : FB w B gl m A N C L) (hs : Sep m gl A) (hm : m ≤ 1000) (hN : ∀ k, k < m → N k ≤ 1000000) (hB : B ≤ w.heap.size) :
    Calls Tryz.prog 105 #[.slice (some ⟨gl, 0, none⟩) m cl] w fun e w' => e = .returned (.bool true) ∧ Kept (OwnS m A) w w' := by
  have H := Lib.hid h
  have HS := Lib.hid hs
  have HN := Lib.hid hN
  have HB := Lib.hid hB
  clear h hs hN hB
  go_enter Tryz.func105, Tryz.ntmps105
  go_wp2
  go_loopw [3] (fun i wr => ∃ (k : Nat) (L : Nat → Bytes), k ≤ m ∧ i = .int .i64 k ∧ FB wr B gl m A N C L ∧ (∀ j, j < k → L j = marks j (N j)) ∧ Kept (OwnS m A) w wr) (fun i _ => m - (intOf i).toNat)
  case atStart => exact ⟨0, L, Nat.zero_le _, rfl, H.out, by omega, Kept.refl _ _⟩
  case round =>
    obtain ⟨k, L1, hk, rfl, hF, hL, hkr⟩ := hrel
    have HF := Lib.hid hF
    have HL := Lib.hid hL
    have HK := Lib.hid hkr
    clear hF hL hkr
    by_cases hlt : k < m
    · have i0 : (0 : Int) ≤ (k : Int) := by omega
      have i1 : (k : Int) < (m : Int) := by omega
      have hNk := HN.out k hlt
      go_wp2
      go_loopw [4] (fun i wr => ∃ (t : Nat) (L : Nat → Bytes), t ≤ N k ∧ i = .int .i64 t ∧ FB wr B gl m A N C L ∧ (∀ j, j < k → L j = marks j (N j)) ∧ (∀ s, s < t → (L k)[s]? = some (markB (k : Int) (s : Int))) ∧ Kept (OwnS m A) w wr) (fun i _ => N k - (intOf i).toNat)
      case atStart => exact ⟨0, L1, Nat.zero_le _, rfl, HF.out, HL.out, by omega, HK.out⟩
      case round =>
        obtain ⟨t, L2, ht, rfl, hF2, hL2, hS2, hk2⟩ := hrel
        have HF2 := Lib.hid hF2
        have HL2 := Lib.hid hL2
        have HS2 := Lib.hid hS2
        have HK2 := Lib.hid hk2
        have c1 := hF2.tab k hlt
        clear hF2 hL2 hS2 hk2 HF HL HK
        by_cases hlt2 : t < N k
        · obtain ⟨g, hg, c2, f2, _⟩ := HF2.out.cell hlt hlt2
          have HG := Lib.hid hg
          rw [hg] at c1
          have hgl : gl ≠ g := fun e => HS.out.ngl k hlt (by rw [hg, e]; rfl)
          have t0 : (0 : Int) ≤ (t : Int) := by omega
          have t1 : (t : Int) < (N k : Int) := by omega
          have HM := Lib.hid (fun wx => markByte_any (k : Int) (t : Int) (by omega) (by omega) (by omega) (by omega) wx)
          have c1' := Lib.hid (show ∀ x, (wr.drew.setCell ⟨g, t, none⟩ x).cell? ⟨gl, k, none⟩ = some (.slice (some ⟨g, 0, none⟩) (N k) (C k)) from fun x => (World.cell?_of_block ((Kept.cell wr.drew g t x).block gl (block_lt_of_cell c1) hgl)).trans c1)
          clear hg
          go_wp2
          go_region_held3 (fun w' => w'.cell? ⟨gl, k, none⟩ = some (.slice (some ⟨g, 0, none⟩) (N k) (C k)))
            (first
              | exact c1
              | exact c1'.out _)
            (first
              | (go_at_call 146; refine (HM.out _).mono ?_; rintro e wx ⟨rfl, rfl⟩))
          have HF3 := Lib.hid ((HF2.out.set HS.out hlt HG.out (i := t) (markB (k : Int) (t : Int))).kept0 ((Kept.refl (fun _ => False) _).drew))
          have HK3 := Lib.hid ((HK2.out.trans (Kept.cell wr g t (.int .u8 (markB (k : Int) (t : Int)).toNat)) (fun x _ e => ⟨k, hlt, by rw [e, HG.out]; rfl⟩)).drew)
          clear c1 c2 f2 c1' HM
          go_wp2
          go_roundw
          case rel =>
            refine ⟨t + 1, _, by omega, by go_num, HF3.out, fun j hj => ?_, fun s hs => ?_, HK3.out⟩
            · rw [updL, if_neg (by omega)]; exact HL2.out j hj
            · rw [updL, if_pos rfl, List.getElem?_set]
              have hlen := HF2.out.len hlt
              by_cases e : t = s
              · subst e; rw [if_pos rfl, if_pos (by omega)]
              · rw [if_neg e]; exact HS2.out s (by omega)
          case measure => simp [intOf]; omega
        · have hge : ¬ ((t : Int) < (N k : Int)) := by omega
          go_wp2
          go_roundw
          case rel =>
            refine ⟨k + 1, L2, by omega, by go_num, HF2.out, fun j hj => ?_, HK2.out⟩
            by_cases e : j < k
            · exact HL2.out j e
            · obtain rfl : j = k := by omega
              have hlen := HF2.out.len hlt
              apply List.ext_getElem?
              intro s
              by_cases hs : s < N j
              · rw [HS2.out s (by omega), marks_get hs]
              · rw [List.getElem?_eq_none (by omega), List.getElem?_eq_none (by rw [len_marks]; omega)]
          case measure => simp [intOf]; omega
    · have hge : ¬ ((k : Int) < (m : Int)) := by omega
      obtain rfl : k = m := by omega
      have HF1 := Lib.hid (HF.out.congr (L' := fun j => marks j (N j)) HL.out)
      have hszk := HK.out.size
      clear HF HL
      go_wp2_with (refine wl_makeG rfl _ _ 45 26 rfl (z := .slice none 0 0) (size := 1) (bytes := 24) Tryz.underlying45 (by kernel_rfl) .i64 .i64 k k rfl rfl (Nat.le_refl _) (by omega) (by omega) ?_)
      intro gg w2 ngg mgg hbg hkg
      have HF2 := Lib.hid (HF1.out.kept0 hkg)
      have HK2 := Lib.hid (HK.out.trans0 hkg)
      have HG2 := Lib.hid (show GS w2 B gg gl k 0 A N _ (fun _ => []) from ⟨hbg, by rw [size_madeCells], by omega⟩)
      have HAL := Lib.hid (show ∀ j x, j < k → ob (A j) = some x → x < gg from fun j x hj hx => by have := (HF1.out.lt hj hx).1; omega)
      have nw : w.heap.size ≤ gg := by omega
      have hglgg : 0 < k → gl < gg := fun h0 => by have := block_lt_of_cell (HF1.out.tab 0 h0); simp only at this; omega
      have HGG := Lib.hid hglgg
      clear hbg hkg HF1 HK hlt hk hge hglgg H
      go_wp2
      go_loopw [6] (fun i wr => ∃ (t : Nat) (arr : Array Value) (T : Nat → Bytes), t ≤ k ∧ i = .int .i64 t ∧ FB wr B gl k A N C (fun j => marks j (N j)) ∧ GS wr B gg gl k t A N arr T ∧ (∀ j, j < t → T j = marks j (N j + 64)) ∧ Kept (OwnS k A) w wr) (fun i _ => k - (intOf i).toNat)
      case atStart => exact ⟨0, _, _, Nat.zero_le _, rfl, HF2.out, HG2.out, by omega, HK2.out⟩
      case round =>
        obtain ⟨t, arr, T, ht, rfl, hF, hG, hT, hkr⟩ := hrel
        have HF := Lib.hid hF
        have HG := Lib.hid hG
        have HT := Lib.hid hT
        have HK := Lib.hid hkr
        clear hF hG hT hkr HF2 HG2 HK2
        by_cases hlt : t < k
        · have i0 : (0 : Int) ≤ (t : Int) := by omega
          have i1 : (t : Int) < (k : Int) := by omega
          have c1 := HF.out.tab t hlt
          have hNt := HN.out t hlt
          have hggl := heap_lt HG.out.hb
          obtain ⟨wq, rfl⟩ : ∃ x : World, x = wr := ⟨_, rfl⟩
          go_wp2
          go_loopw [7, 8] (fun gv i wr => ∃ (s : Nat) (A' : Option Addr) (c' : Nat), s ≤ 64 ∧ i = .int .i64 s ∧ gv = .slice A' (N t + s) c' ∧ wr.ownsRow B 5 1 (.slice A' (N t + s) c') (N t + s) (cellsOf (marks t (N t + s))).toList ∧
            wr.ownsRow B 5 1 (.slice (A t) (N t) (C t)) (N t) (cellsOf (marks t (N t))).toList ∧ ((A' = A t ∧ c' = C t) ∨ (∀ x, ob A' = some x → wq.heap.size ≤ x)) ∧ Kept (fun x => ob (A t) = some x) wq wr) (fun gv i _ => 64 - (intOf i).toNat)
          case atStart => exact ⟨0, A t, C t, by omega, rfl, rfl, HF.out.row t hlt, HF.out.row t hlt, .inl ⟨rfl, rfl⟩, Kept.refl _ _⟩
          case round =>
            obtain ⟨s, A', c', hs, rfl, rfl, hrow, hV, hA', hkx⟩ := hrel
            have HR := Lib.hid hrow
            have HV := Lib.hid hV
            have HA' := Lib.hid hA'
            have HX := Lib.hid hkx
            have szx := hkx.size
            have szq := HK.out.size
            clear hrow hV hA' hkx
            by_cases h64 : s < 64
            · have s1 : (s : Int) < 64 := by omega
              have c1x := (World.cell?_of_block (HX.out.block gl (block_lt_of_cell c1) (HS.out.ngl t hlt))).trans c1
              have HM := Lib.hid (fun wx => markByte_any (t : Int) ((N t : Int) + (s : Int)) (by omega) (by omega) (by omega) (by omega) wx)
              have ka : Kept (fun _ => False) wr (wr.alloc (.cells #[.int .u8 (markB (t : Int) ((N t : Int) + (s : Int))).toNat] 5)) := (Kept.refl _ _).alloc _
              have HRa := Lib.hid (ownsRow_keep HR.out ka (fun _ _ => id))
              have HVa := Lib.hid (ownsRow_keep HV.out ka (fun _ _ => id))
              have HXa := Lib.hid (HX.out.trans0 ka)
              have HW := Lib.hid (show ∀ (j : Nat) (u : Value), [Value.int .u8 (markB (t : Int) ((N t : Int) + (s : Int))).toNat][j]? = some u → (wr.alloc (.cells #[.int .u8 (markB (t : Int) ((N t : Int) + (s : Int))).toNat] 5)).cell? ⟨wr.heap.size, 0 + j, none⟩ = some u from fun j u hu => cell_blk (heap_alloc_new wr _) (by simpa using hu))
              clear ka
              go_wp2_with (first
                | (go_at_call 146; refine (HM.out _).mono ?_; rintro e wx ⟨rfl, rfl⟩)
                | (at_builtin; refine wl_appendS rfl _ _ 26 rfl B 5 Tryz.underlying26 info5 rfl (by omega) (.slice A' (N t + s) c') (N t + s) (cellsOf (marks t (N t + s))).toList rfl HRa.out wr.heap.size 0 1 1 [Value.int .u8 (markB (t : Int) ((N t : Int) + (s : Int))).toNat] rfl rfl HW.out (by simp [Value.oneCell']) (by omega) (by have : maxLen = 9223372036854775807 := rfl; omega) (by omega) (by have := HB.out; have := HXa.out.size; omega) ?_))
              intro g3 cap3 w3 ho3 hv3 hsp3 m3
              obtain ⟨ys, ey, ly⟩ := marks_pre t (N t) (s + 1)
              have ho3' : w3.ownsRow B 5 1 (.slice (some ⟨g3, 0, none⟩) (N t + (s + 1)) cap3) (N t + (s + 1)) (cellsOf (marks t (N t + (s + 1)))).toList := by
                rw [show N t + (s + 1) = (N t + s) + 1 from rfl, marks_succ, cellsOf_append, Int.natCast_add]
                exact ho3
              have hg1 := grow_one (len_marks t (N t)) (fun x hx => (HF.out.lt hlt hx).1) HVa.out ys HA'.out HXa.out (by rw [← ey]; exact ho3') (hsp3.imp id (fun h => ⟨by omega, h.2⟩))
              have HO3 := Lib.hid ho3'
              have HG1 := Lib.hid hg1
              clear ho3 hv3 hsp3 ho3' hg1 HRa HVa HXa HW ey ly c1x HM
              go_wp2
              go_roundw
              case rel => exact ⟨s + 1, some ⟨g3, 0, none⟩, cap3, by omega, by go_num, rfl, HO3.out, HG1.out.1, HG1.out.2.1.imp (fun h => h) id, HG1.out.2.2⟩
              case measure => simp [intOf]; omega
            · have hge : ¬ ((s : Int) < 64) := by omega
              obtain rfl : s = 64 := by omega
              have hrow := HR.out
              obtain ⟨A5, cap5, e5, hA5⟩ := row_form' hrow
              injection e5 with e5 _ e6
              subst e5; subst e6
              obtain ⟨g5, rfl⟩ := hA5 (by omega)
              have hGx := HG.out.keep HX.out (fun e => by have := HAL.out t gg hlt e; omega) (fun j g hj _ _ _ hi => hi t hlt (by omega))
              have hFx : FB wr B gl k A N C (fun j => marks j (N j)) := ⟨fun j hj => (World.cell?_of_block (HX.out.block gl (block_lt_of_cell (HF.out.tab j hj)) (HS.out.ngl t hlt))).trans (HF.out.tab j hj), fun j hj => by
                by_cases e : j = t
                · subst e; exact HV.out
                · exact ownsRow_keep (HF.out.row j hj) HX.out (fun x hx e' => by rw [ownBlock_slice] at hx; exact e (HS.out.dis j t x hj hlt hx e'))⟩
              have hlq : ∀ j x, j < k → ob (A j) = some x → x < wq.heap.size := fun j x hj hx => (HF.out.lt hj hx).1
              have hglq := block_lt_of_cell c1
              simp only at hglq
              have q1 : g5 ≠ gg := by
                rcases HA'.out with ⟨e, _⟩ | e
                · have := HAL.out t g5 hlt (by rw [← e]; rfl); omega
                · have := e g5 rfl; omega
              have q2 : g5 ≠ gl := by
                rcases HA'.out with ⟨e, _⟩ | e
                · intro e2; exact HS.out.ngl t hlt (by rw [← e, e2]; rfl)
                · have := e g5 rfl; omega
              have q3 : ∀ i, i < k → i ≠ t → ob (A i) ≠ some g5 := by
                intro i hi hit hob
                rcases HA'.out with ⟨e, _⟩ | e
                · exact hit (HS.out.dis i t g5 hi hlt hob (by rw [← e]; rfl))
                · have := e g5 rfl; have := hlq i g5 hi hob; omega
              have HP := Lib.hid (hGx.put hlt hrow q1 q2 q3)
              have d1 := cell_blk hGx.hb (i := t) (v := arr[t]'(by rw [hGx.hz]; exact hlt)) (by simp)
              generalize arr[t]'_ = old at d1
              have d2 := free_blk hGx.hb t
              have HF4 := Lib.hid (hFx.keep (Kept.cell wr gg t (.slice (some ⟨g5, 0, none⟩) (N t + 64) c')) (fun j x hj hx e => by have := HAL.out j x hj hx; omega) (fun e => by have := HGG.out (by omega); omega))
              have HK4 := Lib.hid ((HK.out.trans HX.out (fun x _ e => ⟨t, hlt, e⟩)).trans (Kept.cell wr gg t (.slice (some ⟨g5, 0, none⟩) (N t + 64) c')) (fun x hx e => by exfalso; omega))
              have hz4 := hGx.hz
              clear hrow hA5 hGx hFx hlq q1 q2 q3 HR HV
              go_wp2
              go_roundw
              case rel =>
                refine ⟨t + 1, _, _, by omega, by go_num, HF4.out, HP.out, fun j hj => ?_, HK4.out⟩
                by_cases e : j = t
                · subst e; rw [updL, if_pos rfl]
                · rw [updL, if_neg e]; exact HT.out j (by omega)
              case measure => simp [intOf]; omega
        · have hge : ¬ ((t : Int) < (k : Int)) := by omega
          obtain rfl : t = k := by omega
          clear hlt ht
          go_wp2
          obtain ⟨w3, rfl⟩ : ∃ x : World, x = wr := ⟨_, rfl⟩
          have sz3 := HK.out.size
          go_loopw [9] (fun i wr => ∃ s : Nat, s ≤ t ∧ i = .int .i64 s ∧ Kept (fun _ => False) w3 wr) (fun i _ => t - (intOf i).toNat)
          case atStart => exact ⟨0, Nat.zero_le _, rfl, Kept.refl _ _⟩
          case round =>
            obtain ⟨s, hs, rfl, hkx⟩ := hrel
            have HX := Lib.hid hkx
            clear hkx
            by_cases hlt : s < t
            · have i0 : (0 : Int) ≤ (s : Int) := by omega
              have i1 : (s : Int) < (t : Int) := by omega
              have hNs := HN.out s hlt
              go_wp2
              go_loopw [10] (fun i wr => ∃ r : Nat, r ≤ N s + 64 ∧ i = .int .i64 r ∧ Kept (fun _ => False) w3 wr) (fun i _ => N s + 64 - (intOf i).toNat)
              case atStart => exact ⟨0, Nat.zero_le _, rfl, HX.out⟩
              case round =>
                obtain ⟨r, hr, rfl, hky⟩ := hrel
                have HY := Lib.hid hky
                obtain ⟨g, cg, d1, hcell⟩ := (HG.out.kept0 hky).tcell hlt
                have hF := HF.out.kept0 hky
                have c1 := hF.tab s hlt
                by_cases hlt2 : r < N s + 64
                · have d2 := hcell r hlt2
                  rw [HT.out s hlt, bAt_of (marks_get hlt2)] at d2
                  have r0 : (0 : Int) ≤ (r : Int) := by omega
                  have r1 : (r : Int) < (N s : Int) + 64 := by omega
                  have HM := Lib.hid (fun wx => markByte_any (s : Int) (r : Int) (by omega) (by omega) (by omega) (by omega) wx)
                  by_cases hlt3 : r < N s
                  · obtain ⟨g', hg', c3, _, _⟩ := hF.cell hlt hlt3
                    rw [hg'] at c1
                    rw [show bAt (marks s (N s)) r = markB (s : Int) (r : Int) from bAt_of (marks_get hlt3)] at c3
                    have r2 : (r : Int) < (N s : Int) := by omega
                    have hd : decide (r < N s) = true := by simpa using hlt3
                    clear hF hg' hcell hky
                    go_wp2
                    go_quiet (first | (go_at_call 146; exact (HM.out _).mono (fun _ _ h => ⟨h.1, _, h.2.symm⟩)))
                    go_wp2
                    go_roundw
                    case rel => exact ⟨r + 1, by omega, by go_num, HY.out.drewN _⟩
                    case measure => simp [intOf]; omega
                  · have hd : decide (r < N s) = false := by simpa using hlt3
                    clear hF hcell hky
                    go_wp2
                    go_quiet (first | (go_at_call 146; exact (HM.out _).mono (fun _ _ h => ⟨h.1, _, h.2.symm⟩)))
                    go_wp2
                    go_roundw
                    case rel => exact ⟨r + 1, by omega, by go_num, HY.out.drewN _⟩
                    case measure => simp [intOf]; omega
                · have hge : ¬ ((r : Int) < (N s : Int) + 64) := by omega
                  clear hF hcell hky
                  go_wp2
                  go_roundw
                  case rel => exact ⟨s + 1, by omega, by go_num, HY.out⟩
                  case measure => simp [intOf]; omega
            · have hge : ¬ ((s : Int) < (t : Int)) := by omega
              have HF5 := Lib.hid (HF.out.kept0 HX.out)
              have HG5 := Lib.hid (show GS wr B gg gl t 0 A N arr (fun _ => []) from ⟨(HG.out.kept0 HX.out).hb, HG.out.hz, by omega⟩)
              have HK5 := Lib.hid (HK.out.trans0 HX.out)
              clear HF HG HK HT HX hlt
              go_wp2
              go_loopw [11] (fun i wr => ∃ (s : Nat) (arr : Array Value) (T : Nat → Bytes), s ≤ t ∧ i = .int .i64 s ∧ FB wr B gl t A N C (fun j => marks j (N j)) ∧ GS wr B gg gl t s A N arr T ∧ (∀ j, j < s → ∀ r, r < N j → (T j)[r]? = some (markB (j : Int) (r : Int))) ∧ Kept (OwnS t A) w wr) (fun i _ => t - (intOf i).toNat)
              case atStart => exact ⟨0, _, _, Nat.zero_le _, rfl, HF5.out, HG5.out, by omega, HK5.out⟩
              case round =>
                obtain ⟨s, arr, T, hs, rfl, hF, hG, hT, hkr⟩ := hrel
                have HF := Lib.hid hF
                have HG := Lib.hid hG
                have HT := Lib.hid hT
                have HK := Lib.hid hkr
                have szr := hkr.size
                clear hF hG hT hkr HF5 HG5 HK5
                by_cases hlt : s < t
                · have i0 : (0 : Int) ≤ (s : Int) := by omega
                  have i1 : (s : Int) < (t : Int) := by omega
                  have hNs := HN.out s hlt
                  go_wp2_with (refine wl_makeB rfl _ _ rfl .i64 .i64 64 64 rfl rfl (Nat.le_refl _) (by decide) ?_)
                  intro gm wm nm mm hbm hkm
                  have HFm := Lib.hid (HF.out.kept0 hkm)
                  have HKMM := Lib.hid hkm
                  have HKm := Lib.hid (HK.out.trans0 hkm)
                  have HBm := Lib.hid hbm
                  have szm := hkm.size
                  have hgm : w.heap.size ≤ gm := by omega
                  have HGMl := Lib.hid (show (∀ j x, j < t → ob (A j) = some x → x < gm) ∧ gl < gm ∧ gg < gm from ⟨fun j x hj hx => by have := (HF.out.lt hj hx).1; omega, by have := block_lt_of_cell (HF.out.tab s hlt); simp only at this; omega, by have := heap_lt HG.out.hb; omega⟩)
                  clear hbm hkm HF HK
                  go_wp2
                  go_loopw [13] (fun i wr => ∃ (r : Nat) (lm : Bytes), r ≤ 64 ∧ i = .int .i64 r ∧ lm.length = 64 ∧ wr.heap[gm]? = some (.cells (cellsOf lm) 5 (0, 0)) ∧ Kept (fun x => x = gm) wm wr) (fun i _ => 64 - (intOf i).toNat)
                  case atStart => exact ⟨0, zeros 64, by omega, rfl, len_zeros _, HBm.out, Kept.refl _ _⟩
                  case round =>
                    obtain ⟨r, lm, hr, rfl, hlm, hbl, hkl⟩ := hrel
                    have HLM := Lib.hid hlm
                    have HBL := Lib.hid hbl
                    have HKL := Lib.hid hkl
                    by_cases h64 : r < 64
                    · have r0 : (0 : Int) ≤ (r : Int) := by omega
                      have r1 : (r : Int) < 64 := by omega
                      have c2 := cell_bytes hbl (i := r) (by omega)
                      have f2 := free_blk hbl r
                      have HM := Lib.hid (fun wx => markByte_any ((s : Int) + (t : Int)) (r : Int) (by omega) (by omega) (by omega) (by omega) wx)
                      clear hlm hbl hkl
                      go_wp2_with (go_at_call 146; refine (HM.out _).mono ?_; rintro e wx ⟨rfl, rfl⟩)
                      go_roundw
                      case rel => exact ⟨r + 1, lm.set r (markB ((s : Int) + (t : Int)) (r : Int)), by omega, by go_num, by simp [HLM.out], set_bytes HBL.out r _, HKL.out.trans' (Kept.cell wr gm r _)⟩
                      case measure => simp [intOf]; omega
                    · have hge : ¬ ((r : Int) < 64) := by omega
                      have HF6 := Lib.hid (HFm.out.keep hkl (fun j x hj hx e => by have := HGMl.out.1 j x hj hx; omega) (by have := HGMl.out.2.1; omega))
                      have HG6 := Lib.hid (HG.out.keep (S := fun x => x = gm) ((HKMM.out.mono (fun _ _ e => e.elim)).trans' hkl) (by have := HGMl.out.2.2; omega) (fun j g hj hg _ _ _ e => by omega))
                      have c1 := HF6.out.tab s hlt
                      have hrow := HF6.out.row s hlt
                      have HR := Lib.hid hrow
                      have HW := Lib.hid (show ∀ (j : Nat) (u : Value), (cellsOf lm).toList[j]? = some u → wr.cell? ⟨gm, 0 + j, none⟩ = some u from fun j u hu => cell_blk hbl (by simpa using hu))
                      have HK6 := Lib.hid (HKm.out.trans hkl (fun x hx e => by omega))
                      clear hlm hbl hkl hrow HFm HG HKm HBm
                      go_wp2_with (at_builtin; refine wl_appendS rfl _ _ 26 rfl B 5 Tryz.underlying26 info5 rfl (by omega) (.slice (A s) (N s) (C s)) (N s) (cellsOf (marks s (N s))).toList rfl HR.out gm 0 64 64 (cellsOf lm).toList rfl (by rw [cellsOf_len, HLM.out]) HW.out (fun u hu => (Array.all_eq_true_iff_forall_mem.1 (one_cellsOf lm)) u (by simpa using hu)) (by omega) (by have : maxLen = 9223372036854775807 := rfl; omega) (by omega) (by have := HB.out; have := HK6.out.size; omega) ?_)
                      intro g3 cap3 w8 ho8 hv8 hsp8 m8
                      have hko : Kept (fun x => ob (A s) = some x) wr w8 := by
                        rcases hsp8 with ⟨⟨e1, _⟩, h⟩ | ⟨_, h⟩
                        · exact h.mono (fun x _ e => by rw [e1, e]; rfl)
                        · exact h.mono (fun _ _ e => e.elim)
                      have hob : ob (A s) = some g3 ∨ wr.heap.size ≤ g3 := by
                        rcases hsp8 with ⟨⟨e1, _⟩, h⟩ | ⟨e, _⟩
                        · left; rw [e1]; rfl
                        · right; omega
                      have hlq : ∀ j x, j < t → ob (A j) = some x → x < wr.heap.size := fun j x hj hx => (HF6.out.lt hj hx).1
                      have hglq := block_lt_of_cell c1
                      have hggq := heap_lt HG6.out.hb
                      simp only at hglq
                      have hF8 : FB w8 B gl t A N C (fun j => marks j (N j)) := ⟨fun j hj => (World.cell?_of_block (hko.block gl (block_lt_of_cell (HF6.out.tab j hj)) (HS.out.ngl s hlt))).trans (HF6.out.tab j hj), fun j hj => by
                        by_cases e : j = s
                        · subst e; exact hv8
                        · exact ownsRow_keep (HF6.out.row j hj) hko (fun x hx e' => by rw [ownBlock_slice] at hx; exact e (HS.out.dis j s x hj hlt hx e'))⟩
                      have hG8 := HG6.out.keep hko (fun e => by have := HAL.out s gg hlt e; omega) (fun j g hj _ _ _ hi => hi s hlt (by omega))
                      have q1 : g3 ≠ gg := by
                        rcases hob with e | e
                        · have := HAL.out s g3 hlt e; omega
                        · omega
                      have q2 : g3 ≠ gl := by
                        rcases hob with e | e
                        · intro e2; exact HS.out.ngl s hlt (by rw [← e2]; exact e)
                        · omega
                      have q3 : ∀ i, i < t → i ≠ s → ob (A i) ≠ some g3 := by
                        intro i hi hit hob2
                        rcases hob with e | e
                        · exact hit (HS.out.dis i s g3 hi hlt hob2 e)
                        · have := hlq i g3 hi hob2; omega
                      have HP := Lib.hid (hG8.put hlt (t := marks s (N s) ++ lm) (by rw [cellsOf_append]; exact ho8) q1 q2 q3)
                      have d1 := cell_blk hG8.hb (i := s) (v := arr[s]'(by rw [hG8.hz]; exact hlt)) (by simp)
                      generalize arr[s]'_ = old at d1
                      have d2 := free_blk hG8.hb s
                      have HF9 := Lib.hid (hF8.keep (Kept.cell w8 gg s (.slice (some ⟨g3, 0, none⟩) (N s + 64) cap3)) (fun j x hj hx e => by have := HAL.out j x hj hx; omega) (fun e => by have := HGG.out (by omega); omega))
                      have HK9 := Lib.hid ((HK6.out.trans hko (fun x _ e => ⟨s, hlt, e⟩)).trans (Kept.cell w8 gg s (.slice (some ⟨g3, 0, none⟩) (N s + 64) cap3)) (fun x hx e => by exfalso; omega))
                      clear ho8 hv8 hsp8 hko hob hlq hF8 hG8 q1 q2 q3 c1
                      go_wp2
                      go_roundw
                      case rel =>
                        refine ⟨s + 1, _, _, by omega, by go_num, HF9.out, HP.out, fun j hj r hr => ?_, HK9.out⟩
                        by_cases e : j = s
                        · subst e
                          rw [updL, if_pos rfl, List.getElem?_append_left (by rw [len_marks]; exact hr)]
                          exact marks_get hr
                        · rw [updL, if_neg e]; exact HT.out j (by omega) r hr
                      case measure => simp [intOf]; omega
                · have hge : ¬ ((s : Int) < (t : Int)) := by omega
                  obtain rfl : s = t := by omega
                  clear hlt hs
                  go_wp2
                  obtain ⟨w7, rfl⟩ : ∃ x : World, x = wr := ⟨_, rfl⟩
                  go_loopw [14] (fun i wr => ∃ q : Nat, q ≤ s ∧ i = .int .i64 q ∧ Kept (fun _ => False) w7 wr) (fun i _ => s - (intOf i).toNat)
                  case atStart => exact ⟨0, Nat.zero_le _, rfl, Kept.refl _ _⟩
                  case round =>
                    obtain ⟨q, hq, rfl, hkx⟩ := hrel
                    have HX := Lib.hid hkx
                    clear hkx
                    by_cases hlt : q < s
                    · have i0 : (0 : Int) ≤ (q : Int) := by omega
                      have i1 : (q : Int) < (s : Int) := by omega
                      have hNs := HN.out q hlt
                      have c0 := (HF.out.kept0 HX.out).tab q hlt
                      go_wp2
                      go_loopw [15] (fun i wr => ∃ r : Nat, r ≤ N q ∧ i = .int .i64 r ∧ Kept (fun _ => False) w7 wr) (fun i _ => N q - (intOf i).toNat)
                      case atStart => exact ⟨0, Nat.zero_le _, rfl, HX.out⟩
                      case round =>
                        obtain ⟨r, hr, rfl, hky⟩ := hrel
                        have HY := Lib.hid hky
                        obtain ⟨g, cg, d1, hcell⟩ := (HG.out.kept0 hky).tcell hlt
                        have hF := HF.out.kept0 hky
                        have c1 := hF.tab q hlt
                        clear c0
                        by_cases hlt2 : r < N q
                        · have d2 := hcell r (by omega)
                          rw [bAt_of (HT.out q hlt r hlt2)] at d2
                          obtain ⟨g', hg', c3, _, _⟩ := hF.cell hlt hlt2
                          rw [hg'] at c1
                          rw [show bAt (marks q (N q)) r = markB (q : Int) (r : Int) from bAt_of (marks_get hlt2)] at c3
                          have r0 : (0 : Int) ≤ (r : Int) := by omega
                          have r1 : (r : Int) < (N q : Int) + 64 := by omega
                          have r2 : (r : Int) < (N q : Int) := by omega
                          have HM := Lib.hid (fun wx => markByte_any (q : Int) (r : Int) (by omega) (by omega) (by omega) (by omega) wx)
                          clear hF hg' hcell hky
                          go_wp2
                          go_quiet (first | (go_at_call 146; exact (HM.out _).mono (fun _ _ h => ⟨h.1, _, h.2.symm⟩)))
                          go_wp2
                          go_roundw
                          case rel => exact ⟨r + 1, by omega, by go_num, HY.out.drewN _⟩
                          case measure => simp [intOf]; omega
                        · have hge : ¬ ((r : Int) < (N q : Int)) := by omega
                          clear hF hcell hky
                          go_wp2
                          go_roundw
                          case rel => exact ⟨q + 1, by omega, by go_num, HY.out⟩
                          case measure => simp [intOf]; omega
                    · have hge : ¬ ((q : Int) < (s : Int)) := by omega
                      go_wp2
                      go_ret
                      exact ⟨rfl, HK.out.trans0 HX.out⟩
end Go.Proofs.YtnbfhdgojmflhaaGreat
