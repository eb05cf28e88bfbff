/-
  No statement is proved here: 'Get' of the document's records.
-/
import Derived.Test.YtbolbddjmmfepaaRc
import Derived.Test.YtbolbddjmmfepaaGx
import Derived.Test.YtbolbddjmmfepaaLgb
namespace Go.Proofs.Ytbolbddjmmfepaa
open Go.RowKit

theorem rget_at (A : Option Addr) (c : Nat) (l : Bytes) (a : Int) (at_ size : Nat) (v : Int) (w : World) (h : RdB w A l) (ha : a = (at_ : Int)) (hs : size ≤ 8) (hl : at_ + size ≤ l.length) (hb : l.length ≤ 1000000) (hv : sgn (valN (cut l at_ size) 0) = v) :
    Calls Try.prog 49 #[.slice A l.length c, .int .i64 a, .int .i64 size] w fun e w' => e = .returned (.int .i64 v) ∧ w = w' := by
  subst ha; subst hv
  exact rget_any A c l at_ size w h hs hl hb
theorem ok_hR0 (b : Bytes) : RecOk (hR0 b) :=
  ⟨sgn_isI (val8 b 0), nat_isI (val4 b 8 4 (by decide)), sgn_isI (val8 _ 19), sgn_isI (val8 _ 27), zero_isI, zero_isI, zero_isI⟩
theorem ok_hR1 (b : Bytes) : RecOk (hR1 b) := by
  have h := ok_hR0 b
  unfold hR1
  split
  · exact ⟨h.lsn, h.turn, h.tx, h.prev, sgn_isI (val8 _ 35), h.blk, h.off⟩
  · exact h
theorem ok_hR (b : Bytes) : RecOk (hR b) := by
  have h := ok_hR1 b
  unfold hR
  split
  · have h2 : RecOk (hR2 b) := ⟨h.lsn, h.turn, h.tx, h.prev, h.next, nat_isI (val4 _ _ 4 (by decide)), nat_isI (val4 _ _ 2 (by decide))⟩
    have h3 : RecOk (hR3 b) := by
      unfold hR3
      split
      · exact ⟨h2.lsn, h2.turn, h2.tx, h2.prev, h2.next, h2.blk, h2.off⟩
      · exact h2
    unfold hR4
    split
    · exact ⟨h3.lsn, h3.turn, h3.tx, h3.prev, h3.next, h3.blk, h3.off⟩
    · exact h3
  · exact h
theorem getR_no1 {b : Bytes} (h : b.length < 35) : getL b = none := by rw [get_eq]; unfold getR; rw [if_pos h]
theorem getR_no2 {b : Bytes} (h : hN b < 17 ∨ b.length < 18 + hN b) : getL b = none := by
  rw [get_eq]; unfold getR
  split
  · rfl
  · first | rfl | rw [if_pos h]
theorem getR_no3 {b : Bytes} (h : ¬ (rightM (hR b) ∧ (encM (hR b)).length = 18 + hN b ∧ encM (hR b) = b.take (18 + hN b))) : getL b = none := by
  rw [get_eq]; unfold getR
  split
  · rfl
  · split
    · rfl
    · first | rfl | rw [if_neg h]
theorem getR_yes {b : Bytes} (h1 : ¬ b.length < 35) (h2 : ¬ (hN b < 17 ∨ b.length < 18 + hN b)) (h : rightM (hR b) ∧ (encM (hR b)).length = 18 + hN b ∧ encM (hR b) = b.take (18 + hN b)) : getL b = some (hR b, 18 + hN b) := by
  rw [get_eq]; unfold getR
  rw [if_neg h1, if_neg h2, if_pos h]
/-- What Get of the document holds ahead of its last look. -/
def RdMid (w : World) (y z : Nat) (R : RecM) (wx : World) : Prop := ∃ A1 c1 A2 c2, RecS wx y R A1 c1 A2 c2 ∧ OwnV wx (y + 1) (.slice A1 R.old.length c1) R.old ∧ OwnV wx (y + 1) (.slice A2 R.new.length c2) R.new ∧
  (∀ x, (Value.slice A1 R.old.length c1).ownBlock = some x → (Value.slice A2 R.new.length c2).ownBlock = some x → False) ∧ wx.heap[z]? = some (.cells zRecC 27 (0, 0)) ∧ Kept (fun _ => False) w wx
theorem cells_emp : cellsOf [] = #[] := rfl
set_option maxRecDepth 100000 in
set_option maxHeartbeats 4000000 in
theorem rgetR_any (A : Option Addr) (c : Nat) (b : Bytes) (w : World) (h : RdB w A b) (hc : b.length ≤ c) (hc2 : c ≤ 9223372036854775807) (hl : b.length ≤ 1000000) :
    Calls Try.prog 13 #[.slice A b.length c] w (GetPost b w) := by
  have H := Lib.hid h
  clear h
  have B0 := bR0'
  go_enter Try.func13, Try.ntmps13
  go_wp2_with (refine wl_alloc' rfl 27 rfl zRecC zeroRec ?_)
  intro z w1 z1 z2 hb1 hk1
  have HZ1 := Lib.hid hb1
  have HK1 := Lib.hid hk1
  have HR1 := Lib.hid (H.out.kept hk1 (fun _ _ _ _ => id))
  clear hb1 hk1
  by_cases hs : b.length < 35
  · go_wp2_with (refine wl_store_row rfl 27 _ _ rfl z zRecC _ rfl rfl HZ1.out sizeRec rfl (one_recC _ _ _ _ _) ?_)
    intro w2 hb2 hk2
    have HK2 := Lib.hid (HK1.out.new hk2 (by rintro x rfl; exact z1))
    have HZ2 := Lib.hid hb2
    clear hb2 hk2
    go_wp2
    try simp only [Exit.inBlock, Exit.then]
    refine bodyPost_ret (results_cell_row3 rfl _ _ z _ rfl HZ2.out Try.underlying27 rfl sizeRec) rfl ?_
    exact GetPost.no HK2.out (getR_no1 hs)
  · obtain ⟨bb, off, rfl, hcells⟩ := H.out (fun e => by rw [e] at hs; exact hs (by decide))
    have HS := Lib.hid hs
    have h35 : 35 ≤ b.length := by omega
    obtain ⟨n, hn⟩ : ∃ n, n = hN b := ⟨_, rfl⟩
    have hN6 : n < 65536 := by
      have h1 := valN_lt (cut b 12 2)
      rw [cut_len b 12 2 (by omega)] at h1
      rw [hn]
      exact h1
    have HN := Lib.hid hn
    have HGN := Lib.hid (fun wz (hz : RdB wz (some ⟨bb, off, none⟩) b) => rget_at (some ⟨bb, off, none⟩) c b 12 12 2 (n : Int) wz hz rfl (by decide) (by omega) hl (by rw [hn]; exact sgn_of (by have := val4 b 12 2 (by decide); omega)))
    clear hs hn hcells
    go_wp2_with fail
    refine (HGN.out _ HR1.out).mono ?_
    rintro e wx ⟨rfl, rfl⟩
    go_upto_region 4 with fail
    go_cut [26] from 18 to 26 (fun v wx => v = .bool (decide (n < 17 ∨ b.length < 18 + n)) ∧ w1 = wx)
    case first =>
      have e18 : IntKind.i64.wrap (18 + (n : Int)) = 18 + (n : Int) := by rw [IntKind.wrap_i64]; omega
      by_cases c1 : (n : Int) < 17
      · go_wp2
        go_meet
        exact ⟨bool_t (.inl (by omega)), rfl⟩
      · by_cases c2 : (b.length : Int) < 18 + (n : Int)
        · go_wp2
          go_meet
          exact ⟨bool_t (.inr (by omega)), rfl⟩
        · go_wp2
          go_meet
          exact ⟨bool_f (by omega), rfl⟩
    case rest =>
      obtain ⟨rfl, rfl⟩ := hcut
      by_cases hg : n < 17 ∨ b.length < 18 + n
      · have hgd : decide (n < 17 ∨ b.length < 18 + n) = true := decide_eq_true hg
        go_wp2_with (refine wl_store_row rfl 27 _ _ rfl z zRecC _ rfl rfl HZ1.out sizeRec rfl (one_recC _ _ _ _ _) ?_)
        intro w2 hb2 hk2
        have HK2 := Lib.hid (HK1.out.new hk2 (by rintro x rfl; exact z1))
        have HZ2 := Lib.hid hb2
        clear hb2 hk2
        go_wp2
        try simp only [Exit.inBlock, Exit.then]
        refine bodyPost_ret (results_cell_row3 rfl _ _ z _ rfl HZ2.out Try.underlying27 rfl sizeRec) rfl ?_
        exact GetPost.no HK2.out (getR_no2 (by rw [← HN.out]; exact hg))
      · have hgd : decide (n < 17 ∨ b.length < 18 + n) = false := decide_eq_false hg
        have HG := Lib.hid hg
        have g1 : 18 + n ≤ b.length := by omega
        have g2 : 17 ≤ n := by omega
        clear hg
        go_wp2_with fail
        obtain ⟨R0, hR0⟩ : ∃ R, R = hR0 b := ⟨_, rfl⟩
        have HCK := Lib.hid (fun (w' : World) (hk : Kept (fun _ => False) w w') => show w'.cell? ⟨bb, off + 18, none⟩ = some (.int .u8 R0.kind.toNat) from by
          obtain ⟨b2, o2, e2, h2⟩ := (H.out.kept hk (fun _ _ _ _ => id)).cell (k := 18) (by omega)
          cases e2
          rw [hR0]
          exact h2)
        have HRW := Lib.hid (fun (w' : World) (hk : Kept (fun _ => False) w w') => H.out.kept hk (fun _ _ _ _ => id))
        have V1 := Lib.hid (show sgn (valN (cut b 0 8) 0) = R0.lsn from by rw [hR0]; rfl)
        have V2 := Lib.hid (show sgn (valN (cut b 8 4) 0) = R0.turn from by rw [hR0]; exact sgn_of (by have := val4 b 8 4 (by decide); omega))
        have V3 := Lib.hid (show sgn (valN (cut b 19 8) 0) = R0.tx from by rw [hR0]; rfl)
        have V4 := Lib.hid (show sgn (valN (cut b 27 8) 0) = R0.prev from by rw [hR0]; rfl)
        have VC := Lib.hid (show (#[.int .i64 R0.lsn, .int .i64 R0.turn, .int .u8 R0.kind.toNat, .int .i64 R0.tx, .int .i64 R0.prev, .int .i64 0, .int .i64 0, .int .i64 0, .slice none 0 0, .slice none 0 0] : Array Value) = recC R0 none 0 none 0 from by rw [hR0]; rfl)
        have HR0 := Lib.hid hR0
        have i18 : (18 : Int) < (b.length : Int) := by omega
        clear hR0
        refine startL 13 (fun w' => Kept (fun _ => False) w w') (by kernel_rfl) HK1.out.drew (fun hH => ?_)
        simp only [List.length_cons, List.length_nil, List.replicate]
        refine takeL 0 ?_ rfl (by kernel_rfl) (fun _ _ _ h => h) (by rfl) (fun w' hw' => ?_) hH ?_
        rotate_left
        · skip
          go_simp
          all_goals with_reducible rfl
        simp only [Act.put, List.setIfInBounds_toArray, List.set_cons_zero, List.set_cons_succ]
        refine takeL 2 ?_ rfl (by kernel_rfl) (fun _ _ _ h => h) (by rfl) (fun w' hw' => ?_) hH ?_
        rotate_left
        · skip
          go_simp
          all_goals with_reducible rfl
        simp only [Act.put, List.setIfInBounds_toArray, List.set_cons_zero, List.set_cons_succ]
        refine takeL 4 ?_ rfl (by kernel_rfl) (fun _ _ _ h => h) (by rfl) (fun w' hw' => ?_) hH ?_
        rotate_left
        · skip
          go_simp
          all_goals with_reducible rfl
        simp only [Act.put, List.setIfInBounds_toArray, List.set_cons_zero, List.set_cons_succ]
        refine takeL 7 ?_ rfl (by kernel_rfl) (fun _ _ _ h => h) (by rfl) (fun w' hw' => ?_) hH ?_
        rotate_left
        · skip
          go_simp
          all_goals with_reducible rfl
        simp only [Act.put, List.setIfInBounds_toArray, List.set_cons_zero, List.set_cons_succ]
        refine takeL 9 ?_ rfl (by kernel_rfl) (fun _ _ _ h => h) (by rfl) (fun w' hw' => ?_) hH ?_
        rotate_left
        · skip
          go_simp
          all_goals with_reducible rfl
        simp only [Act.put, List.setIfInBounds_toArray, List.set_cons_zero, List.set_cons_succ]
        refine takeC 1 (.int .i64 R0.lsn) rfl (by kernel_rfl) (fun _ _ _ h => h) (by rfl) (by intro h; cases h) 49 #[.slice (some ⟨bb, off, none⟩) b.length c, .int .i64 0, .int .i64 8] (fun w' _ => by go_simp) (fun w' hw' =>
          rget_at (some ⟨bb, off, none⟩) c b 0 0 8 _ w' (HRW.out w' hw') rfl (by decide) (by omega) hl V1.out) hH ?_
        simp only [Act.put, List.setIfInBounds_toArray, List.set_cons_zero, List.set_cons_succ]
        refine takeC 3 (.int .i64 R0.turn) rfl (by kernel_rfl) (fun _ _ _ h => h) (by rfl) (by intro h; cases h) 49 #[.slice (some ⟨bb, off, none⟩) b.length c, .int .i64 8, .int .i64 4] (fun w' _ => by go_simp) (fun w' hw' =>
          rget_at (some ⟨bb, off, none⟩) c b 8 8 4 _ w' (HRW.out w' hw') rfl (by decide) (by omega) hl V2.out) hH ?_
        simp only [Act.put, List.setIfInBounds_toArray, List.set_cons_zero, List.set_cons_succ]
        refine takeC 8 (.int .i64 R0.tx) rfl (by kernel_rfl) (fun _ _ _ h => h) (by rfl) (by intro h; cases h) 49 #[.slice (some ⟨bb, off, none⟩) b.length c, .int .i64 19, .int .i64 8] (fun w' _ => by go_simp) (fun w' hw' =>
          rget_at (some ⟨bb, off, none⟩) c b 19 19 8 _ w' (HRW.out w' hw') rfl (by decide) (by omega) hl V3.out) hH ?_
        simp only [Act.put, List.setIfInBounds_toArray, List.set_cons_zero, List.set_cons_succ]
        refine takeC 10 (.int .i64 R0.prev) rfl (by kernel_rfl) (fun _ _ _ h => h) (by rfl) (by intro h; cases h) 49 #[.slice (some ⟨bb, off, none⟩) b.length c, .int .i64 27, .int .i64 8] (fun w' _ => by go_simp) (fun w' hw' =>
          rget_at (some ⟨bb, off, none⟩) c b 27 27 8 _ w' (HRW.out w' hw') rfl (by decide) (by omega) hl V4.out) hH ?_
        simp only [Act.put, List.setIfInBounds_toArray, List.set_cons_zero, List.set_cons_succ]
        refine takeL 5 ?_ rfl (by kernel_rfl) (fun _ _ _ h => h) (by rfl) (fun w' hw' => ?_) hH ?_
        rotate_left
        · skip
          go_simp
          all_goals with_reducible rfl
        simp only [Act.put, List.setIfInBounds_toArray, List.set_cons_zero, List.set_cons_succ]
        refine takeL 6 (.int .u8 R0.kind.toNat) rfl (by kernel_rfl) (fun _ _ _ h => h) (by rfl) (fun w' hw' => ?_) hH ?_
        · have := HCK.out w' hw'
          go_simp
        simp only [Act.put, List.setIfInBounds_toArray, List.set_cons_zero, List.set_cons_succ]
        refine takeL 11 (.agg (recC R0 none 0 none 0)) rfl (by kernel_rfl) (fun _ _ _ h => h) (by rfl) (fun w' _ => ?_) hH ?_
        · rw [← VC.out]
          have B5 := bR5 R0.lsn R0.turn R0.kind.toNat R0.tx R0.prev w'
          clear B0
          go_simp
        simp only [Act.put, List.setIfInBounds_toArray, List.set_cons_zero, List.set_cons_succ]
        have Z0 := zeroRec
        have ka : Kept (fun _ => False) w (w1.drew.alloc (.cells zRecC 27)) := hH.alloc _
        have wcs := HK1.out.size
        refine stepL 12 rfl (by kernel_rfl) (fun K hK => ?_)
        go_simp
        refine hK.out _ _ (fun _ => ka) (fun _ => ?_)
        simp only [List.setIfInBounds_toArray, List.set_cons_zero, List.set_cons_succ]
        clear hK K Z0
        refine stepL 13 rfl (by kernel_rfl) (fun K hK => ?_)
        refine step_store_row rfl 27 _ _ (by rfl) w1.heap.size (recC R0 none 0 none 0) zRecC (by rfl) (by rfl) (heap_alloc_new w1.drew _) sizeRec rfl (one_recC _ _ _ _ _) ?_
        intro w8 hb8 hk8
        have HY8 := Lib.hid hb8
        have HZ8 := Lib.hid (hk8.heap (((Kept.refl (fun _ => False) w1).drew.alloc (.cells zRecC 27)).heap HZ1.out id) (by have := heap_lt HZ1.out; omega))
        have HK8 := Lib.hid (ka.new hk8 (by rintro x rfl; exact wcs))
        clear hb8 hk8 ka
        refine hK.out _ _ (fun _ => HK8.out) (fun _ => ?_)
        simp only [Act.put, List.setIfInBounds_toArray, List.set_cons_zero, List.set_cons_succ]
        clear hK K
        refine doneL (by kernel_rfl) ?_ _
        obtain ⟨y, hy⟩ : ∃ y, y = w1.heap.size := ⟨_, rfl⟩
        rw [← hy] at HY8 ⊢
        have zy : w.heap.size ≤ y ∧ z < y := by have := heap_lt HZ1.out; omega
        have YL := Lib.hid (heap_lt HY8.out)
        clear hy HK1 HZ1 HR1 HGN hH V1 V2 V3 V4 VC HCK wcs i18
        have ck : w8.cell? ⟨y, 2, none⟩ = some (.int .u8 R0.kind.toNat) := cell_blk HY8.out rfl
        have HKK := Lib.hid (show R0.kind = hKind b from by rw [HR0.out]; rfl)
        go_upto_region 8 with fail
        go_cut [46] from 40 to 46 (fun v wx => v = .bool (decide (hUn b)) ∧ w8 = wx)
        case first =>
          by_cases k2 : (R0.kind.toNat : Int) = 2
          · have hk2 : ((R0.kind.toNat : Int) == 2) = true := by rw [k2]; rfl
            have E2 := Lib.hid (show hKind b = 2 from by rw [← HKK.out]; exact UInt8.toNat_inj.1 (by have : (2 : UInt8).toNat = 2 := rfl; omega))
            clear k2
            by_cases h8 : (25 : Int) ≤ (n : Int)
            · go_wp2
              go_meet
              case rel => exact ⟨bool_t ⟨E2.out, by rw [← HN.out]; omega⟩, rfl⟩
            · go_wp2
              go_meet
              case rel => exact ⟨bool_f (fun h => by have := h.2; rw [← HN.out] at this; omega), rfl⟩
          · have hk2 : ((R0.kind.toNat : Int) == 2) = false := by rw [beq_eq_false_iff_ne]; exact k2
            have E2 := Lib.hid (show ¬ hUn b from fun h => k2 (by rw [HKK.out, h.1]; rfl))
            clear k2
            go_wp2
            go_meet
            case rel => exact ⟨bool_f E2.out, rfl⟩
        case rest =>
          obtain ⟨rfl, rfl⟩ := hcut
          go_upto_if 46 with fail
          go_cut [7] from 40 to 49 (fun v wx => v = .int .i64 (hAt b : Nat) ∧ RecS wx y (hR1 b) none 0 none 0 ∧ wx.heap[z]? = some (.cells zRecC 27 (0, 0)) ∧ Kept (fun _ => False) w wx)
          case first =>
            by_cases hu : hUn b
            · have h25 : 25 ≤ n := by have := hu.2; rw [← HN.out] at this; exact this
              have hd : decide (hUn b) = true := decide_eq_true hu
              have HU := Lib.hid hu
              clear hu
              obtain ⟨N, hN0⟩ : ∃ N, N = sgn (valN (cut b 35 8) 0) := ⟨_, rfl⟩
              have HN0 := Lib.hid hN0
              clear hN0
              go_wp2_with fail
              refine (rget_at (some ⟨bb, off, none⟩) c b 35 35 8 N _ (HRW.out _ HK8.out) rfl (by decide) (by omega) hl HN0.out.symm).mono ?_
              rintro e wx ⟨rfl, rfl⟩
              go_wp2_with (refine wl_store1 rfl 2 _ _ rfl y 5 (.int .i64 N) (recC R0 none 0 none 0) rfl rfl HY8.out (by kernel_rfl) (by show 5 < 10; decide) rfl ?_)
              intro w9 hb9 hk9
              have HY9 := Lib.hid hb9
              have HZ9 := Lib.hid (hk9.heap HZ8.out (by omega))
              have HK9 := Lib.hid (HK8.out.new hk9 (by rintro x rfl; exact zy.1))
              clear hb9 hk9
              go_wp2
              go_meet
              case rel =>
                have e1 : hAt b = 43 := if_pos HU.out
                have e2 : hR1 b = { hR0 b with next := sgn (valN (cut b 35 8) 0) } := if_pos HU.out
                refine ⟨by rw [e1]; rfl, ?_, HZ9.out, HK9.out⟩
                rw [e2, ← HN0.out, ← HR0.out]; exact HY9.out
            · have hd : decide (hUn b) = false := decide_eq_false hu
              have HU := Lib.hid hu
              clear hu
              go_wp2
              go_meet
              case rel =>
                have e1 : hAt b = 35 := if_neg HU.out
                have e2 : hR1 b = hR0 b := if_neg HU.out
                refine ⟨by rw [e1]; rfl, ?_, HZ8.out, HK8.out⟩
                rw [e2, ← HR0.out]; exact HY8.out
          case rest =>
            obtain ⟨rfl, hy1, hz1, hk1⟩ := hcut
            have hyl := heap_lt hy1
            obtain ⟨p, hp⟩ : ∃ p, p = hAt b := ⟨_, rfl⟩
            have hp1 : p ≤ 18 + n := by
              rw [hp, HN.out]; unfold hAt
              split
              · rename_i h; have := h.2; omega
              · rw [← HN.out]; omega
            rw [← hp]
            have HP := Lib.hid hp
            obtain ⟨R1, hRx⟩ : ∃ R, R = hR1 b := ⟨_, rfl⟩
            have hkk : R1.kind = hKind b := by rw [hRx]; unfold hR1; split <;> rfl
            have hon : R1.old = [] ∧ R1.new = [] := by rw [hRx]; unfold hR1; split <;> exact ⟨rfl, rfl⟩
            rw [← hRx] at hy1
            have HKK1 := Lib.hid hkk
            have HON := Lib.hid hon
            have HR1 := Lib.hid hRx
            have HY1 := Lib.hid (show wc.heap[y]? = some (.cells (recC R1 none 0 none 0) 27 (0, 0)) from hy1)
            have HZ1 := Lib.hid hz1
            have HK1 := Lib.hid hk1
            have ck1 : wc.cell? ⟨y, 2, none⟩ = some (.int .u8 R1.kind.toNat) := cell_blk hy1 rfl
            clear hp hkk hon hRx hy1 hz1 hk1 ck HY8 HZ8 HK8 HR0 HKK
            have e18 : IntKind.i64.wrap (18 + (n : Int)) = 18 + (n : Int) := by rw [IntKind.wrap_i64]; omega
            have ep8 : IntKind.i64.wrap ((p : Int) + 8) = (p : Int) + 8 := by rw [IntKind.wrap_i64]; omega
            go_upto_region 11 with fail
            go_cut [64] from 50 to 64 (fun v wx => v = .bool (decide (hSp b)) ∧ wc = wx)
            case first =>
              have HSP := Lib.hid (show hSp b ↔ ((R1.kind.toNat : Int) = 2 ∨ (R1.kind.toNat : Int) = 1) ∧ (p : Int) + 8 ≤ 18 + (n : Int) from by
                unfold hSp
                rw [← HP.out, ← HN.out, ← HKK1.out]
                have a1 : R1.kind = 2 ↔ (R1.kind.toNat : Int) = 2 := ⟨fun h => by rw [h]; rfl, fun h => UInt8.toNat_inj.1 (by have : (2 : UInt8).toNat = 2 := rfl; omega)⟩
                have a2 : R1.kind = 1 ↔ (R1.kind.toNat : Int) = 1 := ⟨fun h => by rw [h]; rfl, fun h => UInt8.toNat_inj.1 (by have : (1 : UInt8).toNat = 1 := rfl; omega)⟩
                rw [a1, a2]
                omega)
              obtain ⟨kk, hkk⟩ : ∃ kk : Int, kk = (R1.kind.toNat : Int) := ⟨_, rfl⟩
              rw [← hkk] at ck1 HSP
              clear hkk
              by_cases k2 : kk = 2
              · subst k2
                by_cases h8 : (p : Int) + 8 ≤ 18 + (n : Int)
                · go_wp2
                  go_meet
                  case rel => exact ⟨bool_t (HSP.out.2 ⟨by simp, by omega⟩), rfl⟩
                · go_wp2
                  go_meet
                  case rel => exact ⟨bool_f (fun h => by have := (HSP.out.1 h).2; omega), rfl⟩
              · have hk2 : (kk == 2) = false := by rw [beq_eq_false_iff_ne]; exact k2
                by_cases k1 : kk = 1
                · subst k1
                  by_cases h8 : (p : Int) + 8 ≤ 18 + (n : Int)
                  · go_wp2
                    go_meet
                    case rel => exact ⟨bool_t (HSP.out.2 ⟨by simp, by omega⟩), rfl⟩
                  · go_wp2
                    go_meet
                    case rel => exact ⟨bool_f (fun h => by have := (HSP.out.1 h).2; omega), rfl⟩
                · have hk1 : (kk == 1) = false := by rw [beq_eq_false_iff_ne]; exact k1
                  have HNO := Lib.hid (show ¬ hSp b from fun h => by
                    rcases (HSP.out.1 h).1 with h | h
                    · exact k2 h
                    · exact k1 h)
                  clear k1 k2 HSP
                  go_wp2
                  go_meet
                  case rel => exact ⟨bool_f HNO.out, rfl⟩
            case rest =>
              obtain ⟨rfl, rfl⟩ := hcut
              go_upto_if 64 with fail
              go_cut [7, 8] from 50 to 122 (fun _ _ wx => RdMid w y z (hR b) wx)
              case first =>
                by_cases hsp : hSp b
                · have hd : decide (hSp b) = true := decide_eq_true hsp
                  have hp8 : p + 8 ≤ 18 + n := by have := hsp.2; rw [← HP.out, ← HN.out] at this; exact this
                  have HSPP := Lib.hid hsp
                  obtain ⟨Bk, hBk⟩ : ∃ v, v = valN (cut b p 4) 0 := ⟨_, rfl⟩
                  obtain ⟨Of, hOf⟩ : ∃ v, v = valN (cut b (p + 4) 2) 0 := ⟨_, rfl⟩
                  obtain ⟨m, hm⟩ : ∃ v, v = valN (cut b (p + 6) 2) 0 := ⟨_, rfl⟩
                  have G1 := Lib.hid (show sgn (valN (cut b p 4) 0) = (Bk : Int) from by rw [hBk]; exact sgn_of (by have := val4 b p 4 (by decide); omega))
                  have G2 := Lib.hid (show sgn (valN (cut b (p + 4) 2) 0) = (Of : Int) from by rw [hOf]; exact sgn_of (by have := val4 b (p + 4) 2 (by decide); omega))
                  have G3 := Lib.hid (show sgn (valN (cut b (p + 6) 2) 0) = (m : Int) from by rw [hm]; exact sgn_of (by have := val4 b (p + 6) 2 (by decide); omega))
                  have hm6 : m < 65536 := by
                    have h1 := valN_lt (cut b (p + 6) 2)
                    rw [cut_len b (p + 6) 2 (by omega)] at h1
                    rw [hm]
                    exact h1
                  obtain ⟨R2, hRx⟩ : ∃ R, R = hR2 b := ⟨_, rfl⟩
                  have HRC2 := Lib.hid (show ((recC R1 none 0 none 0).setIfInBounds 6 (.int .i64 (Bk : Int))).setIfInBounds 7 (.int .i64 (Of : Int)) = recC R2 none 0 none 0 from by rw [hRx]; unfold hR2; rw [← HR1.out, ← HP.out, ← hBk, ← hOf]; rfl)
                  have HR2 := Lib.hid hRx
                  have HM := Lib.hid (show m = hM b from by unfold hM; rw [← HP.out]; exact hm)
                  have HON2 := Lib.hid (show R2.old = [] ∧ R2.new = [] ∧ R2.kind = hKind b from by rw [hRx]; unfold hR2; rw [← HR1.out]; exact ⟨HON.out.1, HON.out.2, HKK1.out⟩)
                  clear hsp hBk hOf hm hRx
                  have ep4 : IntKind.i64.wrap ((p : Int) + 4) = (p : Int) + 4 := by rw [IntKind.wrap_i64]; omega
                  have ep6 : IntKind.i64.wrap ((p : Int) + 6) = (p : Int) + 6 := by rw [IntKind.wrap_i64]; omega
                  go_wp2_with fail
                  refine (rget_at (some ⟨bb, off, none⟩) c b (p : Int) p 4 _ _ (HRW.out _ HK1.out) rfl (by decide) (by omega) hl G1.out).mono ?_
                  rintro e wx ⟨rfl, rfl⟩
                  go_wp2_with (refine wl_store1 rfl 3 _ _ rfl y 6 (.int .i64 (Bk : Int)) (recC R1 none 0 none 0) rfl rfl HY1.out (by kernel_rfl) (by show 6 < 10; decide) rfl ?_)
                  intro w2 hb2 hk2
                  have HY2 := Lib.hid hb2
                  have HZ2 := Lib.hid (hk2.heap HZ1.out (by omega))
                  have HK2 := Lib.hid (HK1.out.new hk2 (by rintro x rfl; exact zy.1))
                  clear hb2 hk2 HY1 HZ1 ck1
                  go_wp2_with fail
                  refine (rget_at (some ⟨bb, off, none⟩) c b _ (p + 4) 2 _ _ (HRW.out _ HK2.out) (by go_num) (by decide) (by omega) hl G2.out).mono ?_
                  rintro e wx ⟨rfl, rfl⟩
                  go_wp2_with (refine wl_store1 rfl 3 _ _ rfl y 7 (.int .i64 (Of : Int)) _ rfl rfl HY2.out (by kernel_rfl) (by show 7 < 10; decide) rfl ?_)
                  intro w3 hb3 hk3
                  rw [HRC2.out] at hb3
                  have HY3 := Lib.hid hb3
                  have HZ3 := Lib.hid (hk3.heap HZ2.out (by omega))
                  have HK3 := Lib.hid (HK2.out.new hk3 (by rintro x rfl; exact zy.1))
                  have YL3 := Lib.hid (heap_lt hb3)
                  have ck3 : w3.cell? ⟨y, 2, none⟩ = some (.int .u8 R2.kind.toNat) := cell_blk hb3 rfl
                  clear hb3 hk3 HY2 HZ2
                  go_wp2_with fail
                  refine (rget_at (some ⟨bb, off, none⟩) c b _ (p + 6) 2 _ _ (HRW.out _ HK3.out) (by go_num) (by decide) (by omega) hl G3.out).mono ?_
                  rintro e wx ⟨rfl, rfl⟩
                  clear G1 G2 G3 ep4 ep6
                  obtain ⟨q8, hq8⟩ : ∃ q8, q8 = p + 8 := ⟨_, rfl⟩
                  have HQ8 := Lib.hid hq8
                  have q8e : ((q8 : Nat) : Int) = (p : Int) + 8 := by omega
                  have HQE := Lib.hid q8e
                  have q8n : q8 ≤ 18 + n := by omega
                  clear hq8 q8e
                  go_upto_region 15 with fail
                  go_cut [7] from 80 to 81 (fun v wx => v = .int .i64 (q8 : Nat) ∧ w3 = wx)
                  case first =>
                    go_wp2
                    go_meet
                    case rel => exact ⟨by rw [HQE.out], rfl⟩
                  case rest =>
                    obtain ⟨rfl, rfl⟩ := hcut
                    clear ep8 hp8 hp1
                    have em2 : IntKind.i64.wrap (2 * (m : Int)) = 2 * (m : Int) := by rw [IntKind.wrap_i64]; omega
                    have eqm : IntKind.i64.wrap ((q8 : Int) + 2 * (m : Int)) = (q8 : Int) + 2 * (m : Int) := by rw [IntKind.wrap_i64]; omega
                    have eqn : IntKind.i64.wrap ((q8 : Int) + (m : Int)) = (q8 : Int) + (m : Int) := by rw [IntKind.wrap_i64]; omega
                    go_upto_region 16 with fail
                    go_cut [93] from 82 to 93 (fun v wx => v = .bool (decide (hOl b)) ∧ w3 = wx)
                    case first =>
                      have HOL := Lib.hid (show hOl b ↔ (R2.kind.toNat : Int) = 1 ∧ (q8 : Int) + 2 * (m : Int) = 18 + (n : Int) from by
                        unfold hOl
                        rw [← HP.out, ← HN.out, ← HM.out, ← HON2.out.2.2, ← HQ8.out]
                        have a2 : R2.kind = 1 ↔ (R2.kind.toNat : Int) = 1 := ⟨fun h => by rw [h]; rfl, fun h => UInt8.toNat_inj.1 (by have : (1 : UInt8).toNat = 1 := rfl; omega)⟩
                        rw [a2]
                        omega)
                      obtain ⟨kk, hkk⟩ : ∃ kk : Int, kk = (R2.kind.toNat : Int) := ⟨_, rfl⟩
                      rw [← hkk] at ck3 HOL
                      clear hkk
                      by_cases k1 : kk = 1
                      · subst k1
                        by_cases h8 : (q8 : Int) + 2 * (m : Int) = 18 + (n : Int)
                        · have h8b : ((q8 : Int) + 2 * (m : Int) == 18 + (n : Int)) = true := by rw [beq_iff_eq]; exact h8
                          have HT := Lib.hid (HOL.out.2 ⟨rfl, h8⟩)
                          clear h8 HOL
                          go_wp2
                          go_meet
                          case rel => exact ⟨bool_t HT.out, rfl⟩
                        · have h8b : ((q8 : Int) + 2 * (m : Int) == 18 + (n : Int)) = false := by rw [beq_eq_false_iff_ne]; exact h8
                          have HT := Lib.hid (show ¬ hOl b from fun h => h8 (HOL.out.1 h).2)
                          clear h8 HOL
                          go_wp2
                          go_meet
                          case rel => exact ⟨bool_f HT.out, rfl⟩
                      · have hk1 : (kk == 1) = false := by rw [beq_eq_false_iff_ne]; exact k1
                        have HT := Lib.hid (show ¬ hOl b from fun h => k1 (HOL.out.1 h).1)
                        clear k1 HOL
                        go_wp2
                        go_meet
                        case rel => exact ⟨bool_f HT.out, rfl⟩
                    case rest =>
                      obtain ⟨rfl, rfl⟩ := hcut
                      go_upto_if 93 with fail
                      go_cut [7] from 82 to 106 (fun v wx => v = .int .i64 (hAt3 b : Nat) ∧ ∃ A1 c1, RecS wx y (hR3 b) A1 c1 none 0 ∧ OwnV wx (y + 1) (.slice A1 (hR3 b).old.length c1) (hR3 b).old ∧ (hR3 b).new = [] ∧ wx.heap[z]? = some (.cells zRecC 27 (0, 0)) ∧ Kept (fun _ => False) w wx)
                      case first =>
                        by_cases hol : hOl b
                        · have hd2 : decide (hOl b) = true := decide_eq_true hol
                          have hqm : q8 + 2 * m = 18 + n := by have := hol.2; rw [← HP.out, ← HN.out, ← HM.out, ← HQ8.out] at this; exact this
                          have HOLT := Lib.hid hol
                          clear hol
                          obtain ⟨O, hO⟩ : ∃ O, O = cut b q8 m := ⟨_, rfl⟩
                          have hOL : O.length = m := by rw [hO]; exact cut_len b q8 m (by omega)
                          have LO := Lib.hid hOL
                          have HO := Lib.hid hO
                          have ke : Kept (fun _ => False) w3 (w3.alloc (.cells (cellsOf []) 5)) := (Kept.refl _ w3).alloc _
                          have KE := Lib.hid ke
                          have HO0 := Lib.hid (OwnV.of_new (w := w3) (base := y + 1) [] (by have := YL3.out; omega))
                          have HRO := Lib.hid (show RdB (w3.alloc (.cells (cellsOf []) 5)) (slA (some ⟨bb, off, none⟩) q8 c) O from by
                            rw [hO]
                            exact ((HRW.out _ (HK3.out.alloc _)).sl q8 c hc).takeG m)
                          clear hO hOL ke
                          go_wp2_with (first
                            | (refine wl_val rfl (exec_slLH _ _ _ q8 (q8 + m) m rfl (some ⟨bb, off, none⟩) b.length c ((q8 : Int) + (m : Int)) rfl rfl rfl (by omega) (by omega) (by omega) (by omega) rfl _) ?_)
                            | (at_builtin; refine wl_appendV rfl _ _ rfl (y + 1) _ [] O rfl HO0.out (slA (some ⟨bb, off, none⟩) q8 c) (c - q8) (by rw [LO.out]; rfl) HRO.out (by rw [LO.out]; simp; omega) (Nat.le_trans (show y + 1 ≤ w3.heap.size by have := YL3.out; omega) KE.out.size) ?_))
                          intro v4 w4 ho4 hk4 hat4
                          obtain ⟨A1, c1, rfl, _⟩ := ho4.slice
                          have HO4 := Lib.hid (show OwnV w4 (y + 1) (.slice A1 O.length c1) O from ho4)
                          have hk4' : Kept (fun x => y + 1 ≤ x) w3 w4 := (KE.out.mono (fun _ _ h => h.elim)).trans hk4 (fun x _ h => (HO0.out.base_le h).1)
                          have HY4 := Lib.hid (hk4'.heap HY3.out (by omega))
                          have HZ4 := Lib.hid (hk4'.heap HZ3.out (by omega))
                          have HK4 := Lib.hid (HK3.out.new hk4' (fun x hx => by omega))
                          clear ho4 hk4 hat4 hk4' HO0 HRO KE
                          go_wp2_with (refine wl_store1 rfl 23 _ _ rfl y 8 (.slice A1 O.length c1) (recC R2 none 0 none 0) rfl rfl HY4.out (by kernel_rfl) (by show 8 < 10; decide) rfl ?_)
                          intro w5 hb5 hk5
                          have HY5 := Lib.hid (show w5.heap[y]? = some (.cells (recC { R2 with old := O } A1 c1 none 0) 27 (0, 0)) from hb5)
                          have HZ5 := Lib.hid (hk5.heap HZ4.out (by omega))
                          have HO5 := Lib.hid (HO4.out.keep hk5 (fun x hx e => by have := (HO4.out.base_le hx).1; omega))
                          have HK5 := Lib.hid (HK4.out.new hk5 (by rintro x rfl; exact zy.1))
                          clear hb5 hk5 HY4 HZ4 HO4 HK4
                          go_wp2
                          go_meet
                          case rel =>
                            have e1 : hAt3 b = q8 + m := by unfold hAt3; rw [if_pos HOLT.out, ← HP.out, ← HM.out, HQ8.out]
                            have e2 : hR3 b = { R2 with old := O } := by unfold hR3; rw [if_pos HOLT.out, ← HR2.out, ← HM.out, ← HP.out, ← HQ8.out, ← HO.out]
                            rw [e1, e2]
                            exact ⟨by go_num, A1, c1, HY5.out, HO5.out, HON2.out.2.1, HZ5.out, HK5.out⟩
                        · have hd2 : decide (hOl b) = false := decide_eq_false hol
                          have HOLT := Lib.hid hol
                          clear hol
                          go_wp2
                          go_meet
                          case rel =>
                            have e1 : hAt3 b = q8 := by unfold hAt3; rw [if_neg HOLT.out, ← HP.out, HQ8.out]
                            have e2 : hR3 b = R2 := by unfold hR3; rw [if_neg HOLT.out, ← HR2.out]
                            rw [e1, e2]
                            exact ⟨rfl, none, 0, HY3.out, by rw [HON2.out.1]; exact OwnV.nil _ _, HON2.out.2.1, HZ3.out, HK3.out⟩
                      case rest =>
                        obtain ⟨rfl, A1, c1, hy4, ho4, hn4, hz4, hk4⟩ := hcut
                        obtain ⟨p3, hp3⟩ : ∃ p3, p3 = hAt3 b := ⟨_, rfl⟩
                        obtain ⟨R3, hRx⟩ : ∃ R, R = hR3 b := ⟨_, rfl⟩
                        have p3b : p3 ≤ 200000 := by
                          rw [hp3]; unfold hAt3
                          split
                          · rw [← HP.out, ← HM.out]; have := HQ8.out; omega
                          · rw [← HP.out]; have := HQ8.out; omega
                        rw [← hRx] at hy4 ho4 hn4
                        rw [← hp3]
                        have HP3 := Lib.hid hp3
                        have HRX := Lib.hid hRx
                        have HY4 := Lib.hid (show wc.heap[y]? = some (.cells (recC R3 A1 c1 none 0) 27 (0, 0)) from hy4)
                        have HO4 := Lib.hid ho4
                        have HN4 := Lib.hid hn4
                        have HZ4 := Lib.hid hz4
                        have HK4 := Lib.hid hk4
                        have YL4 := Lib.hid (heap_lt hy4)
                        clear hp3 hRx hy4 ho4 hn4 hz4 hk4 HY3 HZ3 HK3 em2 eqm eqn ck3 q8n
                        have e3m : IntKind.i64.wrap ((p3 : Int) + (m : Int)) = (p3 : Int) + (m : Int) := by rw [IntKind.wrap_i64]; omega
                        by_cases hnw : (p3 : Int) + (m : Int) = 18 + (n : Int)
                        · have hnb : ((p3 : Int) + (m : Int) == 18 + (n : Int)) = true := by rw [beq_iff_eq]; exact hnw
                          have hnn : p3 + m = 18 + n := by omega
                          have NW := Lib.hid (show hNw b from by unfold hNw; rw [← HP3.out, ← HM.out, ← HN.out]; exact hnn)
                          clear hnw
                          obtain ⟨O, hO⟩ : ∃ O, O = cut b p3 m := ⟨_, rfl⟩
                          have hOL : O.length = m := by rw [hO]; exact cut_len b p3 m (by omega)
                          have LO := Lib.hid hOL
                          have HO := Lib.hid hO
                          have ke : Kept (fun _ => False) wc (wc.alloc (.cells (cellsOf []) 5)) := (Kept.refl _ wc).alloc _
                          have KE := Lib.hid ke
                          have HO0 := Lib.hid (OwnV.of_new (w := wc) (base := wc.heap.size) [] (Nat.le_refl _))
                          have HRO := Lib.hid (show RdB (wc.alloc (.cells (cellsOf []) 5)) (slA (some ⟨bb, off, none⟩) p3 c) O from by
                            rw [hO]
                            exact ((HRW.out _ (HK4.out.alloc _)).sl p3 c hc).takeG m)
                          clear hO hOL ke
                          go_wp2_with (first
                            | (refine wl_val rfl (exec_slLH _ _ _ p3 (p3 + m) m rfl (some ⟨bb, off, none⟩) b.length c ((p3 : Int) + (m : Int)) rfl rfl rfl (by omega) (by omega) (by omega) (by omega) rfl _) ?_)
                            | (at_builtin; refine wl_appendV rfl _ _ rfl wc.heap.size _ [] O rfl HO0.out (slA (some ⟨bb, off, none⟩) p3 c) (c - p3) (by rw [LO.out]; rfl) HRO.out (by rw [LO.out]; simp; omega) (by have := KE.out.size; exact this) ?_))
                          intro v5 w5 ho5 hk5 hat5
                          obtain ⟨A2, c2, rfl, _⟩ := ho5.slice
                          have HO5 := Lib.hid (show OwnV w5 wc.heap.size (.slice A2 O.length c2) O from ho5)
                          have hk5' : Kept (fun x => wc.heap.size ≤ x) wc w5 := (KE.out.mono (fun _ _ h => h.elim)).trans hk5 (fun x _ h => (HO0.out.base_le h).1)
                          have HY5 := Lib.hid (hk5'.heap HY4.out (by have := YL4.out; omega))
                          have HZ5 := Lib.hid (hk5'.heap HZ4.out (by have := YL4.out; omega))
                          have HK5 := Lib.hid (HK4.out.new hk5' (fun x hx => by have := YL4.out; omega))
                          have HOa := Lib.hid (HO4.out.keep hk5' (fun x hx e => by have := (HO4.out.base_le hx).2; omega))
                          clear ho5 hk5 hat5 hk5' HO0 HRO KE
                          go_wp2_with (refine wl_store1 rfl 23 _ _ rfl y 9 (.slice A2 O.length c2) (recC R3 A1 c1 none 0) rfl rfl HY5.out (by kernel_rfl) (by show 9 < 10; decide) rfl ?_)
                          intro w6 hb6 hk6
                          have HY6 := Lib.hid (show w6.heap[y]? = some (.cells (recC { R3 with new := O } A1 c1 A2 c2) 27 (0, 0)) from hb6)
                          have HZ6 := Lib.hid (hk6.heap HZ5.out (by omega))
                          have HO6 := Lib.hid (HO5.out.keep hk6 (fun x hx e => by have := (HO5.out.base_le hx).1; have := YL4.out; omega))
                          have HOb := Lib.hid (HOa.out.keep hk6 (fun x hx e => by have := (HO4.out.base_le hx).1; omega))
                          have HK6 := Lib.hid (HK5.out.new hk6 (by rintro x rfl; exact zy.1))
                          clear hb6 hk6 HY5 HZ5 HK5
                          go_wp2
                          go_meet
                          case rel =>
                            have e2 : hR b = { R3 with new := O } := by
                              unfold hR; rw [if_pos HSPP.out]; unfold hR4; rw [if_pos NW.out, ← HRX.out, ← HM.out, ← HP3.out, ← HO.out]
                            rw [e2]
                            exact ⟨A1, c1, A2, c2, HY6.out, HOb.out, HO6.out.low (by have := YL4.out; omega), (fun x hx hx2 => by have := (HO4.out.base_le hx).2; have := (HO5.out.base_le hx2).1; omega), HZ6.out, HK6.out⟩
                        · have hnb : ((p3 : Int) + (m : Int) == 18 + (n : Int)) = false := by rw [beq_eq_false_iff_ne]; exact hnw
                          have NW := Lib.hid (show ¬ hNw b from by unfold hNw; rw [← HP3.out, ← HM.out, ← HN.out]; omega)
                          clear hnw
                          go_wp2
                          go_meet
                          case rel =>
                            have e2 : hR b = R3 := by
                              unfold hR; rw [if_pos HSPP.out]; unfold hR4; rw [if_neg NW.out, ← HRX.out]
                            rw [e2]
                            exact ⟨A1, c1, none, 0, HY4.out, HO4.out, by rw [HN4.out]; exact OwnV.nil _ _, (fun x hx hx2 => by cases hx2), HZ4.out, HK4.out⟩
                · have hd : decide (hSp b) = false := decide_eq_false hsp
                  have HSPN := Lib.hid hsp
                  clear hsp
                  go_wp2
                  go_meet
                  case rel =>
                    have e2 : hR b = R1 := by unfold hR; rw [if_neg HSPN.out, ← HR1.out]
                    rw [e2]
                    exact ⟨none, 0, none, 0, HY1.out, by rw [HON.out.1]; exact OwnV.nil _ _, by rw [HON.out.2]; exact OwnV.nil _ _, (fun x hx => by cases hx), HZ1.out, HK1.out⟩
              case rest =>
                obtain ⟨A1, c1, A2, c2, hy, ho1, ho2, hap, hz, hk⟩ := hcut
                obtain ⟨R, hRx⟩ : ∃ R, R = hR b := ⟨_, rfl⟩
                have hok := ok_hR b
                rw [← hRx] at hy ho1 ho2 hap hok
                have hln : R.old.length ≤ 1000000 ∧ R.new.length ≤ 1000000 := by
                  have l0 : (hR1 b).old = [] ∧ (hR1 b).new = [] := by unfold hR1; split <;> exact ⟨rfl, rfl⟩
                  have lc : ∀ a k, (cut b a k).length ≤ 1000000 := fun a k => by unfold cut; rw [List.length_take, List.length_drop]; omega
                  have l3 : (hR3 b).old.length ≤ 1000000 ∧ (hR3 b).new = [] := by
                    unfold hR3
                    split
                    · exact ⟨lc _ _, l0.2⟩
                    · exact ⟨by show (hR1 b).old.length ≤ _; rw [l0.1]; decide, l0.2⟩
                  rw [hRx]; unfold hR
                  split
                  · unfold hR4
                    split
                    · exact ⟨l3.1, lc _ _⟩
                    · exact ⟨l3.1, by rw [l3.2]; decide⟩
                  · rw [l0.1, l0.2]; exact ⟨by decide, by decide⟩
                have HRX := Lib.hid hRx
                have HY := Lib.hid (show wc.heap[y]? = some (.cells (recC R A1 c1 A2 c2) 27 (0, 0)) from hy)
                have HO1 := Lib.hid ho1
                have HO2 := Lib.hid ho2
                have HAP := Lib.hid hap
                have HZ := Lib.hid hz
                have HK := Lib.hid hk
                have HPUT := Lib.hid (rputR_any R A1 c1 A2 c2 wc hok hln.1 hln.2 ho1.rd ho2.rd)
                clear hRx hy ho1 ho2 hap hz hk hok hln HY1 HZ1 HK1 ck1 HON HKK1 HR1 ep8 HP
                have LE := Lib.hid (fun (h : rightM R) => encM_len R)
                go_wp2_with (refine wl_load_row rfl 27 _ rfl y rfl (recC R A1 c1 A2 c2) HY.out Try.underlying27 rfl sizeRec ?_)
                refine HPUT.out.mono ?_
                intro e w2 hp
                obtain ⟨hk2, hp1, hp2⟩ := hp
                have HY2 := Lib.hid (hk2.heap HY.out id)
                have HZ2 := Lib.hid (hk2.heap HZ.out id)
                have HK2 := Lib.hid (HK.out.trans0 hk2)
                have HOa := Lib.hid (HO1.out.keep hk2 (fun _ _ => id))
                have HOb := Lib.hid (HO2.out.keep hk2 (fun _ _ => id))
                clear hk2 HY HZ HK HO1 HO2 HPUT
                by_cases hr : rightM R
                · obtain ⟨g, cap, rfl, hob⟩ := hp1 hr
                  have HRI := Lib.hid hr
                  obtain ⟨E, hE⟩ : ∃ E, E = encM R := ⟨_, rfl⟩
                  have hEl : E.length ≤ 1100 := by rw [hE, encM_len]; have := (body_le hr).2; omega
                  rw [← hE] at hob ⊢
                  have HE := Lib.hid hE
                  have HOB := Lib.hid hob.v.rd
                  clear hp1 hp2 hob hE hr LE
                  by_cases hln : (E.length : Int) = 18 + (n : Int)
                  · have hlb : ((E.length : Int) != 18 + (n : Int)) = false := by rw [hln]; simp
                    have HLN := Lib.hid (show E.length = 18 + n by omega)
                    have EL := Lib.hid hln
                    clear hln
                    go_wp2_with fail
                    go_loopw [11] (fun i wr => ∃ k : Nat, k ≤ E.length ∧ i = .int .i64 k ∧ E.take k = b.take k ∧ Same w2 wr) (fun i _ => E.length - (intOf i).toNat)
                    case atStart => exact ⟨0, Nat.zero_le _, rfl, by simp, Same.refl _⟩
                    case round =>
                      obtain ⟨k, hk, rfl, htk, hsm⟩ := hrel
                      have HT := Lib.hid htk
                      have hkr := hsm.kept (fun _ => False)
                      have HYr := Lib.hid (hkr.heap HY2.out id)
                      have HZr := Lib.hid (hkr.heap HZ2.out id)
                      have HKr := Lib.hid (HK2.out.trans0 hkr)
                      have HOar := Lib.hid (HOa.out.keep hkr (fun _ _ => id))
                      have HObr := Lib.hid (HOb.out.keep hkr (fun _ _ => id))
                      have HRb := Lib.hid (HRW.out _ HKr.out)
                      have HRE := Lib.hid (HOB.out.kept hkr (fun _ _ _ _ => id))
                      have HSM := Lib.hid hsm
                      clear htk hsm hkr
                      by_cases hlt : k < E.length
                      · have hlt' : k < b.length := by have := HLN.out; omega
                        obtain ⟨b1, o1, hA, hc1⟩ := HRE.out.cell hlt
                        obtain ⟨b2, o2, hA', hc2'⟩ := HRb.out.cell hlt'
                        cases hA; cases hA'
                        rw [Nat.zero_add] at hc1
                        have i0 : (0 : Int) ≤ (k : Int) := by omega
                        have i1 : (k : Int) < (E.length : Int) := by omega
                        have i2 : (k : Int) < (b.length : Int) := by omega
                        by_cases he : bAt E k = bAt b k
                        · have HS := Lib.hid (take_eq_succ hlt hlt' HT.out he)
                          have hb : (((bAt E k).toNat : Int) != ((bAt b k).toNat : Int)) = false := by simp [he]
                          clear he
                          go_wp2
                          go_quiet (fail)
                          go_wp2
                          go_roundw
                          case rel => exact ⟨k + 1, by omega, by go_num, HS.out, HSM.out.drewN _⟩
                          case measure => simp [intOf]; omega
                        · have hb : (((bAt E k).toNat : Int) != ((bAt b k).toNat : Int)) = true := by
                            rw [bne_iff_ne]; intro e; exact he (UInt8.toNat_inj.1 (by omega))
                          have HNO := Lib.hid (getR_no3 (b := b) (fun h => he (by
                            have h3 := h.2.2
                            rw [← HRX.out, ← HE.out, ← HN.out] at h3
                            have h4 : bAt E k = bAt (b.take (18 + n)) k := by rw [← h3]
                            rw [h4, bAt_get (by rw [List.length_take]; have := HLN.out; omega), bAt_get hlt', List.getElem_take])))
                          clear he
                          go_wp2
                          go_quiet (fail)
                          go_wp2_with (refine wl_store_row rfl 27 _ _ rfl z zRecC _ rfl rfl HZr.out sizeRec rfl (one_recC _ _ _ _ _) ?_)
                          intro wz hbz hkz
                          have HKz := Lib.hid ((HKr.out.drewN _).new hkz (by rintro x rfl; exact z1))
                          have HZz := Lib.hid hbz
                          clear hbz hkz
                          go_wp2
                          try simp only [Exit.inBlock, Exit.then]
                          refine bodyPost_ret (results_cell_row3 rfl _ _ z _ rfl HZz.out Try.underlying27 rfl sizeRec) rfl ?_
                          exact GetPost.no HKz.out HNO.out
                      · have hge : ¬ ((k : Int) < (E.length : Int)) := by omega
                        have HYE := Lib.hid (getR_yes (b := b) HS.out (by rw [← HN.out]; exact HG.out) (by
                          rw [← HRX.out, ← HE.out, ← HN.out]
                          refine ⟨HRI.out, HLN.out, ?_⟩
                          have h3 := HT.out
                          rw [List.take_of_length_le (by omega)] at h3
                          have hkn : k = 18 + n := by have := HLN.out; omega
                          rw [← hkn]; exact h3))
                        go_wp2_with (first
                          | refine wl_load_row rfl 27 _ rfl y rfl (recC R A1 c1 A2 c2) HYr.out Try.underlying27 rfl (by kernel_rfl) ?_
                          | refine wl_store_row rfl 27 _ _ rfl z (recC R A1 c1 A2 c2) _ rfl rfl HZr.out sizeRec rfl (one_recC _ _ _ _ _) ?_)
                        intro wz hbz hkz
                        have HKz := Lib.hid (HKr.out.new hkz (by rintro x rfl; exact z1))
                        have HZz := Lib.hid hbz
                        have HV1z := Lib.hid ((HOar.out.keep hkz (fun x hx e => by have := (HOar.out.base_le hx).1; omega)).low (show w.heap.size ≤ y + 1 by omega))
                        have HV2z := Lib.hid ((HObr.out.keep hkz (fun x hx e => by have := (HObr.out.base_le hx).1; omega)).low (show w.heap.size ≤ y + 1 by omega))
                        clear hbz hkz
                        go_wp2
                        try simp only [Exit.inBlock, Exit.then]
                        refine bodyPost_ret (results_cell_row3 rfl _ _ z _ rfl HZz.out Try.underlying27 rfl sizeRec) rfl ?_
                        have hy := HYE.out
                        rw [← HRX.out, ← HN.out] at hy
                        refine GetPost.yes HKz.out hy ?_ HV1z.out HV2z.out HAP.out
                        rw [show ((18 + n : Nat) : Int) = 18 + (n : Int) by omega]
                        rfl
                  · have hlb : ((E.length : Int) != 18 + (n : Int)) = true := by rw [bne_iff_ne]; exact hln
                    have HNO := Lib.hid (getR_no3 (b := b) (fun h => hln (by have := h.2.1; rw [← HRX.out, ← HE.out, ← HN.out] at this; omega)))
                    clear hln
                    go_wp2_with (refine wl_store_row rfl 27 _ _ rfl z zRecC _ rfl rfl HZ2.out sizeRec rfl (one_recC _ _ _ _ _) ?_)
                    intro wz hbz hkz
                    have HKz := Lib.hid (HK2.out.new hkz (by rintro x rfl; exact z1))
                    have HZz := Lib.hid hbz
                    clear hbz hkz
                    go_wp2
                    try simp only [Exit.inBlock, Exit.then]
                    refine bodyPost_ret (results_cell_row3 rfl _ _ z _ rfl HZz.out Try.underlying27 rfl sizeRec) rfl ?_
                    exact GetPost.no HKz.out HNO.out
                · have he := hp2 hr
                  subst he
                  have HNO := Lib.hid (getR_no3 (b := b) (fun h => hr (by rw [HRX.out]; exact h.1)))
                  clear hp1 hp2 hr LE
                  go_wp2_with (refine wl_store_row rfl 27 _ _ rfl z zRecC _ rfl rfl HZ2.out sizeRec rfl (one_recC _ _ _ _ _) ?_)
                  intro wz hbz hkz
                  have HKz := Lib.hid (HK2.out.new hkz (by rintro x rfl; exact z1))
                  have HZz := Lib.hid hbz
                  clear hbz hkz
                  go_wp2
                  try simp only [Exit.inBlock, Exit.then]
                  refine bodyPost_ret (results_cell_row3 rfl _ _ z _ rfl HZz.out Try.underlying27 rfl sizeRec) rfl ?_
                  exact GetPost.no HKz.out HNO.out
end Go.Proofs.Ytbolbddjmmfepaa
