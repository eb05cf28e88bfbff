/-
  No statement is proved here: 'Put' of the document's records.
-/
import Derived.Test.YtbolbddjmmfepaaRb
namespace Go.Proofs.Ytbolbddjmmfepaa
open Go.RowKit

set_option maxRecDepth 100000 in
set_option maxHeartbeats 3200000 in
theorem rputR_any (r : RecM) (A1 : Option Addr) (c1 : Nat) (A2 : Option Addr) (c2 : Nat) (w : World) (ho : RecOk r) (h1 : r.old.length ≤ 1000000) (h2 : r.new.length ≤ 1000000) (hr1 : RdB w A1 r.old) (hr2 : RdB w A2 r.new) :
    Calls Try.prog 10 #[.agg (recC r A1 c1 A2 c2)] w (PutPost r w) := by
  have HRT := Lib.hid (fun wx => rright_any r A1 c1 A2 c2 wx ho h1 h2)
  have HR1 := Lib.hid hr1
  have HR2 := Lib.hid hr2
  clear hr1 hr2
  go_enter Try.func10, Try.ntmps10
  go_wp2_with (refine wl_box rfl 27 _ rfl (.agg (recC r A1 c1 A2 c2)) rfl ?_)
  intro q w1 q1 q2 hb1 hk1
  have HB1 := Lib.hid hb1
  have HK1 := Lib.hid hk1
  clear hb1 hk1
  go_wp2_with (refine wl_load_row rfl 27 _ rfl q rfl (recC r A1 c1 A2 c2) HB1.out Try.underlying27 rfl (by kernel_rfl) ?_)
  by_cases hR : rightM r
  · have HRT2 := Lib.hid (show Calls Try.prog 43 #[.agg (recC r A1 c1 A2 c2)] w1 fun e w' => e = .returned (.bool true) ∧ Kept (fun _ => False) w1 w' from by
      refine (HRT.out w1).mono ?_
      rintro e w' ⟨rfl, hk⟩
      exact ⟨by rw [decide_eq_true hR], hk⟩)
    have HR := Lib.hid hR
    clear hR
    refine HRT2.out.mono ?_
    rintro e w2 ⟨rfl, hk2⟩
    have HB2 := Lib.hid (hk2.heap HB1.out id)
    have HK2 := Lib.hid (HK1.out.trans0 hk2)
    have hRR := HR.out
    have i1 : 0 ≤ r.tx ∧ r.tx ≤ 9223372036854775807 := by have := hRR.2.2.2.2.1; unfold inM topM at this; omega
    have i2 : 0 ≤ r.prev ∧ r.prev ≤ 9223372036854775807 := by have := hRR.2.2.2.2.2.1; unfold inM topM at this; omega
    have i3 : 0 ≤ r.next ∧ r.next ≤ 9223372036854775807 := by have := hRR.2.2.2.2.2.2.1; unfold inM topM at this; omega
    have I1 := Lib.hid i1
    have I2 := Lib.hid i2
    have I3 := Lib.hid i3
    have ka : Kept (fun x => w2.heap.size ≤ x) w2 (w2.alloc (.cells #[.int .u8 r.kind.toNat] 5)) := (Kept.refl _ w2).alloc _
    have RDK := Lib.hid (RdB.of_blk (l := [r.kind]) (heap_alloc_new w2 (.cells #[.int .u8 r.kind.toNat] 5)))
    have KA := Lib.hid ka
    obtain ⟨z0, z1, z2, z3, z4, z5, z6, z7, z8, z9⟩ := recAt_of HB2.out
    clear hk2 HRT HRT2 hRR i1 i2 i3 ka z0 z1 z3 z4 z5 z6 z7 z8 z9
    go_wp2_with (at_builtin; refine wl_appendV rfl _ _ rfl w2.heap.size (.slice none 0 0) [] [r.kind] rfl (OwnV.nil _ _) (some ⟨w2.heap.size, 0, none⟩) 1 rfl RDK.out (by simp) (by have := KA.out.size; exact this) ?_)
    intro v3 w3 ho3 hk3 hat3
    have HO3 := Lib.hid (show OwnV w3 w2.heap.size v3 [r.kind] from ho3)
    have K3 := Lib.hid (KA.out.trans hk3 (fun x _ h => by cases h))
    have S3 := Lib.hid (K3.out.heap HB2.out (by have := heap_lt HB2.out; omega))
    obtain ⟨z0, z1, z2', z3, z4, z5, z6, z7, z8, z9⟩ := recAt_of S3.out
    clear ho3 hk3 hat3 RDK KA z2 z0 z1 z2' z4 z5 z6 z7 z8 z9
    go_wp2_with fail
    refine (rput_up v3 [r.kind] r.tx 8 w2.heap.size _ HO3.out (by have := K3.out.size; exact this) I1.out.1 I1.out.2 (by decide) (by simp)).mono ?_
    rintro e w4 ⟨v4, rfl, ho4, hk4⟩
    have HO4 := Lib.hid ho4
    have K4 := Lib.hid (K3.out.trans' hk4)
    have S4 := Lib.hid (K4.out.heap HB2.out (by have := heap_lt HB2.out; omega))
    obtain ⟨z0, z1, z2', z3', z4, z5, z6, z7, z8, z9⟩ := recAt_of S4.out
    clear ho4 hk4 HO3 K3 S3 z3 z0 z1 z2' z3' z5 z6 z7 z8 z9
    go_wp2_with fail
    refine (rput_up v4 _ r.prev 8 w2.heap.size _ HO4.out (by have := K4.out.size; exact this) I2.out.1 I2.out.2 (by decide) (by simp [beN_len])).mono ?_
    rintro e w5 ⟨v5, rfl, ho5, hk5⟩
    have HO5 := Lib.hid (show OwnV w5 w2.heap.size v5 (bod3 r) from ho5)
    have K5 := Lib.hid (K4.out.trans' hk5)
    have S5 := Lib.hid (K5.out.heap HB2.out (by have := heap_lt HB2.out; omega))
    obtain ⟨z0, z1, z2, z3, z4', z5, z6, z7, z8, z9⟩ := recAt_of S5.out
    clear ho5 hk5 HO4 K4 S4 z4 z0 z1 z3 z4' z6 z7 z8 z9
    go_upto_if 25 with fail
    go_cut [4] from 23 to 29 (fun v wx => OwnV wx w2.heap.size v (bod3 r ++ bodU r) ∧ Kept (fun x => w2.heap.size ≤ x) w2 wx)
    case first =>
      by_cases k2 : r.kind = 2
      · have hkb : ((r.kind.toNat : Int) == 2) = true := by rw [k2]; rfl
        have K2 := Lib.hid k2
        clear k2
        go_wp2_with (go_at_call 44; refine (rput_up v5 _ r.next 8 w2.heap.size _ HO5.out (by have := K5.out.size; exact this) I3.out.1 I3.out.2 (by decide) (by rw [bod3_len]; decide)).mono ?_; rintro e w5 ⟨v6, rfl, ho6, hk6⟩)
        go_meet
        case rel => exact ⟨by unfold bodU; rw [if_pos K2.out]; exact ho6, K5.out.trans' hk6⟩
      · have hkb : ((r.kind.toNat : Int) == 2) = false := by
          rw [beq_eq_false_iff_ne]
          exact fun h => k2 (UInt8.toNat_inj.1 (by have : (2 : UInt8).toNat = 2 := rfl; omega))
        have K2 := Lib.hid k2
        clear k2
        go_wp2
        go_meet
        case rel => exact ⟨by unfold bodU; rw [if_neg K2.out, List.append_nil]; exact HO5.out, K5.out⟩
    case rest =>
      obtain ⟨ho6, hk6⟩ := hcut
      have HO6 := Lib.hid ho6
      have K6 := Lib.hid hk6
      have S6 := Lib.hid (hk6.heap HB2.out (by have := heap_lt HB2.out; omega))
      have BL2 := Lib.hid (show (bod3 r ++ bodU r).length ≤ 25 from by rw [List.length_append, bod3_len]; have := bodU_len r; omega)
      obtain ⟨y0, y1, y2, y3, y4, y5, y6, y7, y8, y9⟩ := recAt_of S6.out
      clear ho6 hk6 HO5 K5 S5 z2 z5 y0 y1 y3 y4 y5
      obtain ⟨bb, hbb⟩ : ∃ bb, bb = decide (r.new ≠ []) := ⟨_, rfl⟩
      have HBB := Lib.hid hbb
      clear hbb
      go_upto_region 9 with fail
      go_cut [37] from 30 to 37 (fun v wx => v = .bool bb ∧ wc = wx)
      case first =>
        have hrk := right_kind HR.out
        by_cases k2 : r.kind = 2
        · have hkb : ((r.kind.toNat : Int) == 2) = true := by rw [k2]; rfl
          have HB := Lib.hid (show bb = true from by
            rw [HBB.out]
            refine decide_eq_true ?_
            rcases hrk with h | h | h
            · rw [k2] at h; exact absurd h.1 (by decide)
            · intro e; have := h.2.1; unfold fitsM at this; rw [e] at this; simp at this
            · rw [k2] at h; exact absurd h.1 (by decide))
          clear k2 hrk
          go_wp2
          go_meet
          exact ⟨by rw [HB.out], rfl⟩
        · have hkb : ((r.kind.toNat : Int) == 2) = false := by
            rw [beq_eq_false_iff_ne]
            exact fun h => k2 (UInt8.toNat_inj.1 (by have : (2 : UInt8).toNat = 2 := rfl; omega))
          by_cases k1 : r.kind = 1
          · have hkc : ((r.kind.toNat : Int) == 1) = true := by rw [k1]; rfl
            have HB := Lib.hid (show bb = true from by
              rw [HBB.out]
              refine decide_eq_true ?_
              rcases hrk with h | h | h
              · intro e; have := h.2.2.1; unfold fitsM at this; rw [e] at this; simp at this
              · exact absurd h.1 k2
              · rw [k1] at h; exact absurd h.1 (by decide))
            clear k2 k1 hrk
            go_wp2
            go_meet
            exact ⟨by rw [HB.out], rfl⟩
          · have hkc : ((r.kind.toNat : Int) == 1) = false := by
              rw [beq_eq_false_iff_ne]
              exact fun h => k1 (UInt8.toNat_inj.1 (by have : (1 : UInt8).toNat = 1 := rfl; omega))
            have HB := Lib.hid (show bb = false from by
              rw [HBB.out]
              refine decide_eq_false (fun hn => ?_)
              rcases hrk with h | h | h
              · exact k1 h.1
              · exact k2 h.1
              · exact hn h.2.2.2.2.2)
            clear k2 k1 hrk
            go_wp2
            go_meet
            exact ⟨by rw [HB.out], rfl⟩
      case rest =>
        obtain ⟨rfl, rfl⟩ := hcut
        go_upto_if 37 with fail
        go_cut [4] from 38 to 62 (fun v wx => OwnV wx w2.heap.size v (bodyM r) ∧ Kept (fun x => w2.heap.size ≤ x) w2 wx)
        case first =>
          cases bb with
          | false =>
            have HN := Lib.hid (Decidable.not_not.1 (of_decide_eq_false HBB.out.symm))
            go_wp2
            go_meet
            case rel => exact ⟨by rw [body_U, if_pos HN.out, List.append_nil]; exact HO6.out, K6.out⟩
          | true =>
            have hn := of_decide_eq_true HBB.out.symm
            have HN := Lib.hid hn
            have hf : 0 ≤ r.blk ∧ r.blk ≤ 9223372036854775807 ∧ 0 ≤ r.off ∧ r.off ≤ 9223372036854775807 := by
              have h := right_kind HR.out
              rcases h with h | h | h
              · have := h.2.2.1; unfold fitsM at this; omega
              · have := h.2.1; unfold fitsM at this; omega
              · exact absurd h.2.2.2.2.2 hn
            have HF := Lib.hid hf
            clear hn hf HBB
            go_wp2_with fail
            refine (rput_up u4 _ r.blk 4 w2.heap.size _ HO6.out (by have := K6.out.size; exact this) HF.out.1 HF.out.2.1 (by decide) (by have := BL2.out; omega)).mono ?_
            rintro e w7 ⟨v7, rfl, ho7, hk7⟩
            have HO7 := Lib.hid ho7
            have K7 := Lib.hid (K6.out.trans' hk7)
            have S7 := Lib.hid (K7.out.heap HB2.out (by have := heap_lt HB2.out; omega))
            obtain ⟨x0, x1, x2, x3, x4, x5, x6, x7, x8, x9⟩ := recAt_of S7.out
            clear ho7 hk7 HO6 K6 S6 y2 y6 y7 y8 y9 x0 x1 x2 x3 x4 x5 x6 x8 x9
            go_wp2_with fail
            refine (rput_up v7 _ r.off 2 w2.heap.size _ HO7.out (by have := K7.out.size; exact this) HF.out.2.2.1 HF.out.2.2.2 (by decide) (by rw [List.length_append, beN_len]; have := BL2.out; omega)).mono ?_
            rintro e w8 ⟨v8, rfl, ho8, hk8⟩
            have HO8 := Lib.hid ho8
            have K8 := Lib.hid (K7.out.trans' hk8)
            have S8 := Lib.hid (K8.out.heap HB2.out (by have := heap_lt HB2.out; omega))
            obtain ⟨x0, x1, x2, x3, x4, x5, x6, x7', x8, x9⟩ := recAt_of S8.out
            clear ho8 hk8 HO7 K7 S7 x7 x0 x1 x2 x3 x4 x5 x6 x7' x8
            go_wp2_with fail
            refine (rput_up v8 _ (r.new.length : Int) 2 w2.heap.size _ HO8.out (by have := K8.out.size; exact this) (by omega) (by omega) (by decide) (by rw [List.length_append, List.length_append, beN_len, beN_len]; have := BL2.out; omega)).mono ?_
            rintro e w9 ⟨v9, rfl, ho9, hk9⟩
            have HO9 := Lib.hid ho9
            have K9 := Lib.hid (K8.out.trans' hk9)
            have S9 := K9.out.heap HB2.out (by have := heap_lt HB2.out; omega)
            have kw9 : Kept (fun _ => False) w w9 := HK2.out.new K9.out (fun x hx => by have := HK2.out.size; omega)
            have R1 := Lib.hid (HR1.out.kept (kw9.drew) (fun _ _ _ _ => id))
            clear ho9 hk9 HO8 K8 S8 x9 kw9
            go_wp2_with fail
            refine startL 9 (fun w' => w'.heap[q]? = some (.cells (recC r A1 c1 A2 c2) 27 (0, 0))) (by kernel_rfl) S9 (fun hH => ?_)
            simp only [List.length_cons, List.length_nil, List.replicate]
            refine takeL 0 ?_ rfl (by kernel_rfl) (fun _ _ _ h => h) (by rfl) (fun w' hw' => ?_) hH ?_
            rotate_left
            · obtain ⟨r0, r1, r2, r3, r4, r5, r6, r7, r8, r9⟩ := recAt_of hw'
              go_simp
              all_goals with_reducible rfl
            simp only [Act.put, List.setIfInBounds_toArray, List.set_cons_zero, List.set_cons_succ]
            refine takeL 1 ?_ rfl (by kernel_rfl) (fun _ _ _ h => h) (by rfl) (fun w' hw' => ?_) hH ?_
            rotate_left
            · obtain ⟨r0, r1, r2, r3, r4, r5, r6, r7, r8, r9⟩ := recAt_of hw'
              go_simp
              all_goals with_reducible rfl
            simp only [Act.put, List.setIfInBounds_toArray, List.set_cons_zero, List.set_cons_succ]
            refine takeL 2 ?_ rfl (by kernel_rfl) (fun _ _ _ h => h) (by rfl) (fun w' hw' => ?_) hH ?_
            rotate_left
            · obtain ⟨r0, r1, r2, r3, r4, r5, r6, r7, r8, r9⟩ := recAt_of hw'
              go_simp
              all_goals with_reducible rfl
            simp only [Act.put, List.setIfInBounds_toArray, List.set_cons_zero, List.set_cons_succ]
            refine takeL 3 ?_ rfl (by kernel_rfl) (fun _ _ _ h => h) (by rfl) (fun w' hw' => ?_) hH ?_
            rotate_left
            · obtain ⟨r0, r1, r2, r3, r4, r5, r6, r7, r8, r9⟩ := recAt_of hw'
              go_simp
              all_goals with_reducible rfl
            simp only [Act.put, List.setIfInBounds_toArray, List.set_cons_zero, List.set_cons_succ]
            refine takeL 5 ?_ rfl (by kernel_rfl) (fun _ _ _ h => h) (by rfl) (fun w' hw' => ?_) hH ?_
            rotate_left
            · obtain ⟨r0, r1, r2, r3, r4, r5, r6, r7, r8, r9⟩ := recAt_of hw'
              go_simp
              all_goals with_reducible rfl
            simp only [Act.put, List.setIfInBounds_toArray, List.set_cons_zero, List.set_cons_succ]
            refine takeL 6 ?_ rfl (by kernel_rfl) (fun _ _ _ h => h) (by rfl) (fun w' hw' => ?_) hH ?_
            rotate_left
            · obtain ⟨r0, r1, r2, r3, r4, r5, r6, r7, r8, r9⟩ := recAt_of hw'
              go_simp
              all_goals with_reducible rfl
            simp only [Act.put, List.setIfInBounds_toArray, List.set_cons_zero, List.set_cons_succ]
            refine takeL 7 ?_ rfl (by kernel_rfl) (fun _ _ _ h => h) (by rfl) (fun w' hw' => ?_) hH ?_
            rotate_left
            · obtain ⟨r0, r1, r2, r3, r4, r5, r6, r7, r8, r9⟩ := recAt_of hw'
              go_simp
              all_goals with_reducible rfl
            simp only [Act.put, List.setIfInBounds_toArray, List.set_cons_zero, List.set_cons_succ]
            refine stepL 4 rfl (by kernel_rfl) (fun K hK => ?_)
            have L9 : (bod3 r ++ bodU r ++ beN r.blk.toNat 4 ++ beN r.off.toNat 2 ++ beN (r.new.length : Int).toNat 2).length ≤ 33 := by
              simp only [List.length_append, beN_len] at BL2 ⊢
              have := BL2.out; omega
            refine step_appendV rfl _ _ (by rfl) w2.heap.size v9 _ r.old (by rfl) (HO9.out.keep ((Kept.refl (fun _ => False) w9).drew) (fun _ _ => id)) A1 c1 (by rfl) R1.out (by omega) (by have := K9.out.size; exact this) ?_
            intro v10 w10 ho10 hk10
            have HO10 := Lib.hid ho10
            have K10 := Lib.hid (K9.out.drew.trans' hk10)
            have S10 := K10.out.heap HB2.out (by have := heap_lt HB2.out; omega)
            have R3 := Lib.hid (HR2.out.kept (HK2.out.new K10.out (fun x hx => by have := HK2.out.size; omega)) (fun _ _ _ _ => id))
            clear ho10 hk10 HO9 K9 S9 R1
            refine hK.out _ _ (fun _ => S10) (fun _ => ?_)
            simp only [List.setIfInBounds_toArray, List.set_cons_zero, List.set_cons_succ]
            clear hK K
            refine stepL 8 rfl (by kernel_rfl) (fun K hK => ?_)
            refine step_appendV rfl _ _ (by rfl) w2.heap.size v10 _ r.new (by rfl) HO10.out A2 c2 (by rfl) R3.out (by rw [List.length_append]; omega) (by have := K10.out.size; exact this) ?_
            intro v11 w11 ho11 hk11
            have HO11 := Lib.hid ho11
            have K11 := Lib.hid (K10.out.trans' hk11)
            have S11 := K11.out.heap HB2.out (by have := heap_lt HB2.out; omega)
            clear ho11 hk11 HO10 K10 S10 R3
            refine hK.out _ _ (fun _ => S11) (fun _ => ?_)
            simp only [List.setIfInBounds_toArray, List.set_cons_zero, List.set_cons_succ]
            clear hK K
            refine stepL 9 rfl (by kernel_rfl) (fun K hK => ?_)
            go_simp
            refine hK.out _ _ (fun _ => S11) (fun _ => ?_)
            simp only [List.setIfInBounds_toArray, List.set_cons_zero, List.set_cons_succ]
            clear hK K
            refine doneL (by kernel_rfl) ?_ _
            go_wp2
            go_meet
            case rel =>
              refine ⟨?_, K11.out⟩
              have e := HO11.out
              rw [Int.toNat_natCast] at e
              rw [body_U, if_neg HN.out]
              simpa [bod3] using e
        case rest =>
          obtain ⟨hb, hk⟩ := hcut
          have HO7 := Lib.hid hb
          have K7 := Lib.hid hk
          have S7 := Lib.hid (hk.heap HB2.out (by have := heap_lt HB2.out; omega))
          have hbl := body_le HR.out
          obtain ⟨g4, k4, rfl⟩ : ∃ g4 k4, u4 = .slice (some ⟨g4, 0, none⟩) (bodyM r).length k4 := by
            rcases hb.form with ⟨_, h⟩ | ⟨g, cap, h, _⟩
            · rw [h] at hbl; simp at hbl
            · exact ⟨g, cap, h⟩
          have G4 := Lib.hid (hb.base_le (x := g4) rfl)
          obtain ⟨N, hN⟩ : ∃ N, N = (bodyM r).length := ⟨_, rfl⟩
          rw [← hN] at hbl ⊢
          have L7 := hbl.2
          have HNB := Lib.hid hN
          have I4 := Lib.hid (show 0 ≤ r.lsn ∧ r.lsn ≤ 9223372036854775807 ∧ 0 ≤ r.turn ∧ r.turn ≤ 9223372036854775807 from by have := HR.out; unfold rightM topM at this; omega)
          obtain ⟨x0, x1, x2, x3, x4, x5, x6, x7, x8, x9⟩ := recAt_of S7.out
          clear hb hk HO6 K6 S6 y2 y6 y7 y8 y9 x1 x2 x3 x4 x5 x6 x7 x8 x9 hbl hN BL2 HBB I1 I2 I3
          go_wp2_with fail
          refine (rput_up (.slice none 0 0) [] r.lsn 8 wc.heap.size wc (OwnV.nil _ _) (Nat.le_refl wc.heap.size) I4.out.1 I4.out.2.1 (by decide) (by decide)).mono ?_
          rintro e w8 ⟨v8, rfl, ho8, hk8⟩
          have HO8 := Lib.hid ho8
          have K8 := Lib.hid hk8
          have S8 := Lib.hid (hk8.heap S7.out (by have := heap_lt S7.out; omega))
          obtain ⟨z0, x1, x2, x3, x4, x5, x6, x7, x8, x9⟩ := recAt_of S8.out
          clear ho8 hk8 x0 z0 x2 x3 x4 x5 x6 x7 x8 x9
          go_wp2_with fail
          refine (rput_up v8 _ r.turn 4 wc.heap.size _ HO8.out (by have := K8.out.size; exact this) I4.out.2.2.1 I4.out.2.2.2 (by decide) (by simp [beN_len])).mono ?_
          rintro e w9 ⟨v9, rfl, ho9, hk9⟩
          have HO9 := Lib.hid ho9
          have K9 := Lib.hid (K8.out.trans' hk9)
          clear ho9 hk9 HO8 K8 S8 x1
          go_wp2_with fail
          refine (rput_up v9 _ (N : Int) 2 wc.heap.size _ HO9.out (by have := K9.out.size; exact this) (by omega) (by omega) (by decide) (by simp [beN_len])).mono ?_
          rintro e w10 ⟨v10, rfl, ho10, hk10⟩
          have HO10 := Lib.hid (show OwnV w10 wc.heap.size v10 (headM r) from by
            have e := ho10
            rw [Int.toNat_natCast, HNB.out] at e
            unfold headM
            simpa using e)
          have K10 := Lib.hid (K9.out.trans' hk10)
          clear ho10 hk10 HO9 K9
          obtain ⟨g10, k10, hv10⟩ : ∃ g k, v10 = .slice (some ⟨g, 0, none⟩) 14 k := by
            rcases HO10.out.form with ⟨_, h⟩ | ⟨g, cap, h, _⟩
            · have := headM_len r; rw [h] at this; simp at this
            · rw [headM_len] at h; exact ⟨g, cap, h⟩
          subst hv10
          obtain ⟨HM, hHM⟩ : ∃ HM, HM = headM r := ⟨_, rfl⟩
          rw [← hHM] at HO10
          have HHM := Lib.hid hHM
          have hHL : HM.length = 14 := by rw [hHM]; exact headM_len r
          have HHL := Lib.hid hHL
          clear hHM hHL
          have ke : Kept (fun _ => False) w10 (w10.alloc (.cells (cellsOf []) 5)) := (Kept.refl _ w10).alloc _
          have KE := Lib.hid ke
          have HO0 := Lib.hid (OwnV.of_new (w := w10) (base := w10.heap.size) [] (Nat.le_refl _))
          have HO11 := Lib.hid (HO10.out.keep ke (fun _ _ => id))
          clear ke
          go_wp2_with (at_builtin; refine wl_appendV rfl _ _ rfl w10.heap.size _ [] HM rfl HO0.out (some ⟨g10, 0, none⟩) k10 (by rw [HHL.out]; rfl) HO11.out.rd (by rw [HHL.out]; simp) (by have := KE.out.size; exact this) ?_)
          intro v12 w12 ho12 hk12 hat12
          have HO12 := Lib.hid (show OwnV w12 w10.heap.size v12 HM from ho12)
          have kb : Kept (fun x => w10.heap.size ≤ x) w10 w12 := (KE.out.mono (fun _ _ h => h.elim)).trans hk12 (fun x _ h => (HO0.out.base_le h).1)
          have HB12 := Lib.hid ((HO7.out.keep K10.out (fun x hx h => by have := (HO7.out.base_le hx).2; omega)).keep kb (fun x hx h => by have := (HO7.out.base_le hx).2; have := K10.out.size; omega))
          have HO10b := Lib.hid (HO10.out.keep kb (fun x hx h => by have := (HO10.out.base_le hx).2; omega))
          have KB := Lib.hid kb
          clear ho12 hk12 hat12 kb HO0 HO11 KE
          go_wp2_with (at_builtin; refine wl_appendV rfl _ _ rfl w10.heap.size v12 HM (bodyM r) rfl HO12.out (some ⟨g4, 0, none⟩) k4 (by rw [← HNB.out]; rfl) HB12.out.rd (by rw [HHL.out, ← HNB.out]; omega) (by have := KB.out.size; exact this) ?_)
          intro v13 w13 ho13 hk13 hat13
          have kc : Kept (fun x => w10.heap.size ≤ x) w12 w13 := hk13.mono (fun x _ h => (HO12.out.base_le h).1)
          have HB13 := Lib.hid (HB12.out.keep kc (fun x hx h => by have := (HO7.out.base_le hx).2; have := K10.out.size; omega))
          have HO10c := Lib.hid (HO10b.out.keep kc (fun x hx h => by have := (HO10.out.base_le hx).2; omega))
          have hal : (HM ++ bodyM r).length = 14 + N := by rw [List.length_append, HHL.out, ← HNB.out]
          obtain ⟨HA, hHA⟩ : ∃ HA, HA = HM ++ bodyM r := ⟨_, rfl⟩
          rw [← hHA] at hal ho13
          obtain ⟨g13, k13, hv13⟩ : ∃ g k, v13 = .slice (some ⟨g, 0, none⟩) HA.length k := by
            rcases ho13.form with ⟨_, h⟩ | ⟨g, cap, h, _⟩
            · rw [h] at hal; simp at hal; omega
            · exact ⟨g, cap, h⟩
          subst hv13
          have HSM := Lib.hid (rsum_any (some ⟨g13, 0, none⟩) k13 HA w13 ho13.rd (by omega))
          have K13 := Lib.hid (K10.out.trans (KB.out.trans' kc) (fun x hx h => by have := K10.out.size; omega))
          obtain ⟨C, eC⟩ : ∃ C, C = crcL HA := ⟨_, rfl⟩
          have HC := Lib.hid (crcL_lt HA)
          rw [← eC] at HSM HC
          have EC := Lib.hid (show C = crcL (HM ++ bodyM r) from by rw [eC, hHA])
          have c1 : wrap64 (C : Int) = (C : Int) := by have := HC.out; unfold wrap64; omega
          clear ho13 hk13 hat13 kc HO12 HB12 HO10b eC hHA hal
          go_wp2_with fail
          refine HSM.out.mono ?_
          rintro e wx ⟨rfl, rfl⟩
          go_wp2_with fail
          refine (rput_up _ HM (C : Int) 4 wc.heap.size _ HO10c.out (by have := K13.out.size; exact this) (by omega) (by have := HC.out; omega) (by decide) (by rw [HHL.out]; decide)).mono ?_
          rintro e w14 ⟨v14, rfl, ho14, hk14⟩
          have HO14 := Lib.hid ho14
          have K14 := Lib.hid (K13.out.trans' hk14)
          have RB4 := Lib.hid (HB13.out.keep hk14 (fun x hx h => by have := (HO7.out.base_le hx).2; omega))
          clear ho14 hk14 HB13 HO10c K13 HSM
          go_wp2_with (at_builtin; refine wl_appendV rfl _ _ rfl wc.heap.size v14 _ (bodyM r) rfl HO14.out (some ⟨g4, 0, none⟩) k4 (by rw [← HNB.out]; rfl) RB4.out.rd (by rw [List.length_append, HHL.out, beN_len, ← HNB.out]; omega) (by have := K14.out.size; exact this) ?_)
          intro v15 w15 ho15 hk15 _
          have K15 := K14.out.trans' (hk15.mono (fun x _ hx => (HO14.out.base_le hx).1))
          have e15 : HM ++ (beN C 4 ++ bodyM r) = encM r := by
            rw [EC.out, HHM.out]
            rfl
          rw [e15] at ho15
          have HO15 := Lib.hid ho15
          have KW := Lib.hid (HK2.out.new (K7.out.trans K15 (fun x hx h => by have := K7.out.size; omega)) (fun x hx => by have := HK2.out.size; omega))
          clear ho15 hk15 K15 e15
          go_wp2
          go_ret2
          refine ⟨KW.out, fun _ => ?_, fun h => absurd HR.out h⟩
          rcases HO15.out.form with ⟨_, h⟩ | ⟨g, cap, rfl, h⟩
          · have := congrArg List.length h
            rw [encM_len] at this
            simp at this
          · have z1 := HK2.out.size
            have z2 := K7.out.size
            exact ⟨g, cap, rfl, OwnV.low (v := .slice (some ⟨g, 0, none⟩) (encM r).length cap) h (by omega)⟩
  · have HRT2 := Lib.hid (show Calls Try.prog 43 #[.agg (recC r A1 c1 A2 c2)] w1 fun e w' => e = .returned (.bool false) ∧ Kept (fun _ => False) w1 w' from by
      refine (HRT.out w1).mono ?_
      rintro e w' ⟨rfl, hk⟩
      exact ⟨by rw [decide_eq_false hR], hk⟩)
    have HR := Lib.hid hR
    clear hR HRT
    refine HRT2.out.mono ?_
    rintro e w2 ⟨rfl, hk2⟩
    have HK2 := Lib.hid (HK1.out.trans0 hk2)
    clear hk2 HRT2
    go_wp2
    go_ret2
    exact ⟨HK2.out, fun h => absurd h HR.out, fun _ => rfl⟩
end Go.Proofs.Ytbolbddjmmfepaa
