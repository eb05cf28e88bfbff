/-
  No statement is proved here: 'within', 'fits' and 'Right' of the document's records.
-/
import Derived.Test.YtbolbddjmmfepaaGt
namespace Go.Proofs.Ytbolbddjmmfepaa
open Go.RowKit

theorem rwithin_any (n : Int) (w : World) : Calls Try.prog 70 #[.int .i64 n] w fun e w' => e = .returned (.bool (decide (inM n))) ∧ w = w' := by
  by_cases h1 : 0 ≤ n
  · by_cases h2 : n ≤ 4611686018427387904
    · have hb := Lib.hid (show decide (inM n) = true from decide_eq_true ⟨h1, h2⟩)
      go_enter Try.func70, Try.ntmps70
      go_wp2
      go_ret
      exact ⟨by rw [hb.out]; rfl, rfl⟩
    · have hb := Lib.hid (show decide (inM n) = false from decide_eq_false (fun h => h2 h.2))
      go_enter Try.func70, Try.ntmps70
      go_wp2
      go_ret
      exact ⟨by rw [hb.out]; rfl, rfl⟩
  · have hb := Lib.hid (show decide (inM n) = false from decide_eq_false (fun h => h1 h.1))
    go_enter Try.func70, Try.ntmps70
    go_wp2
    go_ret
    exact ⟨by rw [hb.out]; rfl, rfl⟩
set_option maxRecDepth 20000 in
set_option maxHeartbeats 800000 in
theorem rfits_any (r : RecM) (A1 : Option Addr) (c1 : Nat) (A2 : Option Addr) (c2 : Nat) (w : World) (ho : RecOk r) (h2 : r.new.length ≤ 1000000) :
    Calls Try.prog 71 #[.agg (spanC r A1 c1 A2 c2)] w fun e w' => e = .returned (.bool (decide (fitsM r))) ∧ Kept (fun _ => False) w w' := by
  obtain ⟨-, -, -, -, -, o5, o6⟩ := ho
  unfold isI at o5 o6
  go_enter Try.func71, Try.ntmps71
  go_wp2_with (refine wl_box rfl 25 _ rfl (.agg (spanC r A1 c1 A2 c2)) rfl ?_)
  intro s w1 s1 s2 hb1 hk1
  have HK1 := Lib.hid hk1
  have e0 : w1.cell? ⟨s, 0, none⟩ = some (.int .i64 r.blk) := cell_blk hb1 rfl
  have e1 : w1.cell? ⟨s, 1, none⟩ = some (.int .i64 r.off) := cell_blk hb1 rfl
  have e3 : w1.cell? ⟨s, 3, none⟩ = some (.slice A2 r.new.length c2) := cell_blk hb1 rfl
  clear hb1 hk1
  by_cases f1 : 0 ≤ r.blk
  · by_cases f2 : r.blk < 65536
    · by_cases f3 : 0 ≤ r.off
      · by_cases f4 : r.off < 512
        · by_cases f5 : 1 ≤ (r.new.length : Int)
          · by_cases f6 : (r.new.length : Int) ≤ 512 - r.off
            · go_wp2
              go_ret
              exact ⟨ret_t ⟨f1, f2, f3, f4, by omega, f6⟩, HK1.out⟩
            · go_wp2
              go_ret
              exact ⟨ret_f (fun h => by have := h.2.2.2.2.2; omega), HK1.out⟩
          · go_wp2
            go_ret
            exact ⟨ret_f (fun h => by have := h.2.2.2.2.1; omega), HK1.out⟩
        · go_wp2
          go_ret
          exact ⟨ret_f (fun h => by have := h.2.2.2.1; omega), HK1.out⟩
      · go_wp2
        go_ret
        exact ⟨ret_f (fun h => by have := h.2.2.1; omega), HK1.out⟩
    · go_wp2
      go_ret
      exact ⟨ret_f (fun h => by have := h.2.1; omega), HK1.out⟩
  · go_wp2
    go_ret
    exact ⟨ret_f (fun h => by have := h.1; omega), HK1.out⟩
set_option maxRecDepth 100000 in
set_option maxHeartbeats 3200000 in
theorem rright_any (r : RecM) (A1 : Option Addr) (c1 : Nat) (A2 : Option Addr) (c2 : Nat) (w : World) (ho : RecOk r) (h1 : r.old.length ≤ 1000000) (h2 : r.new.length ≤ 1000000) :
    Calls Try.prog 43 #[.agg (recC r A1 c1 A2 c2)] w fun e w' => e = .returned (.bool (decide (rightM r))) ∧ Kept (fun _ => False) w w' := by
  have HFI := Lib.hid (fun wz => rfits_any r A1 c1 A2 c2 wz ho h2)
  obtain ⟨o0, o1, o2, o3, o4, o5, o6⟩ := ho
  unfold isI at o0 o1 o2 o3 o4 o5 o6
  have HWT := Lib.hid (fun wz => rwithin_any r.tx wz)
  have HWP := Lib.hid (fun wz => rwithin_any r.prev wz)
  have HWN := Lib.hid (fun wz => rwithin_any r.next wz)
  go_enter Try.func43, Try.ntmps43
  go_wp2_with (refine wl_box rfl 27 _ rfl (.agg (recC r A1 c1 A2 c2)) rfl ?_)
  intro q w1 q1 q2 hb1 hk1
  have HB1 := Lib.hid hb1
  have HK1 := Lib.hid hk1
  have HC1 := Lib.hid (cells_mid hb1 6 (spanC r A1 c1 A2 c2) (span_mid r A1 c1 A2 c2))
  obtain ⟨d0, d1, d2, d3, d4, d5, d6, d7, d8, d9⟩ := recAt_of hb1
  clear hb1 hk1
  obtain ⟨bt, hbt⟩ : ∃ bt, bt = decide (inM r.tx) := ⟨_, rfl⟩
  obtain ⟨bp, hbp⟩ : ∃ bp, bp = decide (inM r.prev) := ⟨_, rfl⟩
  obtain ⟨bn, hbn⟩ : ∃ bn, bn = decide (inM r.next) := ⟨_, rfl⟩
  rw [← hbt] at HWT
  rw [← hbp] at HWP
  rw [← hbn] at HWN
  have HBT := Lib.hid hbt
  have HBP := Lib.hid hbp
  have HBN := Lib.hid hbn
  obtain ⟨bad, hbad⟩ : ∃ bad, bad = decide (r.lsn < 1 ∨ topM < r.lsn ∨ r.turn < 1 ∨ 2147483648 ≤ r.turn ∨ ¬ inM r.tx ∨ ¬ inM r.prev ∨ ¬ inM r.next) := ⟨_, rfl⟩
  have HBAD := Lib.hid hbad
  clear hbt hbp hbn hbad
  go_upto_region 1 with fail
  go_cut [38] from 3 to 38 (fun v wx => v = .bool bad ∧ w1 = wx)
  case first =>
    have yes : (r.lsn < 1 ∨ topM < r.lsn ∨ r.turn < 1 ∨ 2147483648 ≤ r.turn ∨ ¬ inM r.tx ∨ ¬ inM r.prev ∨ ¬ inM r.next) → bad = true := fun h => by rw [HBAD.out]; exact decide_eq_true h
    have hyes := Lib.hid yes
    clear yes
    by_cases g1 : r.lsn < 1
    · have HB := Lib.hid (hyes.out (.inl g1))
      clear hyes HBAD HFI HC1 HWT HWP HWN
      go_wp2
      go_meet
      exact ⟨by rw [HB.out], rfl⟩
    by_cases g2 : 4611686018427387904 < r.lsn
    · have HB := Lib.hid (hyes.out (.inr (.inl g2)))
      clear hyes HBAD HFI HC1 HWT HWP HWN
      go_wp2
      go_meet
      exact ⟨by rw [HB.out], rfl⟩
    by_cases g3 : r.turn < 1
    · have HB := Lib.hid (hyes.out (.inr (.inr (.inl g3))))
      clear hyes HBAD HFI HC1 HWT HWP HWN
      go_wp2
      go_meet
      exact ⟨by rw [HB.out], rfl⟩
    by_cases g4 : 2147483648 ≤ r.turn
    · have HB := Lib.hid (hyes.out (.inr (.inr (.inr (.inl g4)))))
      clear hyes HBAD HFI HC1 HWT HWP HWN
      go_wp2
      go_meet
      exact ⟨by rw [HB.out], rfl⟩
    cases bt with
    | false =>
      have HB := Lib.hid (hyes.out (.inr (.inr (.inr (.inr (.inl (of_decide_eq_false HBT.out.symm)))))))
      clear hyes HBAD HFI HC1 HWP HWN
      go_wp2_with (go_at_call 70; refine (HWT.out _).mono ?_; rintro e wx ⟨rfl, rfl⟩)
      go_meet
      exact ⟨by rw [HB.out], rfl⟩
    | true =>
      cases bp with
      | false =>
        have HB := Lib.hid (hyes.out (.inr (.inr (.inr (.inr (.inr (.inl (of_decide_eq_false HBP.out.symm))))))))
        clear hyes HBAD HFI HC1 HWN
        go_wp2_with fail
        refine (HWT.out _).mono ?_
        rintro e wx ⟨rfl, rfl⟩
        go_wp2_with fail
        refine (HWP.out _).mono ?_
        rintro e wx ⟨rfl, rfl⟩
        go_wp2
        go_meet
        exact ⟨by rw [HB.out], rfl⟩
      | true =>
        cases bn with
        | false =>
          have HB := Lib.hid (hyes.out (.inr (.inr (.inr (.inr (.inr (.inr (of_decide_eq_false HBN.out.symm))))))))
          clear hyes HBAD HFI HC1
          go_wp2_with fail
          refine (HWT.out _).mono ?_
          rintro e wx ⟨rfl, rfl⟩
          go_wp2_with fail
          refine (HWP.out _).mono ?_
          rintro e wx ⟨rfl, rfl⟩
          go_wp2_with fail
          refine (HWN.out _).mono ?_
          rintro e wx ⟨rfl, rfl⟩
          go_wp2
          go_meet
          exact ⟨by rw [HB.out], rfl⟩
        | true =>
          have HB := Lib.hid (show bad = false from by
            rw [HBAD.out]
            refine decide_eq_false ?_
            rintro (h | h | h | h | h | h | h)
            · exact g1 h
            · exact g2 h
            · exact g3 h
            · exact g4 h
            · exact h (of_decide_eq_true HBT.out.symm)
            · exact h (of_decide_eq_true HBP.out.symm)
            · exact h (of_decide_eq_true HBN.out.symm))
          clear hyes HBAD HFI HC1
          go_wp2_with fail
          refine (HWT.out _).mono ?_
          rintro e wx ⟨rfl, rfl⟩
          go_wp2_with fail
          refine (HWP.out _).mono ?_
          rintro e wx ⟨rfl, rfl⟩
          go_wp2_with fail
          refine (HWN.out _).mono ?_
          rintro e wx ⟨rfl, rfl⟩
          go_wp2
          go_meet
          exact ⟨by rw [HB.out], rfl⟩
  case rest =>
    obtain ⟨rfl, rfl⟩ := hcut
    have HBX := Lib.hid (show bad = true → ¬ rightM r from fun hb h => by
      rw [HBAD.out] at hb
      have hb := of_decide_eq_true hb
      rcases hb with g | g | g | g | g | g | g
      · have := h.1; omega
      · have := h.2.1; omega
      · have := h.2.2.1; omega
      · have := h.2.2.2.1; omega
      · exact g h.2.2.2.2.1
      · exact g h.2.2.2.2.2.1
      · exact g h.2.2.2.2.2.2.1)
    cases bad with
    | true =>
      clear HBAD HFI HC1 HWT HWP HWN
      go_wp2
      go_ret
      exact ⟨ret_f (HBX.out (by first | exact rfl | trivial)), HK1.out⟩
    | false =>
      have DONE := Lib.hid (show ((r.kind = 1 ∧ r.next = 0 ∧ fitsM r ∧ r.old.length = r.new.length) ∨ (r.kind = 2 ∧ fitsM r ∧ r.old = []) ∨ ((r.kind = 3 ∨ r.kind = 4) ∧ r.next = 0 ∧ r.blk = 0 ∧ r.off = 0 ∧ r.old = [] ∧ r.new = [])) → rightM r from fun h => by
        have hn := of_decide_eq_false HBAD.out.symm
        simp only [not_or, Decidable.not_not] at hn
        obtain ⟨n1, n2, n3, n4, n5, n6, n7⟩ := hn
        exact ⟨by omega, by omega, by omega, by omega, n5, n6, n7, h⟩)
      clear HBAD HBX HWT HWP HWN HBT HBP HBN d0 d1 d3 d4
      by_cases k1 : r.kind = 1
      · have d2' : w1.cell? ⟨q, 2, none⟩ = some (.int .u8 1) := by rw [d2, k1]; rfl
        have K1 := Lib.hid k1
        have K0 := Lib.hid (show ∀ P Q : Prop, ((r.kind = 2 ∧ P) ∨ ((r.kind = 3 ∨ r.kind = 4) ∧ Q)) → False from fun _ _ h => by
          rcases h with h | h
          · rw [k1] at h; exact absurd h.1 (by decide)
          · rw [k1] at h; exact absurd h.1 (by decide))
        clear d2 k1
        by_cases n0 : r.next = 0
        · by_cases hf : fitsM r
          · have HF := Lib.hid (decide_eq_true hf)
            have HFF := Lib.hid hf
            clear hf
            by_cases hl : (r.old.length : Int) = r.new.length
            · go_wp2_with (refine wl_load_mid rfl 25 _ rfl q 6 rfl (spanC r A1 c1 A2 c2) HC1.out Try.underlying25 rfl (zero_of_info infoSpan3).2 ?_)
              refine (HFI.out _).mono ?_
              rw [HF.out]
              rintro e w2 ⟨rfl, hk2⟩
              have HK2 := Lib.hid (HK1.out.trans0 hk2)
              have HB2 := Lib.hid (hk2.heap HB1.out id)
              have e8 : w2.cell? ⟨q, 8, none⟩ = some (.slice A1 r.old.length c1) := cell_blk HB2.out rfl
              have e9 : w2.cell? ⟨q, 9, none⟩ = some (.slice A2 r.new.length c2) := cell_blk HB2.out rfl
              clear hk2
              go_wp2
              go_ret
              exact ⟨ret_t (DONE.out (.inl ⟨K1.out, n0, HFF.out, by omega⟩)), HK2.out⟩
            · have hlb : ((r.old.length : Int) == r.new.length) = false := by simpa using hl
              go_wp2_with (refine wl_load_mid rfl 25 _ rfl q 6 rfl (spanC r A1 c1 A2 c2) HC1.out Try.underlying25 rfl (zero_of_info infoSpan3).2 ?_)
              refine (HFI.out _).mono ?_
              rw [HF.out]
              rintro e w2 ⟨rfl, hk2⟩
              have HK2 := Lib.hid (HK1.out.trans0 hk2)
              have HB2 := Lib.hid (hk2.heap HB1.out id)
              have e8 : w2.cell? ⟨q, 8, none⟩ = some (.slice A1 r.old.length c1) := cell_blk HB2.out rfl
              have e9 : w2.cell? ⟨q, 9, none⟩ = some (.slice A2 r.new.length c2) := cell_blk HB2.out rfl
              clear hk2
              go_wp2
              go_ret
              refine ⟨ret_f (fun h => ?_), HK2.out⟩
              rcases right_kind h with h | h
              · have := h.2.2.2; omega
              · exact K0.out _ _ h
          · have HF := Lib.hid (decide_eq_false hf)
            have HFF := Lib.hid hf
            clear hf
            go_wp2_with (refine wl_load_mid rfl 25 _ rfl q 6 rfl (spanC r A1 c1 A2 c2) HC1.out Try.underlying25 rfl (zero_of_info infoSpan3).2 ?_)
            refine (HFI.out _).mono ?_
            rw [HF.out]
            rintro e w2 ⟨rfl, hk2⟩
            have HK2 := Lib.hid (HK1.out.trans0 hk2)
            clear hk2
            go_wp2
            go_ret
            refine ⟨ret_f (fun h => ?_), HK2.out⟩
            rcases right_kind h with h | h
            · exact HFF.out h.2.2.1
            · exact K0.out _ _ h
        · go_wp2
          go_ret
          refine ⟨ret_f (fun h => ?_), HK1.out⟩
          rcases right_kind h with h | h
          · exact n0 h.2.1
          · exact K0.out _ _ h
      by_cases k2 : r.kind = 2
      · have d2' : w1.cell? ⟨q, 2, none⟩ = some (.int .u8 2) := by rw [d2, k2]; rfl
        have K1 := Lib.hid k2
        have KN := Lib.hid k1
        have K0 := Lib.hid (show ∀ Q : Prop, ((r.kind = 3 ∨ r.kind = 4) ∧ Q) → False from fun _ h => by
          rw [k2] at h; exact absurd h.1 (by decide))
        clear d2 k2 k1
        by_cases hf : fitsM r
        · have HF := Lib.hid (decide_eq_true hf)
          have HFF := Lib.hid hf
          clear hf
          go_wp2_with (refine wl_load_mid rfl 25 _ rfl q 6 rfl (spanC r A1 c1 A2 c2) HC1.out Try.underlying25 rfl (zero_of_info infoSpan3).2 ?_)
          refine (HFI.out _).mono ?_
          rw [HF.out]
          rintro e w2 ⟨rfl, hk2⟩
          have HK2 := Lib.hid (HK1.out.trans0 hk2)
          have HB2 := Lib.hid (hk2.heap HB1.out id)
          have e8 : w2.cell? ⟨q, 8, none⟩ = some (.slice A1 r.old.length c1) := cell_blk HB2.out rfl
          clear hk2
          by_cases hl : (r.old.length : Int) = 0
          · go_wp2
            go_ret
            exact ⟨ret_t (DONE.out (.inr (.inl ⟨K1.out, HFF.out, List.length_eq_zero_iff.1 (by omega)⟩))), HK2.out⟩
          · have hlb : ((r.old.length : Int) == 0) = false := by simpa using hl
            go_wp2
            go_ret
            refine ⟨ret_f (fun h => ?_), HK2.out⟩
            rcases right_kind h with h | h | h
            · exact KN.out h.1
            · have := h.2.2; rw [this] at hl; exact hl rfl
            · exact K0.out _ h
        · have HF := Lib.hid (decide_eq_false hf)
          have HFF := Lib.hid hf
          clear hf
          go_wp2_with (refine wl_load_mid rfl 25 _ rfl q 6 rfl (spanC r A1 c1 A2 c2) HC1.out Try.underlying25 rfl (zero_of_info infoSpan3).2 ?_)
          refine (HFI.out _).mono ?_
          rw [HF.out]
          rintro e w2 ⟨rfl, hk2⟩
          have HK2 := Lib.hid (HK1.out.trans0 hk2)
          clear hk2
          go_wp2
          go_ret
          refine ⟨ret_f (fun h => ?_), HK2.out⟩
          rcases right_kind h with h | h | h
          · exact KN.out h.1
          · exact HFF.out h.2.1
          · exact K0.out _ h
      clear HFI HC1
      by_cases k3 : r.kind = 3 ∨ r.kind = 4
      · obtain ⟨m, hm, d2'⟩ : ∃ m : Int, (m = 3 ∨ m = 4) ∧ w1.cell? ⟨q, 2, none⟩ = some (.int .u8 m) := ⟨_, by rcases k3 with h | h <;> rw [h] <;> decide, d2⟩
        have K3 := Lib.hid k3
        have KN := Lib.hid (And.intro k1 k2)
        clear d2 k1 k2 k3
        have NO := Lib.hid (show ¬ (r.next = 0 ∧ r.blk = 0 ∧ r.off = 0 ∧ (r.old.length : Int) = 0 ∧ (r.new.length : Int) = 0) → ¬ rightM r from fun hn h => by
          rcases right_kind h with h | h | h
          · exact KN.out.1 h.1
          · exact KN.out.2 h.1
          · exact hn ⟨h.2.1, h.2.2.1, h.2.2.2.1, by rw [h.2.2.2.2.1]; rfl, by rw [h.2.2.2.2.2]; rfl⟩)
        by_cases n0 : r.next = 0
        · by_cases n1 : r.blk = 0
          · by_cases n2 : r.off = 0
            · by_cases l1 : (r.old.length : Int) = 0
              · by_cases l2 : (r.new.length : Int) = 0
                · rcases hm with rfl | rfl <;> (go_wp2; go_ret; exact ⟨ret_t (DONE.out (.inr (.inr ⟨K3.out, n0, n1, n2, List.length_eq_zero_iff.1 (by omega), List.length_eq_zero_iff.1 (by omega)⟩))), HK1.out⟩)
                · have lb : ((r.new.length : Int) == 0) = false := by simpa using l2
                  rcases hm with rfl | rfl <;> (go_wp2; go_ret; exact ⟨ret_f (NO.out (fun h => l2 h.2.2.2.2)), HK1.out⟩)
              · have lb : ((r.old.length : Int) == 0) = false := by simpa using l1
                rcases hm with rfl | rfl <;> (go_wp2; go_ret; exact ⟨ret_f (NO.out (fun h => l1 h.2.2.2.1)), HK1.out⟩)
            · rcases hm with rfl | rfl <;> (go_wp2; go_ret; exact ⟨ret_f (NO.out (fun h => n2 h.2.2.1)), HK1.out⟩)
          · rcases hm with rfl | rfl <;> (go_wp2; go_ret; exact ⟨ret_f (NO.out (fun h => n1 h.2.1)), HK1.out⟩)
        · rcases hm with rfl | rfl <;> (go_wp2; go_ret; exact ⟨ret_f (NO.out (fun h => n0 h.1)), HK1.out⟩)
      · have no : ¬ rightM r := fun h => by
          rcases right_kind h with h | h | h
          · exact k1 h.1
          · exact k2 h.1
          · exact k3 h.1
        obtain ⟨m, hm, d2'⟩ : ∃ m : Int, (¬ m = 1 ∧ ¬ m = 2 ∧ ¬ m = 3 ∧ ¬ m = 4) ∧ w1.cell? ⟨q, 2, none⟩ = some (.int .u8 m) := ⟨_, by
          have z : ∀ c : UInt8, ((r.kind.toNat : Int) = (c.toNat : Int)) → r.kind = c := fun c h => UInt8.toNat_inj.1 (by omega)
          exact ⟨fun h => k1 (z 1 h), fun h => k2 (z 2 h), fun h => k3 (.inl (z 3 h)), fun h => k3 (.inr (z 4 h))⟩, d2⟩
        obtain ⟨m1, m2, m3, m4⟩ := hm
        have NO := Lib.hid no
        clear d2 k1 k2 k3 no
        go_wp2
        go_ret
        exact ⟨ret_f NO.out, HK1.out⟩
end Go.Proofs.Ytbolbddjmmfepaa
