/-
  DeviceNumbers: the walk: parchmentlaw01.DeviceNumbers returns true, and nothing that was there turns.
-/
import Derived.Test.YtjhbkamgmldkmaaNum
import Derived.Test.YtjhbkamgmldkmaaKit
namespace Go.Proofs.Ytjhbkamgmldkmaa
open Go.RowKit

theorem pair_of {q : Int × DevM} {x : Int} (h : q.1 = x) : q = (x, q.2) := by subst h; rfl
def nb1 : DevM := ((newM 65536).write 65535 (fullB 9)).2
theorem nb1e : (newM 65536).write 65535 (fullB 9) = (0, nb1) := by unfold nb1; exact pair_of (by decide +kernel)
theorem nb_same {D : DevM} {n : Int} {l : Bytes} {x : Int} (hx : x ≠ 0) (h : (D.write n l).1 = x) (h2 : D.mayE n = x ∨ (D.mayE n = 0 ∧ l.length ≠ 512)) : D.write n l = (x, D) := by
  unfold DevM.write at *
  rcases h2 with h2 | ⟨h2, h3⟩
  · rw [if_pos (by rw [h2]; exact hx), h2]
  · rw [if_neg (by simp [h2]), if_pos h3] at h
    rw [if_neg (by simp [h2]), if_pos h3]
    simp at h
    rw [h]
theorem nb2e : nb1.write 65536 (fullB 9) = (6, nb1) := nb_same (by decide) (by decide +kernel) (.inl (by decide +kernel))
theorem nb3e : nb1.write (-1) (fullB 9) = (6, nb1) := nb_same (by decide) (by decide +kernel) (.inl (by decide +kernel))
theorem nb4e : nb1.mayE 0 = 0 := by decide +kernel
def nd1 : DevM := (newM 1).arm 2
def nd2 : DevM := (nd1.write 0 (fullB 1)).2
theorem nd2e : nd1.write 0 (fullB 1) = (0, nd2) := by unfold nd2; exact pair_of (by decide +kernel)
def nd3 : DevM := nd2.syncR.2
theorem nd3e : nd2.syncR = (8, nd3) := by unfold nd3; exact pair_of (by decide +kernel)
theorem nd3m : nd3.mayE 0 = 8 := by decide +kernel
def nd4 : DevM := (nd3.arm 5).wake []
theorem nd4m : nd4.mayE 0 = 0 := by decide +kernel
theorem nd4l : nd4.latest 0 = zeros 512 := by decide +kernel
theorem nd4d : nd4.down = false := by decide +kernel
def nd5 : DevM := nd4.arm 1
theorem nd5u : nd4.arm 1 = nd5 := by unfold nd5; rfl
theorem nd5a : nd5.write 1 (fullB 1) = (6, nd5) := nb_same (by decide) (by decide +kernel) (.inl (by decide +kernel))
theorem nd5b : nd5.mayE 0 = 0 := by decide +kernel
def nd6 : DevM := (nd5.write 0 (fullB 1)).2
theorem nd6e : nd5.write 0 (fullB 1) = (8, nd6) := by unfold nd6; exact pair_of (by decide +kernel)
theorem nd6d : nd6.down = true := by decide +kernel
theorem nd6a : nd6.write 0 (fullB 2) = (8, nd6) := nb_same (by decide) (by decide +kernel) (.inl (by decide +kernel))
theorem nd6m : nd6.mayE 0 = 8 := by decide +kernel
theorem nd6n : nd6.mayE 7 = 8 := by decide +kernel
def nd7 : DevM := nd6.wake [(0, 1), (3, 2), (0, 255)]
theorem nd7v : nd6.wake [(0, 1), (3, 2), (0, 255)] = nd7 := by unfold nd7; rfl
theorem nd7m : nd7.mayE 0 = 0 := by decide +kernel
theorem nd7l : nd7.latest 0 = fullB 1 := by decide +kernel
def nd8 : DevM := (nd7.arm 1).arm 0
theorem nd7u : (nd7.arm 1).arm 0 = nd8 := by unfold nd8; rfl
def nd9 : DevM := nd8.syncR.2
theorem nd9e : nd8.syncR = (0, nd9) := by unfold nd9; exact pair_of (by decide +kernel)
section
variable {w : World} {p ms mo : Nat} {D : DevM}
theorem readno_to (h : DevAt w p ms mo D) (n : Int) {x : Int} (hx : x ≠ 0) (hm : D.mayE n = x) : Calls Try.prog 16 #[.pointer (some ⟨p, 0, none⟩), .int .i64 n] w fun e w' => e = .returned (.tuple #[.slice none 0 0, .int .i64 x]) ∧ w = w' := by
  subst hm; exact read_no h n hx
theorem readok_to (h : DevAt w p ms mo D) (n : Int) (hm : D.mayE n = 0) {l : Bytes} (hl : D.latest n = l) : Calls Try.prog 16 #[.pointer (some ⟨p, 0, none⟩), .int .i64 n] w fun e w' => ∃ g cap, e = .returned (.tuple #[.slice (some ⟨g, 0, none⟩) 512 cap, .int .i64 0]) ∧ OwnB w' w.heap.size g cap l ∧ Kept (fun _ => False) w w' := by
  subst hl; exact read_ok h n hm
theorem downto (h : DevAt w p ms mo D) {b : Bool} (hd : D.down = b) : Calls Try.prog 19 #[.pointer (some ⟨p, 0, none⟩)] w fun e w' => e = .returned (.bool b) ∧ w = w' := by
  subst hd; exact down_any h
theorem writeno_to (h : DevAt w p ms mo D) (n : Int) {x : Int} (hx : x ≠ 0) (hm : D.mayE n = x) (v : Value) : Calls Try.prog 13 #[.pointer (some ⟨p, 0, none⟩), .int .i64 n, v] w fun e w' => e = .returned (.int .i64 x) ∧ w = w' := by
  subst hm; exact write_no h n hx v
theorem syncno_to (h : DevAt w p ms mo D) {x : Int} (hx : x ≠ 0) (hm : D.mayE 0 = x) : Calls Try.prog 12 #[.pointer (some ⟨p, 0, none⟩)] w fun e w' => e = .returned (.int .i64 x) ∧ w = w' := by
  subst hm; exact sync_no h hx
theorem OwnB.kept {w w' : World} {base g cap : Nat} {l : Bytes} (h : OwnB w base g cap l) (hk : Kept (fun _ => False) w w') : OwnB w' base g cap l := by
  obtain ⟨h0, h⟩ := h
  rcases h with ⟨h, h'⟩ | ⟨g', cap', cur, hv, hb, hh, h1, h2, h3, h4⟩
  · cases h
  · exact ⟨h0, .inr ⟨g', cap', cur, hv, hb, hk.heap hh id, h1, h2, h3, h4⟩⟩
theorem OwnB.keep {S : Nat → Prop} {w w' : World} {base g cap : Nat} {l : Bytes} (h : OwnB w base g cap l) (hk : Kept S w w') (hn : ¬ S g) : OwnB w' base g cap l := by
  obtain ⟨h0, h⟩ := h
  rcases h with ⟨h, h'⟩ | ⟨g', cap', cur, hv, hb, hh, h1, h2, h3, h4⟩
  · cases h
  · injection hv with e1 e2 e3
    injection e1 with e1
    injection e1 with e1
    subst e1
    exact ⟨h0, .inr ⟨g, cap', cur, by rw [e3], hb, hk.heap hh hn, h1, h2, h3, h4⟩⟩
theorem OwnB.base_le {w : World} {base g cap : Nat} {l : Bytes} (h : OwnB w base g cap l) : base ≤ g := by
  obtain ⟨_, h, _⟩ := h.form; exact h
/-- SameBytes of bytes that are alike. -/
theorem same_to {g cap base g2 n2 c2 : Nat} {l : Bytes} {n : Nat} (hl : l.length = n) (hn : n ≤ 4611686018427387904) (ho : OwnB w base g cap l) {t : TypeId} {fr : Nat × Nat} (h2 : w.heap[g2]? = some (.cells (cellsOf l) t fr)) (e2 : n2 = n) :
    Calls Try.prog 25 #[.slice (some ⟨g, 0, none⟩) n cap, .slice (some ⟨g2, 0, none⟩) n2 c2] w fun e w' => e = .returned (.bool true) ∧ Same w w' := by
  subst hl; subst e2
  have := same_any (some ⟨g, 0, none⟩) (some ⟨g2, 0, none⟩) cap c2 l l w ho.rd (RdB.of_blk h2) hn
  rw [show decide (l = l) = true by simp] at this
  exact this
end

theorem run_makeB (w : World) (n m : Nat) (ni mi : Int) (hn : ni = (n : Int)) (hm : mi = (m : Int)) (hnm : n ≤ m) (hmm : m ≤ 281474976710656) :
    ∃ g w', (Instr.makeSlice 35 (.int .i64 ni) (.int .i64 mi)).run Try.prog w = .ok (.slice (some ⟨g, 0, none⟩) n m) w' ∧ w.heap.size ≤ g ∧ g < w'.heap.size ∧ w'.heap[g]? = some (.cells (cellsOf (zeros m)) 5 (0, 0)) ∧ Kept (fun _ => False) w w' := by
  subst hn; subst hm
  obtain ⟨i, hi, h2, h3, h4⟩ := info_parts info5
  have hr := run_make (P := Try.prog) w 35 5 i _ Try.underlying35 hi h2 .i64 .i64 (n : Int) (m : Int) (by omega) (by omega) (by rw [h4]; omega) (by omega)
  simp only [Int.toNat_natCast, h3, Nat.mul_one] at hr
  rw [show (Value.int IntKind.u8 0).cells = #[Value.int .u8 0] from rfl, madeCells_zeros] at hr
  exact ⟨w.heap.size, _, hr, Nat.le_refl _, by simp, heap_alloc_new w _, (Kept.refl _ w).alloc _⟩

set_option maxRecDepth 100000 in
set_option maxHeartbeats 2000000 in
theorem numbers_walk (w : World) : Calls Try.prog 5 #[] w fun e w' => e = .returned (.bool true) ∧ Kept (fun _ => False) w w' := by
  go_enter Try.func5, Try.ntmps5
  go_wp2_with fail
  refine (new_no (-1) (by omega) _).mono ?_
  rintro e wx ⟨rfl, rfl⟩
  go_wp2_with fail
  refine (new_no 65537 (by omega) _).mono ?_
  rintro e wx ⟨rfl, rfl⟩
  go_wp2_with fail
  refine (new_ok 65536 (by omega) (by omega) _).mono ?_
  rintro e w1 ⟨p, ms, mo, rfl, hD1, hk1, lp, lms, lmo⟩
  have HB := Lib.hid (blocks_any hD1)
  go_wp2_with (go_at_call 23; refine HB.out.mono ?_; rintro e wx ⟨rfl, rfl⟩)
  clear HB
  go_wp2_with (go_at_call 14; refine (full_num 9 9 rfl _).mono ?_; rintro e w2 ⟨g1, rfl, n2, hb2, hk2⟩)
  have H1 := Lib.hid (write_to (hD1.keep hk2 id id id) 65535 hb2 (len_fullB _) nb1e)
  have K2 := Lib.hid (hk1.trans0 hk2)
  clear hD1 hk1 hk2 hb2
  go_wp2_with (go_at_call 13; refine H1.out.mono ?_; rintro e w3 ⟨rfl, hD3, hk3⟩)
  have K3 := Lib.hid (K2.out.new hk3 (by rintro x (h | h) <;> omega))
  clear hk3 H1 K2
  go_wp2_with (go_at_call 14; refine (full_num 9 9 rfl _).mono ?_; rintro e w4 ⟨g2, rfl, n4, hb4, hk4⟩)
  have H1 := Lib.hid (write_to (hD3.keep hk4 id id id) 65536 hb4 (len_fullB _) nb2e)
  have K4 := Lib.hid (K3.out.trans0 hk4)
  clear hD3 hk4 hb4 K3
  go_wp2_with (go_at_call 13; refine H1.out.mono ?_; rintro e w5 ⟨rfl, hD5, hk5⟩)
  have K5 := Lib.hid (K4.out.new hk5 (by rintro x (h | h) <;> omega))
  clear hk5 H1 K4
  go_wp2_with (go_at_call 14; refine (full_num 9 9 rfl _).mono ?_; rintro e w6 ⟨g3, rfl, n6, hb6, hk6⟩)
  have H1 := Lib.hid (write_to (hD5.keep hk6 id id id) (-1) hb6 (len_fullB _) nb3e)
  have K6 := Lib.hid (K5.out.trans0 hk6)
  clear hD5 hk6 hb6 K5
  go_wp2_with (go_at_call 13; refine H1.out.mono ?_; rintro e w7 ⟨rfl, hD7, hk7⟩)
  have K7 := Lib.hid (K6.out.new hk7 (by rintro x (h | h) <;> omega))
  clear hk7 H1 K6
  obtain ⟨g4, w8, hr8, n8, m8, hb8, hk8⟩ := run_makeB w7 513 513 513 513 rfl rfl (Nat.le_refl _) (by decide)
  have H1 := Lib.hid (write_arg (hD7.keep hk8 id id id) 0 nb4e (some ⟨g4, 0, none⟩) 513 513 (by omega))
  have K8 := Lib.hid (K7.out.trans0 hk8)
  clear hD7 hk8 hb8 K7
  go_wp2_with fail
  rw [hr8]
  go_wp2_with (go_at_call 13; refine H1.out.mono ?_; rintro e wx ⟨rfl, rfl⟩)
  clear H1 hr8
  go_wp2_with fail
  refine (new_ok 1 (by omega) (by omega) _).mono ?_
  rintro e w9 ⟨p2, ms2, mo2, rfl, hD9, hk9, lp2, lms2, lmo2⟩
  have HA := Lib.hid (arm_any hD9 2 (by omega))
  have K9 := Lib.hid (K8.out.trans0 hk9)
  have s8 := K8.out.size
  clear hD9 hk9 K8
  go_wp2_with (go_at_call 24; refine HA.out.mono ?_; rintro e w10 ⟨rfl, hD10, hk10⟩)
  have K10 := Lib.hid (K9.out.new hk10 (by rintro x rfl; omega))
  clear hk10 HA K9
  go_wp2_with (go_at_call 14; refine (full_num 1 1 rfl _).mono ?_; rintro e w11 ⟨g5, rfl, n11, hb11, hk11⟩)
  have H1 := Lib.hid (write_to (D := nd1) (hD10.keep hk11 id id id) 0 hb11 (len_fullB _) nd2e)
  have K11 := Lib.hid (K10.out.trans0 hk11)
  clear hD10 hk11 hb11 K10
  go_wp2_with (go_at_call 13; refine H1.out.mono ?_; rintro e w12 ⟨rfl, hD12, hk12⟩)
  have K12 := Lib.hid (K11.out.new hk12 (by rintro x (h | h) <;> omega))
  have H2 := Lib.hid (sync_to hD12 nd3e)
  clear hk12 H1 K11 hD12
  go_wp2_with (go_at_call 12; refine H2.out.mono ?_; rintro e w13 ⟨rfl, hD13, hk13⟩)
  have K13 := Lib.hid (K12.out.new hk13 (by rintro x (h | h | h) <;> omega))
  have H3 := Lib.hid (readno_to hD13 0 (by decide) nd3m)
  have H4 := Lib.hid (arm_any hD13 5 (by omega))
  clear hk13 H2 K12 hD13
  go_wp2_with (first
    | (go_at_call 16; refine H3.out.mono ?_; rintro e wx ⟨rfl, rfl⟩)
    | (go_at_call 24; refine H4.out.mono ?_; rintro e w14 ⟨rfl, hD14, hk14⟩))
  have K14 := Lib.hid (K13.out.new hk14 (by rintro x rfl; omega))
  have H5 := Lib.hid (wake_any hD14 none 0 [] (fun h => absurd rfl h) (fun h => absurd rfl h) (by decide))
  clear hk14 H3 H4 K13 hD14
  go_wp2_with (go_at_call 15; refine H5.out.mono ?_; rintro e w15 ⟨rfl, hD15, hk15⟩)
  have K15 := Lib.hid (K14.out.new hk15 (by rintro x (h | h | h) <;> omega))
  have H6 := Lib.hid (readok_to (D := nd4) hD15 0 nd4m nd4l)
  clear hk15 H5 K14
  go_wp2_with fail
  refine H6.out.mono ?_
  rintro e w16 ⟨g6, cap6, rfl, ho16, hk16⟩
  have HD16 := Lib.hid (show DevAt w16 p2 ms2 mo2 nd4 from hD15.keep hk16 id id id)
  have K16 := Lib.hid (K15.out.trans0 hk16)
  have HO := Lib.hid ho16
  clear hk16 ho16 K15 H6 hD15
  obtain ⟨g7, w17, hr17, n17, m17, hb17, hk17⟩ := run_makeB w16 512 512 512 512 rfl rfl (Nat.le_refl _) (by decide)
  have H7 := Lib.hid (same_to (w := w17) (g := g6) (cap := cap6) (base := w15.heap.size) (c2 := 512) (len_zeros 512) (by decide) (HO.out.kept hk17) hb17 rfl)
  have H8 := Lib.hid (HD16.out.keep hk17 id id id)
  have K17 := Lib.hid (K16.out.trans0 hk17)
  clear hb17 hk17 K16 HD16 HO
  go_wp2_with (go_at_call 25; refine H7.out.mono ?_; rintro e w18 ⟨rfl, hs18⟩)
  have HD18 := Lib.hid (H8.out.keep (hs18.kept (fun _ => False)) id id id)
  have K18 := Lib.hid (K17.out.trans0 (hs18.kept (fun _ => False)))
  have H9 := Lib.hid (downto HD18.out nd4d)
  have H10 := Lib.hid (arm_any HD18.out 1 (by omega))
  clear hs18 H7 H8 K17 hr17
  go_wp2_with (first
    | (go_at_call 19; refine H9.out.mono ?_; rintro e wx ⟨rfl, rfl⟩)
    | (go_at_call 24; refine H10.out.mono ?_; rintro e w19 ⟨rfl, hD19, hk19⟩))
  have K19 := Lib.hid (K18.out.new hk19 (by rintro x rfl; omega))
  rw [nd5u] at hD19
  have HD19 := Lib.hid hD19
  clear hk19 hD19 H9 H10 K18 HD18
  go_wp2_with (go_at_call 14; refine (full_num 1 1 rfl _).mono ?_; rintro e w20 ⟨g8, rfl, n20, hb20, hk20⟩)
  have H1 := Lib.hid (write_to (HD19.out.keep hk20 id id id) 1 hb20 (len_fullB _) nd5a)
  have K20 := Lib.hid (K19.out.trans0 hk20)
  clear hk20 hb20 K19 HD19
  go_wp2_with fail
  refine H1.out.mono ?_
  rintro e w21 ⟨rfl, hD21, hk21⟩
  have K21 := Lib.hid (K20.out.new hk21 (by rintro x (h | h) <;> omega))
  have H2 := Lib.hid (write_arg hD21 0 nd5b none 0 0 (by omega))
  have HD21 := Lib.hid hD21
  clear hk21 hD21 H1 K20
  go_wp2_with (go_at_call 13; refine H2.out.mono ?_; rintro e wx ⟨rfl, rfl⟩)
  clear H2
  go_wp2_with (go_at_call 14; refine (full_num 1 1 rfl _).mono ?_; rintro e w22 ⟨g9, rfl, n22, hb22, hk22⟩)
  have H1 := Lib.hid (write_to (HD21.out.keep hk22 id id id) 0 hb22 (len_fullB _) nd6e)
  have K22 := Lib.hid (K21.out.trans0 hk22)
  clear hk22 hb22 K21 HD21
  go_wp2_with (go_at_call 13; refine H1.out.mono ?_; rintro e w23 ⟨rfl, hD23, hk23⟩)
  have K23 := Lib.hid (K22.out.new hk23 (by rintro x (h | h) <;> omega))
  have H2 := Lib.hid (downto hD23 nd6d)
  have HD23 := Lib.hid hD23
  clear hk23 hD23 H1 K22
  go_wp2_with (first
    | (go_at_call 19; refine H2.out.mono ?_; rintro e wx ⟨rfl, rfl⟩)
    | (go_at_call 14; refine (full_num 2 2 rfl _).mono ?_; rintro e w24 ⟨g10, rfl, n24, hb24, hk24⟩))
  have H1 := Lib.hid (write_to (HD23.out.keep hk24 id id id) 0 hb24 (len_fullB _) nd6a)
  have K24 := Lib.hid (K23.out.trans0 hk24)
  clear hk24 hb24 K23 HD23 H2
  go_wp2_with (go_at_call 13; refine H1.out.mono ?_; rintro e w25 ⟨rfl, hD25, hk25⟩)
  have K25 := Lib.hid (K24.out.new hk25 (by rintro x (h | h) <;> omega))
  have H2 := Lib.hid (syncno_to hD25 (by decide) nd6m)
  have H3 := Lib.hid (writeno_to hD25 7 (by decide) nd6n (.slice none 0 0))
  have HD25 := Lib.hid hD25
  clear hk25 hD25 H1 K24
  go_wp2_with (first
    | (go_at_call 12; refine H2.out.mono ?_; rintro e wx ⟨rfl, rfl⟩)
    | (go_at_call 13; refine H3.out.mono ?_; rintro e wx ⟨rfl, rfl⟩))
  clear H2 H3
  have HDk := Lib.hid (HD25.out.keep ((Kept.refl (fun _ => False) w25).alloc (.cells #[.int .i64 0, .int .u8 1, .int .i64 3, .int .u8 2, .int .i64 0, .int .u8 255] 39)) id id id)
  have lp25 := heap_lt HD25.out.hp
  have hf : RdF (w25.alloc (.cells #[.int .i64 0, .int .u8 1, .int .i64 3, .int .u8 2, .int .i64 0, .int .u8 255] 39)) (some ⟨w25.heap.size, 0, none⟩) [(0, 1), (3, 2), (0, 255)] := fun _ => ⟨_, 0, rfl, fun i x hx => by
    have h0 := heap_alloc_new w25 (.cells #[.int .i64 0, .int .u8 1, .int .i64 3, .int .u8 2, .int .i64 0, .int .u8 255] 39)
    match i, hx with
    | 0, hx => cases hx; exact ⟨cell_blk h0 rfl, cell_blk h0 rfl⟩
    | 1, hx => cases hx; exact ⟨cell_blk h0 rfl, cell_blk h0 rfl⟩
    | 2, hx => cases hx; exact ⟨cell_blk h0 rfl, cell_blk h0 rfl⟩⟩
  have H5 := Lib.hid (wake_any HDk.out (some ⟨w25.heap.size, 0, none⟩) 3 [(0, 1), (3, 2), (0, 255)] hf (by rintro - b off h; cases h; omega) (by decide))
  have K26 := Lib.hid (K25.out.alloc (.cells #[.int .i64 0, .int .u8 1, .int .i64 3, .int .u8 2, .int .i64 0, .int .u8 255] 39))
  have s25 := K25.out.size
  clear hf HDk HD25 K25
  go_wp2_with (go_at_call 15; refine H5.out.mono ?_; rintro e w27 ⟨rfl, hD27, hk27⟩)
  have K27 := Lib.hid (K26.out.new hk27 (by rintro x (h | h | h) <;> omega))
  rw [nd7v] at hD27
  have H6 := Lib.hid (readok_to hD27 0 nd7m nd7l)
  have lp27 := heap_lt hD27.hp
  clear hk27 H5 K26
  go_wp2_with fail
  refine H6.out.mono ?_
  rintro e w28 ⟨g11, cap11, rfl, ho28, hk28⟩
  have K28 := Lib.hid (K27.out.trans0 hk28)
  have HO := Lib.hid ho28
  have H4 := Lib.hid (arm_any (hD27.keep hk28 id id id) 1 (by omega))
  clear hk28 ho28 K27 H6 hD27
  go_wp2_with fail
  refine H4.out.mono ?_
  rintro e w29 ⟨rfl, hD29, hk29⟩
  have H5 := Lib.hid (arm_any hD29 0 (by omega))
  have K29 := Lib.hid (K28.out.new hk29 (by rintro x rfl; omega))
  have HO29 := Lib.hid (HO.out.keep hk29 (by have := HO.out.base_le; have := lp27; omega))
  clear hk29 hD29 H4 K28 HO
  go_wp2_with fail
  refine H5.out.mono ?_
  rintro e w30 ⟨rfl, hD30, hk30⟩
  have K30 := Lib.hid (K29.out.new hk30 (by rintro x rfl; omega))
  rw [nd7u] at hD30
  have HD30 := Lib.hid hD30
  have HO30 := Lib.hid (HO29.out.keep hk30 (by have := HO29.out.base_le; have := lp27; omega))
  clear hk30 hD30 H5 K29 HO29
  go_wp2_with (go_at_call 14; refine (full_num 1 1 rfl _).mono ?_; rintro e w31 ⟨g12, rfl, n31, hb31, hk31⟩)
  have H7 := Lib.hid (same_to (g := g11) (cap := cap11) (c2 := 512) (len_fullB 1) (by decide) (HO30.out.kept hk31) hb31 rfl)
  have HD31 := Lib.hid (HD30.out.keep hk31 id id id)
  have K31 := Lib.hid (K30.out.trans0 hk31)
  clear hk31 hb31 HO30 HD30 K30
  go_wp2_with (go_at_call 25; refine H7.out.mono ?_; rintro e w32 ⟨rfl, hs32⟩)
  have H8 := Lib.hid (sync_to (HD31.out.keep (hs32.kept (fun _ => False)) id id id) nd9e)
  have K32 := Lib.hid (K31.out.trans0 (hs32.kept (fun _ => False)))
  clear hs32 H7 HD31 K31
  go_wp2_with (first
    | (go_at_call 12; refine H8.out.mono ?_; rintro e w33 ⟨rfl, -, hk33⟩)
    | (go_at_call 26; refine (sectors_num _).mono ?_; rintro e w34 ⟨rfl, hk34⟩)
    | (go_at_call 9; refine (awake_any _).mono ?_; rintro e w35 ⟨rfl, hk35⟩))
  go_ret
  exact ⟨rfl, ((K32.out.new hk33 (by rintro x (h | h | h) <;> omega)).trans0 hk34).trans0 hk35⟩
end Go.Proofs.Ytjhbkamgmldkmaa
