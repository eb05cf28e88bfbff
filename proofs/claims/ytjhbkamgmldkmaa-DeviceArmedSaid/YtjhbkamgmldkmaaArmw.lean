/-
  DeviceArmed: the walk: parchmentlaw01.DeviceArmed returns true for every number and every list of steps, and nothing that was there turns.
-/
import Derived.Test.YtjhbkamgmldkmaaArm
import Derived.Test.YtjhbkamgmldkmaaSec
import Derived.Deep.RegionHeld3
namespace Go.Proofs.Ytjhbkamgmldkmaa
open Go.RowKit

theorem RdDo.take {w : World} {A : Option Addr} {l : List DoM} (h : RdDo w A l) (n : Nat) : RdDo w A (l.take n) := by
  intro hne
  obtain ⟨b, off, hA, hc⟩ := h (by rintro rfl; simp at hne)
  refine ⟨b, off, hA, fun i x hx => hc i x ?_⟩
  rw [List.getElem?_take] at hx
  split at hx
  · exact hx
  · cases hx


section
variable {w : World} {p ms mo : Nat} {D : DevM} {n i : Int}
theorem sync_armed (h : DevAt w p ms mo D) (hI : ArmInv D n i) :
    Calls Try.prog 12 #[.pointer (some ⟨p, 0, none⟩)] w fun e w' => e = .returned (.int .i64 (armE n i)) ∧ (∃ E, DevAt w' p ms mo E ∧ ArmInv E n (i + 1)) ∧ Kept (fun x => x = p ∨ x = ms ∨ x = mo) w w' := by
  refine (sync_any h).mono ?_
  rintro e w' ⟨rfl, hD, hk⟩
  obtain ⟨hr, hI'⟩ := hI.sync
  exact ⟨by rw [hr], ⟨_, hD, hI'⟩, hk⟩
theorem write_armed (h : DevAt w p ms mo D) (hI : ArmInv D n i) (k : Nat) (hk : k < 3) {g : Nat} {l : Bytes} {t : TypeId} {fr : Nat × Nat} (hg : w.heap[g]? = some (.cells (cellsOf l) t fr)) (hl : l.length = 512) :
    Calls Try.prog 13 #[.pointer (some ⟨p, 0, none⟩), .int .i64 k, .slice (some ⟨g, 0, none⟩) 512 512] w fun e w' =>
      e = .returned (.int .i64 (armE n i)) ∧ (∃ E, DevAt w' p ms mo E ∧ ArmInv E n (i + 1)) ∧ Kept (fun x => x = p ∨ x = ms ∨ x = mo) w w' := by
  have := write_any h (k : Int) (some ⟨g, 0, none⟩) 512 l (RdB.of_blk hg)
  rw [hl] at this
  refine this.mono ?_
  rintro e w' ⟨rfl, hD, hk2⟩
  obtain ⟨hr, hI'⟩ := hI.write (k := k) (by omega) (by omega) hl
  exact ⟨by rw [hr], ⟨_, hD, hI'⟩, hk2.mono (fun x _ h => by rcases h with h | h; exact .inl h; exact .inr (.inr h))⟩
theorem down_armed (h : DevAt w p ms mo D) (hI : ArmInv D n i) : Calls Try.prog 19 #[.pointer (some ⟨p, 0, none⟩)] w fun e w' => e = .returned (.bool (decide (n ≤ i))) ∧ w = w' := by
  have := down_any h
  rw [hI.dn] at this
  exact this
theorem down_eq (h : DevAt w p ms mo D) {b : Bool} (hd : D.down = b) : Calls Try.prog 19 #[.pointer (some ⟨p, 0, none⟩)] w fun e w' => e = .returned (.bool b) ∧ w = w' := by
  have := down_any h
  rw [hd] at this
  exact this
end

set_option maxRecDepth 100000 in
set_option maxHeartbeats 2000000 in
theorem armed_any (n : Int) (A : Option Addr) (c : Nat) (l : List DoM) (w : World) (hl : RdDo w A l) (hcap : l.length ≤ c) :
    Calls Try.prog 6 #[.int .i64 n, .slice A l.length c] w fun e w' => e = .returned (.bool true) ∧ Kept (fun _ => False) w w' := by
  obtain ⟨hm0, hm1⟩ := pickM_lt (x := n) (n := 80) (by omega)
  by_cases h80 : l.length ≤ 80
  case' pos =>
    have HL := Lib.hid hl
    clear hl hcap
    have g1 : ¬ (80 : Int) < (l.length : Int) := by omega
    go_enter Try.func6, Try.ntmps6
    go_wp2_with (go_at_call 9; refine (awake_any _).mono ?_; rintro e w1 ⟨rfl, hk1⟩)
    clear g1
  case' neg =>
    have HL := Lib.hid (hl.take 80)
    have g1 : (80 : Int) < (l.length : Int) := by omega
    have g2 : (80 : Int) ≤ (c : Int) := by omega
    have hlen : (l.take 80).length = 80 := by rw [List.length_take]; omega
    have hsome : ∃ b off, A = some ⟨b, off, none⟩ := by
      obtain ⟨b, off, hA, _⟩ := hl (by rintro rfl; simp at g1)
      exact ⟨b, off, hA⟩
    clear hl hcap
    obtain ⟨b0, off0, rfl⟩ := hsome
    generalize l.take 80 = l2 at *
    have Hlen := Lib.hid hlen
    clear hlen
    go_enter Try.func6, Try.ntmps6
    go_wp2_with (go_at_call 9; refine (awake_any _).mono ?_; rintro e w1 ⟨rfl, hk1⟩)
    rw [← Hlen.out]
    have h80' : l2.length ≤ 80 := by rw [Hlen.out]; omega
    clear h80 g1 g2 Hlen
    generalize some (⟨b0, off0, none⟩ : Addr) = A at *
    generalize l.length = ll at *
    clear l
    revert l2
    intro l h80 HL
  all_goals
    go_wp2_with fail
    refine (pick_any n 80 (by omega) _).mono ?_
    rintro e wx ⟨rfl, rfl⟩
    generalize pickM n 80 = m at *
    go_wp2_with fail
    refine (new_ok 3 (by omega) (by omega) _).mono ?_
    rintro e w2 ⟨p, ms, mo, rfl, hD, hk2, lp, lms, lmo⟩
    go_wp2_with fail
    refine (arm_any hD (1 + m) (by omega)).mono ?_
    rintro e w3 ⟨rfl, hD3, hk3⟩
    have HI := Lib.hid (ArmInv.start (n := 1 + m) (by omega))
    have s1 := hk1.size
    have K3 := Lib.hid ((hk1.trans0 hk2).new hk3 (by rintro x rfl; omega))
    clear hk1 hk2 hk3 hD
    generalize (newM 3).arm (1 + m) = D0 at *
    go_wp2
    go_loopw [6] (fun i wr => ∃ (k : Nat) (D : DevM), k ≤ l.length ∧ i = .int .i64 k ∧ DevAt wr p ms mo D ∧ ArmInv D (1 + m) k ∧ Kept (fun _ => False) w wr) (fun i wr => l.length - (intOf i).toNat)
    case atStart => exact ⟨0, D0, by omega, rfl, hD3, HI.out, K3.out⟩
    case round =>
      clear hD3
      obtain ⟨k, D, hk, rfl, hD, hI, hkw⟩ := hrel
      have HI2 := Lib.hid hI
      have HD := Lib.hid hD
      have K := Lib.hid hkw
      clear hI hD hkw HI K3
      by_cases hlt : k < l.length
      · obtain ⟨b, off, hA, hc⟩ := HL.out (by intro e; simp [e] at hlt)
        have hx := hc k l[k] (by simp [hlt])
        generalize l[k] = x at hx
        obtain ⟨c0, c1, c2, c3, -⟩ := hx
        have lb := block_lt_of_cell c0
        simp only at lb
        have e0 := (World.cell?_of_block (K.out.block b lb id)).trans c0
        have e1 := (World.cell?_of_block (K.out.block b lb id)).trans c1
        have e3 := (World.cell?_of_block (K.out.block b lb id)).trans c3
        clear c0 c1 c2 c3 hc
        subst hA
        have i0 : (0 : Int) ≤ (k : Int) := by omega
        have i1 : (k : Int) < (l.length : Int) := by omega
        by_cases hop : x.op.tmod 2 = 0
        · have hz : (x.op.tmod 2 == 0) = true := by simp [hop]
          clear hop
          go_wp2_with fail
          refine (sync_armed HD.out HI2.out).mono ?_
          rintro e w4 ⟨rfl, ⟨E, hD4, hI4⟩, hk4⟩
          have HD4 := Lib.hid hD4
          have HI4 := Lib.hid hI4
          have K4 := Lib.hid (K.out.new hk4 (by rintro y (h | h | h) <;> omega))
          clear hD4 hI4 hk4 hz e0 e1 e3
          by_cases hkm : (k : Int) < m
          · have a0 : armE (1 + m) k = 0 := by unfold armE; rw [if_pos (by omega)]
            have a1 : decide (1 + m ≤ (k : Int) + 1) = false := by rw [decide_eq_false_iff_not]; omega
            have HW := Lib.hid (down_armed HD4.out HI4.out)
            rw [a0]
            rw [a1] at HW
            clear a0 a1
            go_wp2_with (go_at_call 19; refine HW.out.mono ?_; rintro e wx ⟨rfl, rfl⟩)
            go_roundw
            case rel => exact ⟨k + 1, E, by omega, by go_num, HD4.out, by have := HI4.out; simpa using this, K4.out⟩
            case measure => simp [intOf]; omega
          · have a0 : armE (1 + m) k = 8 := by unfold armE; rw [if_neg (by omega)]
            have a1 : decide (1 + m ≤ (k : Int) + 1) = true := by rw [decide_eq_true_eq]; omega
            have HW := Lib.hid (down_armed HD4.out HI4.out)
            rw [a0]
            rw [a1] at HW
            clear a0 a1
            go_wp2_with (go_at_call 19; refine HW.out.mono ?_; rintro e wx ⟨rfl, rfl⟩)
            go_roundw
            case rel => exact ⟨k + 1, E, by omega, by go_num, HD4.out, by have := HI4.out; simpa using this, K4.out⟩
            case measure => simp [intOf]; omega
        · have hz : (x.op.tmod 2 == 0) = false := by simp [hop]
          clear hop
          go_wp2
          have lb2 := K.out.size
          go_region_held3 (fun w' => Kept (fun x => x = p ∨ x = ms ∨ x = mo) wr w' ∧ w'.cell? ⟨b, off + k * 5 + 1, none⟩ = some (.int .i64 x.blk) ∧ w'.cell? ⟨b, off + k * 5 + 3, none⟩ = some (.int .u8 x.byte.toNat))
            (first
              | exact ⟨(Kept.refl _ _).drew, e1, e3⟩
              | assumption)
            (first
              | (go_at_call 11; refine (pick_nat x.blk 3 (by omega) (by omega) _).mono ?_; rintro e wx ⟨kk, hkk, -, rfl, rfl⟩)
              | (go_at_call 14; refine (full_any x.byte _).mono ?_; rintro e w4 ⟨g, rfl, n4, hb4, hk4⟩
                 have hS4 : Kept (fun x => x = p ∨ x = ms ∨ x = mo) wr w4 ∧ w4.cell? ⟨b, off + k * 5 + 1, none⟩ = some (.int .i64 x.blk) ∧ w4.cell? ⟨b, off + k * 5 + 3, none⟩ = some (.int .u8 x.byte.toNat) :=
                   ⟨((Kept.refl _ wr).drewN 1).trans0 ⟨hk4.os, hk4.tape, hk4.output, hk4.size, hk4.block⟩, (World.cell?_of_block (hk4.block b (by show b < wr.heap.size; omega) id)).trans e1, (World.cell?_of_block (hk4.block b (by show b < wr.heap.size; omega) id)).trans e3⟩)
              | (go_at_call 13; refine (write_armed (HD.out.keep (w' := w4) ⟨hk4.os, hk4.tape, hk4.output, hk4.size, hk4.block⟩ id id id) HI2.out kk hkk hb4 (len_fullB _)).mono ?_
                 rintro e w5 ⟨rfl, ⟨E, hD5, hI5⟩, hk5⟩
                 have hS5 : Kept (fun x => x = p ∨ x = ms ∨ x = mo) wr w5 ∧ w5.cell? ⟨b, off + k * 5 + 1, none⟩ = some (.int .i64 x.blk) ∧ w5.cell? ⟨b, off + k * 5 + 3, none⟩ = some (.int .u8 x.byte.toNat) :=
                   ⟨hS4.1.trans' hk5, (World.cell?_of_block (hk5.block b (by have := hS4.1.size; omega) (by omega))).trans hS4.2.1, (World.cell?_of_block (hk5.block b (by have := hS4.1.size; omega) (by omega))).trans hS4.2.2⟩))
          have HD4 := Lib.hid hD5
          have HI4 := Lib.hid hI5
          have K4 := Lib.hid (K.out.new hS5.1 (by rintro y (h | h | h) <;> omega))
          clear hD5 hI5 hS5 hS4 hk4 hk5 hb4 hz e0 e1 e3
          by_cases hkm : (k : Int) < m
          · have a0 : armE (1 + m) k = 0 := by unfold armE; rw [if_pos (by omega)]
            have a1 : decide (1 + m ≤ (k : Int) + 1) = false := by rw [decide_eq_false_iff_not]; omega
            have HW := Lib.hid (down_armed HD4.out HI4.out)
            rw [a0]
            rw [a1] at HW
            clear a0 a1
            go_wp2_with (go_at_call 19; refine HW.out.mono ?_; rintro e wx ⟨rfl, rfl⟩)
            go_roundw
            case rel => exact ⟨k + 1, E, by omega, by go_num, HD4.out, by have := HI4.out; simpa using this, K4.out⟩
            case measure => simp [intOf]; omega
          · have a0 : armE (1 + m) k = 8 := by unfold armE; rw [if_neg (by omega)]
            have a1 : decide (1 + m ≤ (k : Int) + 1) = true := by rw [decide_eq_true_eq]; omega
            have HW := Lib.hid (down_armed HD4.out HI4.out)
            rw [a0]
            rw [a1] at HW
            clear a0 a1
            go_wp2_with (go_at_call 19; refine HW.out.mono ?_; rintro e wx ⟨rfl, rfl⟩)
            go_roundw
            case rel => exact ⟨k + 1, E, by omega, by go_num, HD4.out, by have := HI4.out; simpa using this, K4.out⟩
            case measure => simp [intOf]; omega
      · have hge : ¬ ((k : Int) < (l.length : Int)) := by omega
        have HWK := Lib.hid (wake_any HD.out none 0 [] (fun h => absurd rfl h) (fun h => absurd rfl h) (by decide))
        have hn3 : (D.wake []).n = 3 := HI2.out.n3
        have hd0 : (D.wake []).down = false := rfl
        have ha0 : (D.wake []).armed = 0 := rfl
        generalize D.wake [] = E at *
        have Hn := Lib.hid hn3
        have Hd := Lib.hid hd0
        have Ha := Lib.hid ha0
        clear hn3 hd0 ha0
        go_wp2_with (go_at_call 15; refine HWK.out.mono ?_; rintro e w4 ⟨rfl, hD4, hk4⟩)
        have HDN := Lib.hid (down_eq hD4 Hd.out)
        have HD4 := Lib.hid hD4
        have K4 := Lib.hid (K.out.new hk4 (by rintro y (h | h | h) <;> omega))
        clear hD4 hk4
        go_wp2_with (first
          | (go_at_call 19; refine HDN.out.mono ?_; rintro e wx ⟨rfl, rfl⟩)
          | (go_at_call 14; refine (full_num 1 1 rfl _).mono ?_; rintro e w5 ⟨g, rfl, n5, hb5, hk5⟩))
        have HD5 := Lib.hid (HD4.out.keep hk5 id id id)
        have HW := Lib.hid (write_up HD5.out Hd.out Ha.out 0 (by omega) (by rw [Hn.out]; omega) hb5 (len_fullB _))
        have K5 := Lib.hid (K4.out.trans0 hk5)
        clear hb5 hk5
        go_wp2_with (go_at_call 13; refine HW.out.mono ?_; rintro e w6 ⟨rfl, hD6, hk6⟩)
        have HS := Lib.hid (sync_up hD6 (show (E.put 0 _).down = false from Hd.out) (show (E.put 0 _).armed = 0 from Ha.out))
        have K6 := Lib.hid (K5.out.new hk6 (by rintro y (h | h) <;> omega))
        clear hD6 hk6
        go_wp2_with (go_at_call 12; refine HS.out.mono ?_; rintro e w7 ⟨rfl, -, hk7⟩)
        go_ret
        exact ⟨rfl, K6.out.new hk7 (by rintro y (h | h | h) <;> omega)⟩
end Go.Proofs.Ytjhbkamgmldkmaa
