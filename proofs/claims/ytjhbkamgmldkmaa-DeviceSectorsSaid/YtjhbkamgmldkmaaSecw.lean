/-
  DeviceSectors: the walk. WHATEVER steps and fates, parchmentlaw01.DeviceSectors returns true and nothing that was there turns.
-/
import Derived.Test.YtjhbkamgmldkmaaSec
namespace Go.Proofs.Ytjhbkamgmldkmaa
open Go.RowKit

theorem info6u : (Try.prog.info? 27).map (fun i => (i.zero, i.size)) = some (some (.agg (cellsOf (zeros 6))), 6) := by kernel_rfl
theorem info6b : (Try.prog.info? 28).map (fun i => (i.zero, i.size)) = some (some (.agg (boolCells (List.replicate 6 false))), 6) := by kernel_rfl
theorem zero6u (w : World) : (zeroValue 27).run Try.prog w = .ok (.agg (cellsOf (zeros 6))) w := (zero_of_info info6u).1 w
theorem zero6b (w : World) : (zeroValue 28).run Try.prog w = .ok (.agg (boolCells (List.replicate 6 false))) w := (zero_of_info info6b).1 w
theorem one_boolCells (l : List Bool) : (boolCells l).all (·.oneCell') = true := by
  rw [Array.all_eq_true_iff_forall_mem]
  intro v hv
  simp [boolCells] at hv
  rcases hv with ⟨_, rfl⟩ | ⟨_, rfl⟩ <;> rfl

set_option maxRecDepth 100000 in
set_option maxHeartbeats 600000 in
theorem sectors_any (A FA : Option Addr) (c cF : Nat) (l : List DoM) (fs : Fates) (w : World) (hl : RdDo w A l) (hf : RdF w FA fs) (hll : l.length ≤ 80) (hlf : fs.length ≤ 1000) :
    Calls Try.prog 3 #[.slice A l.length c, .slice FA fs.length cF] w fun e w' => e = .returned (.bool true) ∧ Kept (fun _ => False) w w' := by
  have HL := Lib.hid hl
  have HF := Lib.hid hf
  have g1 : ¬ (80 : Int) < (l.length : Int) := by omega
  have g2 : ¬ (1000 : Int) < (fs.length : Int) := by omega
  clear hl hf
  go_enter Try.func3, Try.ntmps3
  go_wp2_with (first
    | (go_at_call 9; refine (awake_any _).mono ?_; rintro e w1 ⟨rfl, hk1⟩)
    | (go_at_call 10; refine (new_ok 6 (by omega) (by omega) _).mono ?_; rintro e w2 ⟨p, ms, mo, rfl, hD, hk2, lp, lms, lmo⟩)
    | refine wl_alloc' rfl 27 rfl (cellsOf (zeros 6)) zero6u ?_)
  intro g6 w3 n3 m3 hb3 hk3
  go_wp2_with (refine wl_alloc' rfl 27 rfl (cellsOf (zeros 6)) zero6u ?_)
  intro g7 w4 n4 m4 hb4 hk4
  have hb4' := hk4.heap hb3 id
  go_wp2_with (refine wl_alloc' rfl 28 rfl (boolCells (List.replicate 6 false)) zero6b ?_)
  intro g8 w5 n5 m5 hb8 hk5
  have hb6 := hk5.heap hb4' id
  have hb7 := hk5.heap hb4 id
  have hD5 := ((hD.keep hk3 (fun h => h) (fun h => h) (fun h => h)).keep hk4 (fun h => h) (fun h => h) (fun h => h)).keep hk5 (fun h => h) (fun h => h) (fun h => h)
  have K05 := Lib.hid ((((hk1.trans0 hk2).trans0 hk3).trans0 hk4).trans0 hk5)
  have s1 := hk1.size; have s2 := hk2.size; have s3 := hk3.size; have s4 := hk4.size; have s5 := hk5.size
  have l2p := heap_lt hD.hp; have l2s := hD.hs.lt; have l2o := hD.ho.lt
  clear hb3 hb4 hb4' hD hk1 hk2 hk3 hk4 hk5
  go_wp2
  go_loopw [9] (fun i wr => ∃ (k : Nat) (D : DevM) (La Sa : Bytes) (Op : List Bool), k ≤ l.length ∧ i = .int .i64 k ∧ DevAt wr p ms mo D ∧ SecInv D La Sa Op ∧ wr.heap[g6]? = some (.cells (cellsOf La) 27 (0, 0)) ∧
      wr.heap[g7]? = some (.cells (cellsOf Sa) 27 (0, 0)) ∧ wr.heap[g8]? = some (.cells (boolCells Op) 28 (0, 0)) ∧ Kept (fun _ => False) w wr ∧ w5.heap.size ≤ wr.heap.size) (fun i wr => l.length - (intOf i).toNat)
  case atStart => exact ⟨0, newM 6, zeros 6, zeros 6, _, by omega, rfl, hD5, SecInv.start, hb6, hb7, hb8, K05.out, Nat.le_refl _⟩
  case round =>
    clear hb6 hb7 hb8 hD5 K05
    obtain ⟨k, D, La, Sa, Op, hk, rfl, hD, hI, hb6, hb7, hb8, hkw, hsz⟩ := hrel
    have HI := Lib.hid hI
    have HD := Lib.hid hD
    have K := Lib.hid hkw
    clear hI hD hkw
    by_cases hlt : k < l.length
    · obtain ⟨b, off, hA, hc⟩ := HL.out (by intro e; simp [e] at hlt)
      have hx := hc k l[k] (by simp [hlt])
      generalize l[k] = x at hx
      obtain ⟨c0, c1, c2, c3, -⟩ := hx
      have lb := block_lt_of_cell c0
      simp only at lb
      have e0 := (World.cell?_of_block (K.out.block b lb id)).trans c0
      have e1 := (World.cell?_of_block (K.out.block b lb id)).trans c1
      have e3 := (World.cell?_of_block (K.out.block b lb id)).trans c3
      clear c0 c1 c2 c3 hc
      subst hA
      have i0 : (0 : Int) ≤ (k : Int) := by omega
      have i1 : (k : Int) < (l.length : Int) := by omega
      obtain ⟨b1, hor, hbn0⟩ : ∃ b1 : UInt8, bits BinOp.or IntKind.u8 (x.byte.toNat : Int) 1 = (b1.toNat : Int) ∧ b1 ≠ 0 := ⟨_, or_one_u8 x.byte, or_one_ne x.byte⟩
      have hbn := Lib.hid hbn0
      clear hbn0
      go_wp2_with fail
      refine (pick_nat x.blk 6 (by omega) (by omega) _).mono ?_
      rintro e wx ⟨kk, hkk, -, rfl, rfl⟩
      go_wp2_with fail
      refine (pick_nat x.op 4 (by omega) (by omega) _).mono ?_
      rintro e wx ⟨ko, hko, -, rfl, rfl⟩
      clear hor e0 e1 e3 hko
      by_cases h0 : ko = 0
      · have hz : ((ko : Int) == 0) = true := by simp [h0]
        clear h0
        go_wp2_with fail
        refine (sync_up HD.out HI.out.up HI.out.free).mono ?_
        rintro e w6 ⟨rfl, hD6, hk6⟩
        have q6 := hk6.heap hb6 (by omega)
        have q7 := hk6.heap hb7 (by omega)
        have q8 := hk6.heap hb8 (by omega)
        have sz6 := hk6.size
        have K6 := Lib.hid (K.out.new hk6 (by rintro y (h | h | h) <;> omega))
        have HD6 := Lib.hid hD6
        clear hb6 hb7 hb8 hk6 hD6
        go_wp2_with (first
          | refine wl_load_row rfl 27 _ rfl g6 rfl (cellsOf La) q6 Try.underlying27 rfl (by rw [size_cellsOf, HI.out.ll]; exact (zero_of_info info6u).2) ?_
          | refine wl_store_row rfl 27 _ _ rfl g7 (cellsOf La) _ rfl rfl q7 (by rw [size_cellsOf, HI.out.ll]; exact (zero_of_info info6u).2) (by rw [size_cellsOf, size_cellsOf, HI.out.ll, HI.out.ls]) (one_cellsOf _) ?_)
        intro w7 p7 hk7
        have p6 := hk7.heap q6 (by omega)
        have p8 := hk7.heap q8 (by omega)
        have sz7 := hk7.size
        have K7 := Lib.hid (K6.out.new hk7 (by rintro y h; omega))
        have HD7 := Lib.hid (HD6.out.keep hk7 (by omega) (by omega) (by omega))
        clear q6 q7 q8 hk7
        go_wp2_with (refine wl_store_row rfl 28 _ _ rfl g8 (boolCells (List.replicate 6 false)) _ rfl rfl p8 (zero_of_info info6b).2 (by simp [boolCells, HI.out.lo]) (one_boolCells _) ?_)
        intro w8 r8 hk8
        have r6 := hk8.heap p6 (by omega)
        have r7 := hk8.heap p7 (by omega)
        have sz8 := hk8.size
        have K8 := Lib.hid (K7.out.new hk8 (by rintro y h; omega))
        have HD8 := Lib.hid (HD7.out.keep hk8 (by omega) (by omega) (by omega))
        clear p6 p7 p8 hk8
        go_wp2
        go_roundw
        case rel => exact ⟨k + 1, _, _, _, _, by omega, by go_num, HD8.out, HI.out.sync, r6, r7, r8, K8.out, by omega⟩
        case measure => simp [intOf]; omega
      · have hz : ((ko : Int) == 0) = false := by simp; omega
        clear h0
        go_wp2_with fail
        refine (full_any b1 _).mono ?_
        rintro e w6 ⟨gf, rfl, n6, hbf, hk6⟩
        have q6 := hk6.heap hb6 id
        have q7 := hk6.heap hb7 id
        have q8 := hk6.heap hb8 id
        have sz6 := hk6.size
        have K6 := Lib.hid (K.out.trans0 hk6)
        have HD6 := Lib.hid (HD.out.keep hk6 (fun h => h) (fun h => h) (fun h => h))
        clear hb6 hb7 hb8 hk6
        go_wp2_with fail
        refine (write_up HD6.out HI.out.up HI.out.free (kk : Int) (by omega) (by rw [HI.out.n]; omega) hbf (len_fullB _)).mono ?_
        rintro e w7 ⟨rfl, hD7, hk7⟩
        have p6 := hk7.heap q6 (by omega)
        have p7 := hk7.heap q7 (by omega)
        have p8 := hk7.heap q8 (by omega)
        have sz7 := hk7.size
        have K7 := Lib.hid (K6.out.new hk7 (by rintro y (h | h) <;> omega))
        have HD7 := Lib.hid hD7
        have HP6 := Lib.hid p6; have HP7 := Lib.hid p7; have HP8 := Lib.hid p8
        have i2 : (0 : Int) ≤ (kk : Int) := by omega
        have i3 : (kk : Int) < 6 := by omega
        have d6 : w7.cell? ⟨g6, kk, none⟩ = some (.int .u8 (bAt La kk).toNat) := cell_blk p6 (cellsOf_at (by rw [HI.out.ll]; exact hkk))
        have d8 : w7.cell? ⟨g8, kk, none⟩ = some (.bool (Op[kk]'(by rw [HI.out.lo]; exact hkk))) := cell_blk p8 (by rw [boolCells_get, List.getElem?_eq_getElem (by rw [HI.out.lo]; exact hkk)]; rfl)
        have f6 := free_blk p6 kk
        have f8 := free_blk p8 kk
        have hne : g6 ≠ g8 := by omega
        clear q6 q7 q8 hk7 hD7 p6 p7 p8 hbf
        go_wp2
        go_roundw
        case rel =>
          have t1 := Kept.cell w7 g6 kk (.int .u8 b1.toNat)
          have t2 := Kept.cell (w7.setCell ⟨g6, kk, none⟩ (.int .u8 b1.toNat)) g8 kk (.bool true)
          have z1 := t1.size; have z2 := t2.size
          refine ⟨k + 1, _, La.set kk b1, Sa, Op.set kk true, by omega, by go_num, (HD7.out.keep t1 (by omega) (by omega) (by omega)).keep t2 (by omega) (by omega) (by omega), HI.out.write kk hkk b1 hbn.out,
            t2.heap (set_bytes HP6.out kk b1) (by omega), t2.heap (t1.heap HP7.out (by omega)) (by omega), ?_, (K7.out.new t1 (by rintro y h; omega)).new t2 (by rintro y h; omega), by omega⟩
          rw [← boolCells_set]
          exact set_blk (t1.heap HP8.out (by omega)) kk _
        case measure => simp [intOf]; omega
    · have hge : ¬ ((k : Int) < (l.length : Int)) := by omega
      have lpr := heap_lt HD.out.hp; have lsr := HD.out.hs.lt; have lor := HD.out.ho.lt
      have lb6 := heap_lt hb6; have lb7 := heap_lt hb7; have lb8 := heap_lt hb8
      clear hlt
      go_wp2_with fail
      refine (wake_any HD.out FA cF fs (fun h => ?_) ?_ (by omega)).mono ?_
      · obtain ⟨b, off, e, h⟩ := HF.out h
        refine ⟨b, off, e, fun i x hx => ?_⟩
        obtain ⟨h1, h2⟩ := h i x hx
        have lb := block_lt_of_cell h1
        exact ⟨(World.cell?_of_block (K.out.block b lb id)).trans h1, (World.cell?_of_block (K.out.block b lb id)).trans h2⟩
      · intro h b off e
        obtain ⟨b', off', e', h⟩ := HF.out h
        have h1 := (h 0 (fs[0]'(by cases fs; contradiction; simp)) (by simp)).1
        have lb := block_lt_of_cell h1
        rw [e] at e'; cases e'
        simp only at lb
        omega
      rintro e w6 ⟨rfl, hD6, hk6⟩
      have q6 := hk6.heap hb6 (by omega)
      have q7 := hk6.heap hb7 (by omega)
      have q8 := hk6.heap hb8 (by omega)
      have K6 := Lib.hid (K.out.new hk6 (by rintro y (h | h | h) <;> omega))
      have sz6 := hk6.size
      have HD6 := Lib.hid hD6
      have HQ6 := Lib.hid q6; have HQ7 := Lib.hid q7; have HQ8 := Lib.hid q8
      clear hb6 hb7 hb8 hk6 hD6 q6 q7 q8
      go_wp2
      go_loopw [12] (fun i wr => ∃ kk : Nat, kk ≤ 6 ∧ i = .int .i64 kk ∧ Kept (fun _ => False) w6 wr) (fun i wr => 6 - (intOf i).toNat)
      case atStart => exact ⟨0, by omega, rfl, Kept.refl _ _⟩
      case round =>
        obtain ⟨kk, hkk, rfl, hkr⟩ := hrel
        have HKR := Lib.hid hkr
        have szr := hkr.size
        have HDR := Lib.hid (HD6.out.keep hkr (fun h => h) (fun h => h) (fun h => h))
        have HR6 := Lib.hid (hkr.heap HQ6.out id)
        have HR7 := Lib.hid (hkr.heap HQ7.out id)
        have HR8 := Lib.hid (hkr.heap HQ8.out id)
        have KR := Lib.hid (K6.out.trans0 hkr)
        clear hkr
        obtain ⟨wo, rfl⟩ : ∃ wo : World, wo = wr := ⟨_, rfl⟩
        by_cases h6 : kk < 6
        · have j0 : (0 : Int) ≤ (kk : Int) := by omega
          have j1 : (kk : Int) < 6 := by omega
          go_wp2
          go_loop [13, 14] (fun v i => ∃ j : Nat, j ≤ fs.length ∧ i = .int .i64 j ∧ v = .int .u8 (keepOf (fs.take j) kk).toNat) (fun _ i => fs.length - (intOf i).toNat)
          case atStart => exact ⟨0, by omega, rfl, rfl⟩
          case round =>
            obtain ⟨j, hj, rfl, rfl⟩ := hrel
            by_cases hjl : j < fs.length
            · obtain ⟨b, off, hA, hc⟩ := HF.out (by intro e; simp [e] at hjl)
              have hx := hc j fs[j] (by simp [hjl])
              have hs := keepOf_succ fs j hjl kk
              subst hA
              generalize fs[j] = x at hx hs
              obtain ⟨fb, fk⟩ := x
              obtain ⟨c0, c1⟩ := hx
              have lb := block_lt_of_cell c0
              simp only at lb c0 c1 hs
              have e0 := (World.cell?_of_block (KR.out.block b lb id)).trans c0
              have e1 := (World.cell?_of_block (KR.out.block b lb id)).trans c1
              have i0 : (0 : Int) ≤ (j : Int) := by omega
              have i1 : (j : Int) < (fs.length : Int) := by omega
              by_cases he : fb = (kk : Int)
              · have hb : (fb == (kk : Int)) = true := by simp [he]
                rw [if_pos he] at hs
                have HS := Lib.hid hs
                clear he hs c0 c1 hc
                go_wp2
                go_round
                case rel => exact ⟨j + 1, by omega, by go_num, by rw [HS.out]⟩
                case measure => simp [intOf]; omega
              · have hb : (fb == (kk : Int)) = false := by simp [he]
                rw [if_neg he] at hs
                have HS := Lib.hid hs
                clear he hs c0 c1 hc
                go_wp2
                go_round
                case rel => exact ⟨j + 1, by omega, by go_num, by rw [HS.out]⟩
                case measure => simp [intOf]; omega
            · obtain rfl : j = fs.length := by omega
              have hge2 : ¬ ((fs.length : Int) < (fs.length : Int)) := by omega
              rw [List.take_length] at *
              go_wp2_with fail
              refine (read_ok HDR.out kk (DevM.mayE_ok rfl (by omega) (by show (kk : Int) < D.n; rw [HI.out.n]; omega))).mono ?_
              rintro e w7 ⟨g, cap, rfl, ho, hk7⟩
              have hlen := DevAt.len HDR.out kk
              have HC : Hid (∀ i, i < 512 → w7.cell? ⟨g, i, none⟩ = some (.int .u8 (wantB La Sa Op (keepOf fs kk) kk i).toNat)) := Lib.hid (fun i hi => by
                rw [← HI.out.read fs kk i h6 hi]; exact ho.cellAt (by rw [hlen]; exact hi))
              have d7 := cell_blk (hk7.heap HR7.out id) (cellsOf_at (show kk < Sa.length by rw [HI.out.ls]; exact h6))
              have d6 := cell_blk (hk7.heap HR6.out id) (cellsOf_at (show kk < La.length by rw [HI.out.ll]; exact h6))
              have d8 : w7.cell? ⟨g8, kk, none⟩ = some (.bool (Op.getD kk false)) := cell_blk (hk7.heap HR8.out id) (by rw [boolCells_get, List.getD_eq_getElem?_getD, List.getElem?_eq_getElem (by rw [HI.out.lo]; exact h6)]; rfl)
              have HK7 := Lib.hid hk7
              have HO := Lib.hid (HI.out)
              clear ho hlen hk7
              generalize hop : Op.getD kk false = op at *
              have HOP := Lib.hid hop
              clear hop
              go_wp2
              go_loop [17] (fun i => ∃ m : Nat, m ≤ 512 ∧ i = .int .i64 m) (fun i => 512 - (intOf i).toNat)
              case atStart => exact ⟨0, by omega, rfl⟩
              case round =>
                obtain ⟨m, hm, rfl⟩ := hrel
                by_cases hml : m < 512
                · have i0 : (0 : Int) ≤ (m : Int) := by omega
                  have i1 : (m : Int) < 512 := by omega
                  have hbt := bitOf_test (keepOf fs kk) m
                  have cb := HC.out m hml
                  obtain ⟨f, hf⟩ : ∃ f : UInt8, (if op && bitOf (keepOf fs kk) m then bAt La kk else bAt Sa kk) = f := ⟨_, rfl⟩
                  have HFF := Lib.hid (show (if Op.getD kk false && bitOf (keepOf fs kk) m then bAt La kk else bAt Sa kk) = f by rw [HOP.out]; exact hf)
                  by_cases hf0 : f = 0
                  · rw [wantB_zero (by rw [HFF.out, hf0])] at cb
                    simp only [show ((0 : UInt8).toNat : Int) = 0 from rfl] at cb
                    clear HFF
                    generalize bitOf (keepOf fs kk) m = bit at *
                    cases op <;> cases bit <;> simp only [Bool.false_and, Bool.true_and, Bool.false_eq_true, if_false, if_true] at hf
                    all_goals
                      subst hf0
                      first | (rw [hf] at d7; simp only [show ((0 : UInt8).toNat : Int) = 0 from rfl] at d7) | (rw [hf] at d6; simp only [show ((0 : UInt8).toNat : Int) = 0 from rfl] at d6)
                      clear hf
                      go_wp2
                      go_round
                      case rel => exact ⟨m + 1, by omega, by go_num⟩
                      case measure => simp [intOf]; omega
                  · rw [wantB_some HFF.out hf0] at cb
                    have hz : ((f.toNat : Int) == 0) = false := by
                      rw [beq_eq_false_iff_ne]; intro e; exact hf0 (UInt8.toNat_inj.1 (by simp; omega))
                    clear HFF
                    generalize bitOf (keepOf fs kk) m = bit at *
                    cases op <;> cases bit <;> simp only [Bool.false_and, Bool.true_and, Bool.false_eq_true, if_false, if_true] at hf
                    all_goals
                      first | rw [hf] at d7 | rw [hf] at d6
                      clear hf hf0
                      go_wp2
                      go_round
                      case rel => exact ⟨m + 1, by omega, by go_num⟩
                      case measure => simp [intOf]; omega
                · have hge3 : ¬ ((m : Int) < 512) := by omega
                  go_wp2
                  go_roundw
                  case rel => exact ⟨kk + 1, by omega, by go_num, HKR.out.trans0 HK7.out⟩
                  case measure => simp [intOf]; omega
        · have hge2 : ¬ ((kk : Int) < 6) := by omega
          go_wp2
          go_ret
          exact ⟨rfl, KR.out⟩

set_option maxHeartbeats 400000 in
theorem sectors_all (A FA : Option Addr) (c cF : Nat) (l : List DoM) (fs : Fates) (w : World) (hl : RdDo w A l) (hf : RdF w FA fs) :
    Calls Try.prog 3 #[.slice A l.length c, .slice FA fs.length cF] w fun e w' => e = .returned (.bool true) ∧ Kept (fun _ => False) w w' := by
  by_cases h1 : l.length ≤ 80
  · by_cases h2 : fs.length ≤ 1000
    · exact sectors_any A FA c cF l fs w hl hf h1 h2
    · have g1 : ¬ (80 : Int) < (l.length : Int) := by omega
      have g2 : (1000 : Int) < (fs.length : Int) := by omega
      clear hl hf h1 h2
      go_enter Try.func3, Try.ntmps3
      go_wp2_with (go_at_call 9; refine (awake_any _).mono ?_; rintro e w1 ⟨rfl, hk1⟩)
      go_ret
      exact ⟨rfl, hk1⟩
  · have g1 : (80 : Int) < (l.length : Int) := by omega
    clear hl hf h1
    go_enter Try.func3, Try.ntmps3
    go_wp2_with (go_at_call 9; refine (awake_any _).mono ?_; rintro e w1 ⟨rfl, hk1⟩)
    go_ret
    exact ⟨rfl, hk1⟩
end Go.Proofs.Ytjhbkamgmldkmaa
