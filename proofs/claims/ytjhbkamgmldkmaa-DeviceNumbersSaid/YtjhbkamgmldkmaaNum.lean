/-
  No statement is proved here: parchmentlaw01.sectors: each fate of a block.
-/
import Derived.Test.YtjhbkamgmldkmaaLawa
namespace Go.Proofs.Ytjhbkamgmldkmaa
open Go.RowKit

section
variable {w : World} {p ms mo : Nat} {D : DevM}
theorem write_to (h : DevAt w p ms mo D) (n : Int) {g : Nat} {l : Bytes} {t : TypeId} {fr : Nat × Nat} (hg : w.heap[g]? = some (.cells (cellsOf l) t fr)) (hl : l.length = 512) {x : Int} {E : DevM} (he : D.write n l = (x, E)) :
    Calls Try.prog 13 #[.pointer (some ⟨p, 0, none⟩), .int .i64 n, .slice (some ⟨g, 0, none⟩) 512 512] w fun e w' =>
      e = .returned (.int .i64 x) ∧ DevAt w' p ms mo E ∧ Kept (fun x => x = p ∨ x = mo) w w' := by
  have := write_any h n (some ⟨g, 0, none⟩) 512 l (RdB.of_blk hg)
  rw [hl, he] at this
  exact this
theorem sync_to (h : DevAt w p ms mo D) {x : Int} {E : DevM} (he : D.syncR = (x, E)) :
    Calls Try.prog 12 #[.pointer (some ⟨p, 0, none⟩)] w fun e w' => e = .returned (.int .i64 x) ∧ DevAt w' p ms mo E ∧ Kept (fun x => x = p ∨ x = ms ∨ x = mo) w w' := by
  have := sync_any h
  rw [he] at this
  exact this
theorem OwnB.rd {base g cap : Nat} {l : Bytes} (h : OwnB w base g cap l) : RdB w (some ⟨g, 0, none⟩) l := fun _ => ⟨g, 0, rfl, fun j v hv => by
  have hj : j < l.length := by
    have := (Array.getElem?_eq_some_iff.1 hv).1
    simpa [size_cellsOf] using this
  rw [cellsOf_at hj] at hv
  cases hv
  simpa using h.cellAt hj⟩
end
theorem bits_and_i64_one (x : Nat) (hx : x < 256) : bits BinOp.and IntKind.i64 (x : Int) 1 = (x % 2 : Nat) := by
  have h : ∀ y : Fin 256, bits BinOp.and IntKind.i64 ((y.val : Nat) : Int) 1 = ((y.val % 2 : Nat) : Int) := by decide +kernel
  exact h ⟨x, hx⟩
theorem bitOf_test_i64 (k i : Nat) (hk : k < 256) : (bits BinOp.and IntKind.i64 ((k : Int) / 2 ^ (i / 64)) 1 == 1) = bitOf (UInt8.ofNat k) i := by
  have e : (k : Int) / 2 ^ (i / 64) = ((k / 2 ^ (i / 64) : Nat) : Int) := by
    rw [Int.natCast_ediv, Int.natCast_pow]; rfl
  have hlt : k / 2 ^ (i / 64) < 256 := Nat.lt_of_le_of_lt (Nat.div_le_self _ _) hk
  rw [e, bits_and_i64_one _ hlt, bitOf, Nat.shiftRight_eq_div_pow, UInt8.toNat_ofNat', Nat.mod_eq_of_lt (show k < 2 ^ 8 from hk)]
  generalize k / 2 ^ (i / 64) % 2 = y
  rw [Bool.eq_iff_iff]
  simp
  omega
/-- What is read behind a fate. -/
def secB (k : Nat) : Bytes := mix (UInt8.ofNat k) (fullB 1) (fullB 101)
def secD (k : Nat) : DevM := ((((newM 1).put 0 (fullB 1)).sync).put 0 (fullB 101)).wake [(0, UInt8.ofNat k)]
theorem keepOf_one (x : UInt8) : keepOf [(0, x)] 0 = x := rfl
theorem latest_wake {E : DevM} {n : Int} {s b : Bytes} {fs : Fates} (ho : E.opn n = some b) (hs : E.safe n = some s) : (E.wake fs).latest n = mix (keepOf fs n) s b := by
  simp [DevM.latest, DevM.wake, ho, hs]
theorem secD_latest (k : Nat) : (secD k).latest 0 = secB k := by
  exact latest_wake (s := fullB 1) (b := fullB 101) (by simp [DevM.put, DevM.sync, newM, updF]) (by simp [DevM.put, DevM.sync, newM, updF, orF])
theorem secB_at (k j : Nat) (hj : j < 512) : ((bAt (secB k) j).toNat : Int) = if bitOf (UInt8.ofNat k) j then 101 + (j : Int) / 64 else 1 + (j : Int) / 64 := by
  have hb : ∀ b : UInt8, b.toNat ≤ 101 → (((fullB b).getD j 0).toNat : Int) = b.toNat + (j : Int) / 64 := by
    intro b hb
    rw [List.getD_eq_getElem?_getD, fullB_get b hj]
    show ((b + UInt8.ofNat (j / 64)).toNat : Int) = _
    rw [UInt8.toNat_add, UInt8.toNat_ofNat']
    omega
  unfold bAt secB mix
  rw [List.getD_eq_getElem?_getD, mixTo_get _ _ _ _ _ hj]
  rw [show (decide (j < 512) && bitOf (UInt8.ofNat k) j) = bitOf (UInt8.ofNat k) j by simp [hj]]
  cases bitOf (UInt8.ofNat k) j
  · simpa using hb 1 (by decide)
  · simpa using hb 101 (by decide)

set_option maxRecDepth 100000 in
set_option maxHeartbeats 1000000 in
theorem sectors_num (w : World) : Calls Try.prog 26 #[] w fun e w' => e = .returned (.bool true) ∧ Kept (fun _ => False) w w' := by
  go_enter Try.func26, Try.ntmps26
  go_wp2
  go_loopw [1] (fun i wr => ∃ k : Nat, k ≤ 256 ∧ i = .int .i64 k ∧ Kept (fun _ => False) w wr) (fun i wr => 256 - (intOf i).toNat)
  case atStart => exact ⟨0, by omega, rfl, Kept.refl _ _⟩
  case round =>
    obtain ⟨k, hk, rfl, hkw⟩ := hrel
    have K := Lib.hid hkw
    clear hkw
    by_cases hlt : k < 256
    · have i0 : (0 : Int) ≤ (k : Int) := by omega
      have i1 : (k : Int) < 256 := by omega
      have HS := Lib.hid (secD_latest k)
      go_wp2_with fail
      refine (new_ok 1 (by omega) (by omega) _).mono ?_
      rintro e w1 ⟨p, ms, mo, rfl, hD1, hk1, lp, lms, lmo⟩
      go_wp2_with (go_at_call 14; refine (full_num 1 1 rfl _).mono ?_; rintro e w2 ⟨g1, rfl, n2, hb2, hk2⟩)
      have hD2 := hD1.keep hk2 (fun h => h) (fun h => h) (fun h => h)
      go_wp2_with (go_at_call 13; refine (write_up hD2 rfl rfl 0 (by omega) (by decide) hb2 (len_fullB _)).mono ?_; rintro e w3 ⟨rfl, hD3, hk3⟩)
      go_wp2_with (go_at_call 12; refine (sync_up hD3 rfl rfl).mono ?_; rintro e w4 ⟨rfl, hD4, hk4⟩)
      go_wp2_with (go_at_call 14; refine (full_num 101 101 rfl _).mono ?_; rintro e w5 ⟨g2, rfl, n5, hb5, hk5⟩)
      have hD5 := hD4.keep hk5 (fun h => h) (fun h => h) (fun h => h)
      go_wp2_with (go_at_call 13; refine (write_up hD5 rfl rfl 0 (by omega) (by decide) hb5 (len_fullB _)).mono ?_; rintro e w6 ⟨rfl, hD6, hk6⟩)
      have ek : (k : Int) = ((UInt8.ofNat k).toNat : Int) := by rw [UInt8.toNat_ofNat']; omega
      have hD6' := hD6.keep ((Kept.refl (fun _ => False) w6).alloc (.cells #[.int .i64 0, .int .u8 k] 39)) (fun h => h) (fun h => h) (fun h => h)
      have lp6 := heap_lt hD6.hp
      have hf : RdF (w6.alloc (.cells #[.int .i64 0, .int .u8 k] 39)) (some ⟨w6.heap.size, 0, none⟩) [(0, UInt8.ofNat k)] := fun _ => ⟨_, 0, rfl, fun i x hx => by
        have h0 := heap_alloc_new w6 (.cells #[.int .i64 0, .int .u8 k] 39)
        match i, hx with
        | 0, hx => cases hx; exact ⟨cell_blk h0 rfl, by rw [show ((0, UInt8.ofNat k) : Int × UInt8).2 = UInt8.ofNat k from rfl, ← ek]; exact cell_blk h0 rfl⟩⟩
      have k06 : Kept (fun _ => False) w w6 := ((((((K.out.trans0 hk1).trans0 hk2).new hk3 (by have := K.out.size; have := hk1.size; rintro x (h | h) <;> omega)).new hk4 (by have := K.out.size; rintro x (h | h | h) <;> omega)).trans0 hk5).new hk6 (by have := K.out.size; rintro x (h | h) <;> omega))
      have K06 := Lib.hid (k06.alloc (.cells #[.int .i64 0, .int .u8 k] 39))
      have HW := Lib.hid (wake_any hD6' (some ⟨w6.heap.size, 0, none⟩) 1 [(0, UInt8.ofNat k)] hf (by rintro - b off h; cases h; omega) (by simp))
      clear hk1 hk2 hk3 hk4 hk5 hk6 hD1 hD2 hD3 hD4 hD5 hD6 hb2 hb5 k06 hf hD6' ek
      refine HW.out.mono ?_
      rintro e w7 ⟨rfl, hD7, hk7⟩
      have s0 := K.out.size
      have K07 := Lib.hid (K06.out.new hk7 (by rintro x (h | h | h) <;> omega))
      have hr := read_ok (D := secD k) hD7 0 (DevM.mayE_ok rfl (by omega) (by show (0:Int) < 1; omega))
      rw [HS.out] at hr
      have HR := Lib.hid hr
      clear hk7 hD7 hr HW K06
      go_wp2_with fail
      refine HR.out.mono ?_
      rintro e w8 ⟨g, cap, rfl, ho, hk8⟩
      have HO := Lib.hid ho
      have K08 := Lib.hid (K07.out.trans0 hk8)
      clear ho hk8 K07 HR
      go_wp2
      go_loopw [5] (fun i wr2 => ∃ j : Nat, j ≤ 512 ∧ i = .int .i64 j ∧ wr2 = w8) (fun i _ => 512 - (intOf i).toNat)
      case atStart => exact ⟨0, by omega, rfl, rfl⟩
      case round =>
        obtain ⟨j, hj, rfl, rfl⟩ := hrel
        by_cases hlj : j < 512
        · have j0 : (0 : Int) ≤ (j : Int) := by omega
          have j1 : (j : Int) < 512 := by omega
          have c := HO.out.cellAt (i := j) (by unfold secB mix; rw [len_mixTo]; exact hlj)
          rw [secB_at k j hlj] at c
          have hb := bitOf_test_i64 k j hlt
          cases hbit : bitOf (UInt8.ofNat k) j
          · rw [hbit] at c hb
            simp only [Bool.false_eq_true, if_false] at c
            clear hbit
            go_wp2
            go_roundw
            case rel => exact ⟨j + 1, by omega, by go_num, trivial⟩
            case measure => simp [intOf]; omega
          · rw [hbit] at c hb
            simp only [if_true] at c
            clear hbit
            go_wp2
            go_roundw
            case rel => exact ⟨j + 1, by omega, by go_num, trivial⟩
            case measure => simp [intOf]; omega
        · have hge : ¬ ((j : Int) < 512) := by omega
          go_wp2
          go_roundw
          case rel => exact ⟨k + 1, by omega, by go_num, K08.out⟩
          case measure => simp [intOf]; omega
    · have hge : ¬ ((k : Int) < 256) := by omega
      go_wp2
      go_ret
      exact ⟨rfl, K.out⟩
end Go.Proofs.Ytjhbkamgmldkmaa
