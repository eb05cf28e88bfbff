/-
  No statement is proved here: what 'full' and 'awake' of parchmentlaw01 do.
-/
import Derived.Test.YtjhbkamgmldkmaaDev4
import Derived.Test.YtjhbkamgmldkmaaKit
namespace Go.Proofs.Ytjhbkamgmldkmaa
open Go.RowKit

def fullB (b : UInt8) : Bytes := (List.range 512).map fun i => b + UInt8.ofNat (i / 64)
theorem len_fullB (b : UInt8) : (fullB b).length = 512 := by simp [fullB]
theorem fullB_get (b : UInt8) {i : Nat} (h : i < 512) : (fullB b)[i]? = some (b + UInt8.ofNat (i / 64)) := by
  unfold fullB
  rw [List.getElem?_map, List.getElem?_range h]
  rfl
theorem RdB.of_blk {w : World} {g : Nat} {l : Bytes} {t : TypeId} {fr : Nat × Nat} (h : w.heap[g]? = some (.cells (cellsOf l) t fr)) : RdB w (some ⟨g, 0, none⟩) l :=
  fun _ => ⟨g, 0, rfl, fun j v hv => cell_blk h (by simpa using hv)⟩
theorem add_u8 (b : UInt8) (k : Nat) : ((b.toNat : Int) + (k : Int) / 64) % 256 = ((b + UInt8.ofNat (k / 64)).toNat : Int) := by
  rw [UInt8.toNat_add, UInt8.toNat_ofNat']
  omega

set_option maxHeartbeats 400000 in
theorem full_any (b : UInt8) (w : World) :
    Calls Try.prog 14 #[.int .u8 b.toNat] w fun e w' => ∃ g, e = .returned (.slice (some ⟨g, 0, none⟩) 512 512) ∧ w.heap.size ≤ g ∧ w'.heap[g]? = some (.cells (cellsOf (fullB b)) 5 (0, 0)) ∧ Kept (fun _ => False) w w' := by
  have hb := b.toNat_lt
  go_enter Try.func14, Try.ntmps14
  go_wp2_with (refine wl_makeB rfl _ _ rfl .i64 .i64 512 512 rfl rfl (Nat.le_refl _) (by decide) ?_)
  intro g w1 n1 m1 hb1 hk1
  go_wp2
  go_loopw [4] (fun i wr => ∃ (k : Nat) (l : Bytes), k ≤ 512 ∧ i = .int .i64 k ∧ l.length = 512 ∧ (∀ j, j < k → l[j]? = (fullB b)[j]?) ∧ wr.heap[g]? = some (.cells (cellsOf l) 5 (0, 0)) ∧ Kept (fun x => x = g) w1 wr) (fun i wr => 512 - (intOf i).toNat)
  case atStart => exact ⟨0, zeros 512, by omega, rfl, len_zeros _, by omega, hb1, Kept.refl _ _⟩
  case round =>
    obtain ⟨k, l, hk, rfl, hl, hj, hbr, hkr⟩ := hrel
    have HJ := Lib.hid hj
    have HL := Lib.hid hl
    have HB := Lib.hid hbr
    have HK := Lib.hid hkr
    clear hj hkr
    by_cases hlt : k < 512
    · have i0 : (0 : Int) ≤ (k : Int) := by omega
      have i1 : (k : Int) < 512 := by omega
      have c1 := cell_bytes hbr (i := k) (by omega)
      have f1 := free_blk hbr k
      clear hl hbr
      go_wp2
      go_roundw
      case rel =>
        refine ⟨k + 1, l.set k (b + UInt8.ofNat (k / 64)), by omega, by go_num, by simp [HL.out], ?_, ?_, HK.out.trans' (Kept.cell wr g k _)⟩
        · intro j hj
          rw [List.getElem?_set]
          split
          · rename_i e; subst e; rw [if_pos (by rw [HL.out]; omega), fullB_get b hlt]
          · exact HJ.out j (by omega)
        · rw [add_u8 b k]; exact set_bytes HB.out k _
      case measure => simp [intOf]; omega
    · have hge : ¬ ((k : Int) < 512) := by omega
      clear hl hbr
      go_wp2
      go_ret
      refine ⟨g, rfl, n1, ?_, hk1.trans HK.out (by intro x hx e; omega)⟩
      have e : l = fullB b := by
        apply List.ext_getElem?
        intro j
        by_cases h : j < 512
        · exact HJ.out j (by omega)
        · rw [List.getElem?_eq_none (by rw [HL.out]; omega), List.getElem?_eq_none (by rw [len_fullB]; omega)]
      rw [← e]; exact HB.out

theorem write_plain {D : DevM} {n : Int} {l : Bytes} (hd : D.down = false) (ha : D.armed = 0) (h0 : 0 ≤ n) (h1 : n < D.n) (hl : l.length = 512) : D.write n l = (0, D.put n l) := by
  unfold DevM.write
  have e : (D.put n l).crash = D.put n l := by unfold DevM.crash DevM.put; simp [ha]
  rw [if_neg (by rw [DevM.mayE_ok hd h0 h1]; simp), if_neg (by simp [hl]), e]
  simp [DevM.put, hd, errDown]
theorem sync_plain {D : DevM} (hd : D.down = false) (ha : D.armed = 0) (h1 : 1 ≤ D.n) : D.syncR = (0, D.sync) := by
  unfold DevM.syncR
  have e : D.crash = D := by unfold DevM.crash; simp [ha]
  rw [if_neg (by rw [DevM.mayE_ok hd (Int.le_refl 0) (by omega)]; simp), e, hd]
  rfl
/-- What awake reads. -/
def awakeB : Bytes := ((((((newM 2).put 0 (fullB 1)).sync).put 0 (fullB 50)).wake [(0, 3)])).latest 0
theorem awake0 : bAt awakeB 0 = 50 := by decide +kernel
theorem awake1 : bAt awakeB 127 = 51 := by decide +kernel
theorem awake2 : bAt awakeB 128 = 3 := by decide +kernel
theorem awake3 : bAt awakeB 511 = 8 := by decide +kernel

theorem full_num (n : Nat) (b : UInt8) (hb : b.toNat = n) (w : World) :
    Calls Try.prog 14 #[.int .u8 n] w fun e w' => ∃ g, e = .returned (.slice (some ⟨g, 0, none⟩) 512 512) ∧ w.heap.size ≤ g ∧ w'.heap[g]? = some (.cells (cellsOf (fullB b)) 5 (0, 0)) ∧ Kept (fun _ => False) w w' := by
  subst hb; exact full_any b w
/-- Write, where the device is up and not armed. -/
theorem write_up {w : World} {p ms mo : Nat} {D : DevM} (h : DevAt w p ms mo D) (hd : D.down = false) (ha : D.armed = 0) (n : Int) (h0 : 0 ≤ n) (h1 : n < D.n) {g : Nat} {l : Bytes} {t : TypeId} {fr : Nat × Nat} (hg : w.heap[g]? = some (.cells (cellsOf l) t fr)) (hl : l.length = 512) :
    Calls Try.prog 13 #[.pointer (some ⟨p, 0, none⟩), .int .i64 n, .slice (some ⟨g, 0, none⟩) 512 512] w fun e w' =>
      e = .returned (.int .i64 0) ∧ DevAt w' p ms mo (D.put n l) ∧ Kept (fun x => x = p ∨ x = mo) w w' := by
  have := write_any h n (some ⟨g, 0, none⟩) 512 l (RdB.of_blk hg)
  rw [write_plain hd ha h0 h1 hl, hl] at this
  exact this
theorem sync_up {w : World} {p ms mo : Nat} {D : DevM} (h : DevAt w p ms mo D) (hd : D.down = false) (ha : D.armed = 0) :
    Calls Try.prog 12 #[.pointer (some ⟨p, 0, none⟩)] w fun e w' => e = .returned (.int .i64 0) ∧ DevAt w' p ms mo D.sync ∧ Kept (fun x => x = p ∨ x = ms ∨ x = mo) w w' := by
  have := sync_any h
  rw [sync_plain hd ha h.n0] at this
  exact this
theorem OwnB.cellAt {w : World} {base g cap : Nat} {l : Bytes} (h : OwnB w base g cap l) {i : Nat} (hi : i < l.length) : w.cell? ⟨g, i, none⟩ = some (.int .u8 (bAt l i).toNat) := by
  obtain ⟨cur, _, hh, _, _, _, ht⟩ := h.form
  refine cell_blk hh ?_
  have e1 : (cellsOf l).toList[i]? = some (.int .u8 (bAt l i).toNat) := by rw [Array.getElem?_toList]; exact cellsOf_at hi
  rw [← ht, List.getElem?_take, if_pos hi, Array.getElem?_toList] at e1
  exact e1

set_option maxRecDepth 100000 in
set_option maxHeartbeats 1000000 in
theorem awake_any (w : World) : Calls Try.prog 9 #[] w fun e w' => e = .returned (.bool true) ∧ Kept (fun _ => False) w w' := by
  go_enter Try.func9, Try.ntmps9
  go_wp2_with (go_at_call 10; refine (new_ok 2 (by omega) (by omega) _).mono ?_; rintro e w1 ⟨p, ms, mo, rfl, hD1, hk1, lp, lms, lmo⟩)
  go_wp2_with (go_at_call 14; refine (full_num 1 1 rfl _).mono ?_; rintro e w2 ⟨g1, rfl, n2, hb2, hk2⟩)
  have hD2 := hD1.keep hk2 (fun h => h) (fun h => h) (fun h => h)
  go_wp2_with (go_at_call 13; refine (write_up hD2 rfl rfl 0 (by omega) (by decide) hb2 (len_fullB _)).mono ?_; rintro e w3 ⟨rfl, hD3, hk3⟩)
  go_wp2_with (go_at_call 12; refine (sync_up hD3 rfl rfl).mono ?_; rintro e w4 ⟨rfl, hD4, hk4⟩)
  go_wp2_with (go_at_call 14; refine (full_num 50 50 rfl _).mono ?_; rintro e w5 ⟨g2, rfl, n5, hb5, hk5⟩)
  have hD5 := hD4.keep hk5 (fun h => h) (fun h => h) (fun h => h)
  go_wp2_with (go_at_call 13; refine (write_up hD5 rfl rfl 0 (by omega) (by decide) hb5 (len_fullB _)).mono ?_; rintro e w6 ⟨rfl, hD6, hk6⟩)
  have hD6' := hD6.keep ((Kept.refl (fun _ => False) w6).alloc (.cells #[.int .i64 0, .int .u8 3] 39)) (fun h => h) (fun h => h) (fun h => h)
  have lp6 := heap_lt hD6.hp
  have hf : RdF (w6.alloc (.cells #[.int .i64 0, .int .u8 3] 39)) (some ⟨w6.heap.size, 0, none⟩) [(0, 3)] := fun _ => ⟨_, 0, rfl, fun i x hx => by
    have h0 := heap_alloc_new w6 (.cells #[.int .i64 0, .int .u8 3] 39)
    match i, hx with
    | 0, hx => cases hx; exact ⟨cell_blk h0 rfl, cell_blk h0 rfl⟩⟩
  have k06 : Kept (fun _ => False) w w6 := (((((hk1.trans0 hk2).new hk3 (by rintro x (h | h) <;> omega)).new hk4 (by rintro x (h | h | h) <;> omega)).trans0 hk5).new hk6 (by rintro x (h | h) <;> omega))
  have K06 := Lib.hid (k06.alloc (.cells #[.int .i64 0, .int .u8 3] 39))
  clear hk1 hk2 hk3 hk4 hk5 hk6 hD1 hD2 hD3 hD4 hD5 hD6 hb2 hb5 k06
  refine (wake_any hD6' (some ⟨w6.heap.size, 0, none⟩) 1 [(0, 3)] hf (by rintro - b off h; cases h; omega) (by decide)).mono ?_
  rintro e w7 ⟨rfl, hD7, hk7⟩
  have K07 := Lib.hid (K06.out.new hk7 (by rintro x (h | h | h) <;> omega))
  clear hk7 hf hD6' K06
  go_wp2_with fail
  refine (read_ok hD7 0 (DevM.mayE_ok rfl (by omega) (by decide))).mono ?_
  rintro e w8 ⟨g, cap, rfl, ho, hk8⟩
  have hD8 := hD7.keep hk8 (fun h => h) (fun h => h) (fun h => h)
  have K08 := Lib.hid (K07.out.trans0 hk8)
  have hl := DevAt.len hD7 0
  have c0 := ho.cellAt (i := 0) (by rw [hl]; decide)
  have c1 := ho.cellAt (i := 127) (by rw [hl]; decide)
  have c2 := ho.cellAt (i := 128) (by rw [hl]; decide)
  have c3 := ho.cellAt (i := 511) (by rw [hl]; decide)
  rw [show (((((newM 2).put 0 (fullB 1)).sync).put 0 (fullB 50)).wake [(0, 3)]).latest 0 = awakeB from rfl] at c0 c1 c2 c3
  rw [awake0] at c0; rw [awake1] at c1; rw [awake2] at c2; rw [awake3] at c3
  simp only [show ((50 : UInt8).toNat : Int) = 50 from rfl] at c0
  simp only [show ((51 : UInt8).toNat : Int) = 51 from rfl] at c1
  simp only [show ((3 : UInt8).toNat : Int) = 3 from rfl] at c2
  simp only [show ((8 : UInt8).toNat : Int) = 8 from rfl] at c3
  have HB := Lib.hid (blocks_any hD8)
  have HN := Lib.hid (new_no 0 (by omega) w8)
  have HW := Lib.hid (write_arg hD8 0 (DevM.mayE_ok rfl (by omega) (by decide)) none 0 0 (by omega))
  clear hD7 hD8 hl ho K07 hk8
  go_wp2_with (first
    | (go_at_call 23; refine HB.out.mono ?_; rintro e w9 ⟨rfl, rfl⟩)
    | (go_at_call 10; refine HN.out.mono ?_; rintro e w9 ⟨rfl, rfl⟩)
    | (go_at_call 13; refine HW.out.mono ?_; rintro e w9 ⟨rfl, rfl⟩))
  go_ret
  exact ⟨rfl, K08.out⟩
end Go.Proofs.Ytjhbkamgmldkmaa
