/-
  No statement is proved here: contracts of page's Kind and Next, and of the document's Check, Kind, Next, Count.
  No statement is proved here: contracts of the document's Check, Kind, Next, Count, Room, Get.
  No statement is proved here: contracts of the document's Room and Get.
-/
import Derived.Test.YtndflnedkpmpfaaGreatDoorOf
namespace Go.Proofs.YtndflnedkpmpfaaGreatDoor
open Go.RowKit

def kindM (l : Bytes) : UInt8 := if endM l = 0 then 0 else bAt l 0
def nxtM (l : Bytes) : Nat := if endM l = 0 then 0 else nextM l
section
variable (A : Option Addr) (c : Nat) (l : Bytes) (w : World)
theorem kind_any (h : RdB w A l) (hl : l.length ≤ 1000000) (hc : l.length ≤ c) (hc2 : c ≤ 9223372036854775807) :
    Calls Tryz.prog 39 #[.slice A l.length c] w fun e w' => e = .returned (.int .u8 (kindM l).toNat) ∧ Same w w' := by
  have HC := Lib.hid (check_any A c l w h hl hc hc2)
  by_cases h0 : endM l = 0
  · have e : kindM l = 0 := by unfold kindM; rw [if_pos h0]
    have hd : decide (0 < endM l) = false := by rw [h0]; rfl
    rw [hd] at HC
    rw [e]
    clear h e h0 hd
    go_enter Tryz.func39, Tryz.ntmps39
    go_wp2_with (go_at_call 19; refine HC.out.mono ?_; rintro e wx ⟨rfl, hs⟩)
    go_ret
    exact ⟨rfl, hs⟩
  · have e : kindM l = bAt l 0 := by unfold kindM; rw [if_neg h0]
    have hd : decide (0 < endM l) = true := by rw [decide_eq_true_eq]; omega
    have h5 := endM_len h0
    rw [hd] at HC
    rw [e]
    obtain ⟨b, off, rfl, d0⟩ := h.cell (k := 0) (by omega)
    have d1 : w.cell? ⟨b, off, none⟩ = some (.int .u8 (bAt l 0).toNat) := d0
    have hi1 : (0 : Int) < (l.length : Int) := by omega
    clear h e h0 hd h5 d0
    go_enter Tryz.func39, Tryz.ntmps39
    go_wp2_with fail
    refine HC.out.mono ?_
    rintro e wx ⟨rfl, hs⟩
    have d1' := (World.cell?_of_block ((hs.kept (fun _ => False)).block b (block_lt_of_cell d1) id)).trans d1
    go_wp2
    go_ret
    exact ⟨rfl, hs⟩
theorem or4 (x2 x3 x4 x5 : UInt8) : bits BinOp.or IntKind.i64 (bits BinOp.or IntKind.i64 (bits BinOp.or IntKind.i64 (wrap64 (wrap64 ↑x2.toNat * 16777216)) (wrap64 (wrap64 ↑x3.toNat * 65536))) (wrap64 (wrap64 ↑x4.toNat * 256))) (wrap64 ↑x5.toNat) =
    ((x2.toNat * 16777216 + x3.toNat * 65536 + x4.toNat * 256 + x5.toNat : Nat) : Int) := by
  have b2 := x2.toNat_lt
  have b3 := x3.toNat_lt
  have b4 := x4.toNat_lt
  have b5 := x5.toNat_lt
  have w2 : wrap64 (wrap64 (x2.toNat : Int) * 16777216) = (x2.toNat : Int) * 16777216 := by unfold wrap64; omega
  have w3 : wrap64 (wrap64 (x3.toNat : Int) * 65536) = (x3.toNat : Int) * 65536 := by unfold wrap64; omega
  have w4 : wrap64 (wrap64 (x4.toNat : Int) * 256) = (x4.toNat : Int) * 256 := by unfold wrap64; omega
  have w5 : wrap64 (x5.toNat : Int) = (x5.toNat : Int) := by unfold wrap64; omega
  have hk : ∀ n : Int, 0 ≤ n → n < 2 ^ 63 → IntKind.i64.wrap n = n := fun n h h' => by rw [IntKind.wrap_i64]; omega
  have e1 : bits BinOp.or IntKind.i64 ((x2.toNat : Int) * 16777216) ((x3.toNat : Int) * 65536) = (x2.toNat : Int) * 16777216 + (x3.toNat : Int) * 65536 :=
    bits_join .i64 63 (by decide) hk 24 _ _ (by omega) (by omega) (by omega) (by omega) (by omega) (by omega)
  have e2 : bits BinOp.or IntKind.i64 ((x2.toNat : Int) * 16777216 + (x3.toNat : Int) * 65536) ((x4.toNat : Int) * 256) = (x2.toNat : Int) * 16777216 + (x3.toNat : Int) * 65536 + (x4.toNat : Int) * 256 :=
    bits_join .i64 63 (by decide) hk 16 _ _ (by omega) (by omega) (by omega) (by omega) (by omega) (by omega)
  have e3 : bits BinOp.or IntKind.i64 ((x2.toNat : Int) * 16777216 + (x3.toNat : Int) * 65536 + (x4.toNat : Int) * 256) (x5.toNat : Int) = (x2.toNat : Int) * 16777216 + (x3.toNat : Int) * 65536 + (x4.toNat : Int) * 256 + (x5.toNat : Int) :=
    bits_join .i64 63 (by decide) hk 8 _ _ (by omega) (by omega) (by omega) (by omega) (by omega) (by omega)
  rw [w2, w3, w4, w5, e1, e2, e3]
  omega
set_option maxHeartbeats 1000000 in
theorem next_any (h : RdB w A l) (hl : l.length ≤ 1000000) (hc : l.length ≤ c) (hc2 : c ≤ 9223372036854775807) :
    Calls Tryz.prog 10 #[.slice A l.length c] w fun e w' => e = .returned (.int .i64 (nxtM l)) ∧ Same w w' := by
  have HC := Lib.hid (check_any A c l w h hl hc hc2)
  by_cases h0 : endM l = 0
  · have e : nxtM l = 0 := by unfold nxtM; rw [if_pos h0]
    have hd : decide (0 < endM l) = false := by rw [h0]; rfl
    rw [hd] at HC
    rw [e]
    clear h e h0 hd
    go_enter Tryz.func10, Tryz.ntmps10
    go_wp2_with (go_at_call 19; refine HC.out.mono ?_; rintro e wx ⟨rfl, hs⟩)
    go_ret
    exact ⟨rfl, hs⟩
  · have e : nxtM l = nextM l := by unfold nxtM; rw [if_neg h0]
    have hd : decide (0 < endM l) = true := by rw [decide_eq_true_eq]; omega
    have h5 := endM_len h0
    rw [hd] at HC
    rw [e]
    obtain ⟨b, off, rfl, d2⟩ := h.cell (k := 2) (by omega)
    obtain ⟨b', off', hy, d3⟩ := h.cell (k := 3) (by omega)
    cases hy
    obtain ⟨b', off', hy, d4⟩ := h.cell (k := 4) (by omega)
    cases hy
    obtain ⟨b', off', hy, d5⟩ := h.cell (k := 5) (by omega)
    cases hy
    have HN := Lib.hid (show nextM l = (bAt l 2).toNat * 16777216 + (bAt l 3).toNat * 65536 + (bAt l 4).toNat * 256 + (bAt l 5).toNat from rfl)
    have hi2 : (2 : Int) < (l.length : Int) := by omega
    have hi3 : (3 : Int) < (l.length : Int) := by omega
    have hi4 : (4 : Int) < (l.length : Int) := by omega
    have hi5 : (5 : Int) < (l.length : Int) := by omega
    clear h e h0 hd h5
    generalize bAt l 2 = x2 at *
    generalize bAt l 3 = x3 at *
    generalize bAt l 4 = x4 at *
    generalize bAt l 5 = x5 at *
    go_enter Tryz.func10, Tryz.ntmps10
    go_wp2_with fail
    refine HC.out.mono ?_
    rintro e wx ⟨rfl, hs⟩
    have kb := fun (x : Nat) (hx : x < w.heap.size) => (hs.kept (fun _ => False)).block x hx id
    have d2' := (World.cell?_of_block (kb b (block_lt_of_cell d2))).trans d2
    have d3' := (World.cell?_of_block (kb b (block_lt_of_cell d3))).trans d3
    have d4' := (World.cell?_of_block (kb b (block_lt_of_cell d4))).trans d4
    have d5' := (World.cell?_of_block (kb b (block_lt_of_cell d5))).trans d5
    clear kb d2 d3 d4 d5
    go_wp2
    go_quiet (fail)
    go_wp2
    go_ret
    exact ⟨ret_int (by rw [HN.out]; exact or4 x2 x3 x4 x5), hs.trans ((Same.refl _).drewN _)⟩
end
end Go.Proofs.YtndflnedkpmpfaaGreatDoor
namespace Go.Proofs.YtndflnedkpmpfaaGreatDoor
open Go.RowKit

section
variable (A : Option Addr) (c : Nat) (l : Bytes) (w : World)
set_option maxRecDepth 100000 in
theorem rcheck_any (h : RdB w A l) (hc : l.length ≤ c) (hc2 : c ≤ 9223372036854775807) :
    Calls Tryz.prog 38 #[.slice A l.length c] w fun e w' => e = .returned (.bool (decide (0 < endM l))) ∧ Kept (fun _ => False) w w' := by
  have HF := Lib.hid (of_any A c l w h hc hc2)
  clear h
  go_enter Tryz.func38, Tryz.ntmps38
  go_wp2_with fail
  refine HF.out.mono ?_
  rintro e w1 ⟨hk, ⟨he, rfl⟩ | ⟨he, v, L, rfl, ho, -⟩⟩
  · have HE := Lib.hid he
    have HK := Lib.hid hk
    unfold zPage
    clear he hk
    go_wp2
    go_ret
    exact ⟨ret_bool (by rw [HE.out]; rfl), HK.out.alloc _⟩
  · obtain ⟨G, cap, rfl, -⟩ := ho.view
    have HE := Lib.hid he
    have HK := Lib.hid hk
    clear he hk ho
    go_wp2
    go_ret
    exact ⟨ret_bool (by symm; rw [decide_eq_true_eq]; have := HE.out; omega), HK.out.alloc _⟩
set_option maxRecDepth 100000 in
theorem rkind_any (h : RdB w A l) (hc : l.length ≤ c) (hc2 : c ≤ 9223372036854775807) :
    Calls Tryz.prog 40 #[.slice A l.length c] w fun e w' => e = .returned (.int .u8 (kindM l).toNat) ∧ Kept (fun _ => False) w w' := by
  have HF := Lib.hid (of_any A c l w h hc hc2)
  clear h
  go_enter Tryz.func40, Tryz.ntmps40
  go_wp2_with fail
  refine HF.out.mono ?_
  rintro e w1 ⟨hk, ⟨he, rfl⟩ | ⟨he, v, L, rfl, ho, -⟩⟩
  · have HE := Lib.hid (show kindM l = 0 from by unfold kindM; rw [if_pos he])
    have HK := Lib.hid hk
    unfold zPage
    clear he hk
    go_wp2
    go_ret
    exact ⟨by rw [HE.out]; rfl, HK.out.alloc _⟩
  · obtain ⟨G, cap, rfl, -⟩ := ho.view
    have HE := Lib.hid (show kindM l = bAt l 0 from by unfold kindM; rw [if_neg he])
    have HK := Lib.hid hk
    clear he hk ho
    go_wp2
    go_ret
    exact ⟨by rw [HE.out]; rfl, HK.out.alloc _⟩
set_option maxRecDepth 100000 in
theorem rnext_any (h : RdB w A l) (hc : l.length ≤ c) (hc2 : c ≤ 9223372036854775807) :
    Calls Tryz.prog 41 #[.slice A l.length c] w fun e w' => e = .returned (.int .i64 (nxtM l)) ∧ Kept (fun _ => False) w w' := by
  have HF := Lib.hid (of_any A c l w h hc hc2)
  clear h
  go_enter Tryz.func41, Tryz.ntmps41
  go_wp2_with fail
  refine HF.out.mono ?_
  rintro e w1 ⟨hk, ⟨he, rfl⟩ | ⟨he, v, L, rfl, ho, -⟩⟩
  · have HE := Lib.hid (show nxtM l = 0 from by unfold nxtM; rw [if_pos he])
    have HK := Lib.hid hk
    unfold zPage
    clear he hk
    go_wp2
    go_ret
    exact ⟨by rw [HE.out]; rfl, HK.out.alloc _⟩
  · obtain ⟨G, cap, rfl, -⟩ := ho.view
    have HE := Lib.hid (show nxtM l = nextM l from by unfold nxtM; rw [if_neg he])
    have HK := Lib.hid hk
    clear he hk ho
    go_wp2
    go_ret
    exact ⟨by rw [HE.out]; rfl, HK.out.alloc _⟩
set_option maxRecDepth 100000 in
theorem rcount_any (h : RdB w A l) (hc : l.length ≤ c) (hc2 : c ≤ 9223372036854775807) :
    Calls Tryz.prog 42 #[.slice A l.length c] w fun e w' => e = .returned (.int .i64 (countM l)) ∧ Kept (fun _ => False) w w' := by
  have HF := Lib.hid (of_any A c l w h hc hc2)
  clear h
  go_enter Tryz.func42, Tryz.ntmps42
  go_wp2_with fail
  refine HF.out.mono ?_
  rintro e w1 ⟨hk, ⟨he, rfl⟩ | ⟨he, v, L, rfl, ho, hcs, hm⟩⟩
  · have HE := Lib.hid (show countM l = 0 from by unfold countM; rw [if_pos he])
    have HK := Lib.hid hk
    unfold zPage
    clear he hk
    go_wp2
    go_ret
    exact ⟨by rw [HE.out]; rfl, HK.out.alloc _⟩
  · obtain ⟨G, cap, rfl, -⟩ := ho.view
    have HE := Lib.hid (show countM l = L.length from by
      have h1 := cellsM_len l (bAt l 1).toNat
      rw [← hm, List.length_map] at h1
      unfold countM; rw [if_neg he, h1])
    have HK := Lib.hid hk
    clear he hk ho hcs hm
    go_wp2
    go_ret
    exact ⟨by rw [HE.out]; rfl, HK.out.alloc _⟩
end
end Go.Proofs.YtndflnedkpmpfaaGreatDoor
namespace Go.Proofs.YtndflnedkpmpfaaGreatDoor
open Go.RowKit

theorem cs_get {l : Bytes} {L : List CeD} {n k : Nat} (hm : L.map (fun s => s.b) = cellsM l n) (hk : k < n) : ∃ s, L[k]? = some s ∧ s.b = cellM l k := by
  have h1 : (L.map (fun s => s.b))[k]? = some (cellM l k) := by
    rw [hm]; unfold cellsM
    rw [List.getElem?_map, List.getElem?_range hk]; rfl
  rw [List.getElem?_map] at h1
  cases hs : L[k]? with
  | none => rw [hs] at h1; simp at h1
  | some s => rw [hs] at h1; exact ⟨s, rfl, by simpa using h1⟩
theorem cs_len {l : Bytes} {L : List CeD} {n : Nat} (hm : L.map (fun s => s.b) = cellsM l n) : L.length = n := by
  have h1 := cellsM_len l n
  rwa [← hm, List.length_map] at h1
theorem cellM_len {l : Bytes} (h : endM l ≠ 0) {k : Nat} (hk : k < (bAt l 1).toNat) : (cellM l k).length + 2 + placeM l k = placeM l (k + 1) ∧ placeM l (k + 1) ≤ 512 := by
  obtain ⟨h1, h2, h3⟩ := placeM_succ h hk
  have h5 := endM_len h
  unfold cellM
  rw [List.length_drop, List.length_take]
  omega
theorem getM_none {l : Bytes} {s : Int} (h : s < 0 ∨ (countM l : Int) ≤ s) : getM l s = none := by unfold getM; rw [if_pos h]
theorem getM_cell {l : Bytes} {k : Nat} (h : endM l ≠ 0) (hk : k < (bAt l 1).toNat) : getM l k = some (cellM l k) := by
  have hc := countM_ok h
  obtain ⟨h1, h2, h3⟩ := placeM_succ h hk
  unfold getM
  rw [if_neg (by omega), Int.toNat_natCast, ← h1]
  rfl
section
variable (A : Option Addr) (c : Nat) (l : Bytes) (w : World)
set_option maxRecDepth 100000 in
set_option maxHeartbeats 1000000 in
theorem rroom_any (h : RdB w A l) (hc : l.length ≤ c) (hc2 : c ≤ 9223372036854775807) :
    Calls Tryz.prog 43 #[.slice A l.length c] w fun e w' => e = .returned (.int .i64 (roomM l)) ∧ Kept (fun _ => False) w w' := by
  have HF := Lib.hid (of_any A c l w h hc hc2)
  clear h
  go_enter Tryz.func43, Tryz.ntmps43
  go_wp2_with fail
  refine HF.out.mono ?_
  rintro e w1 ⟨hk, ⟨he, rfl⟩ | ⟨he, v, L, rfl, ho, hcs, hm⟩⟩
  · have HE := Lib.hid (show roomM l = 0 from by unfold roomM; rw [if_pos he])
    have HK := Lib.hid hk
    unfold zPage
    clear he hk
    go_wp2
    go_ret
    exact ⟨by rw [HE.out]; rfl, HK.out.alloc _⟩
  · obtain ⟨G, cap, rfl, hV⟩ := ho.view
    have HE := Lib.hid he
    have HR := Lib.hid (show roomM l = 512 - placeM l (bAt l 1).toNat from by unfold roomM; rw [if_neg he, endM_len he, (endM_place he).1])
    have HV := Lib.hid hV
    have HM := Lib.hid hm
    have HLN := Lib.hid (cs_len hm)
    have hL2 : L.length < 256 := by rw [cs_len hm]; exact (bAt l 1).toNat_lt
    have HK := Lib.hid hk
    clear he hk ho hcs hm hV
    go_wp2
    have KA := Lib.hid ((Kept.refl (fun _ => False) w1).alloc (.cells #[.int .u8 (bAt l 0).toNat, .int .i64 (nextM l), .slice G L.length cap] 74))
    have HB := Lib.hid (heap_alloc_new w1 (.cells #[.int .u8 (bAt l 0).toNat, .int .i64 (nextM l), .slice G L.length cap] 74))
    generalize (w1.alloc (.cells #[.int .u8 (bAt l 0).toNat, .int .i64 (nextM l), .slice G L.length cap] 74)) = w2 at *
    obtain ⟨px, hpx⟩ : ∃ px, px = w1.heap.size := ⟨_, rfl⟩
    rw [← hpx] at HB ⊢
    have c2 := cell_blk HB.out (i := 2) rfl
    clear hpx
    go_loopw [5, 6] (fun n i wr => ∃ k : Nat, k ≤ L.length ∧ i = .int .i64 k ∧ n = .int .i64 (512 - (placeM l k : Int)) ∧ wr = w2) (fun n i _ => L.length - (intOf i).toNat)
    case atStart => exact ⟨0, Nat.zero_le _, rfl, rfl, rfl⟩
    case round =>
      obtain ⟨k, hk, rfl, rfl, rfl⟩ := hrel
      by_cases hlt : k < L.length
      · obtain ⟨s, hs, hsb⟩ := cs_get HM.out (k := k) (by rw [← HLN.out]; exact hlt)
        obtain ⟨g, rfl, hg, hcell⟩ := HV.out k s hs
        have hcell2 := (World.cell?_of_block (KA.out.block _ hg id)).trans hcell
        obtain ⟨e1, e2⟩ := cellM_len HE.out (k := k) (by rw [← HLN.out]; exact hlt)
        unfold ceVal at hcell2
        rw [hsb] at hcell2
        generalize cellM l k = x at *
        have i0 : (0 : Int) ≤ (k : Int) := by omega
        have i1 : (k : Int) < (L.length : Int) := by omega
        have w1' : IntKind.i64.wrap (512 - (placeM l k : Int) - 2) = 512 - (placeM l k : Int) - 2 := by rw [IntKind.wrap_i64]; omega
        have w2' : IntKind.i64.wrap (512 - (placeM l k : Int) - 2 - (x.length : Int)) = 512 - (placeM l (k + 1) : Int) := by rw [IntKind.wrap_i64]; omega
        clear hsb hs hcell e1 e2
        go_wp2
        go_roundw
        case rel => exact ⟨k + 1, by omega, by go_num, rfl, trivial⟩
        case measure => simp [intOf]; omega
      · have hge : ¬ ((k : Int) < (L.length : Int)) := by omega
        have hkl : k = (bAt l 1).toNat := by have := HLN.out; omega
        have HKL := Lib.hid hkl
        have HP6 := Lib.hid (placeM_le l k (by rw [endM_len HE.out]; omega))
        have HL5 := Lib.hid (endM_len HE.out)
        clear hkl hlt
        go_wp2
        go_ret
        refine ⟨ret_int ?_, HK.out.trans0 KA.out⟩
        rw [HR.out, ← HKL.out]
        have := HP6.out
        rw [HL5.out] at this
        omega
set_option maxRecDepth 100000 in
set_option maxHeartbeats 1000000 in
theorem rget_any (h : RdB w A l) (hc : l.length ≤ c) (hc2 : c ≤ 9223372036854775807) (s : Int) :
    Calls Tryz.prog 37 #[.slice A l.length c, .int .i64 s] w fun e w' => Kept (fun _ => False) w w' ∧
      ((getM l s = none ∧ e = .returned (.tuple #[.slice none 0 0, .bool false])) ∨ ∃ g cap x, getM l s = some x ∧ e = .returned (.tuple #[.slice (some ⟨g, 0, none⟩) x.length cap, .bool true]) ∧ OwnB w' w.heap.size g cap x) := by
  have HF := Lib.hid (of_any A c l w h hc hc2)
  clear h
  go_enter Tryz.func37, Tryz.ntmps37
  go_wp2_with fail
  refine HF.out.mono ?_
  rintro e w1 ⟨hk, ⟨he, rfl⟩ | ⟨he, v, L, rfl, ho, hcs, hm⟩⟩
  · have HE := Lib.hid (show getM l s = none from getM_none (by unfold countM; rw [if_pos he]; omega))
    have HK := Lib.hid hk
    unfold zPage
    clear he hk
    by_cases h0 : s < 0
    · go_wp2
      go_ret2
      exact ⟨HK.out.alloc _, .inl ⟨HE.out, rfl⟩⟩
    · have h1 : (0 : Int) ≤ s := by omega
      go_wp2
      go_ret2
      exact ⟨HK.out.alloc _, .inl ⟨HE.out, rfl⟩⟩
  · obtain ⟨G, cap, rfl, hV⟩ := ho.view
    have hcn := countM_ok he
    have hln := cs_len hm
    by_cases hb : s < 0 ∨ (countM l : Int) ≤ s
    · have HG := Lib.hid (getM_none hb)
      have hb2 : s < 0 ∨ (L.length : Int) ≤ s := by rw [hln, ← hcn]; exact hb
      have HK := Lib.hid hk
      clear he hk ho hcs hm hV hcn hln hb
      by_cases h0 : s < 0
      · clear hb2
        go_wp2
        go_ret2
        exact ⟨HK.out.alloc _, .inl ⟨HG.out, rfl⟩⟩
      · have h1 : (L.length : Int) ≤ s := by omega
        clear hb2
        go_wp2
        go_ret2
        exact ⟨HK.out.alloc _, .inl ⟨HG.out, rfl⟩⟩
    · obtain ⟨k, rfl⟩ : ∃ k : Nat, s = (k : Int) := ⟨s.toNat, by omega⟩
      have hlt : k < (bAt l 1).toNat := by omega
      have HG := Lib.hid (getM_cell he hlt)
      obtain ⟨s, hs, hsb⟩ := cs_get hm hlt
      obtain ⟨g, rfl, hg, hcell⟩ := hV k s hs
      have KA := Lib.hid ((Kept.refl (fun _ => False) w1).alloc (.cells #[.int .u8 (bAt l 0).toNat, .int .i64 (nextM l), .slice (some ⟨g, 0, none⟩) L.length cap] 74))
      have hcell2 := (World.cell?_of_block (KA.out.block _ hg id)).trans hcell
      have HO := Lib.hid ((hcs s (List.mem_of_getElem? hs)).kept KA.out)
      unfold ceVal at hcell2
      have h0 : ¬ (k : Int) < 0 := by omega
      have h1 : ¬ (L.length : Int) ≤ (k : Int) := by omega
      have h2 : (k : Int) < (L.length : Int) := by omega
      have HK := Lib.hid hk
      have HSB := Lib.hid hsb
      clear he hk ho hcs hm hV hcn hln hb hlt hs hsb hcell
      go_wp2
      go_ret2
      exact ⟨HK.out.trans0 KA.out, .inr ⟨s.g, s.c, s.b, by rw [HG.out, HSB.out], rfl, HO.out⟩⟩
end
end Go.Proofs.YtndflnedkpmpfaaGreatDoor
