/-
  No statement is proved here: the contract of the document's Of (a page taken apart).
-/
import Derived.Test.YtndflnedkpmpfaaGreatDoorOfm
import Derived.Laws.ResultCell
import Derived.Laws.Rows
namespace Go.Proofs.YtndflnedkpmpfaaGreatDoor
open Go.RowKit

/-- Two results, the first a struct in a cell of its own. -/
theorem results_cell_row2 {P : Program} {fn : Func} {p u : Tmp} {ty : TypeId} (h : fn.results = #[.cell p ty, .tmp u]) (tmps : Array Value) (w : World) (g : Nat) (cs : Array Value) {t : TypeId} {fr : Nat × Nat} {d : TypeDesc} (hp : tmps.getD p undef = .pointer (some ⟨g, 0, none⟩)) (hg : w.heap[g]? = some (.cells cs t fr))
    (hu : P.underlying ty = some d) (hd : (match d with | .struct _ | .array _ _ => true | _ => false) = true) (hi : (P.info? ty).map (·.size) = some cs.size) : (results fn tmps).run P w = .ok (.tuple #[.agg cs, tmps.getD u undef]) w := by
  rw [results_cell_tmp h, hp]
  simp [asAddr, Result.andThen, run_loadVar_row w g t ty cs fr d hg hu hd hi]
theorem bAt_dropped (l : Bytes) (a i : Nat) : bAt (l.drop a) i = bAt l (a + i) := by
  unfold bAt
  simp only [List.getD_eq_getElem?_getD, List.getElem?_drop]
def zPage : Array Value := #[.int .u8 0, .int .i64 0, .slice none 0 0]
theorem infoPg : ((Tryz.prog).info? 74).map (·.size) = some zPage.size := by kernel_rfl
theorem one_zPage : zPage.all (·.oneCell') = true := by simp [zPage, Value.oneCell']
set_option maxRecDepth 200000 in
set_option maxHeartbeats 2000000 in
theorem of512 (A : Option Addr) (c : Nat) (l : Bytes) (w : World) (h : RdB w A l) (hl : l.length = 512) (hc : 512 ≤ c) (hc2 : c ≤ 9223372036854775807) :
    Calls Tryz.prog 61 #[.slice A 512 c] w fun e w' => Kept (fun _ => False) w w' ∧ ((endM l = 0 ∧ e = .returned (.tuple #[.agg zPage, .bool false])) ∨
      (endM l ≠ 0 ∧ ∃ v L, e = .returned (.tuple #[.agg #[.int .u8 (bAt l 0).toNat, .int .i64 (nextM l), v], .bool true]) ∧ OwnCs w' w.heap.size v L ∧ CsAt w' w.heap.size L ∧ L.map (fun s => s.b) = cellsM l (bAt l 1).toNat)) := by
  obtain ⟨xa, oa, rfl, -⟩ := h (by rintro rfl; simp at hl)
  have H := Lib.hid h
  have HL := Lib.hid hl
  clear h hl
  go_enter Tryz.func61, Tryz.ntmps61
  go_wp2_with (refine wl_alloc' rfl 74 rfl #[.int .u8 0, .int .i64 0, .slice none 0 0] (fun _ => rfl) ?_)
  intro pr w1 npr mpr hpr kpr
  have HP := Lib.hid hpr
  have K1 := Lib.hid kpr
  have hR := H.out.kept (kpr.drew) (fun _ _ _ _ => id)
  clear hpr kpr
  have r0 : w1.drew.cell? ⟨xa, oa, none⟩ = some (.int .u8 (bAt l 0).toNat) := by
    obtain ⟨y1, y2, hy, r⟩ := hR.cell (k := 0) (by rw [HL.out]; omega)
    cases hy; exact r
  have r2 : w1.drew.cell? ⟨xa, oa + 2, none⟩ = some (.int .u8 (bAt l 2).toNat) := by
    obtain ⟨y1, y2, hy, r⟩ := hR.cell (k := 2) (by rw [HL.out]; omega)
    cases hy; exact r
  have r3 : w1.drew.cell? ⟨xa, oa + 3, none⟩ = some (.int .u8 (bAt l 3).toNat) := by
    obtain ⟨y1, y2, hy, r⟩ := hR.cell (k := 3) (by rw [HL.out]; omega)
    cases hy; exact r
  have r4 : w1.drew.cell? ⟨xa, oa + 4, none⟩ = some (.int .u8 (bAt l 4).toNat) := by
    obtain ⟨y1, y2, hy, r⟩ := hR.cell (k := 4) (by rw [HL.out]; omega)
    cases hy; exact r
  have r5 : w1.drew.cell? ⟨xa, oa + 5, none⟩ = some (.int .u8 (bAt l 5).toNat) := by
    obtain ⟨y1, y2, hy, r⟩ := hR.cell (k := 5) (by rw [HL.out]; omega)
    cases hy; exact r
  clear hR
  have wU : ∀ x : UInt8, IntKind.i64.wrap (x.toNat : Int) = (x.toNat : Int) := fun x => by have := x.toNat_lt; rw [IntKind.wrap_i64] <;> omega
  have wA : ∀ x : UInt8, IntKind.i64.wrap ((x.toNat : Int) * 16777216) = (x.toNat : Int) * 16777216 := fun x => by have := x.toNat_lt; rw [IntKind.wrap_i64] <;> omega
  have wB : ∀ x : UInt8, IntKind.i64.wrap ((x.toNat : Int) * 65536) = (x.toNat : Int) * 65536 := fun x => by have := x.toNat_lt; rw [IntKind.wrap_i64] <;> omega
  have wC : ∀ x : UInt8, IntKind.i64.wrap ((x.toNat : Int) * 256) = (x.toNat : Int) * 256 := fun x => by have := x.toNat_lt; rw [IntKind.wrap_i64] <;> omega
  have wD : ∀ x y : UInt8, IntKind.i64.wrap ((x.toNat : Int) * 16777216 + (y.toNat : Int) * 65536) = (x.toNat : Int) * 16777216 + (y.toNat : Int) * 65536 := fun x y => by have := x.toNat_lt; have := y.toNat_lt; rw [IntKind.wrap_i64] <;> omega
  have wE : ∀ x y z : UInt8, IntKind.i64.wrap ((x.toNat : Int) * 16777216 + (y.toNat : Int) * 65536 + (z.toNat : Int) * 256) = (x.toNat : Int) * 16777216 + (y.toNat : Int) * 65536 + (z.toNat : Int) * 256 := fun x y z => by have := x.toNat_lt; have := y.toNat_lt; have := z.toNat_lt; rw [IntKind.wrap_i64] <;> omega
  have wF : IntKind.i64.wrap (((bAt l 2).toNat : Int) * 16777216 + ((bAt l 3).toNat : Int) * 65536 + ((bAt l 4).toNat : Int) * 256 + ((bAt l 5).toNat : Int)) = (nextM l : Int) := by
    have := (bAt l 2).toNat_lt; have := (bAt l 3).toNat_lt; have := (bAt l 4).toNat_lt; have := (bAt l 5).toNat_lt
    unfold nextM
    rw [IntKind.wrap_i64] <;> omega
  go_wp2
  refine startL 27 (fun w' => w'.cell? ⟨xa, oa, none⟩ = some (.int .u8 (bAt l 0).toNat) ∧ w'.cell? ⟨xa, oa + 2, none⟩ = some (.int .u8 (bAt l 2).toNat) ∧ w'.cell? ⟨xa, oa + 3, none⟩ = some (.int .u8 (bAt l 3).toNat) ∧ w'.cell? ⟨xa, oa + 4, none⟩ = some (.int .u8 (bAt l 4).toNat) ∧ w'.cell? ⟨xa, oa + 5, none⟩ = some (.int .u8 (bAt l 5).toNat)) (by kernel_rfl) ⟨r0, r2, r3, r4, r5⟩ (fun hH => ?_)
  simp only [List.length_cons, List.length_nil, List.replicate]
  refine takeL 0 ?_ rfl (by kernel_rfl) (fun _ _ _ h => h) (by rfl) (fun w' hw' => ?_) hH ?_
  rotate_left
  · obtain ⟨s0, s2, s3, s4, s5⟩ := hw'
    go_simp
    all_goals with_reducible rfl
  simp only [Act.put, List.setIfInBounds_toArray, List.set_cons_zero, List.set_cons_succ]
  refine takeL 1 ?_ rfl (by kernel_rfl) (fun _ _ _ h => h) (by rfl) (fun w' hw' => ?_) hH ?_
  rotate_left
  · obtain ⟨s0, s2, s3, s4, s5⟩ := hw'
    go_simp
    all_goals with_reducible rfl
  simp only [Act.put, List.setIfInBounds_toArray, List.set_cons_zero, List.set_cons_succ]
  refine takeL 2 ?_ rfl (by kernel_rfl) (fun _ _ _ h => h) (by rfl) (fun w' hw' => ?_) hH ?_
  rotate_left
  · obtain ⟨s0, s2, s3, s4, s5⟩ := hw'
    go_simp
    all_goals with_reducible rfl
  simp only [Act.put, List.setIfInBounds_toArray, List.set_cons_zero, List.set_cons_succ]
  refine takeL 3 ?_ rfl (by kernel_rfl) (fun _ _ _ h => h) (by rfl) (fun w' hw' => ?_) hH ?_
  rotate_left
  · obtain ⟨s0, s2, s3, s4, s5⟩ := hw'
    go_simp
    all_goals with_reducible rfl
  simp only [Act.put, List.setIfInBounds_toArray, List.set_cons_zero, List.set_cons_succ]
  refine takeL 4 ?_ rfl (by kernel_rfl) (fun _ _ _ h => h) (by rfl) (fun w' hw' => ?_) hH ?_
  rotate_left
  · obtain ⟨s0, s2, s3, s4, s5⟩ := hw'
    go_simp
    all_goals with_reducible rfl
  simp only [Act.put, List.setIfInBounds_toArray, List.set_cons_zero, List.set_cons_succ]
  refine takeL 5 ?_ rfl (by kernel_rfl) (fun _ _ _ h => h) (by rfl) (fun w' hw' => ?_) hH ?_
  rotate_left
  · obtain ⟨s0, s2, s3, s4, s5⟩ := hw'
    go_simp
    all_goals with_reducible rfl
  simp only [Act.put, List.setIfInBounds_toArray, List.set_cons_zero, List.set_cons_succ]
  refine takeL 6 ?_ rfl (by kernel_rfl) (fun _ _ _ h => h) (by rfl) (fun w' hw' => ?_) hH ?_
  rotate_left
  · obtain ⟨s0, s2, s3, s4, s5⟩ := hw'
    go_simp
    all_goals with_reducible rfl
  simp only [Act.put, List.setIfInBounds_toArray, List.set_cons_zero, List.set_cons_succ]
  refine takeL 7 ?_ rfl (by kernel_rfl) (fun _ _ _ h => h) (by rfl) (fun w' hw' => ?_) hH ?_
  rotate_left
  · obtain ⟨s0, s2, s3, s4, s5⟩ := hw'
    go_simp
    all_goals with_reducible rfl
  simp only [Act.put, List.setIfInBounds_toArray, List.set_cons_zero, List.set_cons_succ]
  refine takeL 8 ?_ rfl (by kernel_rfl) (fun _ _ _ h => h) (by rfl) (fun w' hw' => ?_) hH ?_
  rotate_left
  · obtain ⟨s0, s2, s3, s4, s5⟩ := hw'
    go_simp
    all_goals with_reducible rfl
  simp only [Act.put, List.setIfInBounds_toArray, List.set_cons_zero, List.set_cons_succ]
  refine takeL 9 ?_ rfl (by kernel_rfl) (fun _ _ _ h => h) (by rfl) (fun w' hw' => ?_) hH ?_
  rotate_left
  · obtain ⟨s0, s2, s3, s4, s5⟩ := hw'
    go_simp
    all_goals with_reducible rfl
  simp only [Act.put, List.setIfInBounds_toArray, List.set_cons_zero, List.set_cons_succ]
  refine takeL 10 ?_ rfl (by kernel_rfl) (fun _ _ _ h => h) (by rfl) (fun w' hw' => ?_) hH ?_
  rotate_left
  · obtain ⟨s0, s2, s3, s4, s5⟩ := hw'
    go_simp
    all_goals with_reducible rfl
  simp only [Act.put, List.setIfInBounds_toArray, List.set_cons_zero, List.set_cons_succ]
  refine takeL 11 ?_ rfl (by kernel_rfl) (fun _ _ _ h => h) (by rfl) (fun w' hw' => ?_) hH ?_
  rotate_left
  · obtain ⟨s0, s2, s3, s4, s5⟩ := hw'
    go_simp
    all_goals with_reducible rfl
  simp only [Act.put, List.setIfInBounds_toArray, List.set_cons_zero, List.set_cons_succ]
  refine takeL 12 ?_ rfl (by kernel_rfl) (fun _ _ _ h => h) (by rfl) (fun w' hw' => ?_) hH ?_
  rotate_left
  · obtain ⟨s0, s2, s3, s4, s5⟩ := hw'
    go_simp
    all_goals with_reducible rfl
  simp only [Act.put, List.setIfInBounds_toArray, List.set_cons_zero, List.set_cons_succ]
  refine takeL 13 ?_ rfl (by kernel_rfl) (fun _ _ _ h => h) (by rfl) (fun w' hw' => ?_) hH ?_
  rotate_left
  · obtain ⟨s0, s2, s3, s4, s5⟩ := hw'
    go_simp
    all_goals with_reducible rfl
  simp only [Act.put, List.setIfInBounds_toArray, List.set_cons_zero, List.set_cons_succ]
  refine takeL 14 ?_ rfl (by kernel_rfl) (fun _ _ _ h => h) (by rfl) (fun w' hw' => ?_) hH ?_
  rotate_left
  · obtain ⟨s0, s2, s3, s4, s5⟩ := hw'
    go_simp
    all_goals with_reducible rfl
  simp only [Act.put, List.setIfInBounds_toArray, List.set_cons_zero, List.set_cons_succ]
  refine takeL 15 ?_ rfl (by kernel_rfl) (fun _ _ _ h => h) (by rfl) (fun w' hw' => ?_) hH ?_
  rotate_left
  · obtain ⟨s0, s2, s3, s4, s5⟩ := hw'
    go_simp
    all_goals with_reducible rfl
  simp only [Act.put, List.setIfInBounds_toArray, List.set_cons_zero, List.set_cons_succ]
  refine takeL 16 ?_ rfl (by kernel_rfl) (fun _ _ _ h => h) (by rfl) (fun w' hw' => ?_) hH ?_
  rotate_left
  · obtain ⟨s0, s2, s3, s4, s5⟩ := hw'
    go_simp
    all_goals with_reducible rfl
  simp only [Act.put, List.setIfInBounds_toArray, List.set_cons_zero, List.set_cons_succ]
  refine takeL 17 ?_ rfl (by kernel_rfl) (fun _ _ _ h => h) (by rfl) (fun w' hw' => ?_) hH ?_
  rotate_left
  · obtain ⟨s0, s2, s3, s4, s5⟩ := hw'
    go_simp
    all_goals with_reducible rfl
  simp only [Act.put, List.setIfInBounds_toArray, List.set_cons_zero, List.set_cons_succ]
  refine takeL 18 ?_ rfl (by kernel_rfl) (fun _ _ _ h => h) (by rfl) (fun w' hw' => ?_) hH ?_
  rotate_left
  · obtain ⟨s0, s2, s3, s4, s5⟩ := hw'
    go_simp
    all_goals with_reducible rfl
  simp only [Act.put, List.setIfInBounds_toArray, List.set_cons_zero, List.set_cons_succ]
  refine takeL 19 ?_ rfl (by kernel_rfl) (fun _ _ _ h => h) (by rfl) (fun w' hw' => ?_) hH ?_
  rotate_left
  · obtain ⟨s0, s2, s3, s4, s5⟩ := hw'
    go_simp
    all_goals with_reducible rfl
  simp only [Act.put, List.setIfInBounds_toArray, List.set_cons_zero, List.set_cons_succ]
  refine takeL 20 ?_ rfl (by kernel_rfl) (fun _ _ _ h => h) (by rfl) (fun w' hw' => ?_) hH ?_
  rotate_left
  · obtain ⟨s0, s2, s3, s4, s5⟩ := hw'
    go_simp
    all_goals with_reducible rfl
  simp only [Act.put, List.setIfInBounds_toArray, List.set_cons_zero, List.set_cons_succ]
  refine takeL 21 ?_ rfl (by kernel_rfl) (fun _ _ _ h => h) (by rfl) (fun w' hw' => ?_) hH ?_
  rotate_left
  · obtain ⟨s0, s2, s3, s4, s5⟩ := hw'
    go_simp
    all_goals with_reducible rfl
  simp only [Act.put, List.setIfInBounds_toArray, List.set_cons_zero, List.set_cons_succ]
  refine takeL 22 ?_ rfl (by kernel_rfl) (fun _ _ _ h => h) (by rfl) (fun w' hw' => ?_) hH ?_
  rotate_left
  · obtain ⟨s0, s2, s3, s4, s5⟩ := hw'
    go_simp
    all_goals with_reducible rfl
  simp only [Act.put, List.setIfInBounds_toArray, List.set_cons_zero, List.set_cons_succ]
  refine takeL 23 ?_ rfl (by kernel_rfl) (fun _ _ _ h => h) (by rfl) (fun w' hw' => ?_) hH ?_
  rotate_left
  · obtain ⟨s0, s2, s3, s4, s5⟩ := hw'
    go_simp
    all_goals with_reducible rfl
  simp only [Act.put, List.setIfInBounds_toArray, List.set_cons_zero, List.set_cons_succ]
  refine takeL 24 ?_ rfl (by kernel_rfl) (fun _ _ _ h => h) (by rfl) (fun w' hw' => ?_) hH ?_
  rotate_left
  · obtain ⟨s0, s2, s3, s4, s5⟩ := hw'
    go_simp
    all_goals with_reducible rfl
  simp only [Act.put, List.setIfInBounds_toArray, List.set_cons_zero, List.set_cons_succ]
  refine takeL 25 ?_ rfl (by kernel_rfl) (fun _ _ _ h => h) (by rfl) (fun w' hw' => ?_) hH ?_
  rotate_left
  · obtain ⟨s0, s2, s3, s4, s5⟩ := hw'
    go_simp
    all_goals with_reducible rfl
  simp only [Act.put, List.setIfInBounds_toArray, List.set_cons_zero, List.set_cons_succ]
  have lxa : xa < w1.drew.heap.size := block_lt_of_cell r0
  have ka := (Kept.refl (fun _ => False) w1.drew).alloc (.cells #[.int .u8 0, .int .i64 0, .slice none 0 0] 74)
  refine stepL 26 rfl (by kernel_rfl) (fun K hK => ?_)
  go_simp
  refine hK.out _ _ (fun _ => ⟨(World.cell?_of_block (ka.block _ lxa id)).trans r0, (World.cell?_of_block (ka.block _ lxa id)).trans r2, (World.cell?_of_block (ka.block _ lxa id)).trans r3, (World.cell?_of_block (ka.block _ lxa id)).trans r4, (World.cell?_of_block (ka.block _ lxa id)).trans r5⟩) (fun _ => ?_)
  simp only [Act.put, List.setIfInBounds_toArray, List.set_cons_zero, List.set_cons_succ]
  clear hK K
  refine stepL 27 rfl (by kernel_rfl) (fun K hK => ?_)
  go_simp
  refine hK.out _ _ (fun h => absurd rfl h) (fun _ => ?_)
  simp only [Act.put, List.setIfInBounds_toArray, List.set_cons_zero, List.set_cons_succ]
  clear hK K ka hH lxa r0 r2 r3 r4 r5
  refine doneL (by kernel_rfl) ?_ _
  have H2 := Lib.hid (show (w1.alloc (.cells #[.int .u8 (bAt l 0).toNat, .int .i64 (nextM l), .slice none 0 0] 74)).drew.heap[w1.heap.size]? = some (.cells #[.int .u8 (bAt l 0).toNat, .int .i64 (nextM l), .slice none 0 0] 74 (0, 0)) from heap_alloc_new w1 _)
  have K12 := ((Kept.refl (fun _ => False) w1).alloc (.cells #[.int .u8 (bAt l 0).toNat, .int .i64 (nextM l), .slice none 0 0] 74)).drew
  have P2 := Lib.hid (K12.heap HP.out id)
  have K2 := Lib.hid (K1.out.trans0 K12)
  have z2 : w1.heap.size < (w1.alloc (.cells #[.int .u8 (bAt l 0).toNat, .int .i64 (nextM l), .slice none 0 0] 74)).drew.heap.size := by simp
  have z1 := K1.out.size
  clear K12
  generalize (w1.alloc (.cells #[.int .u8 (bAt l 0).toNat, .int .i64 (nextM l), .slice none 0 0] 74)).drew = w2 at *
  obtain ⟨px, hpx⟩ : ∃ px, px = w1.heap.size := ⟨_, rfl⟩
  rw [← hpx] at z2 mpr ⊢
  have X2 := Lib.hid (show w2.heap[px]? = some (.cells #[.int .u8 (bAt l 0).toNat, .int .i64 (nextM l), .slice none 0 0] 74 (0, 0)) from by rw [hpx]; exact H2.out)
  have z3 : w.heap.size ≤ px := by omega
  clear H2 hpx z1 wA wB wD wE wF
  go_wp2
  go_loopw [5, 6] (fun at_ i wr => ∃ (k : Nat) (v : Value) (L : List CeD), k ≤ (bAt l 1).toNat ∧ i = .int .i64 k ∧ at_ = .int .i64 (placeM l k) ∧ placeM l k ≠ 0 ∧ wr.heap[px]? = some (.cells #[.int .u8 (bAt l 0).toNat, .int .i64 (nextM l), v] 74 (0, 0)) ∧ wr.heap[pr]? = some (.cells zPage 74 (0, 0)) ∧
    OwnCs wr w2.heap.size v L ∧ CsAt wr w2.heap.size L ∧ L.map (fun s => s.b) = cellsM l k ∧ Kept (fun _ => False) w wr ∧ w2.heap.size ≤ wr.heap.size) (fun at_ i _ => (bAt l 1).toNat - (intOf i).toNat)
  case atStart => exact ⟨0, .slice none 0 0, [], Nat.zero_le _, rfl, rfl, (show (6 : Nat) ≠ 0 by decide), X2.out, P2.out, ⟨by simp, .inl ⟨rfl, rfl⟩⟩, (fun _ h => by simp at h), rfl, K2.out, Nat.le_refl _⟩
  case round =>
    obtain ⟨k, v, L, hk, rfl, rfl, hpl, hX, hP, hO, hC, hM, hK, hz⟩ := hrel
    have HX := Lib.hid hX
    have HPR := Lib.hid hP
    have HO := Lib.hid hO
    have HC := Lib.hid hC
    have HM := Lib.hid hM
    have HK := Lib.hid hK
    have hRr := H.out.kept hK (fun _ _ _ _ => id)
    have HR := Lib.hid hRr
    have HPL := Lib.hid hpl
    have hpl6 : placeM l k ≤ 512 := by have := placeM_le l k (by rw [HL.out]; omega); rw [HL.out] at this; exact this
    obtain ⟨y1, y2, hy, r1⟩ := hRr.cell (k := 1) (by rw [HL.out]; omega)
    cases hy
    clear hX hP hO hC hM hK hRr X2 P2 K2 hpl
    have HNX := Lib.hid (placeM_next HPL.out)
    by_cases hlt : k < (bAt l 1).toNat
    · have i0 : (k : Int) < ((bAt l 1).toNat : Int) := by omega
      obtain ⟨a, ha⟩ : ∃ a, a = placeM l k := ⟨_, rfl⟩
      rw [← ha] at hpl6 ⊢
      have HA := Lib.hid ha
      clear ha
      have hb255 := (bAt l 1).toNat_lt
      have i9 : ((bAt l 1).toNat : Int) < 256 := by omega
      obtain ⟨p, hp⟩ : ∃ p, p = a + 2 := ⟨_, rfl⟩
      have wp : IntKind.i64.wrap ((a : Int) + 2) = (p : Int) := by rw [hp, IntKind.wrap_i64] <;> omega
      have pa : p = a + 2 := hp
      have HPP := Lib.hid hp
      clear hp
      by_cases h1 : 512 < p
      · have hE := endM_zero_place (l := l) (k := k + 1) (by rw [HNX.out, ← HA.out]; unfold afterM; rw [if_pos (by rw [HL.out]; omega)]) hlt
        have HE := Lib.hid hE
        have j1 : (512 : Int) < (p : Int) := by omega
        clear hE pa
        go_wp2_with (refine wl_store_row rfl 74 _ _ rfl pr zPage zPage rfl rfl HPR.out infoPg rfl one_zPage ?_)
        intro w5 hp5 hk5
        have HP5 := Lib.hid hp5
        have HK5 := Lib.hid (HK.out.new hk5 (fun x e => by omega))
        clear hp5 hk5
        go_wp2
        try simp only [Exit.inBlock, Exit.then]
        refine bodyPost_ret (results_cell_row2 rfl _ _ pr zPage rfl HP5.out Tryz.underlying74 rfl infoPg) rfl ?_
        exact ⟨HK5.out, .inl ⟨HE.out, rfl⟩⟩
      · have j1 : ¬ (512 : Int) < (p : Int) := by omega
        obtain ⟨y1, y2, hy, ra⟩ := HR.out.cell (k := a) (by rw [HL.out]; omega)
        cases hy
        obtain ⟨y1, y2, hy, rb⟩ := HR.out.cell (k := a + 1) (by rw [HL.out]; omega)
        cases hy
        have k1 : (a : Int) < 512 := by omega
        have k2 : (a : Int) + 1 < 512 := by omega
        have k0 : (0 : Int) ≤ (a : Int) := by omega
        have hb2 : be2 l a = (bAt l a).toNat * 256 + (bAt l (a + 1)).toNat := rfl
        have hbl := be2_lt l a
        obtain ⟨n, hn⟩ : ∃ n, n = be2 l a := ⟨_, rfl⟩
        rw [← hn] at hb2 hbl
        have wn : IntKind.i64.wrap (((bAt l a).toNat : Int) * 256 + ((bAt l (a + 1)).toNat : Int)) = (n : Int) := by rw [IntKind.wrap_i64] <;> omega
        obtain ⟨q, hq⟩ : ∃ q, q = p + n := ⟨_, rfl⟩
        have wq : IntKind.i64.wrap ((p : Int) + (n : Int)) = (q : Int) := by rw [hq, IntKind.wrap_i64] <;> omega
        have hqp : p ≤ q := by omega
        have HQ := Lib.hid hq
        have HN := Lib.hid hn
        have haf : afterM l a = if 512 < q then 0 else q := by
          unfold afterM
          rw [if_neg (by rw [HL.out]; omega), HL.out, ← hn, ← pa, ← hq]
        have HAF := Lib.hid haf
        clear hb2 hq hn haf hbl
        generalize bAt l a = x0 at ra wn
        generalize bAt l (a + 1) = x1 at rb wn
        by_cases h2 : 512 < q
        · have hE := endM_zero_place (l := l) (k := k + 1) (by rw [HNX.out, ← HA.out, HAF.out, if_pos h2]) hlt
          have HE := Lib.hid hE
          have j2 : (512 : Int) < (q : Int) := by omega
          clear hE pa
          go_wp2
          go_quiet (fail)
          have HKd := Lib.hid (HK.out.drewN nq)
          have HPd := Lib.hid (((Kept.refl (fun _ => False) wr).drewN nq).heap HPR.out id)
          clear HK HPR
          have HK := Lib.hid HKd.out
          have HPR := Lib.hid HPd.out
          clear HKd HPd r1 ra rb
          generalize wr.drewN nq = wd at *
          go_wp2_with (refine wl_store_row rfl 74 _ _ rfl pr zPage zPage rfl rfl HPR.out infoPg rfl one_zPage ?_)
          intro w5 hp5 hk5
          have HP5 := Lib.hid hp5
          have HK5 := Lib.hid (HK.out.new hk5 (fun x e => by omega))
          clear hp5 hk5
          go_wp2
          try simp only [Exit.inBlock, Exit.then]
          refine bodyPost_ret (results_cell_row2 rfl _ _ pr zPage rfl HP5.out Tryz.underlying74 rfl infoPg) rfl ?_
          exact ⟨HK5.out, .inl ⟨HE.out, rfl⟩⟩
        · have j2 : ¬ (512 : Int) < (q : Int) := by omega
          have HEQ := Lib.hid (show placeM l (k + 1) = q from by rw [HNX.out, ← HA.out, HAF.out, if_neg h2])
          have k3 : (p : Int) ≤ (q : Int) := by omega
          have k4 : (q : Int) ≤ (c : Int) := by omega
          have k5 : (0 : Int) ≤ (p : Int) := by omega
          have k7 : q ≤ c := by omega
          go_wp2
          go_quiet (fail)
          have Dd := ((Kept.refl (fun _ => False) wr).drewN nq)
          have HKd := Lib.hid (HK.out.drewN nq)
          have HPd := Lib.hid (Dd.heap HPR.out id)
          have HXd := Lib.hid (Dd.heap HX.out id)
          have HOd := Lib.hid (HO.out.kept Dd (fun _ h => h.elim))
          have HCd := Lib.hid (HC.out.keep Dd (fun _ _ _ _ h => h.elim))
          have hzd : w2.heap.size ≤ (wr.drewN nq).heap.size := by simpa using hz
          clear Dd HK HPR HX HO HC r1 ra rb HR wn hz
          generalize wr.drewN nq = wd at *
          obtain ⟨mb, hmb⟩ : ∃ mb, mb = (l.take q).drop p := ⟨_, rfl⟩
          have hsl : mb.length = q - p := by rw [hmb, List.length_drop, List.length_take, HL.out]; omega
          have hrb : ∀ wz, Kept (fun _ => False) wd wz → ∀ A, (¬ c = p → A = some ⟨xa, oa + p, none⟩) → RdB wz A mb := by
            intro wz hkz A hA
            by_cases hcp : c = p
            · intro hne
              exfalso
              apply hne
              apply List.eq_nil_of_length_eq_zero
              rw [hsl]; omega
            · rw [hA hcp, hmb]
              exact ((H.out.kept (HKd.out.trans0 hkz) (fun _ _ _ _ => id)).take q).drop p
          have HSL := Lib.hid hsl
          have HRB := Lib.hid hrb
          have HMB := Lib.hid hmb
          have HMd := HM
          have HLT := Lib.hid hlt
          have hLs : L.length ≤ 600 := by
            have h1 := cellsM_len l k
            rw [← HM.out, List.length_map] at h1
            omega
          clear hsl hrb hmb
          by_cases k6 : c = p
          · obtain rfl : n = 0 := by have := HQ.out; omega
            obtain rfl : c = 512 := by omega
            obtain rfl : p = 512 := by omega
            obtain rfl : q = 512 := by omega
            have w512 : IntKind.i64.wrap 512 = 512 := by decide
            have HSL0 := Lib.hid (show mb.length = 0 from HSL.out)
            clear HSL
            have HSL := HSL0
            clear k6 pa HSL0
            go_wp2
            have cx2 := cell_blk HXd.out (i := 2) rfl
            have Dw := (Kept.refl (fun _ => False) wd).drew
            have hS0 : wd.drew.cell? ⟨px, 2, none⟩ = some v := (World.cell?_of_block (Dw.block _ (block_lt_of_cell cx2) id)).trans cx2
            refine startL 15 (fun w' => w'.cell? ⟨px, 2, none⟩ = some v) (by kernel_rfl) hS0 (fun hH => ?_)
            simp only [List.length_cons, List.length_nil, List.replicate]
            refine takeL 0 ?_ rfl (by kernel_rfl) (fun _ _ _ h => h) (by rfl) (fun w' hw' => ?_) hH ?_
            rotate_left
            · skip
              go_simp
              all_goals with_reducible rfl
            simp only [Act.put, List.setIfInBounds_toArray, List.set_cons_zero, List.set_cons_succ]
            refine takeL 1 ?_ rfl (by kernel_rfl) (fun _ _ _ h => h) (by rfl) (fun w' hw' => ?_) hH ?_
            rotate_left
            · skip
              go_simp
              all_goals with_reducible rfl
            simp only [Act.put, List.setIfInBounds_toArray, List.set_cons_zero, List.set_cons_succ]
            refine takeL 3 ?_ rfl (by kernel_rfl) (fun _ _ _ h => h) (by rfl) (fun w' hw' => ?_) hH ?_
            rotate_left
            · skip
              go_simp
              all_goals with_reducible rfl
            simp only [Act.put, List.setIfInBounds_toArray, List.set_cons_zero, List.set_cons_succ]
            refine takeL 4 ?_ rfl (by kernel_rfl) (fun _ _ _ h => h) (by rfl) (fun w' hw' => ?_) hH ?_
            rotate_left
            · skip
              go_simp
              all_goals with_reducible rfl
            simp only [Act.put, List.setIfInBounds_toArray, List.set_cons_zero, List.set_cons_succ]
            refine takeL 5 ?_ rfl (by kernel_rfl) (fun _ _ _ h => h) (by rfl) (fun w' hw' => ?_) hH ?_
            rotate_left
            · skip
              go_simp
              all_goals with_reducible rfl
            simp only [Act.put, List.setIfInBounds_toArray, List.set_cons_zero, List.set_cons_succ]
            refine takeL 6 ?_ rfl (by kernel_rfl) (fun _ _ _ h => h) (by rfl) (fun w' hw' => ?_) hH ?_
            rotate_left
            · skip
              go_simp
              all_goals with_reducible rfl
            simp only [Act.put, List.setIfInBounds_toArray, List.set_cons_zero, List.set_cons_succ]
            refine takeL 7 ?_ rfl (by kernel_rfl) (fun _ _ _ h => h) (by rfl) (fun w' hw' => ?_) hH ?_
            rotate_left
            · skip
              go_simp
              all_goals with_reducible rfl
            simp only [Act.put, List.setIfInBounds_toArray, List.set_cons_zero, List.set_cons_succ]
            refine takeL 8 ?_ rfl (by kernel_rfl) (fun _ _ _ h => h) (by rfl) (fun w' hw' => ?_) hH ?_
            rotate_left
            · skip
              go_simp
              all_goals with_reducible rfl
            simp only [Act.put, List.setIfInBounds_toArray, List.set_cons_zero, List.set_cons_succ]
            refine takeL 9 ?_ rfl (by kernel_rfl) (fun _ _ _ h => h) (by rfl) (fun w' hw' => ?_) hH ?_
            rotate_left
            · skip
              go_simp
              all_goals with_reducible rfl
            simp only [Act.put, List.setIfInBounds_toArray, List.set_cons_zero, List.set_cons_succ]
            refine takeL 10 ?_ rfl (by kernel_rfl) (fun _ _ _ h => h) (by rfl) (fun w' hw' => ?_) hH ?_
            rotate_left
            · skip
              go_simp
              all_goals with_reducible rfl
            simp only [Act.put, List.setIfInBounds_toArray, List.set_cons_zero, List.set_cons_succ]
            refine stepL 2 rfl (by kernel_rfl) (fun K hK => ?_)
            go_simp
            have hA2 := (Kept.refl (fun _ => False) wd.drew).alloc (.cells #[] 5)
            have hS2 : (wd.drew.alloc (.cells #[] 5)).cell? ⟨px, 2, none⟩ = some v := (World.cell?_of_block (hA2.block _ (block_lt_of_cell hS0) id)).trans hS0
            refine hK.out _ _ (fun _ => hS2) (fun _ => ?_)
            simp only [Act.put, List.setIfInBounds_toArray, List.set_cons_zero, List.set_cons_succ]
            clear hK K
            refine stepL 11 rfl (by kernel_rfl) (fun K hK => ?_)
            have hN0 : OwnB (wd.drew.alloc (.cells #[] 5)) w2.heap.size wd.drew.heap.size 0 [] := ⟨rfl, .inr ⟨wd.drew.heap.size, 0, #[], rfl, by simpa using hzd, heap_alloc_new wd.drew _, Nat.le_refl _, by decide, rfl, rfl⟩⟩
            have HDA := Lib.hid (Dw.trans0 hA2)
            have hzA : w2.heap.size ≤ (wd.drew.alloc (.cells #[] 5)).heap.size := by have := HDA.out.size; omega
            refine step_appendB rfl _ _ (by rfl) w2.heap.size wd.drew.heap.size 0 [] mb rfl hN0 _ _ (by rw [HSL.out]; rfl) (HRB.out _ HDA.out _ (by first | exact fun _ => rfl | exact fun h => (h trivial).elim)) (by rw [HSL.out, List.length_nil]; omega) hzA ?_
            intro g1 c1 w3 hb1 hk1 hat1 m1
            simp only [List.length_nil, Nat.zero_add, HSL.out, List.nil_append] at hb1 ⊢
            have hdd : wd.drew.heap.size = wd.heap.size := rfl
            have hS3 := (World.cell?_of_block (hk1.block px (block_lt_of_cell hS2) (by omega))).trans hS2
            have HK3 := Lib.hid (HDA.out.new hk1 (fun x e => by omega))
            have HB1 := Lib.hid hb1
            refine hK.out _ _ (fun _ => hS3) (fun _ => ?_)
            simp only [Act.put, List.setIfInBounds_toArray, List.set_cons_zero, List.set_cons_succ]
            clear hK K hdd hb1 hk1 hat1 hA2 hN0 hzA
            refine stepL 12 rfl (by kernel_rfl) (fun K hK => ?_)
            go_simp
            have hA4 := (Kept.refl (fun _ => False) w3).alloc (.cells #[(.slice (some ⟨g1, 0, none⟩) 0 c1)] 22)
            have hS4 := (World.cell?_of_block (hA4.block _ (block_lt_of_cell hS3) id)).trans hS3
            have HK4 := Lib.hid (HK3.out.trans0 hA4)
            have HB4 := Lib.hid (HB1.out.kept hA4)
            have HO4 := Lib.hid (HOd.out.kept HK4.out (fun _ h => h.elim))
            have hz4 := HK4.out.size
            have HBK := Lib.hid (fun x (e : v.ownBlock = some x) => HO4.out.blk e)
            refine hK.out _ _ (fun _ => hS4) (fun _ => ?_)
            simp only [Act.put, List.setIfInBounds_toArray, List.set_cons_zero, List.set_cons_succ]
            clear hK K hA4
            refine stepL 13 rfl (by kernel_rfl) (fun K hK => ?_)
            refine step_append rfl _ _ 28 (by rfl) w2.heap.size 22 Tryz.underlying28 infoCs rfl (by omega) v L.length (L.map ceVal) (by rfl) HO4.out w3.heap.size 0 1 1 [(.slice (some ⟨g1, 0, none⟩) 0 c1)] (by rfl) rfl (fun j u hu => cell_blk (heap_alloc_new w3 _) (by simpa using hu)) (by simp [Value.oneCell']) (by omega) (by have : maxLen = 9223372036854775807 := rfl; omega) (by omega) (by omega) ?_
            intro g4 k4 w5 ho5 hk5 _ m5
            have hS5 := (World.cell?_of_block (hk5.block px (block_lt_of_cell hS4) (fun e => by have := (HBK.out _ e).1; omega))).trans hS4
            refine hK.out _ _ (fun _ => hS5) (fun _ => ?_)
            simp only [Act.put, List.setIfInBounds_toArray, List.set_cons_zero, List.set_cons_succ]
            clear hK K
            refine takeL 14 ?_ rfl (by kernel_rfl) (fun _ _ _ h => h) (by rfl) (fun w' hw' => ?_) hS5 ?_
            rotate_left
            · skip
              go_simp
              all_goals with_reducible rfl
            simp only [Act.put, List.setIfInBounds_toArray, List.set_cons_zero, List.set_cons_succ]
            have HX5 := Lib.hid (hk5.heap (HK4.out.heap HXd.out id) (fun e => by have := (HBK.out _ e).1; omega))
            have HP5 := Lib.hid (hk5.heap (HK4.out.heap HPd.out id) (fun e => by have := (HBK.out _ e).1; omega))
            have HOO := Lib.hid ho5
            have HK5 := Lib.hid (((HKd.out.trans0 HK4.out).new hk5 (fun x e => by have := (HBK.out _ e).1; omega)).setCell (p := ⟨px, 2, none⟩) (.inl z3) (.slice (some ⟨g4, 0, none⟩) (L.length + 1) k4))
            have HB5 := Lib.hid (HB4.out.keep hk5 (fun e => by
              obtain ⟨-, cur', h'⟩ := HBK.out _ e
              obtain ⟨cur, -, hh, -⟩ := HB4.out.form
              rw [hh] at h'
              cases h'))
            have HC5 := Lib.hid ((HCd.out.keep HK4.out (fun _ _ _ _ h => h.elim)).keep hk5 (fun x cur hx _ e => by
              obtain ⟨-, cur', h'⟩ := HBK.out _ e
              rw [hx] at h'
              cases h'))
            have f5 := free_blk HX5.out 2
            have hz5 : w2.heap.size ≤ w5.heap.size := by have := hk5.size; omega
            clear ho5 hk5
            refine stepL 15 rfl (by kernel_rfl) (fun K hK => ?_)
            go_simp
            refine hK.out _ _ (fun h => absurd rfl h) (fun _ => ?_)
            simp only [Act.put, List.setIfInBounds_toArray, List.set_cons_zero, List.set_cons_succ]
            clear hK K
            refine doneL (by kernel_rfl) ?_ _
            go_wp2
            go_roundw
            case rel =>
              have kc := Kept.cell w5 px 2 (.slice (some ⟨g4, 0, none⟩) (L.length + 1) k4)
              refine ⟨k + 1, .slice (some ⟨g4, 0, none⟩) (L.length + 1) k4, L ++ [⟨g1, c1, mb⟩], HLT.out, by go_num, by rw [HEQ.out] <;> rfl, by rw [HEQ.out]; have h1 := HQ.out; have h2 := HPP.out; omega, by simpa using set_blk HX5.out 2 (.slice (some ⟨g4, 0, none⟩) (L.length + 1) k4), kc.heap HP5.out (by omega), ?_, ?_, ?_, HK5.out, by simpa using hz5⟩
              · refine OwnCs.kept (w := w5) ?_ kc (fun x e => by omega)
                unfold OwnCs
                have hce : ceVal ⟨g1, c1, mb⟩ = (.slice (some ⟨g1, 0, none⟩) 0 c1) := by unfold ceVal; rw [HSL.out]
                rw [List.map_append, List.length_append]
                show w5.ownsRow _ _ 1 _ (L.length + 1) (L.map ceVal ++ [ceVal ⟨g1, c1, mb⟩])
                rw [hce]
                exact HOO.out
              · exact (HC5.out.keep kc (fun x cur _ hx e => by omega)).snoc (HB5.out.keep kc (by have := HB5.out.base_le; omega))
              · rw [List.map_append, HMd.out, cellsM_succ, HMB.out]
                unfold cellM
                rw [HEQ.out, ← HA.out, ← HPP.out]
                rfl
            case measure =>
              have := HLT.out
              simp [intOf]; omega
          · clear pa
            go_wp2
            have cx2 := cell_blk HXd.out (i := 2) rfl
            have Dw := (Kept.refl (fun _ => False) wd).drew
            have hS0 : wd.drew.cell? ⟨px, 2, none⟩ = some v := (World.cell?_of_block (Dw.block _ (block_lt_of_cell cx2) id)).trans cx2
            refine startL 15 (fun w' => w'.cell? ⟨px, 2, none⟩ = some v) (by kernel_rfl) hS0 (fun hH => ?_)
            simp only [List.length_cons, List.length_nil, List.replicate]
            refine takeL 0 ?_ rfl (by kernel_rfl) (fun _ _ _ h => h) (by rfl) (fun w' hw' => ?_) hH ?_
            rotate_left
            · skip
              go_simp
              all_goals with_reducible rfl
            simp only [Act.put, List.setIfInBounds_toArray, List.set_cons_zero, List.set_cons_succ]
            refine takeL 1 ?_ rfl (by kernel_rfl) (fun _ _ _ h => h) (by rfl) (fun w' hw' => ?_) hH ?_
            rotate_left
            · skip
              go_simp
              all_goals with_reducible rfl
            simp only [Act.put, List.setIfInBounds_toArray, List.set_cons_zero, List.set_cons_succ]
            refine takeL 3 ?_ rfl (by kernel_rfl) (fun _ _ _ h => h) (by rfl) (fun w' hw' => ?_) hH ?_
            rotate_left
            · skip
              go_simp
              all_goals with_reducible rfl
            simp only [Act.put, List.setIfInBounds_toArray, List.set_cons_zero, List.set_cons_succ]
            refine takeL 4 ?_ rfl (by kernel_rfl) (fun _ _ _ h => h) (by rfl) (fun w' hw' => ?_) hH ?_
            rotate_left
            · skip
              go_simp
              all_goals with_reducible rfl
            simp only [Act.put, List.setIfInBounds_toArray, List.set_cons_zero, List.set_cons_succ]
            refine takeL 5 ?_ rfl (by kernel_rfl) (fun _ _ _ h => h) (by rfl) (fun w' hw' => ?_) hH ?_
            rotate_left
            · skip
              go_simp
              all_goals with_reducible rfl
            simp only [Act.put, List.setIfInBounds_toArray, List.set_cons_zero, List.set_cons_succ]
            refine takeL 6 ?_ rfl (by kernel_rfl) (fun _ _ _ h => h) (by rfl) (fun w' hw' => ?_) hH ?_
            rotate_left
            · skip
              go_simp
              all_goals with_reducible rfl
            simp only [Act.put, List.setIfInBounds_toArray, List.set_cons_zero, List.set_cons_succ]
            refine takeL 7 ?_ rfl (by kernel_rfl) (fun _ _ _ h => h) (by rfl) (fun w' hw' => ?_) hH ?_
            rotate_left
            · skip
              go_simp
              all_goals with_reducible rfl
            simp only [Act.put, List.setIfInBounds_toArray, List.set_cons_zero, List.set_cons_succ]
            refine takeL 8 ?_ rfl (by kernel_rfl) (fun _ _ _ h => h) (by rfl) (fun w' hw' => ?_) hH ?_
            rotate_left
            · skip
              go_simp
              all_goals with_reducible rfl
            simp only [Act.put, List.setIfInBounds_toArray, List.set_cons_zero, List.set_cons_succ]
            refine takeL 9 ?_ rfl (by kernel_rfl) (fun _ _ _ h => h) (by rfl) (fun w' hw' => ?_) hH ?_
            rotate_left
            · skip
              go_simp
              all_goals with_reducible rfl
            simp only [Act.put, List.setIfInBounds_toArray, List.set_cons_zero, List.set_cons_succ]
            refine takeL 10 ?_ rfl (by kernel_rfl) (fun _ _ _ h => h) (by rfl) (fun w' hw' => ?_) hH ?_
            rotate_left
            · skip
              go_simp
              all_goals with_reducible rfl
            simp only [Act.put, List.setIfInBounds_toArray, List.set_cons_zero, List.set_cons_succ]
            refine stepL 2 rfl (by kernel_rfl) (fun K hK => ?_)
            go_simp
            have hA2 := (Kept.refl (fun _ => False) wd.drew).alloc (.cells #[] 5)
            have hS2 : (wd.drew.alloc (.cells #[] 5)).cell? ⟨px, 2, none⟩ = some v := (World.cell?_of_block (hA2.block _ (block_lt_of_cell hS0) id)).trans hS0
            refine hK.out _ _ (fun _ => hS2) (fun _ => ?_)
            simp only [Act.put, List.setIfInBounds_toArray, List.set_cons_zero, List.set_cons_succ]
            clear hK K
            refine stepL 11 rfl (by kernel_rfl) (fun K hK => ?_)
            have hN0 : OwnB (wd.drew.alloc (.cells #[] 5)) w2.heap.size wd.drew.heap.size 0 [] := ⟨rfl, .inr ⟨wd.drew.heap.size, 0, #[], rfl, by simpa using hzd, heap_alloc_new wd.drew _, Nat.le_refl _, by decide, rfl, rfl⟩⟩
            have HDA := Lib.hid (Dw.trans0 hA2)
            have hzA : w2.heap.size ≤ (wd.drew.alloc (.cells #[] 5)).heap.size := by have := HDA.out.size; omega
            refine step_appendB rfl _ _ (by rfl) w2.heap.size wd.drew.heap.size 0 [] mb rfl hN0 _ _ (by rw [HSL.out]; rfl) (HRB.out _ HDA.out _ (by first | exact fun _ => rfl | exact fun h => (h trivial).elim)) (by rw [HSL.out, List.length_nil]; omega) hzA ?_
            intro g1 c1 w3 hb1 hk1 hat1 m1
            simp only [List.length_nil, Nat.zero_add, HSL.out, List.nil_append] at hb1 ⊢
            have hdd : wd.drew.heap.size = wd.heap.size := rfl
            have hS3 := (World.cell?_of_block (hk1.block px (block_lt_of_cell hS2) (by omega))).trans hS2
            have HK3 := Lib.hid (HDA.out.new hk1 (fun x e => by omega))
            have HB1 := Lib.hid hb1
            refine hK.out _ _ (fun _ => hS3) (fun _ => ?_)
            simp only [Act.put, List.setIfInBounds_toArray, List.set_cons_zero, List.set_cons_succ]
            clear hK K hdd hb1 hk1 hat1 hA2 hN0 hzA
            refine stepL 12 rfl (by kernel_rfl) (fun K hK => ?_)
            go_simp
            have hA4 := (Kept.refl (fun _ => False) w3).alloc (.cells #[(.slice (some ⟨g1, 0, none⟩) (q - p) c1)] 22)
            have hS4 := (World.cell?_of_block (hA4.block _ (block_lt_of_cell hS3) id)).trans hS3
            have HK4 := Lib.hid (HK3.out.trans0 hA4)
            have HB4 := Lib.hid (HB1.out.kept hA4)
            have HO4 := Lib.hid (HOd.out.kept HK4.out (fun _ h => h.elim))
            have hz4 := HK4.out.size
            have HBK := Lib.hid (fun x (e : v.ownBlock = some x) => HO4.out.blk e)
            refine hK.out _ _ (fun _ => hS4) (fun _ => ?_)
            simp only [Act.put, List.setIfInBounds_toArray, List.set_cons_zero, List.set_cons_succ]
            clear hK K hA4
            refine stepL 13 rfl (by kernel_rfl) (fun K hK => ?_)
            refine step_append rfl _ _ 28 (by rfl) w2.heap.size 22 Tryz.underlying28 infoCs rfl (by omega) v L.length (L.map ceVal) (by rfl) HO4.out w3.heap.size 0 1 1 [(.slice (some ⟨g1, 0, none⟩) (q - p) c1)] (by rfl) rfl (fun j u hu => cell_blk (heap_alloc_new w3 _) (by simpa using hu)) (by simp [Value.oneCell']) (by omega) (by have : maxLen = 9223372036854775807 := rfl; omega) (by omega) (by omega) ?_
            intro g4 k4 w5 ho5 hk5 _ m5
            have hS5 := (World.cell?_of_block (hk5.block px (block_lt_of_cell hS4) (fun e => by have := (HBK.out _ e).1; omega))).trans hS4
            refine hK.out _ _ (fun _ => hS5) (fun _ => ?_)
            simp only [Act.put, List.setIfInBounds_toArray, List.set_cons_zero, List.set_cons_succ]
            clear hK K
            refine takeL 14 ?_ rfl (by kernel_rfl) (fun _ _ _ h => h) (by rfl) (fun w' hw' => ?_) hS5 ?_
            rotate_left
            · skip
              go_simp
              all_goals with_reducible rfl
            simp only [Act.put, List.setIfInBounds_toArray, List.set_cons_zero, List.set_cons_succ]
            have HX5 := Lib.hid (hk5.heap (HK4.out.heap HXd.out id) (fun e => by have := (HBK.out _ e).1; omega))
            have HP5 := Lib.hid (hk5.heap (HK4.out.heap HPd.out id) (fun e => by have := (HBK.out _ e).1; omega))
            have HOO := Lib.hid ho5
            have HK5 := Lib.hid (((HKd.out.trans0 HK4.out).new hk5 (fun x e => by have := (HBK.out _ e).1; omega)).setCell (p := ⟨px, 2, none⟩) (.inl z3) (.slice (some ⟨g4, 0, none⟩) (L.length + 1) k4))
            have HB5 := Lib.hid (HB4.out.keep hk5 (fun e => by
              obtain ⟨-, cur', h'⟩ := HBK.out _ e
              obtain ⟨cur, -, hh, -⟩ := HB4.out.form
              rw [hh] at h'
              cases h'))
            have HC5 := Lib.hid ((HCd.out.keep HK4.out (fun _ _ _ _ h => h.elim)).keep hk5 (fun x cur hx _ e => by
              obtain ⟨-, cur', h'⟩ := HBK.out _ e
              rw [hx] at h'
              cases h'))
            have f5 := free_blk HX5.out 2
            have hz5 : w2.heap.size ≤ w5.heap.size := by have := hk5.size; omega
            clear ho5 hk5
            refine stepL 15 rfl (by kernel_rfl) (fun K hK => ?_)
            go_simp
            refine hK.out _ _ (fun h => absurd rfl h) (fun _ => ?_)
            simp only [Act.put, List.setIfInBounds_toArray, List.set_cons_zero, List.set_cons_succ]
            clear hK K
            refine doneL (by kernel_rfl) ?_ _
            go_wp2
            go_roundw
            case rel =>
              have kc := Kept.cell w5 px 2 (.slice (some ⟨g4, 0, none⟩) (L.length + 1) k4)
              refine ⟨k + 1, .slice (some ⟨g4, 0, none⟩) (L.length + 1) k4, L ++ [⟨g1, c1, mb⟩], HLT.out, by go_num, by rw [HEQ.out] <;> rfl, by rw [HEQ.out]; have h1 := HQ.out; have h2 := HPP.out; omega, by simpa using set_blk HX5.out 2 (.slice (some ⟨g4, 0, none⟩) (L.length + 1) k4), kc.heap HP5.out (by omega), ?_, ?_, ?_, HK5.out, by simpa using hz5⟩
              · refine OwnCs.kept (w := w5) ?_ kc (fun x e => by omega)
                unfold OwnCs
                have hce : ceVal ⟨g1, c1, mb⟩ = (.slice (some ⟨g1, 0, none⟩) (q - p) c1) := by unfold ceVal; rw [HSL.out]
                rw [List.map_append, List.length_append]
                show w5.ownsRow _ _ 1 _ (L.length + 1) (L.map ceVal ++ [ceVal ⟨g1, c1, mb⟩])
                rw [hce]
                exact HOO.out
              · exact (HC5.out.keep kc (fun x cur _ hx e => by omega)).snoc (HB5.out.keep kc (by have := HB5.out.base_le; omega))
              · rw [List.map_append, HMd.out, cellsM_succ, HMB.out]
                unfold cellM
                rw [HEQ.out, ← HA.out, ← HPP.out]
                rfl
            case measure =>
              have := HLT.out
              simp [intOf]; omega
    · have hge : ¬ ((k : Int) < ((bAt l 1).toNat : Int)) := by omega
      have hkc : k = (bAt l 1).toNat := by omega
      have HKC := Lib.hid hkc
      obtain ⟨a, ha⟩ : ∃ a, a = placeM l k := ⟨_, rfl⟩
      rw [← ha] at hpl6 ⊢
      have HA := Lib.hid ha
      obtain ⟨G, cap, rfl, -⟩ := HO.out.view
      have hwr : True := trivial
      clear hkc ha hlt
      go_wp2
      go_loopw [5] (fun at_ wq => ∃ j : Nat, a ≤ j ∧ j ≤ 512 ∧ at_ = .int .i64 j ∧ (∀ i, a ≤ i → i < j → bAt l i = 0) ∧ wq = wr) (fun at_ _ => 512 - (intOf at_).toNat)
      case atStart => exact ⟨a, Nat.le_refl _, hpl6, rfl, fun i h1 h2 => by omega, rfl⟩
      case round =>
        rename_i _ wq
        obtain ⟨j, hj1, hj2, rfl, hz0, rfl⟩ := hrel
        have HZ := Lib.hid hz0
        clear hz0
        by_cases hj : j < 512
        · obtain ⟨y1, y2, hy, rj⟩ := HR.out.cell (k := j) (by rw [HL.out]; omega)
          cases hy
          have i0 : (0 : Int) ≤ (j : Int) := by omega
          have i1 : (j : Int) < 512 := by omega
          by_cases hb : bAt l j = 0
          · have hq : (((bAt l j).toNat : Int) != 0) = false := by rw [hb]; rfl
            have HBZ := Lib.hid hb
            clear hb
            go_wp2
            go_roundw
            case rel =>
              refine ⟨j + 1, by omega, by omega, by go_num, fun i h1 h2 => ?_, by trivial⟩
              by_cases e : i = j
              · subst e; exact HBZ.out
              · exact HZ.out i h1 (by omega)
            case measure => simp [intOf]; omega
          · have hq : (((bAt l j).toNat : Int) != 0) = true := by
              rw [bne_iff_ne]; intro e; exact hb (UInt8.toNat_inj.1 (by simpa using e))
            have hE : endM l = 0 := by
              refine endM_zero_rest ?_
              rw [Bool.eq_false_iff]
              intro h
              rw [← HKC.out, ← HA.out, allZ_iff] at h
              have := h (j - a) (by rw [List.length_drop, HL.out]; omega)
              rw [bAt_dropped, show a + (j - a) = j by omega] at this
              exact hb this
            have HE := Lib.hid hE
            clear hb hE
            go_wp2_with (refine wl_store_row rfl 74 _ _ rfl pr zPage zPage rfl rfl HPR.out infoPg rfl one_zPage ?_)
            intro w5 hp5 hk5
            have HP5 := Lib.hid hp5
            have HK5 := Lib.hid (HK.out.new hk5 (fun x e => by omega))
            clear hp5 hk5
            go_wp2
            try simp only [Exit.inBlock, Exit.then]
            refine bodyPost_ret (results_cell_row2 rfl _ _ pr zPage rfl HP5.out Tryz.underlying74 rfl infoPg) rfl ?_
            exact ⟨HK5.out, .inl ⟨HE.out, rfl⟩⟩
        · have hj3 : j = 512 := by omega
          subst hj3
          have hge2 : ¬ ((512 : Int) < 512) := by omega
          have hE : endM l = placeM l (bAt l 1).toNat := by
            refine endM_ok HL.out (by rw [← HKC.out]; exact HPL.out) ?_
            rw [← HKC.out, ← HA.out, allZ_iff]
            intro i hi
            rw [List.length_drop, HL.out] at hi
            rw [bAt_dropped]
            exact HZ.out _ (by omega) (by omega)
          have HE := Lib.hid (show endM l ≠ 0 from by rw [hE, ← HKC.out]; exact HPL.out)
          clear hE
          go_wp2_with (first
            | refine wl_load_row rfl 74 _ rfl px rfl #[.int .u8 (bAt l 0).toNat, .int .i64 (nextM l), .slice G L.length cap] HX.out Tryz.underlying74 rfl (by kernel_rfl) ?_
            | refine wl_store_row rfl 74 _ _ rfl pr #[.int .u8 (bAt l 0).toNat, .int .i64 (nextM l), .slice G L.length cap] zPage rfl rfl HPR.out (by kernel_rfl) rfl (by simp [Value.oneCell']) ?_)
          intro w5 hp5 hk5
          have HP5 := Lib.hid hp5
          have HK5 := Lib.hid (HK.out.new hk5 (fun x e => by omega))
          have HO5 := Lib.hid (HO.out.kept hk5 (fun x e => by omega))
          have HC5 := Lib.hid (HC.out.keep hk5 (fun x cur _ _ e => by omega))
          have hw2 : w.heap.size ≤ w2.heap.size := by omega
          clear hp5 hk5
          go_wp2
          try simp only [Exit.inBlock, Exit.then]
          refine bodyPost_ret (results_cell_row2 rfl _ _ pr _ rfl HP5.out Tryz.underlying74 rfl (by kernel_rfl)) rfl ?_
          exact ⟨HK5.out, .inr ⟨HE.out, _, L, rfl, HO5.out.low hw2, HC5.out.low hw2, by rw [HM.out, HKC.out]⟩⟩
set_option maxRecDepth 200000 in
theorem ofNone (A : Option Addr) (c n : Nat) (w : World) (hn : n ≠ 512) :
    Calls Tryz.prog 61 #[.slice A n c] w fun e w' => Kept (fun _ => False) w w' ∧ e = .returned (.tuple #[.agg zPage, .bool false]) := by
  have hne : ((n : Int) != 512) = true := by rw [bne_iff_ne]; omega
  go_enter Tryz.func61, Tryz.ntmps61
  go_wp2_with (refine wl_alloc' rfl 74 rfl zPage (fun _ => rfl) ?_)
  intro pr w1 npr mpr hpr kpr
  have HP := Lib.hid hpr
  have K1 := Lib.hid kpr
  clear hpr kpr
  go_wp2_with (refine wl_store_row rfl 74 _ _ rfl pr zPage zPage rfl rfl HP.out infoPg rfl one_zPage ?_)
  intro w5 hp5 hk5
  have HP5 := Lib.hid hp5
  have HK5 := Lib.hid (K1.out.new hk5 (fun x e => by omega))
  clear hp5 hk5
  go_wp2
  try simp only [Exit.inBlock, Exit.then]
  refine bodyPost_ret (results_cell_row2 rfl _ _ pr zPage rfl HP5.out Tryz.underlying74 rfl infoPg) rfl ?_
  exact ⟨HK5.out, rfl⟩
theorem of_any (A : Option Addr) (c : Nat) (l : Bytes) (w : World) (h : RdB w A l) (hc : l.length ≤ c) (hc2 : c ≤ 9223372036854775807) :
    Calls Tryz.prog 61 #[.slice A l.length c] w fun e w' => Kept (fun _ => False) w w' ∧ ((endM l = 0 ∧ e = .returned (.tuple #[.agg zPage, .bool false])) ∨
      (endM l ≠ 0 ∧ ∃ v L, e = .returned (.tuple #[.agg #[.int .u8 (bAt l 0).toNat, .int .i64 (nextM l), v], .bool true]) ∧ OwnCs w' w.heap.size v L ∧ CsAt w' w.heap.size L ∧ L.map (fun s => s.b) = cellsM l (bAt l 1).toNat)) := by
  by_cases hl : l.length = 512
  · rw [hl]
    exact of512 A c l w h hl (by omega) hc2
  · refine (ofNone A c l.length w hl).mono ?_
    rintro e w' ⟨hk, rfl⟩
    exact ⟨hk, .inl ⟨endM_zero_len hl, rfl⟩⟩
end Go.Proofs.YtndflnedkpmpfaaGreatDoor
