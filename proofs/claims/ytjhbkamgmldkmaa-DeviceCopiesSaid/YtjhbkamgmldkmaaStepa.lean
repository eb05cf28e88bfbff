/-
  No statement is proved here: what the document's Write does, and what the bytes of a step are.
-/
import Derived.Test.YtjhbkamgmldkmaaSim
import Derived.Test.YtjhbkamgmldkmaaLentf
import Derived.Test.YtjhbkamgmldkmaaSec
namespace Go.Proofs.Ytjhbkamgmldkmaa
open Go.RowKit

section
variable {w w' : World} {q : Nat} {M I : Nat → Prop} {R : RefM} {v : Value} {cs : List RowC}
set_option maxHeartbeats 400000 in
theorem rwrite_no (h : RefP w q M I R v cs) (n : Int) (hm : R.mayE n ≠ 0) (x : Value) :
    Calls Try.prog 37 #[.pointer (some ⟨q, 0, none⟩), .int .i64 n, x] w fun e w' => e = .returned (.int .i64 (R.mayE n)) ∧ w = w' := by
  have c0 : w.cell? ⟨q, 0, none⟩ = some (.int .i64 R.n) := cell_blk h.hq rfl
  have c3 : w.cell? ⟨q, 3, none⟩ = some (.bool R.off) := cell_blk h.hq rfl
  clear h
  unfold RefM.mayE at *
  cases hd : R.off
  · rw [hd] at c3 hm
    simp only [Bool.false_eq_true, if_false] at hm ⊢
    by_cases h6 : n < 0 ∨ R.n ≤ n
    · rw [if_pos h6]
      clear hm
      by_cases hn : n < 0
      · clear h6
        go_enter Try.func37, Try.ntmps37
        go_wp2
        go_ret
        exact ⟨rfl, rfl⟩
      · have h7 : R.n ≤ n := by omega
        clear h6
        go_enter Try.func37, Try.ntmps37
        go_wp2
        go_ret
        exact ⟨rfl, rfl⟩
    · rw [if_neg h6] at hm; exact absurd rfl hm
  · rw [hd] at c3
    simp only [if_true]
    clear hm
    go_enter Try.func37, Try.ntmps37
    go_wp2
    go_ret
    exact ⟨rfl, rfl⟩
set_option maxHeartbeats 400000 in
theorem rwrite_arg (h : RefP w q M I R v cs) (n : Int) (hm : R.mayE n = 0) (A : Option Addr) (k c : Nat) (hk : k ≠ 512) :
    Calls Try.prog 37 #[.pointer (some ⟨q, 0, none⟩), .int .i64 n, .slice A k c] w fun e w' => e = .returned (.int .i64 2) ∧ w = w' := by
  have c0 : w.cell? ⟨q, 0, none⟩ = some (.int .i64 R.n) := cell_blk h.hq rfl
  have c3 : w.cell? ⟨q, 3, none⟩ = some (.bool R.off) := cell_blk h.hq rfl
  clear h
  have ho := mayE_up hm
  rw [ho] at c3
  have h6 : ¬ (n < 0 ∨ R.n ≤ n) := by
    intro h
    unfold RefM.mayE at hm
    rw [ho] at hm
    simp only [Bool.false_eq_true, if_false] at hm
    rw [if_pos h] at hm; cases hm
  have h7 : ¬ n < 0 := by omega
  have h8 : ¬ R.n ≤ n := by omega
  have hne : ((k : Int) != 512) = true := by rw [bne_iff_ne]; omega
  clear hm ho h6 hk
  go_enter Try.func37, Try.ntmps37
  go_wp2
  go_ret
  exact ⟨rfl, rfl⟩
theorem rwrite_any (h : RefAt w q M I R) (n : Int) (hrl : R.rows.length ≤ 1000000) (A : Option Addr) (c : Nat) (l : Bytes) (hl : RdB w A l) (hbM : ∀ b off, A = some ⟨b, off, none⟩ → ¬ M b) :
    Calls Try.prog 37 #[.pointer (some ⟨q, 0, none⟩), .int .i64 n, .slice A l.length c] w fun e w' =>
      ∃ R' M' I' x, RW R n l x R' ∧ e = .returned (.int .i64 x) ∧ RefAt w' q M' I' R' ∧ Kept M w w' ∧ (∀ y, M' y → M y ∨ w.heap.size ≤ y) ∧ (∀ y, I' y → I y ∨ w.heap.size ≤ y) := by
  obtain ⟨v, cs, h⟩ := h
  by_cases hm : R.mayE n = 0
  · by_cases h5 : l.length = 512
    · obtain ⟨b, off, rfl, hc⟩ := hl (by intro e; simp [e] at h5)
      rw [h5]
      refine (rwrite_ok h n hm (by rw [h.len]; exact hrl) b off c l h5 hc (hbM b off rfl)).mono ?_
      rintro e w' ⟨R', M', I', h1, h2, h3, h4, h6, h7⟩
      exact ⟨R'.crash, M', I', _, .inr (.inr ⟨hm, h5, R', h1, rfl, rfl⟩), h2, h3, h4, h6, h7⟩
    · refine (rwrite_arg h n hm A l.length c h5).mono ?_
      rintro e w' ⟨rfl, rfl⟩
      exact ⟨R, M, I, 2, .inr (.inl ⟨hm, h5, rfl, rfl⟩), rfl, ⟨v, cs, h⟩, Kept.refl _ _, fun _ h => .inl h, fun _ h => .inl h⟩
  · refine (rwrite_no h n hm _).mono ?_
    rintro e w' ⟨rfl, rfl⟩
    exact ⟨R, M, I, _, .inl ⟨hm, rfl, rfl⟩, rfl, ⟨v, cs, h⟩, Kept.refl _ _, fun _ h => .inl h, fun _ h => .inl h⟩
end

/-- What a step writes. -/
def DoM.bytesM (x : DoM) : Bytes := if x.n.tmod 7 = 3 then (fullB x.byte).take (pickM x.n 512).toNat else fullB x.byte
theorem bytesM_len (x : DoM) : x.bytesM.length ≤ 512 := by
  unfold DoM.bytesM
  split
  · simp; rw [len_fullB]; omega
  · rw [len_fullB]; omega
def DoM.val (x : DoM) (FA : Option Addr) (c : Nat) : Value := .agg #[.int .i64 x.op, .int .i64 x.blk, .int .i64 x.n, .int .u8 x.byte.toNat, .slice FA x.fates.length c]

set_option maxHeartbeats 400000 in
theorem bytes_any (x : DoM) (FA : Option Addr) (c : Nat) (w : World) :
    Calls Try.prog 35 #[x.val FA c] w fun e w' => ∃ g cap, e = .returned (.slice (some ⟨g, 0, none⟩) x.bytesM.length cap) ∧ w.heap.size ≤ g ∧ RdB w' (some ⟨g, 0, none⟩) x.bytesM ∧ Kept (fun _ => False) w w' := by
  unfold DoM.val
  cases hb : (x.n.tmod 7 == 3)
  · have e : x.bytesM = fullB x.byte := by unfold DoM.bytesM; rw [if_neg (by simpa using hb)]
    rw [e, len_fullB]
    clear e
    go_enter Try.func35, Try.ntmps35
    go_wp2_with (refine wl_box rfl _ _ rfl (.agg #[.int .i64 x.op, .int .i64 x.blk, .int .i64 x.n, .int .u8 x.byte.toNat, .slice FA x.fates.length c]) rfl ?_)
    intro g1 w1 n1 m1 hb1 hk1
    have c2 : w1.cell? ⟨g1, 2, none⟩ = some (.int .i64 x.n) := cell_blk hb1 rfl
    have c3 : w1.cell? ⟨g1, 3, none⟩ = some (.int .u8 x.byte.toNat) := cell_blk hb1 rfl
    go_wp2_with fail
    refine (full_any x.byte _).mono ?_
    rintro e w2 ⟨g2, rfl, n2, hb2, hk2⟩
    have d2 := (World.cell?_of_block (hk2.block g1 m1 id)).trans c2
    go_wp2
    go_ret
    exact ⟨g2, 512, rfl, by have := hk1.size; omega, RdB.of_blk hb2, hk1.trans0 hk2⟩
  · have h3 : x.n.tmod 7 = 3 := by simpa using hb
    have hp := pickM_lt (x := x.n) (n := 512) (by omega)
    have hT := Lib.hid (show x.bytesM = (fullB x.byte).take (pickM x.n 512).toNat by unfold DoM.bytesM; rw [if_pos h3])
    have hL : x.bytesM.length = (pickM x.n 512).toNat := by rw [hT.out, List.length_take, len_fullB]; omega
    rw [hL]
    obtain ⟨k, hk⟩ : ∃ k : Nat, pickM x.n 512 = (k : Int) := ⟨_, (Int.toNat_of_nonneg hp.1).symm⟩
    have HK := Lib.hid hk
    have k5 : (k : Int) < 512 := by omega
    have k0 : (0 : Int) ≤ (k : Int) := by omega
    have HP := Lib.hid (fun w => pick_any x.n 512 (by omega) w)
    rw [hk] at HP
    rw [hk, Int.toNat_natCast]
    clear hp hL h3 hk
    go_enter Try.func35, Try.ntmps35
    go_wp2_with (refine wl_box rfl _ _ rfl (.agg #[.int .i64 x.op, .int .i64 x.blk, .int .i64 x.n, .int .u8 x.byte.toNat, .slice FA x.fates.length c]) rfl ?_)
    intro g1 w1 n1 m1 hb1 hk1
    have c2 : w1.cell? ⟨g1, 2, none⟩ = some (.int .i64 x.n) := cell_blk hb1 rfl
    have c3 : w1.cell? ⟨g1, 3, none⟩ = some (.int .u8 x.byte.toNat) := cell_blk hb1 rfl
    go_wp2_with fail
    refine (full_any x.byte _).mono ?_
    rintro e w2 ⟨g2, rfl, n2, hb2, hk2⟩
    have d2 := (World.cell?_of_block (hk2.block g1 m1 id)).trans c2
    go_wp2_with (go_at_call 11; refine (HP.out _).mono ?_; rintro e wx ⟨rfl, rfl⟩)
    go_ret
    refine ⟨g2, 512, rfl, by have := hk1.size; omega, ?_, hk1.trans0 hk2⟩
    rw [hT.out]
    intro hne
    refine ⟨g2, 0, rfl, fun j u hu => ?_⟩
    have hj := (Array.getElem?_eq_some_iff.1 hu).1
    rw [size_cellsOf, List.length_take, len_fullB] at hj
    rw [Nat.zero_add]
    refine cell_blk hb2 ?_
    rw [cellsOf_get] at hu ⊢
    rw [List.getElem?_take, if_pos (by omega)] at hu
    exact hu
end Go.Proofs.Ytjhbkamgmldkmaa
