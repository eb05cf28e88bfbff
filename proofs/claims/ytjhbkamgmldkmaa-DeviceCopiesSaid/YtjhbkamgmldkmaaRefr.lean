/-
  No statement is proved here: the contract of the document's device: Read.
-/
import Derived.Test.YtjhbkamgmldkmaaRef
import Derived.Test.YtjhbkamgmldkmaaLawa
namespace Go.Proofs.Ytjhbkamgmldkmaa
open Go.RowKit

section
variable {w w' : World} {q : Nat} {M I : Nat → Prop} {R : RefM} {v : Value} {cs : List RowC}
def RefM.mayE' (R : RefM) (n : Int) : Int := R.mayE n
theorem findM_cases (l : List RowM) (n : Int) : (findM l n = -1 ∧ l.find? (fun r => r.n == n) = none) ∨ ∃ (k : Nat) (r : RowM), findM l n = k ∧ l[k]? = some r ∧ r.n = n ∧ l.find? (fun r => r.n == n) = some r := by
  cases h : l.findIdx? (fun r => r.n == n) with
  | none =>
    refine .inl ⟨by unfold findM; rw [h], ?_⟩
    rw [List.findIdx?_eq_none_iff] at h
    rw [List.find?_eq_none]
    intro r hr
    have := h r hr
    simpa using this
  | some k =>
    have h2 := h
    rw [List.findIdx?_eq_some_iff_getElem] at h2
    obtain ⟨hk, hp, hno⟩ := h2
    refine .inr ⟨k, l[k], by unfold findM; rw [h], by simp [hk], by simpa using hp, ?_⟩
    rw [List.find?_eq_some_iff_getElem]
    exact ⟨hp, k, hk, rfl, fun j hj => by have := hno j hj; simpa using this⟩
def latR (l : List RowM) (n : Int) : Bytes := ((l.find? (fun r => r.n == n)).map RowM.latest).getD (zeros 512)
theorem latR_no {l : List RowM} {n : Int} (h : l.find? (fun r => r.n == n) = none) : latR l n = zeros 512 := by simp [latR, h]
theorem latR_at {l : List RowM} {n : Int} {r : RowM} (h : l.find? (fun r => r.n == n) = some r) : latR l n = r.latest := by simp [latR, h]
theorem OwnB.made {w : World} {g base : Nat} {l : Bytes} (h : w.heap[g]? = some (.cells (cellsOf l) 5 (0, 0))) (hb : base ≤ g) (hl : l.length ≤ maxLen) : OwnB w base g l.length l :=
  ⟨by rw [cellsOf_len, Nat.mul_one], .inr ⟨g, l.length, cellsOf l, rfl, hb, h, Nat.le_refl _, hl, by rw [size_cellsOf, Nat.mul_one], by rw [List.take_of_length_le (by rw [cellsOf_len, Nat.mul_one]; exact Nat.le_refl _)]⟩⟩

set_option maxHeartbeats 400000 in
theorem rread_no (h : RefP w q M I R v cs) (n : Int) (hm : R.mayE n ≠ 0) :
    Calls Try.prog 42 #[.pointer (some ⟨q, 0, none⟩), .int .i64 n] w fun e w' => e = .returned (.tuple #[.slice none 0 0, .int .i64 (R.mayE n)]) ∧ w = w' := by
  have c0 : w.cell? ⟨q, 0, none⟩ = some (.int .i64 R.n) := cell_blk h.hq rfl
  have c3 : w.cell? ⟨q, 3, none⟩ = some (.bool R.off) := cell_blk h.hq rfl
  clear h
  unfold RefM.mayE at *
  cases hd : R.off
  · rw [hd] at c3 hm
    simp only [Bool.false_eq_true, if_false] at hm ⊢
    by_cases h6 : n < 0 ∨ R.n ≤ n
    · rw [if_pos h6]
      clear hm
      by_cases hn : n < 0
      · clear h6
        go_enter Try.func42, Try.ntmps42
        go_wp2
        go_ret2
        exact ⟨rfl, rfl⟩
      · have h7 : R.n ≤ n := by omega
        clear h6
        go_enter Try.func42, Try.ntmps42
        go_wp2
        go_ret2
        exact ⟨rfl, rfl⟩
    · rw [if_neg h6] at hm; exact absurd rfl hm
  · rw [hd] at c3
    simp only [if_true]
    clear hm
    go_enter Try.func42, Try.ntmps42
    go_wp2
    go_ret2
    exact ⟨rfl, rfl⟩
set_option maxHeartbeats 800000 in
theorem rread_ok (h : RefP w q M I R v cs) (n : Int) (hm : R.mayE n = 0) :
    Calls Try.prog 42 #[.pointer (some ⟨q, 0, none⟩), .int .i64 n] w fun e w' => ∃ g cap, e = .returned (.tuple #[.slice (some ⟨g, 0, none⟩) 512 cap, .int .i64 0]) ∧ OwnB w' w.heap.size g cap (latR R.rows n) ∧ Kept (fun _ => False) w w' := by
  have c0 : w.cell? ⟨q, 0, none⟩ = some (.int .i64 R.n) := cell_blk h.hq rfl
  have c3 : w.cell? ⟨q, 3, none⟩ = some (.bool R.off) := cell_blk h.hq rfl
  have HF := Lib.hid (rfind_any h n)
  have H := Lib.hid h
  clear h
  unfold RefM.mayE at hm
  have hd : R.off = false := by
    cases hd : R.off
    · rfl
    · rw [hd] at hm; simp at hm
  rw [hd] at hm c3
  simp only [Bool.false_eq_true, if_false] at hm
  have h6 : ¬ (n < 0 ∨ R.n ≤ n) := by intro h; rw [if_pos h] at hm; cases hm
  have h7 : ¬ n < 0 := by omega
  have h8 : ¬ R.n ≤ n := by omega
  clear hm hd h6
  rcases findM_cases R.rows n with ⟨e1, e2⟩ | ⟨k, r, e1, hr, hn, e2⟩
  · rw [e1] at HF
    have HL := Lib.hid (latR_no e2)
    clear e1 e2
    go_enter Try.func42, Try.ntmps42
    go_wp2_with (first
      | (go_at_call 49; refine HF.out.mono ?_; rintro e w' ⟨rfl, rfl⟩)
      | refine wl_makeB rfl _ _ rfl .i64 .i64 512 512 rfl rfl (Nat.le_refl _) (by decide) ?_)
    intro g w2 n2 m2 hb2 hk2
    have HB := Lib.hid hb2
    have HK := Lib.hid hk2
    clear hb2 hk2
    go_wp2
    go_ret2
    refine ⟨g, 512, rfl, ?_, HK.out⟩
    rw [HL.out]
    have := OwnB.made HB.out n2 (by rw [len_zeros]; decide)
    rw [len_zeros] at this
    exact this
  · rw [e1] at HF
    have HL := Lib.hid (latR_at e2)
    obtain ⟨A, cap, rfl, hA⟩ := row_form H.out.own
    have hlt : k < cs.length := by rw [H.out.len]; exact (List.getElem?_eq_some_iff.1 hr).1
    obtain ⟨g, rfl⟩ := hA (by omega)
    have hck : cs[k]? = some cs[k] := by simp [hlt]
    obtain ⟨hl, g2, cap2, elv, hi2, hc2⟩ := (H.out.rows k _ _ hck hr).2.2.1
    have cl : w.cell? ⟨g, k * 4 + 1, none⟩ = some cs[k].lv := H.out.cell (f := 1) hck (by omega) rfl
    rw [elv] at cl
    have c1 : w.cell? ⟨q, 1, none⟩ = some (.slice (some ⟨g, 0, none⟩) cs.length cap) := cell_blk H.out.hq rfl
    have i0 : (0 : Int) ≤ (k : Int) := by omega
    have i1 : (k : Int) < (cs.length : Int) := by omega
    have HX := Lib.hid hl
    have HC := Lib.hid hc2
    have HC1 := Lib.hid c1
    have HCL := Lib.hid cl
    have l1 := block_lt_of_cell c1
    have l2 := block_lt_of_cell cl
    simp only at l1 l2
    clear e1 e2 hr hn hck hl elv hi2 hc2 hA c1 cl
    go_enter Try.func42, Try.ntmps42
    go_wp2_with (first
      | (go_at_call 49; refine HF.out.mono ?_; rintro e w' ⟨rfl, rfl⟩)
      | refine wl_buildSlice0 rfl 35 5 rfl Try.underlying35 (by kernel_rfl) ?_)
    intro g4 w4 n4 m4 hb4 hk4
    have d1 := (World.cell?_of_block (hk4.block q l1 id)).trans HC1.out
    have d2 := (World.cell?_of_block (hk4.block g l2 id)).trans HCL.out
    have o4 : w4.ownsRow w.heap.size 5 1 (.slice (some ⟨g4, 0, none⟩) 0 0) 0 [] := ⟨rfl, .inr ⟨g4, 0, #[], rfl, n4, hb4, by omega, by decide, rfl, rfl⟩⟩
    have ho4 := Lib.hid o4
    have hc4 := Lib.hid (show ∀ (j : Nat) (u : Value), (cellsOf r.latest)[j]? = some u → w4.cell? ⟨g2, 0 + j, none⟩ = some u from fun j u hu => by
      have h1 := HC.out j u hu
      exact (World.cell?_of_block (hk4.block g2 (block_lt_of_cell h1) id)).trans h1)
    have hk4' := Lib.hid hk4
    clear hk4 hb4 o4
    go_wp2_with (at_builtin; refine wl_append rfl _ _ 35 rfl w.heap.size 5 Try.underlying35 info5 rfl (by omega) (.slice (some ⟨g4, 0, none⟩) 0 0) 0 [] rfl ho4.out g2 0 512 cap2 (cellsOf r.latest).toList rfl (by rw [cellsOf_len, HX.out]) (fun j u hu => hc4.out j u (by simpa using hu)) (fun u hu => (Array.all_eq_true_iff_forall_mem.1 (one_cellsOf r.latest)) u (by simpa using hu)) (by omega) (by decide) (by decide) hk4'.out.size ?_)
    intro g5 cap5 w5 ho5 hk5 hat m5
    have HO := Lib.hid ho5
    have HK5 := Lib.hid hk5
    clear ho5 hk5
    go_wp2
    go_ret2
    have e5 : (0 : Nat) + 512 = r.latest.length := by rw [HX.out]
    refine ⟨g5, cap5, rfl, ?_, hk4'.out.trans HK5.out ?_⟩
    · rw [HL.out]
      have := HO.out
      unfold OwnB
      rw [← e5]
      simpa using this
    · intro x hx e; simp [Value.ownBlock] at e; omega
end
end Go.Proofs.Ytjhbkamgmldkmaa
