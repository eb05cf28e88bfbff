/-
  No statement is proved here: what Delete and SetNext make of a page, as cells.
-/
import Derived.Test.YtndflnedkpmpfaaDoorPgq
namespace Go.Proofs.YtndflnedkpmpfaaDoor
open Go.RowKit

def del1 (l : Bytes) (a b : Nat) : Bytes := over l a ((l.take (endM l)).drop b)
def del2 (l : Bytes) (a b : Nat) : Bytes := over (del1 l a b) (a + (endM l - b)) (zeros (endM l - (a + (endM l - b))))
def deleteM (l : Bytes) (s : Int) : Bool × Bytes :=
  if s < 0 ∨ (countM l : Int) ≤ s then (false, l) else
    (true, (del2 l (placeM l s.toNat) (afterM l (placeM l s.toNat))).set 1 (bAt (del2 l (placeM l s.toNat) (afterM l (placeM l s.toNat))) 1 - 1))
def be4 (x : Nat) : Bytes := [UInt8.ofNat (x / 16777216), UInt8.ofNat (x / 65536), UInt8.ofNat (x / 256), UInt8.ofNat x]
def setNextM (l : Bytes) (x : Int) : Bool × Bytes := if endM l = 0 ∨ x < 0 ∨ 4294967296 ≤ x then (false, l) else (true, over l 2 (be4 x.toNat))
theorem setNextM_Pg {k : UInt8} {n : Nat} {cs : List Bytes} (h : PgOk n cs) (x : Int) : setNextM (Pg k n cs) x = if x < 0 ∨ 4294967296 ≤ x then (false, Pg k n cs) else (true, Pg k x.toNat cs) := by
  have hE := Pg_end (k := k) h
  unfold setNextM
  by_cases h1 : x < 0 ∨ 4294967296 ≤ x
  · rw [if_pos (.inr h1), if_pos h1]
  · rw [if_neg (by rw [hE]; omega), if_neg h1]
    congr 1
    have hL := Pg_len (k := k) (n := n) h.room
    have hL' := Pg_len (k := k) (n := x.toNat) h.room
    have hb : (be4 x.toNat).length = 4 := rfl
    refine bytes_ext (by rw [over_len (by rw [hL]; omega), hL, hL']) fun j hj => ?_
    rw [over_len (by rw [hL]; omega), hL] at hj
    rw [bAt_over (by rw [hL, hb]; omega) (by rw [hL]; exact hj), hb]
    unfold Pg
    rw [List.append_assoc, List.append_assoc, bAt_app (hdr k cs.length n), bAt_app (hdr k cs.length x.toNat), hdr_len, hdr_len]
    by_cases h6 : j < 6
    · rw [if_pos h6, if_pos h6]
      match j, h6 with
      | 0, _ => rfl
      | 1, _ => rfl
      | 2, _ => rfl
      | 3, _ => rfl
      | 4, _ => rfl
      | 5, _ => rfl
    · rw [if_neg h6, if_neg h6, if_neg (by omega)]
theorem del2_len {l : Bytes} {a b : Nat} (hl : endM l ≤ l.length) (h1 : a ≤ b) (h2 : b ≤ endM l) : (del1 l a b).length = l.length ∧ (del2 l a b).length = l.length := by
  have e1 : (del1 l a b).length = l.length := over_len (by omega)
  refine ⟨e1, ?_⟩
  unfold del2
  rw [over_len (by rw [e1]; omega), e1]
theorem bAt_del2 {l : Bytes} {a b : Nat} (hl : endM l ≤ l.length) (h1 : a ≤ b) (h2 : b ≤ endM l) {j : Nat} (hj : j < l.length) :
    bAt (del2 l a b) j = if a + (endM l - b) ≤ j ∧ j < endM l then 0 else if a ≤ j ∧ j < a + (endM l - b) then bAt l (b + (j - a)) else bAt l j := by
  obtain ⟨e1, -⟩ := del2_len hl h1 h2
  have hml : ((l.take (endM l)).drop b).length = endM l - b := by rw [List.length_drop, List.length_take]; omega
  unfold del2
  rw [bAt_over (by rw [e1, len_zeros']; omega) (by rw [e1]; exact hj), len_zeros']
  by_cases g1 : a + (endM l - b) ≤ j ∧ j < endM l
  · rw [if_pos (by omega), if_pos g1, bAt_z]
  · rw [if_neg (by omega), if_neg g1]
    unfold del1
    rw [bAt_over (by rw [hml]; omega) hj, hml]
    by_cases g2 : a ≤ j ∧ j < a + (endM l - b)
    · rw [if_pos g2, if_pos g2, bAt_part (by omega)]
    · rw [if_neg g2, if_neg g2]
theorem deleteM_Pg {k : UInt8} {n : Nat} {cs : List Bytes} (h : PgOk n cs) (s : Int) :
    deleteM (Pg k n cs) s = if s < 0 ∨ (cs.length : Int) ≤ s then (false, Pg k n cs) else (true, Pg k n (cs.take s.toNat ++ cs.drop (s.toNat + 1))) := by
  have hE := Pg_end (k := k) h
  have hE0 : endM (Pg k n cs) ≠ 0 := by omega
  have hL := Pg_len (k := k) (n := n) h.room
  have hC : countM (Pg k n cs) = cs.length := by rw [countM_ok hE0, Pg_cnt h.cnt]
  unfold deleteM
  rw [hC]
  by_cases h1 : s < 0 ∨ (cs.length : Int) ≤ s
  · rw [if_pos h1, if_pos h1]
  · rw [if_neg h1, if_neg h1]
    obtain ⟨i, rfl⟩ : ∃ i : Nat, s = i := ⟨s.toNat, by omega⟩
    rw [Int.toNat_natCast]
    have hi : i < cs.length := by omega
    have hP := Pg_place (k := k) h (show i ≤ cs.length by omega)
    have hP1 := Pg_place (k := k) h (show i + 1 ≤ cs.length by omega)
    have hnx : afterM (Pg k n cs) (placeM (Pg k n cs) i) = placeM (Pg k n cs) (i + 1) := (placeM_next (by rw [hP]; omega)).symm
    rw [hnx, hP, hP1]
    congr 1
    have hsp : cs = cs.take i ++ (cs[i] :: cs.drop (i + 1)) := by rw [← List.drop_eq_getElem_cons hi, List.take_append_drop]
    have het := encs_take_succ hi
    have hs3 := encs_split hi
    have hes : (encs cs).length = (encs (cs.take i)).length + (cs[i].length + 2) + (encs (cs.drop (i + 1))).length := by
      conv => lhs; rw [hs3]
      rw [List.length_append, List.length_append, enc_len]; omega
    have het' : (encs (cs.take (i + 1))).length = (encs (cs.take i)).length + (cs[i].length + 2) := by rw [het, List.length_append, enc_len]
    have hcc := h.cnt
    have hl' : (cs.take i ++ cs.drop (i + 1)).length + 1 = cs.length := by
      rw [List.length_append, List.length_take, List.length_drop]; omega
    have hes' : (encs (cs.take i ++ cs.drop (i + 1))).length = (encs (cs.take i)).length + (encs (cs.drop (i + 1))).length := by
      rw [encs_app, List.length_append]
    have hr := h.room
    have hL' := Pg_len (k := k) (n := n) (cs := cs.take i ++ cs.drop (i + 1)) (by rw [hes']; omega)
    rw [het']
    have q0 : endM (Pg k n cs) ≤ (Pg k n cs).length := by rw [hE, hL]; omega
    have qa : 6 + (encs (cs.take i)).length ≤ 6 + ((encs (cs.take i)).length + (cs[i].length + 2)) := by omega
    have qb : 6 + ((encs (cs.take i)).length + (cs[i].length + 2)) ≤ endM (Pg k n cs) := by rw [hE]; omega
    obtain ⟨-, hI⟩ := del2_len q0 qa qb
    have hB := fun (j : Nat) (hj : j < 512) => bAt_del2 q0 qa qb (j := j) (by rw [hL]; exact hj)
    have hA := fun j => bAt_Pg (k := k) (n := n) (cs.take i) (cs[i] :: cs.drop (i + 1)) hsp j
    have hR := fun j => bAt_Pg (k := k) (n := n) (cs.take i) (cs.drop (i + 1)) rfl j
    rw [hE] at hB
    refine bytes_ext (by rw [List.length_set, hI, hL, hL']) fun j hj => ?_
    rw [List.length_set, hI, hL] at hj
    rw [bAt_set' _ _ _ _ (by rw [hI, hL]; omega), hR]
    by_cases q1 : j = 1
    · subst q1
      rw [if_pos rfl, if_pos (by omega), hB 1 (by omega), if_neg (by omega), if_neg (by omega), hA, if_pos (by omega)]
      rw [← hl']
      exact u8_pred _
    · rw [if_neg q1, hB j hj]
      by_cases q2 : j < 6
      · rw [if_pos q2, if_neg (by omega), if_neg (by omega), hA, if_pos q2]
        exact hdr_at q2 q1
      · rw [if_neg q2]
        by_cases q3 : j < 6 + (encs (cs.take i)).length
        · rw [if_pos q3, if_neg (by omega), if_neg (by omega), hA, if_neg q2, if_pos q3]
        · rw [if_neg q3]
          by_cases q4 : j < 6 + (encs (cs.take i)).length + (encs (cs.drop (i + 1))).length
          · rw [if_pos q4, if_neg (by omega), if_pos (by omega), hA, if_neg (by omega), if_neg (by omega), encs_cons, List.length_append, enc_len, if_pos (by omega), bAt_app, enc_len, if_neg (by omega)]
            congr 1; omega
          · rw [if_neg q4]
            by_cases q5 : j < 6 + (encs cs).length
            · rw [if_pos (by omega)]
            · rw [if_neg (by omega), if_neg (by omega), hA, if_neg (by omega), if_neg (by omega), encs_cons, List.length_append, enc_len, if_neg (by omega)]
end Go.Proofs.YtndflnedkpmpfaaDoor
