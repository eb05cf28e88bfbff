/-
  No statement is proved here: a page put together from its cells, and taken apart again, with no program in sight.
-/
import Derived.Test.YtndflnedkpmpfaaGreatDoorOfm
namespace Go.Proofs.YtndflnedkpmpfaaGreatDoor
open Go.RowKit

theorem bAt_app (X Y : Bytes) (j : Nat) : bAt (X ++ Y) j = if j < X.length then bAt X j else bAt Y (j - X.length) := by
  unfold bAt
  simp only [List.getD_eq_getElem?_getD]
  split
  · rw [List.getElem?_append_left (by assumption)]
  · rw [List.getElem?_append_right (by omega)]
theorem bAt_cons (x : UInt8) (Y : Bytes) (j : Nat) : bAt (x :: Y) j = if j = 0 then x else bAt Y (j - 1) := by
  cases j with
  | zero => rfl
  | succ j => simp [bAt]
theorem bAt_nil (j : Nat) : bAt [] j = 0 := by simp [bAt]
theorem bAt_z (n j : Nat) : bAt (zeros n) j = 0 := by
  unfold bAt zeros
  simp only [List.getD_eq_getElem?_getD, List.getElem?_replicate]
  split <;> rfl
def enc (c : Bytes) : Bytes := UInt8.ofNat (c.length / 256) :: UInt8.ofNat c.length :: c
def encs (cs : List Bytes) : Bytes := (cs.map enc).flatten
theorem enc_len (c : Bytes) : (enc c).length = c.length + 2 := by simp [enc]
theorem encs_nil : encs [] = [] := rfl
theorem encs_cons (c : Bytes) (cs : List Bytes) : encs (c :: cs) = enc c ++ encs cs := by simp [encs]
theorem encs_app (a b : List Bytes) : encs (a ++ b) = encs a ++ encs b := by simp [encs]
def hdr (k : UInt8) (m n : Nat) : Bytes := [k, UInt8.ofNat m, UInt8.ofNat (n / 16777216), UInt8.ofNat (n / 65536), UInt8.ofNat (n / 256), UInt8.ofNat n]
theorem hdr_len (k : UInt8) (m n : Nat) : (hdr k m n).length = 6 := rfl
/-- A page of these cells. -/
def Pg (k : UInt8) (n : Nat) (cs : List Bytes) : Bytes := hdr k cs.length n ++ encs cs ++ zeros (506 - (encs cs).length)
structure PgOk (n : Nat) (cs : List Bytes) : Prop where
  room : (encs cs).length ≤ 506
  cnt : cs.length ≤ 255
  nxt : n < 4294967296
theorem len_zeros' (n : Nat) : (zeros n).length = n := by simp [zeros]
theorem Pg_len {k : UInt8} {n : Nat} {cs : List Bytes} (h : (encs cs).length ≤ 506) : (Pg k n cs).length = 512 := by
  unfold Pg
  rw [List.length_append, List.length_append, hdr_len, len_zeros']
  omega
theorem u8_hi {n : Nat} (h : n < 65536) : (UInt8.ofNat (n / 256)).toNat * 256 + (UInt8.ofNat n).toNat = n := by
  rw [UInt8.toNat_ofNat', UInt8.toNat_ofNat']
  omega
/-- A cell, read where it lies. -/
theorem be2_enc (X c Y : Bytes) (h : c.length < 65536) : be2 (X ++ (enc c ++ Y)) X.length = c.length := by
  have h0 : bAt (X ++ (enc c ++ Y)) X.length = UInt8.ofNat (c.length / 256) := by rw [bAt_app, if_neg (by omega), Nat.sub_self, bAt_app, if_pos (by rw [enc_len]; omega)]; rfl
  have h1 : bAt (X ++ (enc c ++ Y)) (X.length + 1) = UInt8.ofNat c.length := by rw [bAt_app, if_neg (by omega), show X.length + 1 - X.length = 1 by omega, bAt_app, if_pos (by rw [enc_len]; omega)]; rfl
  unfold be2
  rw [h0, h1]
  exact u8_hi h
theorem cut_mid (X h c Y : Bytes) : (((X ++ h ++ c) ++ Y).take (X.length + h.length + c.length)).drop (X.length + h.length) = c := by
  rw [List.take_append_of_le_length (by simp only [List.length_append]; omega), List.take_of_length_le (by simp only [List.length_append]; omega)]
  exact List.drop_left' (by simp only [List.length_append])
theorem afterM_enc (X c Y : Bytes) (h : c.length < 65536) : afterM (X ++ (enc c ++ Y)) X.length = X.length + 2 + c.length := by
  unfold afterM
  rw [be2_enc X c Y h, if_neg, if_neg]
  · simp only [List.length_append, enc_len]; omega
  · simp only [List.length_append, enc_len]; omega
theorem encs_take_succ {cs : List Bytes} {i : Nat} (h : i < cs.length) : encs (cs.take (i + 1)) = encs (cs.take i) ++ enc cs[i] := by
  rw [List.take_add_one, List.getElem?_eq_getElem h, encs_app]
  simp [encs]
theorem encs_split {cs : List Bytes} {i : Nat} (h : i < cs.length) : encs cs = encs (cs.take i) ++ (enc cs[i] ++ encs (cs.drop (i + 1))) := by
  rw [← encs_cons, ← encs_app, ← List.drop_eq_getElem_cons h, List.take_append_drop]
theorem encs_get_len {cs : List Bytes} {i : Nat} (h : i < cs.length) : cs[i].length + 2 ≤ (encs cs).length := by
  rw [encs_split h]
  simp only [List.length_append, enc_len]; omega
theorem placeM_enc (H Z : Bytes) (cs : List Bytes) (hH : H.length = 6) (hc : (encs cs).length ≤ 506) : ∀ i, i ≤ cs.length → placeM (H ++ encs cs ++ Z) i = 6 + (encs (cs.take i)).length
  | 0, _ => by simp [placeM, encs]
  | i + 1, hi => by
    have ih := placeM_enc H Z cs hH hc i (by omega)
    have hne : placeM (H ++ encs cs ++ Z) i ≠ 0 := by rw [ih]; omega
    rw [placeM_next hne, ih]
    have hs := encs_split (show i < cs.length by omega)
    have hl := encs_get_len (show i < cs.length by omega)
    have e : H ++ encs cs ++ Z = (H ++ encs (cs.take i)) ++ (enc cs[i] ++ (encs (cs.drop (i + 1)) ++ Z)) := by rw [hs]; simp [List.append_assoc]
    have e2 : 6 + (encs (cs.take i)).length = (H ++ encs (cs.take i)).length := by rw [List.length_append, hH]
    rw [e, e2, afterM_enc _ _ _ (by omega), encs_take_succ (show i < cs.length by omega)]
    simp only [List.length_append, enc_len]
    omega
theorem allZ_zeros (n : Nat) : allZ (zeros n) = true := by rw [allZ_iff]; intro i _; exact bAt_z n i
theorem bAt_hdr {k : UInt8} {m n : Nat} {Y : Bytes} {j : Nat} (h : j < 6) : bAt (hdr k m n ++ Y) j = bAt (hdr k m n) j := by rw [bAt_app, if_pos (by rw [hdr_len]; exact h)]
theorem Pg_cnt {k : UInt8} {n : Nat} {cs : List Bytes} (h : cs.length ≤ 255) : (bAt (Pg k n cs) 1).toNat = cs.length := by
  unfold Pg
  rw [List.append_assoc, bAt_hdr (by omega)]
  show (UInt8.ofNat cs.length).toNat = _
  rw [UInt8.toNat_ofNat']
  omega
theorem Pg_end {k : UInt8} {n : Nat} {cs : List Bytes} (h : PgOk n cs) : endM (Pg k n cs) = 6 + (encs cs).length := by
  have hp := placeM_enc (hdr k cs.length n) (zeros (506 - (encs cs).length)) cs (hdr_len _ _ _) h.room cs.length (Nat.le_refl _)
  rw [List.take_length] at hp
  have hp' : placeM (Pg k n cs) cs.length = 6 + (encs cs).length := hp
  rw [endM_ok (Pg_len h.room) (by rw [Pg_cnt h.cnt, hp']; omega) ?_, Pg_cnt h.cnt, hp']
  rw [Pg_cnt h.cnt, hp']
  have : (Pg k n cs).drop (6 + (encs cs).length) = zeros (506 - (encs cs).length) := by
    unfold Pg
    rw [List.drop_append, List.drop_of_length_le (by rw [List.length_append, hdr_len]; omega), List.length_append, hdr_len]
    simp
  rw [this]
  exact allZ_zeros _
theorem Pg_place {k : UInt8} {n : Nat} {cs : List Bytes} (h : PgOk n cs) {i : Nat} (hi : i ≤ cs.length) : placeM (Pg k n cs) i = 6 + (encs (cs.take i)).length :=
  placeM_enc (hdr k cs.length n) _ cs (hdr_len _ _ _) h.room i hi
theorem Pg_kind {k : UInt8} {n : Nat} {cs : List Bytes} : bAt (Pg k n cs) 0 = k := by
  unfold Pg
  rw [List.append_assoc, bAt_hdr (by omega)]; rfl
theorem Pg_next {k : UInt8} {n : Nat} {cs : List Bytes} (h : n < 4294967296) : nextM (Pg k n cs) = n := by
  unfold nextM Pg
  rw [List.append_assoc, bAt_hdr (by omega), bAt_hdr (by omega), bAt_hdr (by omega), bAt_hdr (by omega)]
  show (UInt8.ofNat (n / 16777216)).toNat * 16777216 + (UInt8.ofNat (n / 65536)).toNat * 65536 + (UInt8.ofNat (n / 256)).toNat * 256 + (UInt8.ofNat n).toNat = n
  simp only [UInt8.toNat_ofNat']
  omega
theorem Pg_cell {k : UInt8} {n : Nat} {cs : List Bytes} (h : PgOk n cs) {i : Nat} (hi : i < cs.length) : cellM (Pg k n cs) i = cs[i] := by
  have e : Pg k n cs = (hdr k cs.length n ++ encs (cs.take i) ++ [UInt8.ofNat (cs[i].length / 256), UInt8.ofNat cs[i].length] ++ cs[i]) ++ (encs (cs.drop (i + 1)) ++ zeros (506 - (encs cs).length)) := by
    have h1 : encs cs = encs (cs.take i) ++ (([UInt8.ofNat (cs[i].length / 256), UInt8.ofNat cs[i].length] ++ cs[i]) ++ encs (cs.drop (i + 1))) := encs_split hi
    unfold Pg
    generalize zeros (506 - (encs cs).length) = Z
    rw [h1]
    simp only [List.append_assoc]
  have e1 : placeM (Pg k n cs) (i + 1) = (hdr k cs.length n ++ encs (cs.take i)).length + [UInt8.ofNat (cs[i].length / 256), UInt8.ofNat cs[i].length].length + cs[i].length := by
    rw [Pg_place h (by omega), encs_take_succ hi]
    simp only [List.length_append, enc_len, hdr_len, List.length_cons, List.length_nil]
    omega
  have e2 : placeM (Pg k n cs) i + 2 = (hdr k cs.length n ++ encs (cs.take i)).length + [UInt8.ofNat (cs[i].length / 256), UInt8.ofNat cs[i].length].length := by
    rw [Pg_place h (by omega)]
    simp only [List.length_append, hdr_len, List.length_cons, List.length_nil]
  unfold cellM
  rw [e1, e2, e]
  exact cut_mid _ _ _ _
theorem Pg_cells {k : UInt8} {n : Nat} {cs : List Bytes} (h : PgOk n cs) : cellsM (Pg k n cs) cs.length = cs := by
  refine List.ext_getElem (cellsM_len _ _) fun i h1 h2 => ?_
  simp only [cellsM, List.getElem_map, List.getElem_range]
  exact Pg_cell h h2
end Go.Proofs.YtndflnedkpmpfaaGreatDoor
