/-
  No statement is proved here: a right page is the page of its cells; what Insert, Delete and SetNext make of a page, as cells.
-/
import Derived.Test.YtndflnedkpmpfaaGreatDoorPgp
namespace Go.Proofs.YtndflnedkpmpfaaGreatDoor
open Go.RowKit

theorem u8_self (x : UInt8) : UInt8.ofNat x.toNat = x := by simp
theorem ofNat_be {n : Nat} {x y : UInt8} (h : n = x.toNat * 256 + y.toNat) : UInt8.ofNat (n / 256) = x ∧ UInt8.ofNat n = y := by
  have hx := x.toNat_lt
  have hy := y.toNat_lt
  constructor
  · apply UInt8.toNat_inj.1
    rw [UInt8.toNat_ofNat']
    omega
  · apply UInt8.toNat_inj.1
    rw [UInt8.toNat_ofNat']
    omega
theorem take_place {l : Bytes} (h : endM l ≠ 0) : ∀ i, i ≤ (bAt l 1).toNat → l.take (placeM l i) = l.take 6 ++ encs (cellsM l i)
  | 0, _ => by simp [placeM, cellsM, encs]
  | i + 1, hi => by
    have ih := take_place h i (by omega)
    obtain ⟨h1, h2, h3⟩ := placeM_succ h (show i < (bAt l 1).toNat by omega)
    have h5 := endM_len h
    rw [cellsM_succ, encs_app, ← List.append_assoc, ← ih]
    have hb : be2 l (placeM l i) + 2 + placeM l i = placeM l (i + 1) := by
      rw [h1] at h2 h3 ⊢
      unfold afterM at *
      split at h2
      · omega
      · rename_i g1
        split at h2
        · omega
        · rename_i g2
          rw [if_neg g1, if_neg g2]; omega
    have hcl : (cellM l i).length = be2 l (placeM l i) := by
      unfold cellM
      rw [List.length_drop, List.length_take]; omega
    obtain ⟨e1, e2⟩ := ofNat_be (show be2 l (placeM l i) = (bAt l (placeM l i)).toNat * 256 + (bAt l (placeM l i + 1)).toNat from rfl)
    have henc : encs [cellM l i] = (l.take (placeM l (i + 1))).drop (placeM l i) := by
      have hd : (l.take (placeM l (i + 1))).drop (placeM l i) = bAt l (placeM l i) :: bAt l (placeM l i + 1) :: cellM l i := by
        unfold cellM
        rw [List.drop_eq_getElem_cons (by rw [List.length_take]; omega), List.drop_eq_getElem_cons (by rw [List.length_take]; omega), List.getElem_take, List.getElem_take, ← bAt_get (by omega), ← bAt_get (by omega)]
      rw [hd]
      show encs [cellM l i] = _
      unfold encs
      rw [List.map_cons, List.map_nil, List.flatten_cons, List.flatten_nil, List.append_nil]
      unfold enc
      rw [hcl, e1, e2]
    rw [henc]
    have := List.take_append_drop (placeM l i) (l.take (placeM l (i + 1)))
    rw [List.take_take, Nat.min_eq_left (by omega)] at this
    exact this.symm
/-- A right page is the page of its cells. -/
theorem page_eq {l : Bytes} (h : endM l ≠ 0) : l = Pg (bAt l 0) (nextM l) (cellsM l (bAt l 1).toNat) ∧ PgOk (nextM l) (cellsM l (bAt l 1).toNat) := by
  have h5 := endM_len h
  obtain ⟨hp, hz⟩ := endM_place h
  have ht := take_place h _ (Nat.le_refl _)
  have hle := endM_le l
  rw [hp] at ht
  have hlen : endM l = 6 + (encs (cellsM l (bAt l 1).toNat)).length := by
    have := congrArg List.length ht
    rw [List.length_take, List.length_append, List.length_take] at this
    omega
  have hn : nextM l < 4294967296 := by
    have h2 := (bAt l 2).toNat_lt
    have h3 := (bAt l 3).toNat_lt
    have h4 := (bAt l 4).toNat_lt
    have h5 := (bAt l 5).toNat_lt
    unfold nextM; omega
  have hc := (bAt l 1).toNat_lt
  refine ⟨?_, by omega, by rw [cellsM_len]; omega, hn⟩
  have hh : l.take 6 = hdr (bAt l 0) (bAt l 1).toNat (nextM l) := by
    have e : ∀ i, i < 6 → bAt (l.take 6) i = bAt l i := fun i hi => by
      unfold bAt
      simp only [List.getD_eq_getElem?_getD]
      rw [List.getElem?_take, if_pos hi]
    refine bytes_ext (by rw [List.length_take, hdr_len]; omega) fun j hj => ?_
    rw [List.length_take] at hj
    have hj6 : j < 6 := by omega
    rw [e j hj6]
    have h2 := (bAt l 2).toNat_lt
    have h3 := (bAt l 3).toNat_lt
    have h4 := (bAt l 4).toNat_lt
    have h5 := (bAt l 5).toNat_lt
    match j, hj6 with
    | 0, _ => rfl
    | 1, _ => exact (u8_self _).symm
    | 2, _ =>
      show _ = UInt8.ofNat (nextM l / 16777216)
      apply UInt8.toNat_inj.1
      rw [UInt8.toNat_ofNat']; unfold nextM; omega
    | 3, _ =>
      show _ = UInt8.ofNat (nextM l / 65536)
      apply UInt8.toNat_inj.1
      rw [UInt8.toNat_ofNat']; unfold nextM; omega
    | 4, _ =>
      show _ = UInt8.ofNat (nextM l / 256)
      apply UInt8.toNat_inj.1
      rw [UInt8.toNat_ofNat']; unfold nextM; omega
    | 5, _ =>
      show _ = UInt8.ofNat (nextM l)
      apply UInt8.toNat_inj.1
      rw [UInt8.toNat_ofNat']; unfold nextM; omega
  have hzz : l.drop (endM l) = zeros (506 - (encs (cellsM l (bAt l 1).toNat)).length) := by
    refine bytes_ext (by rw [List.length_drop, len_zeros']; omega) fun j hj => ?_
    rw [bAt_z]
    exact (allZ_iff _).1 hz j hj
  have := List.take_append_drop (endM l) l
  rw [ht, hzz, hh] at this
  unfold Pg
  rw [cellsM_len]
  exact this.symm
theorem bAt_set' (l : Bytes) (i : Nat) (x : UInt8) (k : Nat) (hi : i < l.length) : bAt (l.set i x) k = if k = i then x else bAt l k := by
  unfold bAt
  simp only [List.getD_eq_getElem?_getD]
  by_cases h : k = i
  · subst h; rw [if_pos rfl, List.getElem?_set_self hi]; rfl
  · rw [if_neg h, List.getElem?_set_ne (fun e => h e.symm)]
theorem bAt_part {l : Bytes} {a e j : Nat} (h : a + j < e) : bAt ((l.take e).drop a) j = bAt l (a + j) := by
  unfold bAt
  simp only [List.getD_eq_getElem?_getD]
  rw [List.getElem?_drop, List.getElem?_take, if_pos h]
theorem bAt_three (H T D : Bytes) (z : Nat) (hH : H.length = 6) (j : Nat) : bAt (H ++ (T ++ D) ++ zeros z) j = if j < 6 then bAt H j else if j < 6 + T.length then bAt T (j - 6) else if j < 6 + T.length + D.length then bAt D (j - (6 + T.length)) else 0 := by
  rw [List.append_assoc, bAt_app, hH]
  by_cases h1 : j < 6
  · rw [if_pos h1, if_pos h1]
  · rw [if_neg h1, if_neg h1, List.append_assoc, bAt_app]
    by_cases h2 : j < 6 + T.length
    · rw [if_pos (by omega), if_pos h2]
    · rw [if_neg (by omega), if_neg h2, bAt_app]
      by_cases h3 : j < 6 + T.length + D.length
      · rw [if_pos (by omega), if_pos h3]; congr 1; omega
      · rw [if_neg (by omega), if_neg h3, bAt_z]
theorem bAt_Pg {k : UInt8} {n : Nat} {cs : List Bytes} (T D : List Bytes) (h : cs = T ++ D) (j : Nat) : bAt (Pg k n cs) j = if j < 6 then bAt (hdr k cs.length n) j else if j < 6 + (encs T).length then bAt (encs T) (j - 6) else if j < 6 + (encs T).length + (encs D).length then bAt (encs D) (j - (6 + (encs T).length)) else 0 := by
  unfold Pg
  rw [show encs cs = encs T ++ encs D by rw [h, encs_app]]
  exact bAt_three _ _ _ _ (hdr_len _ _ _) j
theorem u8_succ (m : Nat) : UInt8.ofNat m + 1 = UInt8.ofNat (m + 1) := by
  apply UInt8.toNat_inj.1
  rw [UInt8.toNat_add, UInt8.toNat_ofNat', UInt8.toNat_ofNat']
  show (m % 256 + 1) % 256 = _
  omega
theorem u8_pred (m : Nat) : UInt8.ofNat (m + 1) - 1 = UInt8.ofNat m := by
  rw [← u8_succ]; simp
theorem hdr_at {k : UInt8} {m m' n : Nat} {j : Nat} (hj : j < 6) (h1 : j ≠ 1) : bAt (hdr k m n) j = bAt (hdr k m' n) j := by
  match j, hj, h1 with
  | 0, _, _ => rfl
  | 2, _, _ => rfl
  | 3, _, _ => rfl
  | 4, _, _ => rfl
  | 5, _, _ => rfl
theorem ins3_len {l c : Bytes} {a : Nat} (h1 : a + 2 + c.length ≤ l.length) (h2 : a + 2 + c.length + (endM l - a) ≤ l.length) : (ins3 l a c).length = l.length := by
  have e1 : (ins1 l a c.length).length = l.length := over_len (by omega)
  have e2 : (ins2 l a c.length).length = l.length := by unfold ins2; rw [List.length_set, List.length_set, e1]
  unfold ins3
  rw [over_len (by rw [e2]; omega), e2]
theorem bAt_ins3 {l c : Bytes} {a : Nat} (ha : a ≤ endM l) (h2 : a + 2 + c.length + (endM l - a) ≤ l.length) {j : Nat} (hj : j < l.length) :
    bAt (ins3 l a c) j = if a + 2 ≤ j ∧ j < a + 2 + c.length then bAt c (j - (a + 2)) else if j = a + 1 then UInt8.ofNat c.length else if j = a then UInt8.ofNat (c.length / 256) else if a + 2 + c.length ≤ j ∧ j < a + 2 + c.length + (endM l - a) then bAt l (a + (j - (a + 2 + c.length))) else bAt l j := by
  have hml : ((l.take (endM l)).drop a).length = endM l - a := by rw [List.length_drop, List.length_take]; omega
  have e1 : (ins1 l a c.length).length = l.length := over_len (by omega)
  have e2 : (ins2 l a c.length).length = l.length := by unfold ins2; rw [List.length_set, List.length_set, e1]
  unfold ins3
  rw [bAt_over (by rw [e2]; omega) (by rw [e2]; omega)]
  by_cases g1 : a + 2 ≤ j ∧ j < a + 2 + c.length
  · rw [if_pos g1, if_pos g1]
  · rw [if_neg g1, if_neg g1]
    unfold ins2
    rw [bAt_set' _ _ _ _ (by rw [List.length_set, e1]; omega), bAt_set' _ _ _ _ (by rw [e1]; omega)]
    by_cases g2 : j = a + 1
    · rw [if_pos g2, if_pos g2]
    · rw [if_neg g2, if_neg g2]
      by_cases g3 : j = a
      · rw [if_pos g3, if_pos g3]
      · rw [if_neg g3, if_neg g3]
        unfold ins1
        rw [bAt_over (by rw [hml]; omega) hj, hml]
        by_cases g4 : a + 2 + c.length ≤ j ∧ j < a + 2 + c.length + (endM l - a)
        · rw [if_pos g4, if_pos g4, bAt_part (by omega)]
        · rw [if_neg g4, if_neg g4]
/-- What Insert makes of a page. -/
theorem insertM_Pg {k : UInt8} {n : Nat} {cs : List Bytes} (h : PgOk n cs) (s : Int) (c : Bytes) :
    insertM (Pg k n cs) s c = if s < 0 ∨ (cs.length : Int) < s then (2, Pg k n cs) else if 506 < (encs cs).length + (c.length + 2) ∨ 255 ≤ cs.length then (5, Pg k n cs) else (0, Pg k n (cs.take s.toNat ++ c :: cs.drop s.toNat)) := by
  have hE := Pg_end (k := k) h
  have hE0 : endM (Pg k n cs) ≠ 0 := by omega
  have hL := Pg_len (k := k) (n := n) h.room
  have hC := Pg_cnt (k := k) (n := n) h.cnt
  by_cases h1 : s < 0 ∨ (cs.length : Int) < s
  · rw [if_pos h1, insertM_slot hE0 (by rw [hC]; exact h1)]
  · rw [if_neg h1]
    by_cases h2 : 506 < (encs cs).length + (c.length + 2) ∨ 255 ≤ cs.length
    · rw [if_pos h2, insertM_full hE0 (by rw [hC]; exact h1)]
      rw [hL, hE]
      rcases h2 with h2 | h2
      · exact .inr (by omega)
      · refine .inl ?_
        have hcc := h.cnt
        apply UInt8.toNat_inj.1
        rw [hC]
        show cs.length = 255
        omega
    · rw [if_neg h2]
      obtain ⟨i, rfl⟩ : ∃ i : Nat, s = i := ⟨s.toNat, by omega⟩
      rw [Int.toNat_natCast]
      have hi : i ≤ cs.length := by omega
      have hP := Pg_place (k := k) h hi
      have hcc := h.cnt
      have h3 : ¬ (bAt (Pg k n cs) 1 = 255 ∨ (Pg k n cs).length - endM (Pg k n cs) < c.length + 2) := by
        rintro (e | e)
        · have := congrArg UInt8.toNat e
          rw [hC] at this
          have e255 : (255 : UInt8).toNat = 255 := rfl
          omega
        · rw [hL, hE] at e; omega
      rw [insertM_ok hE0 (by rw [hC]; exact h1) h3, Int.toNat_natCast, hP]
      congr 1
      have hsp : cs = cs.take i ++ cs.drop i := (List.take_append_drop i cs).symm
      have hes : (encs cs).length = (encs (cs.take i)).length + (encs (cs.drop i)).length := by
        conv => lhs; rw [hsp]
        rw [encs_app, List.length_append]
      have hl' : (cs.take i ++ c :: cs.drop i).length = cs.length + 1 := by
        rw [List.length_append, List.length_cons, List.length_take, List.length_drop]; omega
      have hes' : (encs (cs.take i ++ c :: cs.drop i)).length = (encs (cs.take i)).length + (c.length + 2) + (encs (cs.drop i)).length := by
        rw [encs_app, encs_cons, List.length_append, List.length_append, enc_len]; omega
      have hL' := Pg_len (k := k) (n := n) (cs := cs.take i ++ c :: cs.drop i) (by rw [hes']; omega)
      have ht6 : 6 ≤ 6 + (encs (cs.take i)).length := by omega
      have hI := ins3_len (l := Pg k n cs) (c := c) (a := 6 + (encs (cs.take i)).length) (by rw [hL]; omega) (by rw [hL, hE]; omega)
      have hB := fun (j : Nat) (hj : j < 512) => bAt_ins3 (l := Pg k n cs) (c := c) (a := 6 + (encs (cs.take i)).length) (by rw [hE]; omega) (by rw [hL, hE]; omega) (j := j) (by rw [hL]; exact hj)
      have hA := fun j => bAt_Pg (k := k) (n := n) (cs.take i) (cs.drop i) hsp j
      have hR := fun j => bAt_Pg (k := k) (n := n) (cs.take i) (c :: cs.drop i) rfl j
      rw [hE] at hB
      refine bytes_ext (by rw [List.length_set, hI, hL, hL']) fun j hj => ?_
      rw [List.length_set, hI, hL] at hj
      rw [bAt_set' _ _ _ _ (by rw [hI, hL]; omega), hR, hl', encs_cons]
      by_cases q1 : j = 1
      · subst q1
        rw [if_pos rfl, if_pos (by omega), hB 1 (by omega), if_neg (by omega), if_neg (by omega), if_neg (by omega), if_neg (by omega), hA, if_pos (by omega)]
        exact u8_succ _
      · rw [if_neg q1]
        by_cases q2 : j < 6
        · rw [hB j hj, if_neg (by omega), if_neg (by omega), if_neg (by omega), if_neg (by omega), hA, if_pos q2, if_pos q2]
          exact hdr_at q2 q1
        · by_cases q3 : j < 6 + (encs (cs.take i)).length
          · rw [hB j hj, if_neg (by omega), if_neg (by omega), if_neg (by omega), if_neg (by omega), hA, if_neg q2, if_pos q3, if_neg q2, if_pos q3]
          · by_cases q4 : j < 6 + (encs (cs.take i)).length + (c.length + 2)
            · have r1 : bAt (enc c ++ encs (cs.drop i)) (j - (6 + (encs (cs.take i)).length)) = if j - (6 + (encs (cs.take i)).length) = 0 then UInt8.ofNat (c.length / 256) else if j - (6 + (encs (cs.take i)).length) - 1 = 0 then UInt8.ofNat c.length else bAt c (j - (6 + (encs (cs.take i)).length) - 1 - 1) := by
                rw [bAt_app, if_pos (by rw [enc_len]; omega)]
                unfold enc
                rw [bAt_cons, bAt_cons]
              by_cases q5 : 6 + (encs (cs.take i)).length + 2 ≤ j
              · rw [hB j hj, if_pos (by omega), if_neg q2, if_neg q3, if_pos (by rw [List.length_append, enc_len]; omega), r1, if_neg (by omega), if_neg (by omega)]
                all_goals (congr 1)
              · by_cases q6 : j = 6 + (encs (cs.take i)).length
                · rw [hB j hj, if_neg (by omega), if_neg (by omega), if_pos q6, if_neg q2, if_neg q3, if_pos (by rw [List.length_append, enc_len]; omega), r1, if_pos (by omega)]
                · rw [hB j hj, if_neg (by omega), if_pos (by omega), if_neg q2, if_neg q3, if_pos (by rw [List.length_append, enc_len]; omega), r1, if_neg (by omega), if_pos (by omega)]
            · by_cases q5 : j < 6 + (encs (cs.take i)).length + (c.length + 2) + (encs (cs.drop i)).length
              · rw [hB j hj, if_neg (by omega), if_neg (by omega), if_neg (by omega), if_pos (by omega), hA, if_neg (by omega), if_neg (by omega), if_pos (by omega), if_neg q2, if_neg q3, if_pos (by rw [List.length_append, enc_len]; omega), bAt_app, enc_len, if_neg (by omega)]
                congr 1; omega
              · rw [hB j hj, if_neg (by omega), if_neg (by omega), if_neg (by omega), if_neg (by omega), hA, if_neg (by omega), if_neg (by omega), if_neg (by omega), if_neg q2, if_neg q3, if_neg (by rw [List.length_append, enc_len]; omega)]
end Go.Proofs.YtndflnedkpmpfaaGreatDoor
