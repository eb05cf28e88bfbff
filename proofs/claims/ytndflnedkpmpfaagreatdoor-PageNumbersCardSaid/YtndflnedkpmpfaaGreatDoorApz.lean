/-
  No statement is proved here: what Delete and SetNext make of a page, as cells.
  No statement is proved here: 'append(b, make([]byte, n)...)'; 'clear' of bytes.
-/
import Derived.Test.YtndflnedkpmpfaaGreatDoorPgq
namespace Go.Proofs.YtndflnedkpmpfaaGreatDoor
open Go.RowKit

def del1 (l : Bytes) (a b : Nat) : Bytes := over l a ((l.take (endM l)).drop b)
def del2 (l : Bytes) (a b : Nat) : Bytes := over (del1 l a b) (a + (endM l - b)) (zeros (endM l - (a + (endM l - b))))
def deleteM (l : Bytes) (s : Int) : Bool × Bytes :=
  if s < 0 ∨ (countM l : Int) ≤ s then (false, l) else
    (true, (del2 l (placeM l s.toNat) (afterM l (placeM l s.toNat))).set 1 (bAt (del2 l (placeM l s.toNat) (afterM l (placeM l s.toNat))) 1 - 1))
def be4 (x : Nat) : Bytes := [UInt8.ofNat (x / 16777216), UInt8.ofNat (x / 65536), UInt8.ofNat (x / 256), UInt8.ofNat x]
def setNextM (l : Bytes) (x : Int) : Bool × Bytes := if endM l = 0 ∨ x < 0 ∨ 4294967296 ≤ x then (false, l) else (true, over l 2 (be4 x.toNat))
theorem setNextM_Pg {k : UInt8} {n : Nat} {cs : List Bytes} (h : PgOk n cs) (x : Int) : setNextM (Pg k n cs) x = if x < 0 ∨ 4294967296 ≤ x then (false, Pg k n cs) else (true, Pg k x.toNat cs) := by
  have hE := Pg_end (k := k) h
  unfold setNextM
  by_cases h1 : x < 0 ∨ 4294967296 ≤ x
  · rw [if_pos (.inr h1), if_pos h1]
  · rw [if_neg (by rw [hE]; omega), if_neg h1]
    congr 1
    have hL := Pg_len (k := k) (n := n) h.room
    have hL' := Pg_len (k := k) (n := x.toNat) h.room
    have hb : (be4 x.toNat).length = 4 := rfl
    refine bytes_ext (by rw [over_len (by rw [hL]; omega), hL, hL']) fun j hj => ?_
    rw [over_len (by rw [hL]; omega), hL] at hj
    rw [bAt_over (by rw [hL, hb]; omega) (by rw [hL]; exact hj), hb]
    unfold Pg
    rw [List.append_assoc, List.append_assoc, bAt_app (hdr k cs.length n), bAt_app (hdr k cs.length x.toNat), hdr_len, hdr_len]
    by_cases h6 : j < 6
    · rw [if_pos h6, if_pos h6]
      match j, h6 with
      | 0, _ => rfl
      | 1, _ => rfl
      | 2, _ => rfl
      | 3, _ => rfl
      | 4, _ => rfl
      | 5, _ => rfl
    · rw [if_neg h6, if_neg h6, if_neg (by omega)]
theorem del2_len {l : Bytes} {a b : Nat} (hl : endM l ≤ l.length) (h1 : a ≤ b) (h2 : b ≤ endM l) : (del1 l a b).length = l.length ∧ (del2 l a b).length = l.length := by
  have e1 : (del1 l a b).length = l.length := over_len (by omega)
  refine ⟨e1, ?_⟩
  unfold del2
  rw [over_len (by rw [e1]; omega), e1]
theorem bAt_del2 {l : Bytes} {a b : Nat} (hl : endM l ≤ l.length) (h1 : a ≤ b) (h2 : b ≤ endM l) {j : Nat} (hj : j < l.length) :
    bAt (del2 l a b) j = if a + (endM l - b) ≤ j ∧ j < endM l then 0 else if a ≤ j ∧ j < a + (endM l - b) then bAt l (b + (j - a)) else bAt l j := by
  obtain ⟨e1, -⟩ := del2_len hl h1 h2
  have hml : ((l.take (endM l)).drop b).length = endM l - b := by rw [List.length_drop, List.length_take]; omega
  unfold del2
  rw [bAt_over (by rw [e1, len_zeros']; omega) (by rw [e1]; exact hj), len_zeros']
  by_cases g1 : a + (endM l - b) ≤ j ∧ j < endM l
  · rw [if_pos (by omega), if_pos g1, bAt_z]
  · rw [if_neg (by omega), if_neg g1]
    unfold del1
    rw [bAt_over (by rw [hml]; omega) hj, hml]
    by_cases g2 : a ≤ j ∧ j < a + (endM l - b)
    · rw [if_pos g2, if_pos g2, bAt_part (by omega)]
    · rw [if_neg g2, if_neg g2]
theorem deleteM_Pg {k : UInt8} {n : Nat} {cs : List Bytes} (h : PgOk n cs) (s : Int) :
    deleteM (Pg k n cs) s = if s < 0 ∨ (cs.length : Int) ≤ s then (false, Pg k n cs) else (true, Pg k n (cs.take s.toNat ++ cs.drop (s.toNat + 1))) := by
  have hE := Pg_end (k := k) h
  have hE0 : endM (Pg k n cs) ≠ 0 := by omega
  have hL := Pg_len (k := k) (n := n) h.room
  have hC : countM (Pg k n cs) = cs.length := by rw [countM_ok hE0, Pg_cnt h.cnt]
  unfold deleteM
  rw [hC]
  by_cases h1 : s < 0 ∨ (cs.length : Int) ≤ s
  · rw [if_pos h1, if_pos h1]
  · rw [if_neg h1, if_neg h1]
    obtain ⟨i, rfl⟩ : ∃ i : Nat, s = i := ⟨s.toNat, by omega⟩
    rw [Int.toNat_natCast]
    have hi : i < cs.length := by omega
    have hP := Pg_place (k := k) h (show i ≤ cs.length by omega)
    have hP1 := Pg_place (k := k) h (show i + 1 ≤ cs.length by omega)
    have hnx : afterM (Pg k n cs) (placeM (Pg k n cs) i) = placeM (Pg k n cs) (i + 1) := (placeM_next (by rw [hP]; omega)).symm
    rw [hnx, hP, hP1]
    congr 1
    have hsp : cs = cs.take i ++ (cs[i] :: cs.drop (i + 1)) := by rw [← List.drop_eq_getElem_cons hi, List.take_append_drop]
    have het := encs_take_succ hi
    have hs3 := encs_split hi
    have hes : (encs cs).length = (encs (cs.take i)).length + (cs[i].length + 2) + (encs (cs.drop (i + 1))).length := by
      conv => lhs; rw [hs3]
      rw [List.length_append, List.length_append, enc_len]; omega
    have het' : (encs (cs.take (i + 1))).length = (encs (cs.take i)).length + (cs[i].length + 2) := by rw [het, List.length_append, enc_len]
    have hcc := h.cnt
    have hl' : (cs.take i ++ cs.drop (i + 1)).length + 1 = cs.length := by
      rw [List.length_append, List.length_take, List.length_drop]; omega
    have hes' : (encs (cs.take i ++ cs.drop (i + 1))).length = (encs (cs.take i)).length + (encs (cs.drop (i + 1))).length := by
      rw [encs_app, List.length_append]
    have hr := h.room
    have hL' := Pg_len (k := k) (n := n) (cs := cs.take i ++ cs.drop (i + 1)) (by rw [hes']; omega)
    rw [het']
    have q0 : endM (Pg k n cs) ≤ (Pg k n cs).length := by rw [hE, hL]; omega
    have qa : 6 + (encs (cs.take i)).length ≤ 6 + ((encs (cs.take i)).length + (cs[i].length + 2)) := by omega
    have qb : 6 + ((encs (cs.take i)).length + (cs[i].length + 2)) ≤ endM (Pg k n cs) := by rw [hE]; omega
    obtain ⟨-, hI⟩ := del2_len q0 qa qb
    have hB := fun (j : Nat) (hj : j < 512) => bAt_del2 q0 qa qb (j := j) (by rw [hL]; exact hj)
    have hA := fun j => bAt_Pg (k := k) (n := n) (cs.take i) (cs[i] :: cs.drop (i + 1)) hsp j
    have hR := fun j => bAt_Pg (k := k) (n := n) (cs.take i) (cs.drop (i + 1)) rfl j
    rw [hE] at hB
    refine bytes_ext (by rw [List.length_set, hI, hL, hL']) fun j hj => ?_
    rw [List.length_set, hI, hL] at hj
    rw [bAt_set' _ _ _ _ (by rw [hI, hL]; omega), hR]
    by_cases q1 : j = 1
    · subst q1
      rw [if_pos rfl, if_pos (by omega), hB 1 (by omega), if_neg (by omega), if_neg (by omega), hA, if_pos (by omega)]
      rw [← hl']
      exact u8_pred _
    · rw [if_neg q1, hB j hj]
      by_cases q2 : j < 6
      · rw [if_pos q2, if_neg (by omega), if_neg (by omega), hA, if_pos q2]
        exact hdr_at q2 q1
      · rw [if_neg q2]
        by_cases q3 : j < 6 + (encs (cs.take i)).length
        · rw [if_pos q3, if_neg (by omega), if_neg (by omega), hA, if_neg q2, if_pos q3]
        · rw [if_neg q3]
          by_cases q4 : j < 6 + (encs (cs.take i)).length + (encs (cs.drop (i + 1))).length
          · rw [if_pos q4, if_neg (by omega), if_pos (by omega), hA, if_neg (by omega), if_neg (by omega), encs_cons, List.length_append, enc_len, if_pos (by omega), bAt_app, enc_len, if_neg (by omega)]
            congr 1; omega
          · rw [if_neg q4]
            by_cases q5 : j < 6 + (encs cs).length
            · rw [if_pos (by omega)]
            · rw [if_neg (by omega), if_neg (by omega), hA, if_neg (by omega), if_neg (by omega), encs_cons, List.length_append, enc_len, if_neg (by omega)]
end Go.Proofs.YtndflnedkpmpfaaGreatDoor
namespace Go.Proofs.YtndflnedkpmpfaaGreatDoor
open Go.RowKit

theorem cellsOf_zeros (n : Nat) : (cellsOf (zeros n)).toList = List.replicate n (.int .u8 0) := by
  simp [cellsOf, zeros]
theorem run_append_room0 {P : Program} (w : World) (t u ty e : TypeId) (i : TypeInfo) (k : IntKind) (ht : P.underlying t = some (.slice e)) (hu : P.underlying u = some (.int k)) (hi : P.info? e = some i)
    (g sLen sCap : Nat) (cur : Array Value) (hg : w.heap[g]? = some (.cells cur e (0, 0))) (z : Value) (hz : i.zero = some z)
    (n : Nat) (hs : n * i.size ≠ 0) (h63 : n ≤ 1000000) (hby : i.bytes ≤ 1000) (hzc : z.cells.size = i.size) (h1 : ∀ v ∈ (Builtin.zeroCells z.cells n).toList, v.oneCell' = true)
    (hroom : sLen + n ≤ sCap) (hfit : sLen * i.size + n * i.size ≤ cur.size) :
    (Builtin.append_ #[t, u] ty #[.slice (some ⟨g, 0, none⟩) sLen sCap, .int .i64 n]).run P w =
      .ok (.slice (some ⟨g, 0, none⟩) (sLen + n) sCap) (w.setRow g (cur.toList.take (sLen * i.size) ++ (Builtin.zeroCells z.cells n).toList ++ cur.toList.drop (sLen * i.size + (Builtin.zeroCells z.cells n).toList.length)).toArray) := by
  have hl : (Builtin.zeroCells z.cells n).toList.length = n * i.size := by rw [Array.length_toList, size_zeroCells, hzc]
  have hst := run_storeCells_at P g (sLen * i.size) e (Builtin.zeroCells z.cells n).toList 0 cur w hg (by rw [hl]; simpa using hfit) h1
  simp only [Nat.add_zero] at hst
  have hw : IntKind.i64.wrap (n : Int) = (n : Int) := by rw [IntKind.wrap_i64]; omega
  have hn0 : ¬ ((n : Int) < 0) := by omega
  have hbb : n * i.bytes ≤ 1000000 * 1000 := Nat.mul_le_mul h63 hby
  have hb : ¬ (281474976710656 < (n : Int) * (i.bytes : Int)) := by
    have : ((n * i.bytes : Nat) : Int) = (n : Int) * (i.bytes : Int) := by simp
    omega
  simp [Builtin.append_, run_underlying ht, run_underlying hu, sizeOf, typeInfo, hi, asInt, asIntOf, hw, hn0, hb, hroom, hs, zeroValue, hz, Addr.add_lit, hst]
theorem run_append_grow0 {P : Program} (w : World) (t u ty e : TypeId) (i : TypeInfo) (k : IntKind) (ht : P.underlying t = some (.slice e)) (hu : P.underlying u = some (.int k)) (hi : P.info? e = some i) (z : Value) (hz : i.zero = some z)
    (b : Addr) (sLen sCap : Nat) (olds : List Value) (hlo : olds.length = sLen * i.size) (holds : ∀ j v, olds[j]? = some v → w.cell? (b.add j) = some v)
    (n : Nat) (hs : n * i.size ≠ 0) (h63 : n ≤ 1000000) (hby : i.bytes ≤ 1000)
    (hg : sCap < sLen + n) (h64 : ((sLen + n : Nat) : Int) ≤ 9223372036854775807) (hfit : Builtin.nextslicecap (sLen + n) sCap * i.bytes ≤ 281474976710656) :
    (Builtin.append_ #[t, u] ty #[.slice (some b) sLen sCap, .int .i64 n]).run P w =
      .ok (.slice (some ⟨w.heap.size, 0, none⟩) (sLen + n) (grownCap w (sLen + n) sCap e))
        (w.drew.alloc (.cells (olds.toArray ++ Builtin.zeroCells z.cells n ++ Builtin.zeroCells z.cells (grownCap w (sLen + n) sCap e - (sLen + n))) e)) := by
  have hn : ¬ (sLen + n ≤ sCap) := by omega
  have h63' : ¬ (9223372036854775807 < ((sLen : Int) + (n : Int))) := by omega
  have h48' : ¬ (281474976710656 < Builtin.nextslicecap (sLen + n) sCap * i.bytes) := by omega
  have hfo := run_firstCells_some (P := P) w.drew i.size sLen b sLen sCap olds hlo (by simpa using holds)
  have hw : IntKind.i64.wrap (n : Int) = (n : Int) := by rw [IntKind.wrap_i64]; omega
  have hn0 : ¬ ((n : Int) < 0) := by omega
  have hbb : n * i.bytes ≤ 1000000 * 1000 := Nat.mul_le_mul h63 hby
  have hb : ¬ (281474976710656 < (n : Int) * (i.bytes : Int)) := by
    have : ((n * i.bytes : Nat) : Int) = (n : Int) * (i.bytes : Int) := by simp
    omega
  simp [Builtin.append_, run_underlying ht, run_underlying hu, sizeOf, typeInfo, zeroValue, hi, hz, asInt, asIntOf, hw, hn0, hb, hn, hs, h63', h48', Question.forced, hfo, newRow, grownCap]
theorem zeroCells_u8 (n : Nat) : (Builtin.zeroCells #[Value.int .u8 0] n).toList = List.replicate n (.int .u8 0) := by
  simp [Builtin.zeroCells]
  apply List.ext_getElem
  · simp
  · intro i h1 h2
    simp [Nat.mod_one]
/-- 'append(b, make([]byte, n)...)' onto bytes of the call's own. -/
theorem run_appendZ {w : World} {base g cap : Nat} {l : Bytes} (ty : TypeId) (h : OwnB w base g cap l) (n : Nat) (hn : n ≤ 1000000) (hl : l.length ≤ 1000000) (hbase : base ≤ w.heap.size) :
    ∃ g' cap' w', (Builtin.append_ #[22, 3] ty #[.slice (some ⟨g, 0, none⟩) l.length cap, .int .i64 n]).run Tryz.prog w = .ok (.slice (some ⟨g', 0, none⟩) (l.length + n) cap') w' ∧
      OwnB w' base g' cap' (l ++ zeros n) ∧ Kept (fun x => x = g) w w' ∧ (g' = g ∨ w.heap.size ≤ g') := by
  obtain ⟨i, hi, hz, hsz, hby⟩ := info_parts info5
  have e63 : maxLen = 9223372036854775807 := rfl
  obtain ⟨cur, hb, hh, h1, h2, h3, h4⟩ := h.form
  have hlz : (l ++ zeros n).length = l.length + n := by rw [List.length_append, len_zeros']
  have hcz : (cellsOf (l ++ zeros n)).toList = (cellsOf l).toList ++ List.replicate n (.int .u8 0) := by rw [cellsOf_append, cellsOf_zeros]
  by_cases h0 : n = 0
  · subst h0
    refine ⟨g, cap, w, ?_, by simpa [zeros] using h, Kept.refl _ _, .inl rfl⟩
    have hw : IntKind.i64.wrap 0 = 0 := by decide
    simp [Builtin.append_, run_underlying Tryz.underlying22, run_underlying Tryz.underlying3, sizeOf, typeInfo, hi, asInt, asIntOf, hw, h1, storeCells]
  · by_cases hroom : l.length + n ≤ cap
    · refine ⟨g, cap, _, run_append_room0 (P := Tryz.prog) w 22 3 ty 5 i _ Tryz.underlying22 Tryz.underlying3 hi g l.length cap cur hh _ hz n (by rw [hsz]; omega) hn (by omega) (by rw [hsz]; rfl) ?_ hroom (by rw [hsz]; omega), ?_, (Kept.refl (fun x => x = g) w).setRow (.inr rfl) _, .inl rfl⟩
      · intro v hv
        rw [show (Value.int .u8 0).cells = #[Value.int .u8 0] from rfl, zeroCells_u8] at hv
        rw [List.eq_of_mem_replicate hv]; rfl
      · rw [show (Value.int .u8 0).cells = #[Value.int .u8 0] from rfl, zeroCells_u8]
        unfold OwnB
        rw [hlz]
        refine ⟨by rw [hcz, List.length_append, cellsOf_len, List.length_replicate, Nat.mul_one], .inr ⟨g, cap, _, rfl, hb, setRow_heap w g cur _ 5 (0, 0) hh, hroom, h2, ?_, ?_⟩⟩
        · simp [hsz]; omega
        · rw [hcz, hsz, Nat.mul_one, Nat.mul_one, h4]
          have e1 : ((cellsOf l).toList ++ List.replicate n (Value.int .u8 0)).length = l.length + n := by rw [List.length_append, cellsOf_len, List.length_replicate]
          rw [← e1]
          exact List.take_left
    · have holds : ∀ j u, (cellsOf l).toList[j]? = some u → w.cell? ((⟨g, 0, none⟩ : Addr).add j) = some u := fun j u hu => by
        have : (⟨g, 0, none⟩ : Addr).add j = ⟨g, j, none⟩ := by rw [Addr.add_mid, Nat.zero_add]
        rw [this]
        refine cell_blk hh ?_
        rw [← h4, List.getElem?_take] at hu
        split at hu
        · rwa [Array.getElem?_toList] at hu
        · simp at hu
      have hge := grownCap_ge w (l.length + n) cap 5
      have hcm : grownCap w (l.length + n) cap 5 ≤ maxLen := grownCap_le_maxLen w (l.length + n) cap 5 (by omega)
      refine ⟨w.heap.size, _, _, run_append_grow0 (P := Tryz.prog) w 22 3 ty 5 i _ Tryz.underlying22 Tryz.underlying3 hi _ hz ⟨g, 0, none⟩ l.length cap (cellsOf l).toList (by rw [cellsOf_len, hsz, Nat.mul_one]) holds n (by rw [hsz]; omega) hn (by omega) (by omega) (by omega) (growslice_fits (by omega) (by rw [hby]; omega)), ?_, ((Kept.refl (fun x => x = g) w).drew).alloc _, .inr (Nat.le_refl _)⟩
      unfold OwnB
      rw [hlz]
      refine ⟨by rw [hcz, List.length_append, cellsOf_len, List.length_replicate, Nat.mul_one], .inr ⟨w.heap.size, _, _, rfl, hbase, heap_alloc_new w.drew _, hge, hcm, ?_, ?_⟩⟩
      · simp only [Array.size_append, List.size_toArray, size_zeroCells, show (Value.int .u8 0).cells = #[Value.int .u8 0] from rfl, cellsOf_len]
        show l.length + n * 1 + (_ - _) * 1 = _
        omega
      · have e1 : ((cellsOf l).toList ++ List.replicate n (Value.int .u8 0)).length = (l.length + n) * 1 := by rw [List.length_append, cellsOf_len, List.length_replicate, Nat.mul_one]
        rw [hcz, ← e1]
        simp only [Array.toList_append, show (Value.int .u8 0).cells = #[Value.int .u8 0] from rfl, zeroCells_u8]
        exact List.take_left
/-- The same, at a plain region's list. -/
theorem wl_appendZ {w : World} {ops : Array Oper} {rest : List Oper} {o : Oper} {a : Act} {Q : Exit → Act → World → Prop} (hgd : o.guard = none) (s x : Operand)
    (ho : o.op = .call { callee := .builtin .append, args := #[s, x], argTypes := #[22, 3] }) (base g cap : Nat) (l : Bytes) (hs : a.eval s = .slice (some ⟨g, 0, none⟩) l.length cap) (hown : OwnB w base g cap l)
    (n : Nat) (hx : a.eval x = .int .i64 n) (hn : n ≤ 1000000) (hl : l.length ≤ 1000000) (hbase : base ≤ w.heap.size)
    (k : ∀ g' cap' w', OwnB w' base g' cap' (l ++ zeros n) → Kept (fun x => x = g) w w' → (g' = g ∨ w.heap.size ≤ g') → wpList Tryz.prog ops Q rest (a.put o.dst (.slice (some ⟨g', 0, none⟩) (l.length + n) cap')) w') : wpList Tryz.prog ops Q (o :: rest) a w := by
  obtain ⟨g', cap', w', hr, h2, h3, h4⟩ := run_appendZ o.type hown n hn hl hbase
  refine wpList_plain hgd fun K hK => ?_
  unfold Oper.wp
  simp [execOp, ho, resolve, invoke, builtin, hs, hx, hr, Result.andThen]
  exact hK _ _ (k g' cap' w' h2 h3 h4)
/-- 'clear' of bytes of the call's own, from a place on. -/
theorem OwnB.setz : ∀ (n : Nat) {w : World} {base g cap : Nat} {l : Bytes} (o : Nat), OwnB w base g cap l → o + n ≤ l.length → OwnB (w.setCells g o (List.replicate n (.int .u8 0))) base g cap (over l o (zeros n)) ∧ Kept (fun x => x = g) w (w.setCells g o (List.replicate n (.int .u8 0)))
  | 0, w, base, g, cap, l, o, h, _ => by
    have e : over l o (zeros 0) = l := by simp [over, zeros]
    rw [e]
    exact ⟨h, Kept.refl _ _⟩
  | n + 1, w, base, g, cap, l, o, h, hl => by
    have h1 := h.set o 0
    obtain ⟨h2, h3⟩ := OwnB.setz n (o + 1) h1 (by rw [List.length_set]; omega)
    have e : over (l.set o 0) (o + 1) (zeros n) = over l o (zeros (n + 1)) := by
      refine bytes_ext (by rw [over_len (by rw [List.length_set]; omega), over_len (by omega), List.length_set]) fun j hj => ?_
      rw [over_len (by rw [List.length_set]; omega), List.length_set] at hj
      rw [bAt_over (by rw [List.length_set, len_zeros']; omega) (by rw [List.length_set]; exact hj), bAt_over (by rw [len_zeros']; omega) hj, bAt_z, bAt_z, len_zeros', len_zeros', bAt_set' _ _ _ _ (by omega)]
      by_cases q1 : j = o
      · rw [if_neg (by omega), if_pos q1, if_pos (by omega)]
      · by_cases q2 : o + 1 ≤ j ∧ j < o + 1 + n
        · rw [if_pos q2, if_pos (by omega)]
        · rw [if_neg q2, if_neg q1, if_neg (by omega)]
    rw [e] at h2
    rw [List.replicate_succ]
    exact ⟨h2, (Kept.cell w g o _).trans' h3⟩
theorem run_clearB {w : World} {base g cap : Nat} {l : Bytes} (ty : TypeId) (h : OwnB w base g cap l) (o n c : Nat) (hl : o + n ≤ l.length) (D : Option Addr) (hD : 0 < n → D = some ⟨g, o, none⟩) :
    ∃ w', (Builtin.clear_ #[22] ty #[.slice D n c]).run Tryz.prog w = .ok (.tuple #[]) w' ∧ OwnB w' base g cap (over l o (zeros n)) ∧ Kept (fun x => x = g) w w' := by
  by_cases h0 : n = 0
  · subst h0
    have e : over l o (zeros 0) = l := by simp [over, zeros]
    rw [e]
    refine ⟨w, ?_, h, Kept.refl _ _⟩
    cases D <;> simp [Builtin.clear_, run_underlying Tryz.underlying22]
  · have hp : 0 < n := by omega
    obtain ⟨h2, h3⟩ := h.setz n o hl
    rw [hD hp]
    refine ⟨_, Lib.run_clear_slice w 22 5 ty (.int .u8 0) Tryz.underlying22 zeroU8 rfl rfl g o n c hp (fun j hj => ?_) (fun j hj => ?_), h2, h3⟩
    · rw [h.cellAt (i := o + j) (by omega)]; rfl
    · have := h; unfold OwnB at this; exact this.frozenAt (o + j)
end Go.Proofs.YtndflnedkpmpfaaGreatDoor
