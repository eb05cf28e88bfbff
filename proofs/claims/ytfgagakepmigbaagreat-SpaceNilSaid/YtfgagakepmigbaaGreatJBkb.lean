/-
  No statement is proved here.
-/
import Derived.Test.YtfgagakepmigbaaGreatJPgl
import Derived.Test.YtfgagakepmigbaaGreatJGs
namespace Go.Proofs.YtfgagakepmigbaaGreat
open Go.RowKit
theorem len_zerosY (n : Nat) : (zeros n).length = n := by simp [zeros]
theorem cellsOf_zeros (n : Nat) : (cellsOf (zeros n)).toList = List.replicate n (.int .u8 0) := by
  simp [cellsOf, zeros]
theorem run_append_room0 {P : Program} (w : World) (t u ty e : TypeId) (i : TypeInfo) (k : IntKind) (ht : P.underlying t = some (.slice e)) (hu : P.underlying u = some (.int k)) (hi : P.info? e = some i)
    (g sLen sCap : Nat) (cur : Array Value) (hg : w.heap[g]? = some (.cells cur e (0, 0))) (z : Value) (hz : i.zero = some z)
    (n : Nat) (hs : n * i.size ≠ 0) (h63 : n ≤ 1000000) (hby : i.bytes ≤ 1000) (hzc : z.cells.size = i.size) (h1 : ∀ v ∈ (Builtin.zeroCells z.cells n).toList, v.oneCell' = true)
    (hroom : sLen + n ≤ sCap) (hfit : sLen * i.size + n * i.size ≤ cur.size) :
    (Builtin.append_ #[t, u] ty #[.slice (some ⟨g, 0, none⟩) sLen sCap, .int .i64 n]).run P w =
      .ok (.slice (some ⟨g, 0, none⟩) (sLen + n) sCap) (w.setRow g (cur.toList.take (sLen * i.size) ++ (Builtin.zeroCells z.cells n).toList ++ cur.toList.drop (sLen * i.size + (Builtin.zeroCells z.cells n).toList.length)).toArray) := by
  have hl : (Builtin.zeroCells z.cells n).toList.length = n * i.size := by rw [Array.length_toList, size_zeroCells, hzc]
  have hst := run_storeCells_at P g (sLen * i.size) e (Builtin.zeroCells z.cells n).toList 0 cur w hg (by rw [hl]; simpa using hfit) h1
  simp only [Nat.add_zero] at hst
  have hw : IntKind.i64.wrap (n : Int) = (n : Int) := by rw [IntKind.wrap_i64]; omega
  have hn0 : ¬ ((n : Int) < 0) := by omega
  have hbb : n * i.bytes ≤ 1000000 * 1000 := Nat.mul_le_mul h63 hby
  have hb : ¬ (281474976710656 < (n : Int) * (i.bytes : Int)) := by
    have : ((n * i.bytes : Nat) : Int) = (n : Int) * (i.bytes : Int) := by simp
    omega
  simp [Builtin.append_, run_underlying ht, run_underlying hu, sizeOf, typeInfo, hi, asInt, asIntOf, hw, hn0, hb, hroom, hs, zeroValue, hz, Addr.add_lit, hst]
theorem run_append_grow0 {P : Program} (w : World) (t u ty e : TypeId) (i : TypeInfo) (k : IntKind) (ht : P.underlying t = some (.slice e)) (hu : P.underlying u = some (.int k)) (hi : P.info? e = some i) (z : Value) (hz : i.zero = some z)
    (b : Addr) (sLen sCap : Nat) (olds : List Value) (hlo : olds.length = sLen * i.size) (holds : ∀ j v, olds[j]? = some v → w.cell? (b.add j) = some v)
    (n : Nat) (hs : n * i.size ≠ 0) (h63 : n ≤ 1000000) (hby : i.bytes ≤ 1000)
    (hg : sCap < sLen + n) (h64 : ((sLen + n : Nat) : Int) ≤ 9223372036854775807) (hfit : Builtin.nextslicecap (sLen + n) sCap * i.bytes ≤ 281474976710656) :
    (Builtin.append_ #[t, u] ty #[.slice (some b) sLen sCap, .int .i64 n]).run P w =
      .ok (.slice (some ⟨w.heap.size, 0, none⟩) (sLen + n) (grownCap w (sLen + n) sCap e))
        (w.drew.alloc (.cells (olds.toArray ++ Builtin.zeroCells z.cells n ++ Builtin.zeroCells z.cells (grownCap w (sLen + n) sCap e - (sLen + n))) e)) := by
  have hn : ¬ (sLen + n ≤ sCap) := by omega
  have h63' : ¬ (9223372036854775807 < ((sLen : Int) + (n : Int))) := by omega
  have h48' : ¬ (281474976710656 < Builtin.nextslicecap (sLen + n) sCap * i.bytes) := by omega
  have hfo := run_firstCells_some (P := P) w.drew i.size sLen b sLen sCap olds hlo (by simpa using holds)
  have hw : IntKind.i64.wrap (n : Int) = (n : Int) := by rw [IntKind.wrap_i64]; omega
  have hn0 : ¬ ((n : Int) < 0) := by omega
  have hbb : n * i.bytes ≤ 1000000 * 1000 := Nat.mul_le_mul h63 hby
  have hb : ¬ (281474976710656 < (n : Int) * (i.bytes : Int)) := by
    have : ((n * i.bytes : Nat) : Int) = (n : Int) * (i.bytes : Int) := by simp
    omega
  simp [Builtin.append_, run_underlying ht, run_underlying hu, sizeOf, typeInfo, zeroValue, hi, hz, asInt, asIntOf, hw, hn0, hb, hn, hs, h63', h48', Question.forced, hfo, newRow, grownCap]
theorem zeroCells_u8 (n : Nat) : (Builtin.zeroCells #[Value.int .u8 0] n).toList = List.replicate n (.int .u8 0) := by
  simp [Builtin.zeroCells]
  apply List.ext_getElem
  · simp
  · intro i h1 h2
    simp [Nat.mod_one]
theorem run_appendZ {w : World} {base g cap : Nat} {l : Bytes} (ty : TypeId) (h : OwnB w base g cap l) (n : Nat) (hn : n ≤ 1000000) (hl : l.length ≤ 1000000) (hbase : base ≤ w.heap.size) :
    ∃ g' cap' w', (Builtin.append_ #[47, 3] ty #[.slice (some ⟨g, 0, none⟩) l.length cap, .int .i64 n]).run Tryz.prog w = .ok (.slice (some ⟨g', 0, none⟩) (l.length + n) cap') w' ∧
      OwnB w' base g' cap' (l ++ zeros n) ∧ Kept (fun x => x = g) w w' ∧ (g' = g ∨ w.heap.size ≤ g') := by
  obtain ⟨i, hi, hz, hsz, hby⟩ := info_parts info5
  have e63 : maxLen = 9223372036854775807 := rfl
  obtain ⟨cur, hb, hh, h1, h2, h3, h4⟩ := h.form
  have hlz : (l ++ zeros n).length = l.length + n := by rw [List.length_append, len_zerosY]
  have hcz : (cellsOf (l ++ zeros n)).toList = (cellsOf l).toList ++ List.replicate n (.int .u8 0) := by rw [cellsOf_append, cellsOf_zeros]
  by_cases h0 : n = 0
  · subst h0
    refine ⟨g, cap, w, ?_, by simpa [zeros] using h, Kept.refl _ _, .inl rfl⟩
    have hw : IntKind.i64.wrap 0 = 0 := by decide
    simp [Builtin.append_, run_underlying Tryz.underlying47, run_underlying Tryz.underlying3, sizeOf, typeInfo, hi, asInt, asIntOf, hw, h1, storeCells]
  · by_cases hroom : l.length + n ≤ cap
    · refine ⟨g, cap, _, run_append_room0 (P := Tryz.prog) w 47 3 ty 5 i _ Tryz.underlying47 Tryz.underlying3 hi g l.length cap cur hh _ hz n (by rw [hsz]; omega) hn (by omega) (by rw [hsz]; rfl) ?_ hroom (by rw [hsz]; omega), ?_, (Kept.refl (fun x => x = g) w).setRow (.inr rfl) _, .inl rfl⟩
      · intro v hv
        rw [show (Value.int .u8 0).cells = #[Value.int .u8 0] from rfl, zeroCells_u8] at hv
        rw [List.eq_of_mem_replicate hv]; rfl
      · rw [show (Value.int .u8 0).cells = #[Value.int .u8 0] from rfl, zeroCells_u8]
        unfold OwnB
        rw [hlz]
        refine ⟨by rw [hcz, List.length_append, cellsOf_len, List.length_replicate, Nat.mul_one], .inr ⟨g, cap, _, rfl, hb, setRow_heap w g cur _ 5 (0, 0) hh, hroom, h2, ?_, ?_⟩⟩
        · simp [hsz]; omega
        · rw [hcz, hsz, Nat.mul_one, Nat.mul_one, h4]
          have e1 : ((cellsOf l).toList ++ List.replicate n (Value.int .u8 0)).length = l.length + n := by rw [List.length_append, cellsOf_len, List.length_replicate]
          rw [← e1]
          exact List.take_left
    · have holds : ∀ j u, (cellsOf l).toList[j]? = some u → w.cell? ((⟨g, 0, none⟩ : Addr).add j) = some u := fun j u hu => by
        have : (⟨g, 0, none⟩ : Addr).add j = ⟨g, j, none⟩ := by rw [Addr.add_mid, Nat.zero_add]
        rw [this]
        refine cell_blk hh ?_
        rw [← h4, List.getElem?_take] at hu
        split at hu
        · rwa [Array.getElem?_toList] at hu
        · simp at hu
      have hge := grownCap_ge w (l.length + n) cap 5
      have hcm : grownCap w (l.length + n) cap 5 ≤ maxLen := grownCap_le_maxLen w (l.length + n) cap 5 (by omega)
      refine ⟨w.heap.size, _, _, run_append_grow0 (P := Tryz.prog) w 47 3 ty 5 i _ Tryz.underlying47 Tryz.underlying3 hi _ hz ⟨g, 0, none⟩ l.length cap (cellsOf l).toList (by rw [cellsOf_len, hsz, Nat.mul_one]) holds n (by rw [hsz]; omega) hn (by omega) (by omega) (by omega) (growslice_fits (by omega) (by rw [hby]; omega)), ?_, ((Kept.refl (fun x => x = g) w).drew).alloc _, .inr (Nat.le_refl _)⟩
      unfold OwnB
      rw [hlz]
      refine ⟨by rw [hcz, List.length_append, cellsOf_len, List.length_replicate, Nat.mul_one], .inr ⟨w.heap.size, _, _, rfl, hbase, heap_alloc_new w.drew _, hge, hcm, ?_, ?_⟩⟩
      · simp only [Array.size_append, List.size_toArray, size_zeroCells, show (Value.int .u8 0).cells = #[Value.int .u8 0] from rfl, cellsOf_len]
        show l.length + n * 1 + (_ - _) * 1 = _
        omega
      · have e1 : ((cellsOf l).toList ++ List.replicate n (Value.int .u8 0)).length = (l.length + n) * 1 := by rw [List.length_append, cellsOf_len, List.length_replicate, Nat.mul_one]
        rw [hcz, ← e1]
        simp only [Array.toList_append, show (Value.int .u8 0).cells = #[Value.int .u8 0] from rfl, zeroCells_u8]
        exact List.take_left
theorem wl_appendZ {w : World} {ops : Array Oper} {rest : List Oper} {o : Oper} {a : Act} {Q : Exit → Act → World → Prop} (hgd : o.guard = none) (s x : Operand)
    (ho : o.op = .call { callee := .builtin .append, args := #[s, x], argTypes := #[47, 3] }) (base g cap : Nat) (l : Bytes) (hs : a.eval s = .slice (some ⟨g, 0, none⟩) l.length cap) (hown : OwnB w base g cap l)
    (n : Nat) (hx : a.eval x = .int .i64 n) (hn : n ≤ 1000000) (hl : l.length ≤ 1000000) (hbase : base ≤ w.heap.size)
    (k : ∀ g' cap' w', OwnB w' base g' cap' (l ++ zeros n) → Kept (fun x => x = g) w w' → (g' = g ∨ w.heap.size ≤ g') → wpList Tryz.prog ops Q rest (a.put o.dst (.slice (some ⟨g', 0, none⟩) (l.length + n) cap')) w') : wpList Tryz.prog ops Q (o :: rest) a w := by
  obtain ⟨g', cap', w', hr, h2, h3, h4⟩ := run_appendZ o.type hown n hn hl hbase
  refine wpList_plain hgd fun K hK => ?_
  unfold Oper.wp
  simp [execOp, ho, resolve, invoke, builtin, hs, hx, hr, Result.andThen]
  exact hK _ _ (k g' cap' w' h2 h3 h4)
end Go.Proofs.YtfgagakepmigbaaGreat
namespace Go.Proofs.YtfgagakepmigbaaGreat
open Go.RowKit
def putI (n : Int) : Bytes := beN (n + 9223372036854775808).toNat 8
theorem putI_len (n : Int) : (putI n).length = 8 := beN_len _ 8
def getI (l : Bytes) : Int := ((valN (l.take 8) 0 : Nat) : Int) - 9223372036854775808
theorem get_put {n : Int} (h0 : -9223372036854775808 ≤ n) (h1 : n ≤ 9223372036854775807) (m : Bytes) : getI (putI n ++ m) = n := by
  unfold getI
  rw [List.take_append_of_le_length (by rw [putI_len]; exact Nat.le_refl 8), List.take_of_length_le (by rw [putI_len]; exact Nat.le_refl 8)]
  unfold putI
  rw [valN_be]
  omega
theorem bAt_be (n : Nat) : ∀ k i, i < k → bAt (beN n k) i = UInt8.ofNat (n / 256 ^ (k - 1 - i))
  | 0, i, h => by omega
  | k + 1, 0, _ => by show bAt (UInt8.ofNat (n / 256 ^ k) :: beN n k) 0 = _; unfold bAt; simp
  | k + 1, i + 1, h => by
    have := bAt_be n k i (by omega)
    show bAt (UInt8.ofNat (n / 256 ^ k) :: beN n k) (i + 1) = _
    rw [show k + 1 - 1 - (i + 1) = k - 1 - i by omega, ← this]
    unfold bAt
    simp
theorem wl_setY {w : World} {ops : Array Oper} {rest : List Oper} {o : Oper} {a : Act} {Q : Exit → Act → World → Prop} (hgd : o.guard = none) (t : TypeId) (x y : Operand) (ho : o.op = .store t x y) (ht : ((Tryz.prog).info? t).map (·.size) = some 1) (B g c : Nat) (l : Bytes) (i : Nat) (z : UInt8) (z' : Int) (hx : a.eval x = .pointer (some ⟨g, i, none⟩)) (hy : a.eval y = .int .u8 z') (hz : z' = (z.toNat : Int)) (h : OwnB w B g c l) (hi : i < l.length)
    (k : ∀ w', OwnB w' B g c (l.set i z) → Kept (fun x => x = g) w w' → wpList Tryz.prog ops Q rest (a.put o.dst undef) w') : wpList Tryz.prog ops Q (o :: rest) a w := by
  subst hz
  obtain ⟨cur, hB, hh, h1, h2, h3, ht'⟩ := h.form
  refine wl_store1 hgd t x y ho g i (.int .u8 z.toNat) cur hx hy hh ht (by omega) rfl ?_
  intro w' hb' hk'
  refine k w' ⟨by rw [cellsOf_len, Nat.mul_one], .inr ⟨g, c, _, by rw [List.length_set], hB, hb', by rw [List.length_set]; exact h1, h2, by simpa using h3, ?_⟩⟩ hk'
  rw [List.length_set, Nat.mul_one, Array.toList_setIfInBounds, List.take_set, ht', ← cellsOf_set]
  simp
theorem bits_u64 (a b : Nat) (ha : a < 18446744073709551616) (hb : b < 18446744073709551616) : bits .xor .u64 (a : Int) (b : Int) = ((a ^^^ b : Nat) : Int) ∧ bits .or .u64 (a : Int) (b : Int) = ((a ||| b : Nat) : Int) := by
  have hx : a ^^^ b < 2 ^ 64 := Nat.xor_lt_two_pow (by omega) (by omega)
  have hy : a ||| b < 2 ^ 64 := Nat.or_lt_two_pow (by omega) (by omega)
  have h1 : (BitVec.ofInt 64 (a : Int)).toNat = a := by
    rw [BitVec.ofInt_natCast, BitVec.toNat_ofNat]; exact Nat.mod_eq_of_lt (by omega)
  have h2 : (BitVec.ofInt 64 (b : Int)).toNat = b := by
    rw [BitVec.ofInt_natCast, BitVec.toNat_ofNat]; exact Nat.mod_eq_of_lt (by omega)
  have wr : ∀ n : Int, IntKind.u64.wrap n = n % 18446744073709551616 := fun n => by simp [IntKind.wrap, IntKind.bits, IntKind.signed]
  refine ⟨?_, ?_⟩
  · show IntKind.u64.wrap ((BitVec.ofInt 64 (a : Int) ^^^ BitVec.ofInt 64 (b : Int)).toNat : Int) = _
    rw [BitVec.toNat_xor, h1, h2, wr]
    omega
  · show IntKind.u64.wrap ((BitVec.ofInt 64 (a : Int) ||| BitVec.ofInt 64 (b : Int)).toNat : Int) = _
    rw [BitVec.toNat_or, h1, h2, wr]
    omega
theorem xor_top (m : Nat) (h : m < 9223372036854775808) : m ^^^ 9223372036854775808 = 9223372036854775808 + m := by
  apply Nat.eq_of_testBit_eq
  intro i
  have e : (9223372036854775808 : Nat) = 2 ^ 63 := rfl
  rw [Nat.testBit_xor, e, Nat.testBit_two_pow]
  rcases Nat.lt_trichotomy i 63 with hi | hi | hi
  · rw [Nat.testBit_two_pow_add_gt hi]
    have : ¬ 63 = i := by omega
    simp [this]
  · subst hi
    rw [Nat.testBit_two_pow_add_eq]
    simp
  · have h1 : 2 ^ 64 ≤ 2 ^ i := Nat.pow_le_pow_right (by decide) (by omega)
    rw [Nat.testBit_lt_two_pow (x := m) (by omega), Nat.testBit_lt_two_pow (x := 2 ^ 63 + m) (by omega)]
    have : ¬ 63 = i := by omega
    simp [this]
theorem wrapU (n : Int) : IntKind.u64.wrap n = n % 18446744073709551616 := by simp [IntKind.wrap, IntKind.bits, IntKind.signed]
theorem xor_tops (m : Nat) (h : m < 18446744073709551616) : ((m ^^^ 9223372036854775808 : Nat) : Int) = ((m : Int) + 9223372036854775808) % 18446744073709551616 := by
  by_cases c : m < 9223372036854775808
  · rw [xor_top m c]; omega
  · have e : m = 9223372036854775808 + (m - 9223372036854775808) := by omega
    have e2 : m ^^^ 9223372036854775808 = m - 9223372036854775808 := by
      have h1 := xor_top (m - 9223372036854775808) (by omega)
      have h2 : m = (m - 9223372036854775808) ^^^ 9223372036854775808 := by rw [h1]; omega
      calc m ^^^ 9223372036854775808 = ((m - 9223372036854775808) ^^^ 9223372036854775808) ^^^ 9223372036854775808 := by rw [← h2]
        _ = m - 9223372036854775808 := by rw [Nat.xor_assoc, Nat.xor_self, Nat.xor_zero]
    rw [e2]; omega
theorem xor63 (n : Int) (h0 : -9223372036854775808 ≤ n) (h1 : n ≤ 9223372036854775807) : bits .xor .u64 (IntKind.u64.wrap n) 9223372036854775808 = n + 9223372036854775808 := by
  obtain ⟨m, hm⟩ : ∃ m : Nat, (m : Int) = IntKind.u64.wrap n := ⟨(IntKind.u64.wrap n).toNat, by rw [wrapU]; omega⟩
  have hm2 : (m : Int) = n % 18446744073709551616 := by rw [hm, wrapU]
  have := (bits_u64 m 9223372036854775808 (by omega) (by decide)).1
  rw [← hm]
  show bits .xor .u64 (m : Int) ((9223372036854775808 : Nat) : Int) = _
  rw [this, xor_tops m (by omega)]
  omega
theorem be_take (u k : Nat) (hk : k < 8) : (((beN u 8).take k ++ zeros (8 - k)).set k (UInt8.ofNat (u / 256 ^ (7 - k)))) = (beN u 8).take (k + 1) ++ zeros (8 - (k + 1)) := by
  have hl := beN_len u 8
  have e1 : ((beN u 8).take k).length = k := by rw [List.length_take, hl]; omega
  have e2 : zeros (8 - k) = 0 :: zeros (8 - (k + 1)) := by unfold zeros; rw [show 8 - k = (8 - (k + 1)) + 1 by omega, List.replicate_succ]
  have e3 : (beN u 8)[k]? = some (UInt8.ofNat (u / 256 ^ (7 - k))) := by
    have h1 := bAt_be u 8 k hk
    unfold bAt at h1
    rw [List.getD_eq_getElem?_getD, List.getElem?_eq_getElem (by omega)] at h1
    rw [List.getElem?_eq_getElem (by omega)]
    simp at h1
    rw [h1]
  rw [List.set_append_right _ _ (by omega), e1, Nat.sub_self, e2, List.set_cons_zero, List.take_succ_eq_append_getElem (by omega)]
  have e4 : (beN u 8)[k]'(by omega) = UInt8.ofNat (u / 256 ^ (7 - k)) := by
    have := e3; rw [List.getElem?_eq_getElem (by omega)] at this; exact Option.some.inj this
  rw [e4]
  simp
set_option maxRecDepth 20000 in
set_option maxHeartbeats 800000 in
theorem putI_any (n : Int) (h0 : -9223372036854775808 ≤ n) (h1 : n ≤ 9223372036854775807) (w : World) :
    Calls Tryz.prog 126 #[.int .i64 n] w fun e w' => ∃ g, e = .returned (.slice (some ⟨g, 0, none⟩) 8 8) ∧ OwnB w' w.heap.size g 8 (putI n) ∧ Kept (fun _ => False) w w' := by
  obtain ⟨u, hu⟩ : ∃ u, u = n + 9223372036854775808 := ⟨_, rfl⟩
  have hx := xor63 n h0 h1
  rw [← hu] at hx
  have hu0 : 0 ≤ u := by omega
  have hu1 : u < 18446744073709551616 := by omega
  have HP := qh (show putI n = beN u.toNat 8 by unfold putI; rw [hu])
  clear hu
  go_enter Tryz.func126, Tryz.ntmps126
  go_wp2_with (refine wl_makeB rfl _ _ rfl .i64 .i64 8 8 rfl rfl (Nat.le_refl 8) (by decide) ?_)
  intro g w1 l1 l2 hb1 hk1
  have HO := qh (show OwnB w1 w.heap.size g 8 (zeros 8) from ⟨by simp [cellsOf, zeros], .inr ⟨g, 8, _, rfl, l1, hb1, Nat.le_refl 8, by decide, by simp [cellsOf, zeros], by simp [cellsOf, zeros]⟩⟩)
  have HK1 := qh hk1
  clear hb1 hk1
  go_wp2_with fail
  go_loopw [10] (fun i wr => ∃ k : Nat, k ≤ 8 ∧ i = .int .i64 k ∧ OwnB wr w.heap.size g 8 ((beN u.toNat 8).take k ++ zeros (8 - k)) ∧ Kept (fun _ => False) w wr) (fun i _ => 8 - (intOf i).toNat)
  case atStart => exact ⟨0, by omega, rfl, HO.out, HK1.out⟩
  case round =>
    obtain ⟨k, hk, rfl, ho, hkr⟩ := hrel
    have HO2 := qh ho
    have HK := qh hkr
    clear ho hkr
    by_cases hlt : k < 8
    · have i1 : (k : Int) < 8 := by omega
      have x1 : wrap64 (8 * (k : Int)) = 8 * (k : Int) := by unfold wrap64; omega
      have x2 : wrap64 (56 - 8 * (k : Int)) = 56 - 8 * (k : Int) := by unfold wrap64; omega
      have x3 : 56 - 8 * k = 8 * (7 - k) := by omega
      obtain ⟨B, hB⟩ : ∃ B : UInt8, B = UInt8.ofNat (u.toNat / 256 ^ (7 - k)) := ⟨_, rfl⟩
      have x5 : u / 2 ^ (8 * (7 - k)) % 256 = (B.toNat : Int) := by rw [hB]; exact shr_byte u hu0 (7 - k)
      have HB := qh hB
      have hlen : ((beN u.toNat 8).take k ++ zeros (8 - k)).length = 8 := by simp [beN_len, zeros]; omega
      have HLN := qh hlen
      clear hB hlen
      go_wp2_with (refine wl_setY rfl _ _ _ rfl (by kernel_rfl) w.heap.size g 8 _ k B _ rfl rfl (by exact x5) HO2.out (by rw [HLN.out]; exact hlt) ?_)
      intro w3 ho3 hk3
      have HO3 := qh ho3
      have HK3 := qh (HK.out.new hk3 (fun z hz => by subst hz; exact l1))
      clear ho3 hk3
      go_wp2
      go_roundw
      case rel => exact ⟨k + 1, by omega, by go_num, by rw [← be_take _ _ hlt, ← HB.out]; exact HO3.out, HK3.out⟩
      case measure => simp [intOf]; omega
    · have ek : k = 8 := by omega
      subst ek
      go_wp2
      go_ret
      refine ⟨g, rfl, ?_, HK.out⟩
      have := HO2.out
      rw [List.take_of_length_le (by rw [beN_len]; exact Nat.le_refl 8)] at this
      rw [HP.out]
      simpa [zeros] using this
end Go.Proofs.YtfgagakepmigbaaGreat
namespace Go.Proofs.YtfgagakepmigbaaGreat
open Go.RowKit
theorem or_be64 (V x : Nat) (hx : x < 256) (hV : V < 72057594037927936) : bits .or .u64 (((V : Int) * 256) % 18446744073709551616) (x : Int) = ((V * 256 + x : Nat) : Int) := by
  have e : ((V : Int) * 256) % 18446744073709551616 = ((V * 256 : Nat) : Int) := by omega
  rw [e, (bits_u64 (V * 256) x (by omega) (by omega)).2, or_be' V x hx]
theorem xorT (u : Nat) (h : u < 18446744073709551616) : wrap64 (bits .xor .u64 (u : Int) 9223372036854775808) = (u : Int) - 9223372036854775808 := by
  show wrap64 (bits .xor .u64 (u : Int) ((9223372036854775808 : Nat) : Int)) = _
  rw [(bits_u64 u 9223372036854775808 h (by decide)).1, xor_tops u h]
  unfold wrap64
  omega
set_option maxRecDepth 20000 in
set_option maxHeartbeats 800000 in
theorem getI_any (A : Option Addr) (n c : Nat) (l : Bytes) (w : World) (hn : l.length = n) (h : RdB w A l) (hl : 8 ≤ n) :
    Calls Tryz.prog 128 #[.slice A n c] w fun e w' => e = .returned (.tuple #[.int .i64 (getI l), .int .i64 8, .bool true]) ∧ w = w' := by
  subst hn
  have H := qh h
  clear h
  have h8 : ¬ (l.length : Int) < 8 := by omega
  have HL := qh hl
  clear hl
  go_enter Tryz.func128, Tryz.ntmps128
  go_wp2
  go_loopw [5, 10] (fun n i wr => ∃ k V : Nat, k ≤ 8 ∧ i = .int .i64 k ∧ n = .int .u64 V ∧ V = valN (l.take k) 0 ∧ w = wr) (fun n i wr => 8 - (intOf i).toNat)
  case atStart => exact ⟨0, 0, Nat.zero_le _, rfl, rfl, rfl, rfl⟩
  case round =>
    obtain ⟨k, V, hk, rfl, rfl, hV, rfl⟩ := hrel
    have hV64 : V < 256 ^ k := by
      have h1 := valN_lt (l.take k)
      rw [List.length_take, Nat.min_eq_left (by have := HL.out; omega)] at h1
      rw [hV]; exact h1
    have HV := qh hV
    clear hV
    by_cases hlt : k < 8
    · have i1 : (k : Int) < 8 := by omega
      have hkl : k < l.length := by have := HL.out; omega
      have hV56 : V < 72057594037927936 := by
        have h2 : 256 ^ k ≤ 256 ^ 7 := Nat.pow_le_pow_right (by decide) (by omega)
        exact Nat.lt_of_lt_of_le hV64 h2
      have hx := (bAt l k).toNat_lt
      obtain ⟨x, hx'⟩ : ∃ x, x = bAt l k := ⟨_, rfl⟩
      rw [← hx'] at hx
      have xo := or_be64 V x.toNat hx hV56
      obtain ⟨b, off, rfl, hcell⟩ := H.out.cell hkl
      rw [← hx'] at hcell
      have HX := qh hx'
      have hkl2 : (k : Int) < (l.length : Int) := by omega
      have x8 : (x.toNat : Int) % 18446744073709551616 = x.toNat := by omega
      have HVN := qh (show V * 256 + x.toNat = valN (l.take (k + 1)) 0 by rw [HV.out, ← valN_snoc, HX.out, List.take_succ_eq_append_getElem hkl, bAt_get hkl])
      obtain ⟨V2, hV2⟩ : ∃ V2, V2 = V * 256 + x.toNat := ⟨_, rfl⟩
      rw [← hV2] at xo HVN
      clear hx' hV2 hV64 hV56
      go_wp2
      go_roundw
      case rel => exact ⟨k + 1, V2, by omega, by go_num, by rw [wrapU, xo], HVN.out, by trivial⟩
      case measure => simp [intOf]; omega
    · have ek : k = 8 := by omega
      subst ek
      have xt := xorT V (by omega)
      have HG := qh (show getI l = (V : Int) - 9223372036854775808 by unfold getI; rw [← HV.out])
      go_wp2
      go_ret3
      refine ⟨?_, rfl⟩
      rw [HG.out, ← xt]
      rfl
set_option maxRecDepth 20000 in
set_option maxHeartbeats 800000 in
theorem csum_any (A : Option Addr) (n cap : Nat) (b : Bytes) (w : World) (hn : b.length = n) (h : RdB w A b) (hb : n ≤ 1000000) :
    Calls Tryz.prog 127 #[.slice A n cap] w fun e w' => e = .returned (.int .u32 (crcL b)) ∧ w = w' := by
  subst hn
  have HR := qh h
  clear h
  go_enter Tryz.func127, Tryz.ntmps127
  go_wp2
  go_loopw [3, 8] (fun c i wr => ∃ (j C2 : Nat), j ≤ b.length ∧ i = .int .i64 j ∧ c = .int .u32 C2 ∧ C2 < 4294967296 ∧ C2 = (b.take j).foldl crcB 4294967295 ∧ w = wr) (fun n i wr => b.length - (intOf i).toNat)
  case atStart => exact ⟨0, 4294967295, Nat.zero_le _, rfl, rfl, by omega, rfl, rfl⟩
  case round =>
    obtain ⟨j, C2, hj, rfl, rfl, hC2, eC2, rfl⟩ := hrel
    have EC2 := Lib.hid eC2
    clear eC2
    by_cases hjt : j < b.length
    · have i2 : (j : Int) < (b.length : Int) := by omega
      obtain ⟨bb, boff, rfl, hcell2⟩ := HR.out.cell hjt
      have hx := (bAt b j).toNat_lt
      obtain ⟨x, hx'⟩ : ∃ x, x = bAt b j := ⟨_, rfl⟩
      rw [← hx'] at hcell2 hx
      have HX := qh hx'
      clear hx'
      obtain ⟨C3, hC3⟩ : ∃ C3, C3 = C2 ^^^ x.toNat := ⟨_, rfl⟩
      have hC3t : C3 < 4294967296 := by rw [hC3]; exact Nat.xor_lt_two_pow (n := 32) hC2 (by omega)
      have xo : bits .xor .u32 (C2 : Int) (x.toNat : Int) = (C3 : Int) := by rw [hC3]; exact (bits_u32 _ _ hC2 (by omega)).1
      have HC3 := qh hC3
      clear hC3
      go_wp2_with fail
      go_loopw [3, 16] (fun c i wr => ∃ (m C4 : Nat), m ≤ 8 ∧ i = .int .i64 m ∧ c = .int .u32 C4 ∧ C4 < 4294967296 ∧ C4 = crcN m C3 ∧ w = wr) (fun n i wr => 8 - (intOf i).toNat)
      case atStart => exact ⟨0, C3, Nat.zero_le _, rfl, rfl, hC3t, rfl, rfl⟩
      case round =>
        obtain ⟨m, C4, hm, rfl, rfl, hC4, eC4, rfl⟩ := hrel
        have EC4 := Lib.hid eC4
        clear eC4
        by_cases hmt : m < 8
        · have i3 : (m : Int) < 8 := by omega
          have xa : bits .and .u32 (C4 : Int) 1 = ((C4 % 2 : Nat) : Int) := by
            have := (bits_u32 C4 1 hC4 (by omega)).2
            rw [Nat.and_one_is_mod] at this
            exact this
          have xm : (3988292384 * ((C4 % 2 : Nat) : Int)) % 4294967296 = ((3988292384 * (C4 % 2) : Nat) : Int) := by omega
          have xx : bits .xor .u32 ((C4 : Int) / 2) ((3988292384 * (C4 % 2) : Nat) : Int) = ((crcS C4 : Nat) : Int) := by
            have := (bits_u32 (C4 / 2) (3988292384 * (C4 % 2)) (by omega) (by omega)).1
            exact this
          have hC5 := crcS_lt hC4
          have XA := Lib.hid xa
          go_wp2_with fail
          refine ⟨⟨m + 1, crcS C4, by omega, by go_num, ?_, hC5, by rw [EC4.out]; rfl, by trivial⟩, by simp [intOf]; omega⟩
          rw [← xx]
          rfl
        · have em : m = 8 := by omega
          subst em
          go_wp2_with fail
          go_roundw
          case rel => exact ⟨j + 1, C4, by omega, by go_num, rfl, hC4, by rw [EC4.out, HC3.out, crcN_8, HX.out, EC2.out, List.take_succ_eq_append_getElem hjt, List.foldl_append, bAt_get hjt]; rfl, by trivial⟩
          case measure => simp [intOf]; omega
    · have ej : j = b.length := by omega
      subst ej
      go_wp2
      go_ret
      refine ⟨?_, rfl⟩
      have e := EC2.out
      rw [List.take_length] at e
      have x := (bits_u32 4294967295 C2 (by omega) hC2).1
      show Ending.returned (.int .u32 (bits .xor .u32 4294967295 (C2 : Int))) = _
      rw [show (4294967295 : Int) = ((4294967295 : Nat) : Int) from rfl, x, Nat.xor_comm]
      unfold crcL
      rw [← e]
end Go.Proofs.YtfgagakepmigbaaGreat
