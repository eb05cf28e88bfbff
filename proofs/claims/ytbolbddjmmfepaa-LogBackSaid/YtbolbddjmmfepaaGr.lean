/-
  No statement is proved here: a record's bytes with one of them turned, or cut off, are none.
-/
import Derived.Test.YtbolbddjmmfepaaGq
namespace Go.Proofs.Ytbolbddjmmfepaa
open Go.RowKit

theorem xor_cancel {a b m : Nat} (h : a ^^^ m = b ^^^ m) : a = b := by
  have := congrArg (fun n => n ^^^ m) h
  simpa [Nat.xor_assoc] using this
theorem xor_cancel' {a b m : Nat} (h : m ^^^ a = m ^^^ b) : a = b := by
  rw [Nat.xor_comm m a, Nat.xor_comm m b] at h
  exact xor_cancel h
theorem crcS_top {c : Nat} (h : c < 2 ^ 32) : (crcS c).testBit 31 = decide (c % 2 = 1) := by
  unfold crcS
  rw [Nat.testBit_xor, Nat.testBit_lt_two_pow (show c / 2 < 2 ^ 31 by omega)]
  rcases Nat.mod_two_eq_zero_or_one c with e | e <;> rw [e] <;> decide +kernel
theorem crcS_inj {c d : Nat} (hc : c < 2 ^ 32) (hd : d < 2 ^ 32) (h : crcS c = crcS d) : c = d := by
  have e : decide (c % 2 = 1) = decide (d % 2 = 1) := by rw [← crcS_top hc, ← crcS_top hd, h]
  have e2 : c % 2 = d % 2 := by
    rcases Nat.mod_two_eq_zero_or_one c with a | a <;> rcases Nat.mod_two_eq_zero_or_one d with b | b <;> simp [a, b] at e ⊢
  unfold crcS at h
  rw [e2] at h
  have := xor_cancel h
  omega
theorem crc8_inj {c d : Nat} (hc : c < 2 ^ 32) (hd : d < 2 ^ 32) (h : crcS (crcS (crcS (crcS (crcS (crcS (crcS (crcS c))))))) = crcS (crcS (crcS (crcS (crcS (crcS (crcS (crcS d)))))))) : c = d := by
  have c1 := crcS_lt hc; have c2 := crcS_lt c1; have c3 := crcS_lt c2; have c4 := crcS_lt c3; have c5 := crcS_lt c4; have c6 := crcS_lt c5; have c7 := crcS_lt c6
  have d1 := crcS_lt hd; have d2 := crcS_lt d1; have d3 := crcS_lt d2; have d4 := crcS_lt d3; have d5 := crcS_lt d4; have d6 := crcS_lt d5; have d7 := crcS_lt d6
  exact crcS_inj hc hd (crcS_inj c1 d1 (crcS_inj c2 d2 (crcS_inj c3 d3 (crcS_inj c4 d4 (crcS_inj c5 d5 (crcS_inj c6 d6 (crcS_inj c7 d7 h)))))))
theorem byte_lt (x : UInt8) : x.toNat < 2 ^ 32 := Nat.lt_trans x.toNat_lt (by decide)
theorem crcB_inj {c d : Nat} {x : UInt8} (hc : c < 2 ^ 32) (hd : d < 2 ^ 32) (h : crcB c x = crcB d x) : c = d :=
  xor_cancel (crc8_inj (Nat.xor_lt_two_pow hc (byte_lt x)) (Nat.xor_lt_two_pow hd (byte_lt x)) h)
theorem crcB_byte {c : Nat} {x y : UInt8} (hc : c < 2 ^ 32) (h : crcB c x = crcB c y) : x = y :=
  UInt8.toNat_inj.1 (xor_cancel' (crc8_inj (Nat.xor_lt_two_pow hc (byte_lt x)) (Nat.xor_lt_two_pow hc (byte_lt y)) h))
theorem crcF_inj : ∀ (l : Bytes) {c d : Nat}, c < 2 ^ 32 → d < 2 ^ 32 → l.foldl crcB c = l.foldl crcB d → c = d
  | [], _, _, _, _, h => h
  | x :: l, _, _, hc, hd, h => crcB_inj hc hd (crcF_inj l (crcB_lt x hc) (crcB_lt x hd) h)
theorem crcF_set : ∀ (l : Bytes) (c i : Nat) (y : UInt8), c < 2 ^ 32 → ∀ h : i < l.length, y ≠ l[i] → (l.set i y).foldl crcB c ≠ l.foldl crcB c
  | [], _, _, _, _, h, _ => by simp at h
  | x :: l, c, 0, y, hc, _, hy => fun h => hy (by
      have := crcF_inj l (crcB_lt y hc) (crcB_lt x hc) h
      exact crcB_byte hc this)
  | x :: l, c, i + 1, y, hc, h, hy => crcF_set l (crcB c x) i y (crcB_lt x hc) (Nat.lt_of_succ_lt_succ h) hy
theorem crcL_set {l : Bytes} {i : Nat} {y : UInt8} (h : i < l.length) (hy : y ≠ l[i]) : crcL (l.set i y) ≠ crcL l :=
  fun e => crcF_set l _ i y (by decide) h hy (xor_cancel e)

theorem cut_set_ne (b : Bytes) (i : Nat) (y : UInt8) (a n : Nat) (h : i < a ∨ a + n ≤ i) : cut (b.set i y) a n = cut b a n := by
  apply List.ext_getElem?
  intro j
  unfold cut
  rw [List.getElem?_take, List.getElem?_take, List.getElem?_drop, List.getElem?_drop]
  by_cases hj : j < n
  · rw [if_pos hj, if_pos hj, List.getElem?_set_ne (by omega)]
  · rw [if_neg hj, if_neg hj]
theorem cut_set_in (b : Bytes) (i : Nat) (y : UInt8) (a n : Nat) (h : a ≤ i) : cut (b.set i y) a n = (cut b a n).set (i - a) y := by
  apply List.ext_getElem?
  intro j
  unfold cut
  by_cases hj : j < n
  · rw [List.getElem?_take, if_pos hj, List.getElem?_drop, List.getElem?_set, List.getElem?_set]
    by_cases e : i = a + j
    · have e2 : i - a = j := by omega
      rw [if_pos e, if_pos e2]
      subst e
      by_cases hl : a + j < b.length
      · rw [if_pos hl, if_pos (by rw [List.length_take, List.length_drop]; omega)]
      · rw [if_neg hl, if_neg (by rw [List.length_take, List.length_drop]; omega)]
    · have e2 : ¬ i - a = j := by omega
      rw [if_neg e, if_neg e2, List.getElem?_take, if_pos hj, List.getElem?_drop]
  · rw [List.getElem?_eq_none (by rw [List.length_take]; omega), List.getElem?_eq_none (by rw [List.length_set, List.length_take]; omega)]
theorem getF_own {r : RecM} (hr : rightM r) : GetF (encM r) r := getF hr (by rw [List.take_length])
/-- Cut off it is none. -/
theorem get_cut {r : RecM} (hr : rightM r) {k : Nat} (hk : k < (encM r).length) : getL ((encM r).take k) = none := by
  cases h : getL ((encM r).take k) with
  | none => rfl
  | some p =>
    exfalso
    obtain ⟨r', k'⟩ := p
    obtain ⟨hr', hk', he⟩ := getL_B h
    subst hk'
    have F' := getF hr' he
    have F := getF_own hr
    have h1 := F'.len
    rw [List.length_take] at h1
    have h2 := F'.n
    have h3 := F.n
    have h4 := encM_len r
    have h5 := body_le hr'
    unfold gN at h2 h3
    rw [cut_pre _ _ _ _ (by omega)] at h2
    omega
theorem shape_len {r r' : RecM} (hr : rightM r) (hr' : rightM r') (hk : r'.kind = r.kind) (hp : bodyM r' = (bodyM r).take (bodyM r').length) : (bodyM r').length = (bodyM r).length := by
  have key : ∀ s : RecM, rightM s → (s.kind = 1 ∧ s.new.length < 256 ^ 2 ∧ (bodyM s).length = 25 + 2 * s.new.length ∧ cut (bodyM s) 23 2 = beN s.new.length 2) ∨
      (s.kind = 2 ∧ s.new.length < 256 ^ 2 ∧ (bodyM s).length = 33 + s.new.length ∧ cut (bodyM s) 31 2 = beN s.new.length 2) ∨ (s.kind ≠ 1 ∧ s.kind ≠ 2 ∧ (bodyM s).length = 17) := by
    intro s hs
    rcases right_kind hs with h | h | h
    · have hf := h.2.2.1
      have f1 := hf.2.2.2.2.1
      have f2 := hf.2.2.2.2.2
      have f3 := hf.2.2.1
      have hn : s.new ≠ [] := fun hn => by rw [hn] at f1; simp at f1
      refine .inl ⟨h.1, by omega, ?_, ?_⟩
      · rw [body_one h.1 hn]; simp [beN_len]; omega
      · have b0 : bodyM s = ([s.kind] ++ (beN s.tx.toNat 8 ++ (beN s.prev.toNat 8 ++ (beN s.blk.toNat 4 ++ beN s.off.toNat 2)))) ++ (beN s.new.length 2 ++ (s.old ++ s.new)) := by
          rw [body_one h.1 hn]; simp
        rw [b0]
        exact cut_at _ _ _ _ _ (by simp [beN_len]) (beN_len _ _)
    · have hf := h.2.1
      have f1 := hf.2.2.2.2.1
      have f2 := hf.2.2.2.2.2
      have f3 := hf.2.2.1
      have hn : s.new ≠ [] := fun hn => by rw [hn] at f1; simp at f1
      refine .inr (.inl ⟨h.1, by omega, ?_, ?_⟩)
      · rw [body_two h.1 hn, h.2.2]; simp [beN_len]; omega
      · have b0 : bodyM s = ([s.kind] ++ (beN s.tx.toNat 8 ++ (beN s.prev.toNat 8 ++ (beN s.next.toNat 8 ++ (beN s.blk.toNat 4 ++ beN s.off.toNat 2))))) ++ (beN s.new.length 2 ++ (s.old ++ s.new)) := by
          rw [body_two h.1 hn]; simp
        rw [b0]
        exact cut_at _ _ _ _ _ (by simp [beN_len]) (beN_len _ _)
    · have h1 : s.kind ≠ 1 := fun hk' => by rcases h.1 with h | h <;> rw [hk'] at h <;> exact absurd h (by decide)
      have h2 : s.kind ≠ 2 := fun hk' => by rcases h.1 with h | h <;> rw [hk'] at h <;> exact absurd h (by decide)
      refine .inr (.inr ⟨h1, h2, ?_⟩)
      rw [body_end h2 h.2.2.2.2.2]; simp [beN_len]
  have be_inj : ∀ m n : Nat, m < 256 ^ 2 → n < 256 ^ 2 → beN m 2 = beN n 2 → m = n := by
    intro m n hm hn e
    have := congrArg (fun l => valN l 0) e
    simpa [valN_be, Nat.mod_eq_of_lt hm, Nat.mod_eq_of_lt hn] using this
  have kr := key r hr
  have kr' := key r' hr'
  rw [hk] at kr'
  rcases kr with ⟨k1, k2, k3, k4⟩ | ⟨k1, k2, k3, k4⟩ | ⟨k1, k2, k3⟩
  · rcases kr' with ⟨j1, j2, j3, j4⟩ | ⟨j1, _⟩ | ⟨j1, _⟩
    · rw [hp, cut_pre _ _ _ _ (by omega), k4] at j4
      have := be_inj _ _ k2 j2 j4
      omega
    · rw [k1] at j1; exact absurd j1 (by decide)
    · exact absurd k1 j1
  · rcases kr' with ⟨j1, _⟩ | ⟨j1, j2, j3, j4⟩ | ⟨_, j1, _⟩
    · rw [k1] at j1; exact absurd j1 (by decide)
    · rw [hp, cut_pre _ _ _ _ (by omega), k4] at j4
      have := be_inj _ _ k2 j2 j4
      omega
    · exact absurd k1 j1
  · rcases kr' with ⟨j1, _⟩ | ⟨j1, _⟩ | ⟨_, _, j3⟩
    · exact absurd j1 k1
    · exact absurd j1 k2
    · omega
theorem crc_of {b : Bytes} {r : RecM} (F : GetF b r) : valN (cut b 14 4) 0 = crcL (b.take 14 ++ cut b 18 (bodyM r).length) := by
  have := Decidable.byContradiction (fun h => F.bad (.inr (.inr h)))
  rw [this]
  unfold gBody
  rw [F.n]
/-- With one byte turned it is none. -/
theorem get_turned {r : RecM} (hr : rightM r) {i : Nat} {y : UInt8} (hi : i < (encM r).length) (hy : y ≠ (encM r)[i]) : getL ((encM r).set i y) = none := by
  cases h : getL ((encM r).set i y) with
  | none => rfl
  | some p =>
    exfalso
    obtain ⟨r', k'⟩ := p
    obtain ⟨hr', hk', he⟩ := getL_B h
    subst hk'
    have F' := getF hr' he
    have F := getF_own hr
    have h1 := F'.len
    rw [List.length_set, encM_len] at h1
    have h2 := F'.n
    have h3 := F.n
    have h4 := encM_len r
    have h5 := body_le hr'
    have c' := crc_of F'
    have c := crc_of F
    have hh : ∀ a n, a ≤ i → i < a + n → a + n ≤ (encM r).length → cut ((encM r).set i y) a n ≠ cut (encM r) a n := by
      intro a n ha hn hl e
      rw [cut_set_in _ _ _ _ _ ha] at e
      have l0 := cut_len (encM r) a n hl
      have := congrArg (fun l => l[i - a]?) e
      rw [List.getElem?_set_self (by omega)] at this
      unfold cut at this
      rw [List.getElem?_take, if_pos (by omega), List.getElem?_drop, show a + (i - a) = i by omega, List.getElem?_eq_getElem hi] at this
      exact hy (Option.some.inj this)
    by_cases g : i = 12 ∨ i = 13
    · have n1 : (bodyM r').length ≠ (bodyM r).length := fun e => by
        have e' : gN ((encM r).set i y) = gN (encM r) := by rw [h2, h3, e]
        unfold gN at e'
        refine hh 12 2 (by omega) (by omega) (by omega) ?_
        rw [← beN_cut ((encM r).set i y) 12 2 (by rw [List.length_set]; omega), e', beN_cut (encM r) 12 2 (by omega)]
      have eb : bodyM r' = (bodyM r).take (bodyM r').length := by
        have e1 := F'.body
        have e2 := F.body
        unfold gBody at e1 e2
        rw [h2, cut_set_ne _ _ _ _ _ (by omega)] at e1
        rw [← e2, h3]
        unfold cut at e1 ⊢
        rw [List.take_take, Nat.min_eq_left (by omega)]
        exact e1.symm
      have ek : r'.kind = r.kind := by
        have k1 : ∀ s : RecM, bAt (bodyM s) 0 = s.kind := fun _ => rfl
        rw [← k1 r', ← k1 r, eb]
        unfold bAt
        rw [List.getD_eq_getElem?_getD, List.getD_eq_getElem?_getD, List.getElem?_take, if_pos (by omega)]
      exact n1 (shape_len hr hr' ek eb)
    · have en : (bodyM r').length = (bodyM r).length := by
        rw [← h2, ← h3]
        unfold gN
        rw [cut_set_ne _ _ _ _ _ (by omega)]
      rw [en] at c'
      have t1 : ((encM r).set i y).take 14 = cut ((encM r).set i y) 0 14 := rfl
      have t2 : (encM r).take 14 = cut (encM r) 0 14 := rfl
      rw [t1] at c'
      rw [t2] at c
      by_cases g2 : 14 ≤ i ∧ i < 18
      · rw [cut_set_ne _ _ _ 0 14 (by omega), cut_set_ne _ _ _ 18 _ (by omega), ← c] at c'
        refine hh 14 4 (by omega) (by omega) (by omega) ?_
        rw [← beN_cut ((encM r).set i y) 14 4 (by rw [List.length_set]; omega), c', beN_cut (encM r) 14 4 (by omega)]
      · rw [cut_set_ne _ _ _ 14 4 (by omega), c] at c'
        have q : ∀ P Q : Bytes, ∀ j : Nat, ∀ hj : j < P.length, Q = P.set j y → P[j] = (encM r)[i] → crcL P = crcL Q → False := by
          intro P Q j hj e1 e2 e3
          subst e1
          exact crcL_set hj (by rw [e2]; exact hy) e3.symm
        have l1 : (cut (encM r) 0 14).length = 14 := cut_len _ _ _ (by omega)
        have l2 : (cut (encM r) 18 (bodyM r).length).length = (bodyM r).length := cut_len _ _ _ (by omega)
        by_cases g3 : i < 14
        · rw [cut_set_ne _ _ _ 18 _ (by omega), cut_set_in _ _ _ 0 14 (by omega), Nat.sub_zero] at c'
          refine q _ _ i (by rw [List.length_append, l1]; omega) ?_ ?_ c'
          · rw [List.set_append, if_pos (by omega)]
          · rw [List.getElem_append_left (by omega)]
            simp [cut]
        · rw [cut_set_ne _ _ _ 0 14 (by omega), cut_set_in _ _ _ 18 _ (by omega)] at c'
          refine q _ _ (14 + (i - 18)) (by rw [List.length_append, l1, l2]; omega) ?_ ?_ c'
          · rw [List.set_append, if_neg (by omega), l1, show 14 + (i - 18) - 14 = i - 18 by omega]
          · rw [List.getElem_append_right (by omega)]
            simp only [cut, List.getElem_take, List.getElem_drop]
            congr 1
            rw [List.length_take, List.length_drop]
            omega
end Go.Proofs.Ytbolbddjmmfepaa
