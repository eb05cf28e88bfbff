/-
  No statement is proved here.
-/
import Derived.Test.YtfgagakepmigbaaGreatJGm
namespace Go.Proofs.YtfgagakepmigbaaGreat
open Go.RowKit
theorem crcS_lt {c : Nat} (h : c < 2 ^ 32) : crcS c < 2 ^ 32 := by
  unfold crcS
  exact Nat.xor_lt_two_pow (by omega) (by omega)
theorem crcB_lt {c : Nat} (x : UInt8) (h : c < 2 ^ 32) : crcB c x < 2 ^ 32 := by
  have hx : x.toNat < 2 ^ 32 := Nat.lt_trans x.toNat_lt (by decide)
  unfold crcB
  exact crcS_lt (crcS_lt (crcS_lt (crcS_lt (crcS_lt (crcS_lt (crcS_lt (crcS_lt (Nat.xor_lt_two_pow h hx))))))))
theorem crcF_lt : ∀ (l : Bytes) (c : Nat), c < 2 ^ 32 → l.foldl crcB c < 2 ^ 32
  | [], _, h => h
  | x :: l, c, h => crcF_lt l (crcB c x) (crcB_lt x h)
theorem crcL_lt (l : Bytes) : crcL l < 2 ^ 32 := Nat.xor_lt_two_pow (crcF_lt l _ (by decide)) (by decide)
theorem cut_len (l : Bytes) (a n : Nat) (h : a + n ≤ l.length) : (cut l a n).length = n := by
  unfold cut; rw [List.length_take, List.length_drop]; omega
theorem cut_drop (l : Bytes) (a n : Nat) : cut l a n ++ l.drop (a + n) = l.drop a := by
  have e : l.drop (a + n) = (l.drop a).drop n := by simp [List.drop_drop]
  unfold cut
  rw [e, List.take_append_drop]
theorem cut_cut (l : Bytes) (a n m : Nat) : cut l a n ++ cut l (a + n) m = cut l a (n + m) := by
  have e : l.drop (a + n) = (l.drop a).drop n := by simp [List.drop_drop]
  unfold cut
  rw [e, List.take_add]
theorem cut_at (p x q : Bytes) (a n : Nat) (hp : p.length = a) (hx : x.length = n) : cut (p ++ (x ++ q)) a n = x := by
  subst hp hx; simp [cut]
theorem cut_in (b : Bytes) (k n a m : Nat) (h : a + m ≤ n) : cut (cut b k n) a m = cut b (k + a) m := by
  unfold cut
  rw [List.drop_take, List.take_take, List.drop_drop, Nat.min_eq_left (by omega)]
theorem cut_pre (b : Bytes) (k a n : Nat) (h : a + n ≤ k) : cut (b.take k) a n = cut b a n := by
  have := cut_in b 0 k a n h
  simpa [cut] using this
theorem sgn_in {v : Nat} (h : 0 ≤ sgn v) (hv : v < 256 ^ 8) : sgn v = v ∧ v < 2 ^ 63 := by
  unfold sgn at *
  split at h <;> rename_i h1
  · rw [if_pos h1]; omega
  · omega
theorem sgn_of {v : Nat} (h : v < 2 ^ 63) : sgn v = v := by
  unfold sgn; rw [if_pos (by omega)]
theorem beN_cut (l : Bytes) (a n : Nat) (h : a + n ≤ l.length) : beN (valN (cut l a n) 0) n = cut l a n := by
  have := beN_val (cut l a n)
  rwa [cut_len l a n h] at this
theorem valN_cut (l : Bytes) (a n : Nat) (h : a + n ≤ l.length) : valN (cut l a n) 0 < 256 ^ n := by
  have := valN_lt (cut l a n)
  rwa [cut_len l a n h] at this
theorem beN_sgn (l : Bytes) (a : Nat) (h : a + 8 ≤ l.length) (hp : 0 ≤ sgn (valN (cut l a 8) 0)) : beN (sgn (valN (cut l a 8) 0)).toNat 8 = cut l a 8 := by
  rw [(sgn_in hp (valN_cut l a 8 h)).1, Int.toNat_natCast, beN_cut l a 8 h]
theorem body_one {r : RecM} (hk : r.kind = 1) (hn : r.new ≠ []) : bodyM r = r.kind :: (beN r.tx.toNat 8 ++ (beN r.prev.toNat 8 ++
    (beN r.blk.toNat 4 ++ (beN r.off.toNat 2 ++ (beN r.new.length 2 ++ (r.old ++ r.new)))))) := by
  unfold bodyM
  rw [if_neg (by rw [hk]; decide), if_neg hn, List.nil_append]
theorem body_two {r : RecM} (hk : r.kind = 2) (hn : r.new ≠ []) : bodyM r = r.kind :: (beN r.tx.toNat 8 ++ (beN r.prev.toNat 8 ++ (beN r.next.toNat 8 ++
    (beN r.blk.toNat 4 ++ (beN r.off.toNat 2 ++ (beN r.new.length 2 ++ (r.old ++ r.new))))))) := by
  unfold bodyM
  rw [if_pos hk, if_neg hn]
theorem body_end {r : RecM} (hk : r.kind ≠ 2) (hn : r.new = []) : bodyM r = r.kind :: (beN r.tx.toNat 8 ++ beN r.prev.toNat 8) := by
  unfold bodyM
  rw [if_neg hk, if_pos hn, List.nil_append, List.append_nil]
theorem encM_len (r : RecM) : (encM r).length = 18 + (bodyM r).length := by
  simp [encM, headM, beN_len]; omega
theorem headM_len (r : RecM) : (headM r).length = 14 := by simp [headM, beN_len]
theorem bAt_take (B : Bytes) (h : 1 ≤ B.length) : B = bAt B 0 :: B.drop 1 := by
  cases B with
  | nil => simp at h
  | cons x T => rfl
theorem body_of (B : Bytes) (h : 17 ≤ B.length) : B = bAt B 0 :: (cut B 1 8 ++ (cut B 9 8 ++ B.drop 17)) := by
  rw [show B.drop 17 = B.drop (9 + 8) from rfl, cut_drop, show B.drop 9 = B.drop (1 + 8) from rfl, cut_drop]
  exact bAt_take B (by omega)
theorem rest_of (R : Bytes) : R = cut R 0 4 ++ (cut R 4 2 ++ (cut R 6 2 ++ R.drop 8)) := by
  rw [show R.drop 8 = R.drop (6 + 2) from rfl, cut_drop, show R.drop 6 = R.drop (4 + 2) from rfl, cut_drop, show R.drop 4 = R.drop (0 + 4) from rfl, cut_drop]
  rfl
theorem enc_of {b : Bytes} {r : RecM} (hg : ¬ gBad b) (hl : ¬ b.length < 18) (hr : rightM r) (h1 : r.lsn = sgn (valN (cut b 0 8) 0)) (h2 : r.turn = ((valN (cut b 8 4) 0 : Nat) : Int))
    (hb : bodyM r = gBody b) : rightM r ∧ 18 + gN b = (encM r).length ∧ encM r = b.take (18 + gN b) := by
  have g1 : ¬ (b.length - 18 < gN b) := fun h => hg (.inl h)
  have g3 : valN (cut b 14 4) 0 = crcL (b.take 14 ++ gBody b) := Decidable.byContradiction (fun h => hg (.inr (.inr h)))
  have lb : (gBody b).length = gN b := cut_len _ _ _ (by omega)
  have e1 : beN r.lsn.toNat 8 = cut b 0 8 := by
    have h0 := hr.1
    rw [h1] at h0 ⊢
    exact beN_sgn b 0 (by omega) (by omega)
  have e2 : beN r.turn.toNat 4 = cut b 8 4 := by rw [h2, Int.toNat_natCast, beN_cut b 8 4 (by omega)]
  have e3 : beN (bodyM r).length 2 = cut b 12 2 := by rw [hb, lb]; exact beN_cut b 12 2 (by omega)
  have e4 : headM r = b.take 14 := by
    unfold headM
    rw [e1, e2, e3, show cut b 12 2 = cut b (8 + 4) 2 from rfl, cut_cut, show cut b 8 (4 + 2) = cut b (0 + 8) 6 from rfl, cut_cut]
    rfl
  have e5 : beN (crcL (headM r ++ bodyM r)) 4 = cut b 14 4 := by rw [e4, hb, ← g3, beN_cut b 14 4 (by omega)]
  refine ⟨hr, ?_, ?_⟩
  · rw [encM_len, hb, lb]
  · unfold encM
    rw [e5, e4, hb]
    unfold gBody
    rw [show cut b 18 (gN b) = cut b (14 + 4) (gN b) from rfl, cut_cut, show b.take 14 = cut b 0 14 from rfl, show cut b 14 (4 + gN b) = cut b (0 + 14) (4 + gN b) from by rw [Nat.zero_add], cut_cut]
    unfold cut
    rw [List.drop_zero]
    congr 1
    omega
theorem right_kind {r : RecM} (hr : rightM r) : (r.kind = 1 ∧ r.next = 0 ∧ fitsM r ∧ r.old.length = r.new.length) ∨ (r.kind = 2 ∧ fitsM r ∧ r.old = []) ∨
    ((r.kind = 3 ∨ r.kind = 4) ∧ r.next = 0 ∧ r.blk = 0 ∧ r.off = 0 ∧ r.old = [] ∧ r.new = []) := hr.2.2.2.2.2.2.2
theorem getL_B {b : Bytes} {r : RecM} {k : Nat} (h : getL b = some (r, k)) : rightM r ∧ k = (encM r).length ∧ encM r = b.take k := by
  unfold getL at h
  split at h
  · cases h
  rename_i hl
  split at h
  · cases h
  rename_i hg
  have g1 : ¬ (b.length - 18 < gN b) := fun h => hg (.inl h)
  have g2 : ¬ (gN b < 17) := fun h => hg (.inr (.inl h))
  have lb : (gBody b).length = gN b := cut_len _ _ _ (by omega)
  have hB := body_of (gBody b) (by omega)
  split at h
  · rename_i hk
    split at h
    · cases h
    rename_i h8
    split at h
    · cases h
    rename_i hm
    have hm := Decidable.not_not.1 hm
    split at h
    · rename_i hr
      obtain ⟨rfl, rfl⟩ := Prod.mk.inj (Option.some.inj h)
      have hS := rest_of (gRest1 b)
      rcases hk with hk | hk
      · have hu : gUn b := Decidable.byContradiction (fun hn => by
          have : gRest1 b = gRest b := if_neg hn
          rw [this] at h8
          exact hn ⟨hk, by omega⟩)
        have ho : ¬ gOl b := fun ho => by have := ho.1; rw [hk] at this; exact absurd this (by decide)
        have eR : gRest1 b = (gRest b).drop 8 := if_pos hu
        have e3 : gRest3 b = gRest2 b := if_neg ho
        have e4 : gR4 b = ⟨sgn (valN (cut b 0 8) 0), valN (cut b 8 4) 0, gKind b, sgn (valN (cut (gBody b) 1 8) 0), sgn (valN (cut (gBody b) 9 8) 0), sgn (valN (cut (gRest b) 0 8) 0),
            valN (cut (gRest1 b) 0 4) 0, valN (cut (gRest1 b) 4 2) 0, [], gRest2 b⟩ := by
          unfold gR4 gR3
          rw [if_neg ho, e3]
          unfold gR2 gR1
          rw [if_pos hu]
          rfl
        have hnew : (gR4 b).new ≠ [] := fun hn => by
          rcases right_kind hr with h | h | h
          · rw [e4] at h; have := h.1; rw [show (RecM.kind _) = gKind b from rfl, hk] at this; exact absurd this (by decide)
          · have := h.2.1.2.2.2.2.1; rw [hn] at this; simp at this
          · rw [e4] at h; have := h.1; rw [show (RecM.kind _) = gKind b from rfl, hk] at this; exact absurd this (by decide)
        refine enc_of hg hl hr (by rw [e4]) (by rw [e4]) ?_
        rw [body_two (by rw [e4]; exact hk) hnew]
        have q1 := hr.2.2.2.2.1.1
        have q2 := hr.2.2.2.2.2.1.1
        have q3 := hr.2.2.2.2.2.2.1.1
        have l1 : (gRest b).length = gN b - 17 := by unfold gRest; rw [List.length_drop, lb]
        have l2 : (gRest1 b).length = gN b - 25 := by rw [eR, List.length_drop, l1]; omega
        have hu2 := hu.2
        rw [e4] at q1 q2 q3 ⊢
        have w1 := beN_sgn (gBody b) 1 (by omega) q1
        have w2 := beN_sgn (gBody b) 9 (by omega) q2
        have w3 := beN_sgn (gRest b) 0 (by omega) q3
        have w4 := beN_cut (gRest1 b) 0 4 (by omega)
        have w5 := beN_cut (gRest1 b) 4 2 (by omega)
        have w6 : beN (gRest2 b).length 2 = cut (gRest1 b) 6 2 := by
          rw [e3] at hm
          rw [hm]; exact beN_cut (gRest1 b) 6 2 (by omega)
        show gKind b :: (beN (sgn (valN (cut (gBody b) 1 8) 0)).toNat 8 ++ (beN (sgn (valN (cut (gBody b) 9 8) 0)).toNat 8 ++ (beN (sgn (valN (cut (gRest b) 0 8) 0)).toNat 8 ++
          (beN (valN (cut (gRest1 b) 0 4) 0) 4 ++ (beN (valN (cut (gRest1 b) 4 2) 0) 2 ++ (beN (gRest2 b).length 2 ++ ([] ++ gRest2 b))))))) = gBody b
        rw [w1, w2, w3, w4, w5, w6, List.nil_append, show gRest2 b = (gRest1 b).drop 8 from rfl, ← hS, eR, show (gRest b).drop 8 = (gRest b).drop (0 + 8) from rfl, cut_drop]
        exact hB.symm
      · have hu : ¬ gUn b := fun hu => by have := hu.1; rw [hk] at this; exact absurd this (by decide)
        have eR : gRest1 b = gRest b := if_neg hu
        have ho : gOl b := Decidable.byContradiction (fun hn => by
          have : gRest3 b = gRest2 b := if_neg hn
          rw [this] at hm
          exact hn ⟨hk, by omega⟩)
        have e3 : gRest3 b = (gRest2 b).drop (gM b) := if_pos ho
        have e4 : gR4 b = ⟨sgn (valN (cut b 0 8) 0), valN (cut b 8 4) 0, gKind b, sgn (valN (cut (gBody b) 1 8) 0), sgn (valN (cut (gBody b) 9 8) 0), 0,
            valN (cut (gRest1 b) 0 4) 0, valN (cut (gRest1 b) 4 2) 0, (gRest2 b).take (gM b), (gRest2 b).drop (gM b)⟩ := by
          unfold gR4 gR3
          rw [if_pos ho, e3]
          unfold gR2 gR1
          rw [if_neg hu]
          rfl
        have hnew : (gR4 b).new ≠ [] := fun hn => by
          rcases right_kind hr with h | h | h
          · have := h.2.2.1.2.2.2.2.1; rw [hn] at this; simp at this
          · have := h.2.1.2.2.2.2.1; rw [hn] at this; simp at this
          · rw [e4] at h; have := h.1; rw [show (RecM.kind _) = gKind b from rfl, hk] at this; exact absurd this (by decide)
        refine enc_of hg hl hr (by rw [e4]) (by rw [e4]) ?_
        rw [body_one (by rw [e4]; exact hk) hnew]
        have q1 := hr.2.2.2.2.1.1
        have q2 := hr.2.2.2.2.2.1.1
        have l1 : (gRest b).length = gN b - 17 := by unfold gRest; rw [List.length_drop, lb]
        have l2 : (gRest1 b).length = gN b - 17 := by rw [eR, l1]
        rw [e4] at q1 q2 ⊢
        have w1 := beN_sgn (gBody b) 1 (by omega) q1
        have w2 := beN_sgn (gBody b) 9 (by omega) q2
        have w4 := beN_cut (gRest1 b) 0 4 (by omega)
        have w5 := beN_cut (gRest1 b) 4 2 (by omega)
        have w6 : beN ((gRest2 b).drop (gM b)).length 2 = cut (gRest1 b) 6 2 := by
          rw [e3] at hm
          rw [hm]; exact beN_cut (gRest1 b) 6 2 (by omega)
        show gKind b :: (beN (sgn (valN (cut (gBody b) 1 8) 0)).toNat 8 ++ (beN (sgn (valN (cut (gBody b) 9 8) 0)).toNat 8 ++
          (beN (valN (cut (gRest1 b) 0 4) 0) 4 ++ (beN (valN (cut (gRest1 b) 4 2) 0) 2 ++ (beN ((gRest2 b).drop (gM b)).length 2 ++ ((gRest2 b).take (gM b) ++ (gRest2 b).drop (gM b))))))) = gBody b
        rw [w1, w2, w4, w5, w6, List.take_append_drop, show gRest2 b = (gRest1 b).drop 8 from rfl, ← hS, eR]
        exact hB.symm
    · cases h
  · rename_i hk
    split at h
    · cases h
    rename_i hz
    have hz1 : ¬ 0 < (gRest1 b).length := fun h => hz (.inl h)
    have hr : rightM (gR1 b) := Decidable.byContradiction (fun h => hz (.inr h))
    obtain ⟨rfl, rfl⟩ := Prod.mk.inj (Option.some.inj h)
    have hu : ¬ gUn b := fun hu => hk (.inl hu.1)
    have eR : gRest1 b = gRest b := if_neg hu
    have e1 : gR1 b = gR0 b := if_neg hu
    rw [e1] at hr ⊢
    have er : (gBody b).drop 17 = [] := by
      have : (gRest b).length = 0 := by rw [eR] at hz1; omega
      exact List.length_eq_zero_iff.1 this
    refine enc_of hg hl hr rfl rfl ?_
    have q1 : 0 ≤ sgn (valN (cut (gBody b) 1 8) 0) := hr.2.2.2.2.1.1
    have q2 : 0 ≤ sgn (valN (cut (gBody b) 9 8) 0) := hr.2.2.2.2.2.1.1
    rw [body_end (fun h => hk (.inl h)) rfl]
    show gKind b :: (beN (sgn (valN (cut (gBody b) 1 8) 0)).toNat 8 ++ beN (sgn (valN (cut (gBody b) 9 8) 0)).toNat 8) = gBody b
    rw [beN_sgn (gBody b) 1 (by omega) q1, beN_sgn (gBody b) 9 (by omega) q2]
    rw [er, List.append_nil] at hB
    exact hB.symm
end Go.Proofs.YtfgagakepmigbaaGreat
