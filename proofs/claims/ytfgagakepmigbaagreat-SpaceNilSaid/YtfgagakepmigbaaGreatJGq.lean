/-
  No statement is proved here.
-/
import Derived.Test.YtfgagakepmigbaaGreatJGp
namespace Go.Proofs.YtfgagakepmigbaaGreat
open Go.RowKit
theorem body_le {r : RecM} (hr : rightM r) : 17 ≤ (bodyM r).length ∧ (bodyM r).length ≤ 1057 := by
  rcases right_kind hr with h | h | h
  · have hf := h.2.2.1
    have f1 := hf.2.2.2.2.1
    have f2 := hf.2.2.2.2.2
    have f3 := hf.2.2.1
    have hn : r.new ≠ [] := fun hn => by rw [hn] at f1; simp at f1
    rw [body_one h.1 hn]
    simp [beN_len]
    omega
  · have hf := h.2.1
    have f1 := hf.2.2.2.2.1
    have f2 := hf.2.2.2.2.2
    have f3 := hf.2.2.1
    have hn : r.new ≠ [] := fun hn => by rw [hn] at f1; simp at f1
    rw [body_two h.1 hn, h.2.2]
    simp [beN_len]
    omega
  · have hk : r.kind ≠ 2 := fun hk => by rcases h.1 with h | h <;> rw [hk] at h <;> exact absurd h (by decide)
    rw [body_end hk h.2.2.2.2.2]
    simp [beN_len]
theorem valN_beI {n : Int} {k : Nat} (h0 : 0 ≤ n) (h : n < ((256 ^ k : Nat) : Int)) : ((valN (beN n.toNat k) 0 : Nat) : Int) = n := by
  rw [valN_be, Nat.mod_eq_of_lt (by omega)]
  omega
theorem sgn_be {n : Int} (h : inM n) : sgn (valN (beN n.toNat 8) 0) = n := by
  have h1 := h.1
  have h2 := h.2
  unfold topM at h2
  rw [valN_be, Nat.mod_eq_of_lt (by omega), sgn_of (by omega)]
  omega
theorem rec_end {r : RecM} (h1 : r.next = 0) (h2 : r.blk = 0) (h3 : r.off = 0) (h4 : r.old = []) (h5 : r.new = []) : (⟨r.lsn, r.turn, r.kind, r.tx, r.prev, 0, 0, 0, [], []⟩ : RecM) = r := by
  obtain ⟨a, b, c, d, e, f, g, h, i, j⟩ := r
  simp only at h1 h2 h3 h4 h5
  subst h1 h2 h3 h4 h5
  rfl
structure GetF (b : Bytes) (r : RecM) : Prop where
  len : 18 + (bodyM r).length ≤ b.length
  n : gN b = (bodyM r).length
  bad : ¬ gBad b
  body : gBody b = bodyM r
  fit : gKind b = 2 ∨ gKind b = 1 → ¬ (gRest1 b).length < 8 ∧ (gRest3 b).length = gM b ∧ gR4 b = r ∧ (gKind b = 1 → gOl b) ∧ (gKind b = 2 → gUn b)
  fin : ¬ (gKind b = 2 ∨ gKind b = 1) → (gRest1 b).length = 0 ∧ gR1 b = r
theorem getF {b : Bytes} {r : RecM} (hr : rightM r) (h : encM r = b.take (encM r).length) : GetF b r := by
  have hle := body_le hr
  have hlen : 18 + (bodyM r).length ≤ b.length := by
    have := congrArg List.length h
    rw [List.length_take, encM_len] at this
    omega
  have hE : encM r = b.take (18 + (bodyM r).length) := by rw [encM_len] at h; exact h
  have e0 : encM r = [] ++ (beN r.lsn.toNat 8 ++ (beN r.turn.toNat 4 ++ (beN (bodyM r).length 2 ++ (beN (crcL (headM r ++ bodyM r)) 4 ++ bodyM r)))) := by
    simp [encM, headM]
  have c1 : cut b 0 8 = beN r.lsn.toNat 8 := by
    rw [← cut_pre b (18 + (bodyM r).length) 0 8 (by omega), ← hE, e0]
    exact cut_at _ _ _ _ _ rfl (beN_len _ _)
  have c2 : cut b 8 4 = beN r.turn.toNat 4 := by
    rw [← cut_pre b (18 + (bodyM r).length) 8 4 (by omega), ← hE, e0, List.nil_append]
    exact cut_at _ _ _ _ _ (beN_len _ _) (beN_len _ _)
  have c3 : cut b 12 2 = beN (bodyM r).length 2 := by
    rw [← cut_pre b (18 + (bodyM r).length) 12 2 (by omega), ← hE, e0, List.nil_append, ← List.append_assoc]
    exact cut_at _ _ _ _ _ (by simp [beN_len]) (beN_len _ _)
  have c4 : cut b 14 4 = beN (crcL (headM r ++ bodyM r)) 4 := by
    rw [← cut_pre b (18 + (bodyM r).length) 14 4 (by omega), ← hE, e0, List.nil_append, ← List.append_assoc, ← List.append_assoc]
    exact cut_at _ _ _ _ _ (by simp [beN_len]) (beN_len _ _)
  have c5 : cut b 18 (bodyM r).length = bodyM r := by
    rw [← cut_pre b (18 + (bodyM r).length) 18 (bodyM r).length (by omega), ← hE, e0, List.nil_append, ← List.append_assoc, ← List.append_assoc, ← List.append_assoc]
    have := cut_at (((beN r.lsn.toNat 8 ++ beN r.turn.toNat 4) ++ beN (bodyM r).length 2) ++ beN (crcL (headM r ++ bodyM r)) 4) (bodyM r) [] 18 _ (by simp [beN_len]) rfl
    rwa [List.append_nil] at this
  have c6 : b.take 14 = headM r := by
    have t : b.take 14 = (b.take (18 + (bodyM r).length)).take 14 := by rw [List.take_take, Nat.min_eq_left (by omega)]
    rw [t, ← hE]
    unfold encM
    exact List.take_left' (headM_len r)
  have hn : gN b = (bodyM r).length := by
    unfold gN
    rw [c3, valN_be, Nat.mod_eq_of_lt (by omega)]
  have hB : gBody b = bodyM r := by
    unfold gBody
    rw [hn, c5]
  have hbad : ¬ gBad b := by
    rintro (h | h | h)
    · omega
    · omega
    · refine h ?_
      rw [c4, c6, hB, valN_be, Nat.mod_eq_of_lt (crcL_lt _)]
  have i1 := hr.1
  have i2 := hr.2.1
  have i3 := hr.2.2.1
  have i4 := hr.2.2.2.1
  have a1 : sgn (valN (cut b 0 8) 0) = r.lsn := by rw [c1]; exact sgn_be ⟨by omega, i2⟩
  have a2 : ((valN (cut b 8 4) 0 : Nat) : Int) = r.turn := by rw [c2]; exact valN_beI (by omega) (by omega)
  rcases right_kind hr with h | h | h
  · obtain ⟨hk, hnx, hf, ho⟩ := h
    have f1 := hf.2.2.2.2.1
    have f2 := hf.2.2.2.2.2
    have f3 := hf.2.2.1
    have hne : r.new ≠ [] := fun hn => by rw [hn] at f1; simp at f1
    have eb := body_one hk hne
    have b0 : bodyM r = [r.kind] ++ (beN r.tx.toNat 8 ++ (beN r.prev.toNat 8 ++ (beN r.blk.toNat 4 ++ (beN r.off.toNat 2 ++ (beN r.new.length 2 ++ (r.old ++ r.new)))))) := eb
    have k1 : gKind b = 1 := by unfold gKind; rw [hB, eb]; exact hk
    have d1 : cut (gBody b) 1 8 = beN r.tx.toNat 8 := by rw [hB, b0]; exact cut_at _ _ _ _ _ rfl (beN_len _ _)
    have d2 : cut (gBody b) 9 8 = beN r.prev.toNat 8 := by
      rw [hB, b0, ← List.append_assoc]; exact cut_at _ _ _ _ _ (by simp [beN_len]) (beN_len _ _)
    have d3 : gRest b = beN r.blk.toNat 4 ++ (beN r.off.toNat 2 ++ (beN r.new.length 2 ++ (r.old ++ r.new))) := by
      unfold gRest
      rw [hB, b0, ← List.append_assoc, ← List.append_assoc]; exact List.drop_left' (by simp [beN_len])
    have hu : ¬ gUn b := fun hu => by have := hu.1; rw [k1] at this; exact absurd this (by decide)
    have eR : gRest1 b = beN r.blk.toNat 4 ++ (beN r.off.toNat 2 ++ (beN r.new.length 2 ++ (r.old ++ r.new))) := by
      rw [← d3]; exact if_neg hu
    have m1 : cut (gRest1 b) 0 4 = beN r.blk.toNat 4 := by
      rw [eR]; exact cut_at [] _ _ _ _ rfl (beN_len _ _)
    have m2 : cut (gRest1 b) 4 2 = beN r.off.toNat 2 := by
      rw [eR]; exact cut_at _ _ _ _ _ (beN_len _ _) (beN_len _ _)
    have m3 : cut (gRest1 b) 6 2 = beN r.new.length 2 := by
      rw [eR, ← List.append_assoc]; exact cut_at _ _ _ _ _ (by simp [beN_len]) (beN_len _ _)
    have hm : gM b = r.new.length := by unfold gM; rw [m3, valN_be, Nat.mod_eq_of_lt (by omega)]
    have e2 : gRest2 b = r.old ++ r.new := by
      unfold gRest2
      rw [eR, ← List.append_assoc, ← List.append_assoc]; exact List.drop_left' (by simp [beN_len])
    have hol : gOl b := ⟨k1, by rw [hm, e2, List.length_append]; omega⟩
    have e3 : gRest3 b = r.new := by
      have : gRest3 b = (gRest2 b).drop (gM b) := if_pos hol
      rw [this, e2, hm]; exact List.drop_left' ho
    refine ⟨hlen, hn, hbad, hB, fun _ => ⟨?_, ?_, ?_, fun _ => hol, fun h => ?_⟩, fun h => absurd (.inr k1) h⟩
    · rw [eR]; simp [beN_len]; omega
    · rw [e3, hm]
    · unfold gR4 gR3
      rw [if_pos hol, e3, e2, hm, List.take_left' ho]
      unfold gR2 gR1
      rw [if_neg hu]
      unfold gR0
      rw [a1, a2, k1, d1, d2, sgn_be hr.2.2.2.2.1, sgn_be hr.2.2.2.2.2.1, m1, m2, valN_beI hf.1 (by have := hf.2.1; omega), valN_beI f3 (by have := hf.2.2.2.1; omega), ← hk, ← hnx]
    · rw [k1] at h; exact absurd h (by decide)
  · obtain ⟨hk, hf, ho⟩ := h
    have f1 := hf.2.2.2.2.1
    have f2 := hf.2.2.2.2.2
    have f3 := hf.2.2.1
    have hne : r.new ≠ [] := fun hn => by rw [hn] at f1; simp at f1
    have eb := body_two hk hne
    have b0 : bodyM r = [r.kind] ++ (beN r.tx.toNat 8 ++ (beN r.prev.toNat 8 ++ (beN r.next.toNat 8 ++ (beN r.blk.toNat 4 ++ (beN r.off.toNat 2 ++ (beN r.new.length 2 ++ r.new)))))) := by
      rw [eb, ho]; rfl
    have k1 : gKind b = 2 := by unfold gKind; rw [hB, eb]; exact hk
    have d1 : cut (gBody b) 1 8 = beN r.tx.toNat 8 := by rw [hB, b0]; exact cut_at _ _ _ _ _ rfl (beN_len _ _)
    have d2 : cut (gBody b) 9 8 = beN r.prev.toNat 8 := by
      rw [hB, b0, ← List.append_assoc]; exact cut_at _ _ _ _ _ (by simp [beN_len]) (beN_len _ _)
    have d3 : gRest b = beN r.next.toNat 8 ++ (beN r.blk.toNat 4 ++ (beN r.off.toNat 2 ++ (beN r.new.length 2 ++ r.new))) := by
      unfold gRest
      rw [hB, b0, ← List.append_assoc, ← List.append_assoc]; exact List.drop_left' (by simp [beN_len])
    have d4 : cut (gRest b) 0 8 = beN r.next.toNat 8 := by
      rw [d3]; exact cut_at [] _ _ _ _ rfl (beN_len _ _)
    have hu : gUn b := ⟨k1, by rw [d3]; simp [beN_len]⟩
    have eR : gRest1 b = beN r.blk.toNat 4 ++ (beN r.off.toNat 2 ++ (beN r.new.length 2 ++ r.new)) := by
      have : gRest1 b = (gRest b).drop 8 := if_pos hu
      rw [this, d3]; exact List.drop_left' (beN_len _ _)
    have m1 : cut (gRest1 b) 0 4 = beN r.blk.toNat 4 := by
      rw [eR]; exact cut_at [] _ _ _ _ rfl (beN_len _ _)
    have m2 : cut (gRest1 b) 4 2 = beN r.off.toNat 2 := by
      rw [eR]; exact cut_at _ _ _ _ _ (beN_len _ _) (beN_len _ _)
    have m3 : cut (gRest1 b) 6 2 = beN r.new.length 2 := by
      rw [eR, ← List.append_assoc]; exact cut_at _ _ _ _ _ (by simp [beN_len]) (beN_len _ _)
    have hm : gM b = r.new.length := by unfold gM; rw [m3, valN_be, Nat.mod_eq_of_lt (by omega)]
    have e2 : gRest2 b = r.new := by
      unfold gRest2
      rw [eR, ← List.append_assoc, ← List.append_assoc]; exact List.drop_left' (by simp [beN_len])
    have hol : ¬ gOl b := fun h => by have := h.1; rw [k1] at this; exact absurd this (by decide)
    have e3 : gRest3 b = r.new := by
      have : gRest3 b = gRest2 b := if_neg hol
      rw [this, e2]
    refine ⟨hlen, hn, hbad, hB, fun _ => ⟨?_, ?_, ?_, fun h => ?_, fun _ => hu⟩, fun h => absurd (.inl k1) h⟩
    · rw [eR]; simp [beN_len]; omega
    · rw [e3, hm]
    · unfold gR4 gR3
      rw [if_neg hol, e3]
      unfold gR2 gR1
      rw [if_pos hu]
      unfold gR0
      rw [a1, a2, k1, d1, d2, d4, sgn_be hr.2.2.2.2.1, sgn_be hr.2.2.2.2.2.1, sgn_be hr.2.2.2.2.2.2.1, m1, m2, valN_beI hf.1 (by have := hf.2.1; omega), valN_beI f3 (by have := hf.2.2.2.1; omega), ← hk, ← ho]
    · rw [k1] at h; exact absurd h (by decide)
  · obtain ⟨hk, hnx, hb, hf, ho, hne⟩ := h
    have hk2 : r.kind ≠ 2 := fun hk' => by rcases hk with h | h <;> rw [hk'] at h <;> exact absurd h (by decide)
    have hk1 : r.kind ≠ 1 := fun hk' => by rcases hk with h | h <;> rw [hk'] at h <;> exact absurd h (by decide)
    have eb := body_end hk2 hne
    have b0 : bodyM r = [r.kind] ++ (beN r.tx.toNat 8 ++ (beN r.prev.toNat 8 ++ [])) := by rw [eb, List.append_nil]; rfl
    have k1 : gKind b = r.kind := by unfold gKind; rw [hB, eb]; rfl
    have d1 : cut (gBody b) 1 8 = beN r.tx.toNat 8 := by rw [hB, b0]; exact cut_at _ _ _ _ _ rfl (beN_len _ _)
    have d2 : cut (gBody b) 9 8 = beN r.prev.toNat 8 := by
      rw [hB, b0, ← List.append_assoc]; exact cut_at _ _ _ _ _ (by simp [beN_len]) (beN_len _ _)
    have d3 : gRest b = [] := by
      unfold gRest
      rw [hB, b0, ← List.append_assoc, ← List.append_assoc]; exact List.drop_left' (by simp [beN_len])
    have hu : ¬ gUn b := fun hu => by have := hu.1; rw [k1] at this; exact hk2 this
    have eR : gRest1 b = [] := by rw [← d3]; exact if_neg hu
    refine ⟨hlen, hn, hbad, hB, fun h => ?_, fun _ => ⟨?_, ?_⟩⟩
    · rw [k1] at h
      rcases h with h | h
      · exact absurd h hk2
      · exact absurd h hk1
    · rw [eR]; rfl
    · unfold gR1
      rw [if_neg hu]
      unfold gR0
      rw [a1, a2, k1, d1, d2, sgn_be hr.2.2.2.2.1, sgn_be hr.2.2.2.2.2.1]
      exact rec_end hnx hb hf ho hne
theorem getL_A {b : Bytes} {r : RecM} (hr : rightM r) (h : encM r = b.take (encM r).length) : getL b = some (r, (encM r).length) := by
  have F := getF hr h
  have hl := F.len
  unfold getL
  rw [if_neg (by omega), if_neg F.bad]
  by_cases hk : gKind b = 2 ∨ gKind b = 1
  · obtain ⟨f1, f2, f3, _⟩ := F.fit hk
    rw [if_pos hk, if_neg f1, if_neg (fun h => h f2), f3, if_pos hr, F.n, encM_len]
  · obtain ⟨f1, f2⟩ := F.fin hk
    rw [if_neg hk, f2, if_neg (by rintro (h | h); · omega
                                  · exact h hr), F.n, encM_len]
end Go.Proofs.YtfgagakepmigbaaGreat
