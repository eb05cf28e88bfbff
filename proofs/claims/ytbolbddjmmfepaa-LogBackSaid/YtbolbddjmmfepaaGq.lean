/-
  No statement is proved here: bytes that begin with a right record's give it, in both ways.
-/
import Derived.Test.YtbolbddjmmfepaaGp
namespace Go.Proofs.Ytbolbddjmmfepaa
open Go.RowKit

theorem body_le {r : RecM} (hr : rightM r) : 17 ≤ (bodyM r).length ∧ (bodyM r).length ≤ 1057 := by
  rcases right_kind hr with h | h | h
  · have hf := h.2.2.1
    have f1 := hf.2.2.2.2.1
    have f2 := hf.2.2.2.2.2
    have f3 := hf.2.2.1
    have hn : r.new ≠ [] := fun hn => by rw [hn] at f1; simp at f1
    rw [body_one h.1 hn]
    simp [beN_len]
    omega
  · have hf := h.2.1
    have f1 := hf.2.2.2.2.1
    have f2 := hf.2.2.2.2.2
    have f3 := hf.2.2.1
    have hn : r.new ≠ [] := fun hn => by rw [hn] at f1; simp at f1
    rw [body_two h.1 hn, h.2.2]
    simp [beN_len]
    omega
  · have hk : r.kind ≠ 2 := fun hk => by rcases h.1 with h | h <;> rw [hk] at h <;> exact absurd h (by decide)
    rw [body_end hk h.2.2.2.2.2]
    simp [beN_len]
theorem valN_beI {n : Int} {k : Nat} (h0 : 0 ≤ n) (h : n < ((256 ^ k : Nat) : Int)) : ((valN (beN n.toNat k) 0 : Nat) : Int) = n := by
  rw [valN_be, Nat.mod_eq_of_lt (by omega)]
  omega
theorem sgn_be {n : Int} (h : inM n) : sgn (valN (beN n.toNat 8) 0) = n := by
  have h1 := h.1
  have h2 := h.2
  unfold topM at h2
  rw [valN_be, Nat.mod_eq_of_lt (by omega), sgn_of (by omega)]
  omega
theorem rec_end {r : RecM} (h1 : r.next = 0) (h2 : r.blk = 0) (h3 : r.off = 0) (h4 : r.old = []) (h5 : r.new = []) : (⟨r.lsn, r.turn, r.kind, r.tx, r.prev, 0, 0, 0, [], []⟩ : RecM) = r := by
  obtain ⟨a, b, c, d, e, f, g, h, i, j⟩ := r
  simp only at h1 h2 h3 h4 h5
  subst h1 h2 h3 h4 h5
  rfl
/-- What the code reads of bytes that begin with a right record's. -/
structure GetF (b : Bytes) (r : RecM) : Prop where
  len : 18 + (bodyM r).length ≤ b.length
  n : gN b = (bodyM r).length
  bad : ¬ gBad b
  body : gBody b = bodyM r
  fit : gKind b = 2 ∨ gKind b = 1 → ¬ (gRest1 b).length < 8 ∧ (gRest3 b).length = gM b ∧ gR4 b = r ∧ (gKind b = 1 → gOl b) ∧ (gKind b = 2 → gUn b)
  fin : ¬ (gKind b = 2 ∨ gKind b = 1) → (gRest1 b).length = 0 ∧ gR1 b = r
theorem getF {b : Bytes} {r : RecM} (hr : rightM r) (h : encM r = b.take (encM r).length) : GetF b r := by
  have hle := body_le hr
  have hlen : 18 + (bodyM r).length ≤ b.length := by
    have := congrArg List.length h
    rw [List.length_take, encM_len] at this
    omega
  have hE : encM r = b.take (18 + (bodyM r).length) := by rw [encM_len] at h; exact h
  have e0 : encM r = [] ++ (beN r.lsn.toNat 8 ++ (beN r.turn.toNat 4 ++ (beN (bodyM r).length 2 ++ (beN (crcL (headM r ++ bodyM r)) 4 ++ bodyM r)))) := by
    simp [encM, headM]
  have c1 : cut b 0 8 = beN r.lsn.toNat 8 := by
    rw [← cut_pre b (18 + (bodyM r).length) 0 8 (by omega), ← hE, e0]
    exact cut_at _ _ _ _ _ rfl (beN_len _ _)
  have c2 : cut b 8 4 = beN r.turn.toNat 4 := by
    rw [← cut_pre b (18 + (bodyM r).length) 8 4 (by omega), ← hE, e0, List.nil_append]
    exact cut_at _ _ _ _ _ (beN_len _ _) (beN_len _ _)
  have c3 : cut b 12 2 = beN (bodyM r).length 2 := by
    rw [← cut_pre b (18 + (bodyM r).length) 12 2 (by omega), ← hE, e0, List.nil_append, ← List.append_assoc]
    exact cut_at _ _ _ _ _ (by simp [beN_len]) (beN_len _ _)
  have c4 : cut b 14 4 = beN (crcL (headM r ++ bodyM r)) 4 := by
    rw [← cut_pre b (18 + (bodyM r).length) 14 4 (by omega), ← hE, e0, List.nil_append, ← List.append_assoc, ← List.append_assoc]
    exact cut_at _ _ _ _ _ (by simp [beN_len]) (beN_len _ _)
  have c5 : cut b 18 (bodyM r).length = bodyM r := by
    rw [← cut_pre b (18 + (bodyM r).length) 18 (bodyM r).length (by omega), ← hE, e0, List.nil_append, ← List.append_assoc, ← List.append_assoc, ← List.append_assoc]
    have := cut_at (((beN r.lsn.toNat 8 ++ beN r.turn.toNat 4) ++ beN (bodyM r).length 2) ++ beN (crcL (headM r ++ bodyM r)) 4) (bodyM r) [] 18 _ (by simp [beN_len]) rfl
    rwa [List.append_nil] at this
  have c6 : b.take 14 = headM r := by
    have t : b.take 14 = (b.take (18 + (bodyM r).length)).take 14 := by rw [List.take_take, Nat.min_eq_left (by omega)]
    rw [t, ← hE]
    unfold encM
    exact List.take_left' (headM_len r)
  have hn : gN b = (bodyM r).length := by
    unfold gN
    rw [c3, valN_be, Nat.mod_eq_of_lt (by omega)]
  have hB : gBody b = bodyM r := by
    unfold gBody
    rw [hn, c5]
  have hbad : ¬ gBad b := by
    rintro (h | h | h)
    · omega
    · omega
    · refine h ?_
      rw [c4, c6, hB, valN_be, Nat.mod_eq_of_lt (crcL_lt _)]
  have i1 := hr.1
  have i2 := hr.2.1
  have i3 := hr.2.2.1
  have i4 := hr.2.2.2.1
  have a1 : sgn (valN (cut b 0 8) 0) = r.lsn := by rw [c1]; exact sgn_be ⟨by omega, i2⟩
  have a2 : ((valN (cut b 8 4) 0 : Nat) : Int) = r.turn := by rw [c2]; exact valN_beI (by omega) (by omega)
  rcases right_kind hr with h | h | h
  · obtain ⟨hk, hnx, hf, ho⟩ := h
    have f1 := hf.2.2.2.2.1
    have f2 := hf.2.2.2.2.2
    have f3 := hf.2.2.1
    have hne : r.new ≠ [] := fun hn => by rw [hn] at f1; simp at f1
    have eb := body_one hk hne
    have b0 : bodyM r = [r.kind] ++ (beN r.tx.toNat 8 ++ (beN r.prev.toNat 8 ++ (beN r.blk.toNat 4 ++ (beN r.off.toNat 2 ++ (beN r.new.length 2 ++ (r.old ++ r.new)))))) := eb
    have k1 : gKind b = 1 := by unfold gKind; rw [hB, eb]; exact hk
    have d1 : cut (gBody b) 1 8 = beN r.tx.toNat 8 := by rw [hB, b0]; exact cut_at _ _ _ _ _ rfl (beN_len _ _)
    have d2 : cut (gBody b) 9 8 = beN r.prev.toNat 8 := by
      rw [hB, b0, ← List.append_assoc]; exact cut_at _ _ _ _ _ (by simp [beN_len]) (beN_len _ _)
    have d3 : gRest b = beN r.blk.toNat 4 ++ (beN r.off.toNat 2 ++ (beN r.new.length 2 ++ (r.old ++ r.new))) := by
      unfold gRest
      rw [hB, b0, ← List.append_assoc, ← List.append_assoc]; exact List.drop_left' (by simp [beN_len])
    have hu : ¬ gUn b := fun hu => by have := hu.1; rw [k1] at this; exact absurd this (by decide)
    have eR : gRest1 b = beN r.blk.toNat 4 ++ (beN r.off.toNat 2 ++ (beN r.new.length 2 ++ (r.old ++ r.new))) := by
      rw [← d3]; exact if_neg hu
    have m1 : cut (gRest1 b) 0 4 = beN r.blk.toNat 4 := by
      rw [eR]; exact cut_at [] _ _ _ _ rfl (beN_len _ _)
    have m2 : cut (gRest1 b) 4 2 = beN r.off.toNat 2 := by
      rw [eR]; exact cut_at _ _ _ _ _ (beN_len _ _) (beN_len _ _)
    have m3 : cut (gRest1 b) 6 2 = beN r.new.length 2 := by
      rw [eR, ← List.append_assoc]; exact cut_at _ _ _ _ _ (by simp [beN_len]) (beN_len _ _)
    have hm : gM b = r.new.length := by unfold gM; rw [m3, valN_be, Nat.mod_eq_of_lt (by omega)]
    have e2 : gRest2 b = r.old ++ r.new := by
      unfold gRest2
      rw [eR, ← List.append_assoc, ← List.append_assoc]; exact List.drop_left' (by simp [beN_len])
    have hol : gOl b := ⟨k1, by rw [hm, e2, List.length_append]; omega⟩
    have e3 : gRest3 b = r.new := by
      have : gRest3 b = (gRest2 b).drop (gM b) := if_pos hol
      rw [this, e2, hm]; exact List.drop_left' ho
    refine ⟨hlen, hn, hbad, hB, fun _ => ⟨?_, ?_, ?_, fun _ => hol, fun h => ?_⟩, fun h => absurd (.inr k1) h⟩
    · rw [eR]; simp [beN_len]; omega
    · rw [e3, hm]
    · unfold gR4 gR3
      rw [if_pos hol, e3, e2, hm, List.take_left' ho]
      unfold gR2 gR1
      rw [if_neg hu]
      unfold gR0
      rw [a1, a2, k1, d1, d2, sgn_be hr.2.2.2.2.1, sgn_be hr.2.2.2.2.2.1, m1, m2, valN_beI hf.1 (by have := hf.2.1; omega), valN_beI f3 (by have := hf.2.2.2.1; omega), ← hk, ← hnx]
    · rw [k1] at h; exact absurd h (by decide)
  · obtain ⟨hk, hf, ho⟩ := h
    have f1 := hf.2.2.2.2.1
    have f2 := hf.2.2.2.2.2
    have f3 := hf.2.2.1
    have hne : r.new ≠ [] := fun hn => by rw [hn] at f1; simp at f1
    have eb := body_two hk hne
    have b0 : bodyM r = [r.kind] ++ (beN r.tx.toNat 8 ++ (beN r.prev.toNat 8 ++ (beN r.next.toNat 8 ++ (beN r.blk.toNat 4 ++ (beN r.off.toNat 2 ++ (beN r.new.length 2 ++ r.new)))))) := by
      rw [eb, ho]; rfl
    have k1 : gKind b = 2 := by unfold gKind; rw [hB, eb]; exact hk
    have d1 : cut (gBody b) 1 8 = beN r.tx.toNat 8 := by rw [hB, b0]; exact cut_at _ _ _ _ _ rfl (beN_len _ _)
    have d2 : cut (gBody b) 9 8 = beN r.prev.toNat 8 := by
      rw [hB, b0, ← List.append_assoc]; exact cut_at _ _ _ _ _ (by simp [beN_len]) (beN_len _ _)
    have d3 : gRest b = beN r.next.toNat 8 ++ (beN r.blk.toNat 4 ++ (beN r.off.toNat 2 ++ (beN r.new.length 2 ++ r.new))) := by
      unfold gRest
      rw [hB, b0, ← List.append_assoc, ← List.append_assoc]; exact List.drop_left' (by simp [beN_len])
    have d4 : cut (gRest b) 0 8 = beN r.next.toNat 8 := by
      rw [d3]; exact cut_at [] _ _ _ _ rfl (beN_len _ _)
    have hu : gUn b := ⟨k1, by rw [d3]; simp [beN_len]⟩
    have eR : gRest1 b = beN r.blk.toNat 4 ++ (beN r.off.toNat 2 ++ (beN r.new.length 2 ++ r.new)) := by
      have : gRest1 b = (gRest b).drop 8 := if_pos hu
      rw [this, d3]; exact List.drop_left' (beN_len _ _)
    have m1 : cut (gRest1 b) 0 4 = beN r.blk.toNat 4 := by
      rw [eR]; exact cut_at [] _ _ _ _ rfl (beN_len _ _)
    have m2 : cut (gRest1 b) 4 2 = beN r.off.toNat 2 := by
      rw [eR]; exact cut_at _ _ _ _ _ (beN_len _ _) (beN_len _ _)
    have m3 : cut (gRest1 b) 6 2 = beN r.new.length 2 := by
      rw [eR, ← List.append_assoc]; exact cut_at _ _ _ _ _ (by simp [beN_len]) (beN_len _ _)
    have hm : gM b = r.new.length := by unfold gM; rw [m3, valN_be, Nat.mod_eq_of_lt (by omega)]
    have e2 : gRest2 b = r.new := by
      unfold gRest2
      rw [eR, ← List.append_assoc, ← List.append_assoc]; exact List.drop_left' (by simp [beN_len])
    have hol : ¬ gOl b := fun h => by have := h.1; rw [k1] at this; exact absurd this (by decide)
    have e3 : gRest3 b = r.new := by
      have : gRest3 b = gRest2 b := if_neg hol
      rw [this, e2]
    refine ⟨hlen, hn, hbad, hB, fun _ => ⟨?_, ?_, ?_, fun h => ?_, fun _ => hu⟩, fun h => absurd (.inl k1) h⟩
    · rw [eR]; simp [beN_len]; omega
    · rw [e3, hm]
    · unfold gR4 gR3
      rw [if_neg hol, e3]
      unfold gR2 gR1
      rw [if_pos hu]
      unfold gR0
      rw [a1, a2, k1, d1, d2, d4, sgn_be hr.2.2.2.2.1, sgn_be hr.2.2.2.2.2.1, sgn_be hr.2.2.2.2.2.2.1, m1, m2, valN_beI hf.1 (by have := hf.2.1; omega), valN_beI f3 (by have := hf.2.2.2.1; omega), ← hk, ← ho]
    · rw [k1] at h; exact absurd h (by decide)
  · obtain ⟨hk, hnx, hb, hf, ho, hne⟩ := h
    have hk2 : r.kind ≠ 2 := fun hk' => by rcases hk with h | h <;> rw [hk'] at h <;> exact absurd h (by decide)
    have hk1 : r.kind ≠ 1 := fun hk' => by rcases hk with h | h <;> rw [hk'] at h <;> exact absurd h (by decide)
    have eb := body_end hk2 hne
    have b0 : bodyM r = [r.kind] ++ (beN r.tx.toNat 8 ++ (beN r.prev.toNat 8 ++ [])) := by rw [eb, List.append_nil]; rfl
    have k1 : gKind b = r.kind := by unfold gKind; rw [hB, eb]; rfl
    have d1 : cut (gBody b) 1 8 = beN r.tx.toNat 8 := by rw [hB, b0]; exact cut_at _ _ _ _ _ rfl (beN_len _ _)
    have d2 : cut (gBody b) 9 8 = beN r.prev.toNat 8 := by
      rw [hB, b0, ← List.append_assoc]; exact cut_at _ _ _ _ _ (by simp [beN_len]) (beN_len _ _)
    have d3 : gRest b = [] := by
      unfold gRest
      rw [hB, b0, ← List.append_assoc, ← List.append_assoc]; exact List.drop_left' (by simp [beN_len])
    have hu : ¬ gUn b := fun hu => by have := hu.1; rw [k1] at this; exact hk2 this
    have eR : gRest1 b = [] := by rw [← d3]; exact if_neg hu
    refine ⟨hlen, hn, hbad, hB, fun h => ?_, fun _ => ⟨?_, ?_⟩⟩
    · rw [k1] at h
      rcases h with h | h
      · exact absurd h hk2
      · exact absurd h hk1
    · rw [eR]; rfl
    · unfold gR1
      rw [if_neg hu]
      unfold gR0
      rw [a1, a2, k1, d1, d2, sgn_be hr.2.2.2.2.1, sgn_be hr.2.2.2.2.2.1]
      exact rec_end hnx hb hf ho hne
theorem getL_A {b : Bytes} {r : RecM} (hr : rightM r) (h : encM r = b.take (encM r).length) : getL b = some (r, (encM r).length) := by
  have F := getF hr h
  have hl := F.len
  unfold getL
  rw [if_neg (by omega), if_neg F.bad]
  by_cases hk : gKind b = 2 ∨ gKind b = 1
  · obtain ⟨f1, f2, f3, _⟩ := F.fit hk
    rw [if_pos hk, if_neg f1, if_neg (fun h => h f2), f3, if_pos hr, F.n, encM_len]
  · obtain ⟨f1, f2⟩ := F.fin hk
    rw [if_neg hk, f2, if_neg (by rintro (h | h); · omega
                                  · exact h hr), F.n, encM_len]
theorem getR_B {b : Bytes} {r : RecM} {k : Nat} (h : getR b = some (r, k)) : rightM r ∧ k = (encM r).length ∧ encM r = b.take k := by
  unfold getR at h
  split at h
  · cases h
  split at h
  · cases h
  split at h
  · rename_i hh
    obtain ⟨rfl, rfl⟩ := Prod.mk.inj (Option.some.inj h)
    exact ⟨hh.1, hh.2.1.symm, hh.2.2⟩
  · cases h
theorem getR_A {b : Bytes} {r : RecM} (hr : rightM r) (h : encM r = b.take (encM r).length) : getR b = some (r, (encM r).length) := by
  have F := getF hr h
  have hl := F.len
  have hle := body_le hr
  have hn : hN b = gN b := rfl
  have lb : (gBody b).length = gN b := by rw [F.body, F.n]
  have hk0 : hKind b = gKind b := by
    unfold hKind gKind gBody cut bAt
    rw [List.getD_eq_getElem?_getD, List.getD_eq_getElem?_getD, List.getElem?_take, if_pos (by have := F.n; omega), List.getElem?_drop]
  have cB : ∀ a m, a + m ≤ gN b → cut (gBody b) a m = cut b (18 + a) m := fun a m h => cut_in b 18 (gN b) a m h
  have gn := F.n
  have h0 : hR0 b = gR0 b := by
    unfold hR0 gR0
    rw [cB 1 8 (by omega), cB 9 8 (by omega), hk0]
  have lr : (gRest b).length = gN b - 17 := by unfold gRest; rw [List.length_drop, lb]
  have cR : ∀ a m, 17 + a + m ≤ gN b → cut (gRest b) a m = cut b (35 + a) m := fun a m h => by
    have : cut (gRest b) a m = cut (gBody b) (17 + a) m := by unfold cut gRest; rw [List.drop_drop]
    rw [this, cB _ _ h, ← Nat.add_assoc]
  have hu : hUn b ↔ gUn b := by
    unfold hUn gUn
    rw [hk0, hn, lr]
    exact ⟨fun h => ⟨h.1, by have := h.2; omega⟩, fun h => ⟨h.1, by have := h.2; omega⟩⟩
  have h1 : hR1 b = gR1 b := by
    unfold hR1 gR1
    rw [h0]
    by_cases g : gUn b
    · rw [if_pos (hu.2 g), if_pos g, cR 0 8 (by have := (hu.2 g).2; omega)]
    · rw [if_neg (fun h => g (hu.1 h)), if_neg g]
  have hA : (gRest1 b).length = 18 + gN b - hAt b ∧ hAt b ≤ 18 + gN b := by
    unfold gRest1 hAt
    by_cases g : gUn b
    · have g2 := g.2
      rw [if_pos (hu.2 g), if_pos g, List.length_drop, lr]; omega
    · rw [if_neg (fun h => g (hu.1 h)), if_neg g, lr]; omega
  have cS : ∀ a m, hAt b + a + m ≤ 18 + gN b → cut (gRest1 b) a m = cut b (hAt b + a) m := by
    intro a m h
    unfold hAt gRest1 at *
    by_cases g : gUn b
    · rw [if_pos (hu.2 g)] at h ⊢
      rw [if_pos g]
      have : cut ((gRest b).drop 8) a m = cut (gRest b) (8 + a) m := by unfold cut; rw [List.drop_drop]
      rw [this, cR _ _ (by omega), ← Nat.add_assoc]
    · rw [if_neg (fun h => g (hu.1 h))] at h ⊢
      rw [if_neg g, cR _ _ (by omega)]
  have hR : hR b = r := by
    unfold hR
    by_cases hk : gKind b = 2 ∨ gKind b = 1
    · obtain ⟨f1, f2, f3, f4, f5⟩ := F.fit hk
      have hs : hSp b := ⟨by rw [hk0]; exact hk, by rw [hn]; omega⟩
      rw [if_pos hs, ← f3]
      have hs2 : hAt b + 8 ≤ 18 + gN b := hs.2
      have em : hM b = gM b := by unfold hM gM; rw [cS 6 2 (by omega)]
      have e2 : hR2 b = gR2 b := by
        unfold hR2 gR2
        rw [h1, cS 0 4 (by omega), cS 4 2 (by omega)]
        rfl
      have l2 : (gRest2 b).length = 18 + gN b - (hAt b + 8) := by unfold gRest2; rw [List.length_drop, hA.1]; omega
      have c2 : ∀ a m, hAt b + 8 + a + m ≤ 18 + gN b → cut (gRest2 b) a m = cut b (hAt b + 8 + a) m := fun a m h => by
        have : cut (gRest2 b) a m = cut (gRest1 b) (8 + a) m := by unfold cut gRest2; rw [List.drop_drop]
        rw [this, cS _ _ (by omega), ← Nat.add_assoc]
      by_cases g : gOl b
      · have g2 := g.2
        have e3 : gRest3 b = (gRest2 b).drop (gM b) := if_pos g
        have l3 : (gRest2 b).length = 2 * gM b := by rw [e3, List.length_drop] at f2; omega
        have ho : hOl b := ⟨by rw [hk0]; exact g.1, by rw [em, hn]; omega⟩
        have a3 : hAt3 b = hAt b + 8 + gM b := by unfold hAt3; rw [if_pos ho, em]
        have hw : hNw b := by unfold hNw; rw [a3, em, hn]; omega
        unfold hR4 gR4
        rw [if_pos hw]
        unfold hR3 gR3
        rw [if_pos ho, if_pos g, e2, em, a3, e3, ← c2 (gM b) (gM b) (by omega), ← Nat.add_zero (hAt b + 8), ← c2 0 (gM b) (by omega)]
        have q : cut (gRest2 b) (gM b) (gM b) = (gRest2 b).drop (gM b) := by
          unfold cut; exact List.take_of_length_le (by rw [List.length_drop]; omega)
        rw [q]
        rfl
      · have e3 : gRest3 b = gRest2 b := if_neg g
        have hk1 : gKind b ≠ 1 := fun h => g (f4 h)
        have ho : ¬ hOl b := fun h => hk1 (by rw [← hk0]; exact h.1)
        have a3 : hAt3 b = hAt b + 8 := if_neg ho
        have hw : hNw b := by unfold hNw; rw [a3, em, hn]; rw [e3] at f2; omega
        unfold hR4 gR4
        rw [if_pos hw]
        unfold hR3 gR3
        rw [if_neg ho, if_neg g, e2, em, a3, e3, ← Nat.add_zero (hAt b + 8), ← c2 0 (gM b) (by rw [e3] at f2; omega)]
        have q : cut (gRest2 b) 0 (gM b) = gRest2 b := by
          unfold cut; rw [List.drop_zero]; exact List.take_of_length_le (by rw [e3] at f2; omega)
        rw [q]
    · obtain ⟨f1, f2⟩ := F.fin hk
      rw [if_neg (fun h => hk (by have := h.1; rwa [hk0] at this)), h1, f2]
  have hL := encM_len r
  unfold getR
  rw [if_neg (by omega), if_neg (by rw [hn]; omega), hR, if_pos ⟨hr, by rw [hn]; omega, by rw [hn, gn, ← hL]; exact h⟩, hn, gn, hL]
/-- Both ways come to the same. -/
theorem get_eq (b : Bytes) : getL b = getR b := by
  cases h : getL b with
  | some p =>
    obtain ⟨r, k⟩ := p
    obtain ⟨hr, hk, he⟩ := getL_B h
    subst hk
    exact (getR_A hr he).symm
  | none =>
    cases h' : getR b with
    | none => rfl
    | some p =>
      obtain ⟨r, k⟩ := p
      obtain ⟨hr, hk, he⟩ := getR_B h'
      subst hk
      rw [getL_A hr he] at h
      cases h
end Go.Proofs.Ytbolbddjmmfepaa
