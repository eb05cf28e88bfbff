/-
  No statement is proved here.
-/
import Derived.Test.YtfgagakepmigbaaGreatJQt
namespace Go.Proofs.YtfgagakepmigbaaGreat
open Go.RowKit
def FrM.core (f : FrM) : Int × Bytes × Int × Bool × Int × Int := (f.page, f.b, f.held, f.dirty, f.first, f.last)
def SameR (l l' : List FrM) : Prop := l'.map FrM.core = l.map FrM.core
theorem SameR.len {l l' : List FrM} (h : SameR l l') : l'.length = l.length := by
  have := congrArg List.length h
  simpa using this
theorem SameR.get {l l' : List FrM} (h : SameR l l') {i : Nat} {f' : FrM} (hf : l'[i]? = some f') : ∃ f, l[i]? = some f ∧ f'.core = f.core := by
  have h1 : (l'.map FrM.core)[i]? = (l.map FrM.core)[i]? := by rw [h]
  rw [List.getElem?_map, List.getElem?_map, hf] at h1
  cases e : l[i]? with
  | none => rw [e] at h1; cases h1
  | some f => rw [e] at h1; exact ⟨f, rfl, Option.some.inj h1⟩
theorem SameR.symm {l l' : List FrM} (h : SameR l l') : SameR l' l := Eq.symm h
theorem SameR.trans {l l1 l2 : List FrM} (h : SameR l l1) (k : SameR l1 l2) : SameR l l2 := Eq.trans k h
theorem SameR.set {l : List FrM} {k : Nat} {f f' : FrM} (hf : l[k]? = some f) (hc : f'.core = f.core) : SameR l (l.set k f') := by
  unfold SameR
  apply List.ext_getElem?
  intro i
  rw [List.getElem?_map, List.getElem?_map, List.getElem?_set]
  by_cases h : k = i
  · subst h
    rw [if_pos rfl, hf]
    have := (List.getElem?_eq_some_iff.1 hf).1
    simp [this, hc]
  · rw [if_neg h]
theorem core_inj {f g : FrM} (h : f.core = g.core) : f.page = g.page ∧ f.b = g.b ∧ f.held = g.held ∧ f.dirty = g.dirty ∧ f.first = g.first ∧ f.last = g.last := by
  unfold FrM.core at h
  simp only [Prod.mk.injEq] at h
  obtain ⟨h1, h2, h3, h4, h5, h6⟩ := h
  exact ⟨h1, h2, h3, h4, h5, h6⟩
theorem SameR.pages {l l' : List FrM} (h : SameR l l') : l'.map (·.page) = l.map (·.page) := by
  have := congrArg (List.map Prod.fst) h
  rw [List.map_map, List.map_map] at this
  exact this
def EvS (P : PoolM) (L : LogM) (D : DevM) (x : PoolM × LogM × DevM × Nat × Int) : Prop := ∃ P1 : PoolM, P1.first = P.first ∧ P1.blocks = P.blocks ∧ P1.most = P.most ∧ SameR P.ring P1.ring ∧ 0 ≤ P1.hand ∧ P1.hand ≤ P1.ring.length ∧
  (x = (P1, L, D, 0, 9) ∨ ∃ k f, P1.ring[k]? = some f ∧ f.held ≤ 0 ∧ f.used = false ∧
    ((f.dirty = false ∧ x = (P1, L, D, k, 0)) ∨
     (f.dirty = true ∧ (wrF P.first f L D).2.2.2 ≠ 0 ∧ x = (P1, (wrF P.first f L D).2.1, (wrF P.first f L D).2.2.1, 0, (wrF P.first f L D).2.2.2)) ∨
     (f.dirty = true ∧ (wrF P.first f L D).2.2.2 = 0 ∧ x = ({ P1 with ring := P1.ring.set k (wrF P.first f L D).1 }, (wrF P.first f L D).2.1, (wrF P.first f L D).2.2.1, k, 0))))
theorem EvS.up {P P0 : PoolM} {L : LogM} {D : DevM} {x : PoolM × LogM × DevM × Nat × Int} (h : EvS P0 L D x) (h1 : P0.first = P.first) (h2 : P0.blocks = P.blocks) (h3 : P0.most = P.most) (h4 : SameR P.ring P0.ring) : EvS P L D x := by
  obtain ⟨P1, a1, a2, a3, a4, a5, a6, a7⟩ := h
  rw [h1] at a7
  exact ⟨P1, a1.trans h1, a2.trans h2, a3.trans h3, h4.trans a4, a5, a6, a7⟩
theorem evict_shape : ∀ (n : Nat) (P : PoolM) (L : LogM) (D : DevM), 0 < P.ring.length → 0 ≤ P.hand → P.hand ≤ P.ring.length → EvS P L D (evictM n P L D)
  | 0, P, L, D, _, h0, h1 => ⟨P, rfl, rfl, rfl, rfl, h0, h1, .inl rfl⟩
  | n + 1, P, L, D, hp, h0, h1 => by
    unfold evictM
    dsimp only
    obtain ⟨k, hk⟩ : ∃ k, k = (P.hand % P.ring.length).toNat := ⟨_, rfl⟩
    rw [← hk]
    cases e : P.ring[k]? with
    | none =>
      have h2 := Int.emod_nonneg P.hand (show (P.ring.length : Int) ≠ 0 by omega)
      have h3 := Int.emod_lt_of_pos P.hand (show (0 : Int) < P.ring.length by omega)
      have h4 := List.getElem?_eq_none_iff.1 e
      omega
    | some f =>
      dsimp only
      have hkl := (List.getElem?_eq_some_iff.1 e).1
      by_cases c1 : 0 < f.held
      · rw [if_pos c1]
        exact (evict_shape n { P with hand := (k : Int) + 1 } L D hp (by show 0 ≤ (k : Int) + 1; omega) (by show (k : Int) + 1 ≤ P.ring.length; omega)).up rfl rfl rfl rfl
      · rw [if_neg c1]
        by_cases c2 : f.used = true
        · rw [if_pos c2]
          refine (evict_shape n _ L D (by show 0 < (P.ring.set k _).length; rw [List.length_set]; exact hp) (by show 0 ≤ (k : Int) + 1; omega) (by show (k : Int) + 1 ≤ (P.ring.set k _).length; rw [List.length_set]; omega)).up rfl rfl rfl ?_
          exact SameR.set e rfl
        · rw [if_neg c2]
          refine ⟨{ P with hand := (k : Int) + 1 }, rfl, rfl, rfl, rfl, by show 0 ≤ (k : Int) + 1; omega, by show (k : Int) + 1 ≤ P.ring.length; omega, .inr ⟨k, f, e, by omega, by simpa using c2, ?_⟩⟩
          by_cases c3 : f.dirty = true
          · rw [if_pos c3]
            by_cases c4 : (wrF P.first f L D).2.2.2 ≠ 0
            · rw [if_pos c4]; exact .inr (.inl ⟨c3, c4, rfl⟩)
            · rw [if_neg c4]; exact .inr (.inr ⟨c3, Decidable.not_not.1 c4, rfl⟩)
          · rw [if_neg c3]; exact .inl ⟨by simpa using c3, rfl⟩
theorem evict_busy : ∀ (n : Nat) (P : PoolM) (L : LogM) (D : DevM), 0 < P.ring.length → 0 ≤ P.hand → (∀ f ∈ P.ring, 0 < f.held) → (evictM n P L D).2.2.2.2 = 9
  | 0, P, L, D, _, _, _ => rfl
  | n + 1, P, L, D, hp, h0, hh => by
    unfold evictM
    dsimp only
    cases e : P.ring[(P.hand % P.ring.length).toNat]? with
    | none => rfl
    | some f =>
      dsimp only
      rw [if_pos (hh f (List.mem_of_getElem? e))]
      exact evict_busy n _ L D hp (by show 0 ≤ (((P.hand % P.ring.length).toNat : Nat) : Int) + 1; omega) hh
theorem wrF_used (pf : Int) (f : FrM) (u : Bool) (L : LogM) (D : DevM) : (wrF pf { f with used := u } L D).2 = (wrF pf f L D).2 := by
  unfold wrF
  dsimp only
  (repeat' split) <;> rfl
theorem evict_near : ∀ (n : Nat) (P : PoolM) (L : LogM) (D : DevM) (j d : Nat) (f : FrM), P.ring[j]? = some f → f.held ≤ 0 → f.used = false → 0 ≤ P.hand → d < n → (P.hand.toNat + d) % P.ring.length = j → (evictM n P L D).2.2.2.2 ≠ 9 ∨ ∃ (i : Nat) (g : FrM), P.ring[i]? = some g ∧ (wrF P.first g L D).2.2.2 = 9
  | 0, P, L, D, j, d, f, _, _, _, _, hd, _ => by omega
  | n + 1, P, L, D, j, d, f, hj, hh, hu, h0, hd, hm => by
    have hjl := (List.getElem?_eq_some_iff.1 hj).1
    have hp : 0 < P.ring.length := by omega
    unfold evictM
    dsimp only
    obtain ⟨k, hk⟩ : ∃ k, k = (P.hand % P.ring.length).toNat := ⟨_, rfl⟩
    have hkn : k = P.hand.toNat % P.ring.length := by
      obtain ⟨m0, hm0⟩ := Int.eq_ofNat_of_zero_le h0
      rw [hk, hm0, ← Int.natCast_emod, Int.toNat_natCast, Int.toNat_natCast]
    have hkl : k < P.ring.length := by rw [hkn]; exact Nat.mod_lt _ hp
    rw [← hk]
    rw [List.getElem?_eq_getElem hkl]
    dsimp only
    have hwr : ∀ g : FrM, P.ring[k]? = some g → (if g.dirty = true then (if (wrF P.first g L D).2.2.2 ≠ 0 then (({ P with hand := (k : Int) + 1 } : PoolM), (wrF P.first g L D).2.1, (wrF P.first g L D).2.2.1, 0, (wrF P.first g L D).2.2.2) else ({ P with hand := (k : Int) + 1, ring := P.ring.set k (wrF P.first g L D).1 }, (wrF P.first g L D).2.1, (wrF P.first g L D).2.2.1, k, 0)) else (({ P with hand := (k : Int) + 1 } : PoolM), L, D, k, 0)).2.2.2.2 ≠ 9 ∨ ∃ (i : Nat) (g : FrM), P.ring[i]? = some g ∧ (wrF P.first g L D).2.2.2 = 9 := fun g hg => by
      by_cases c9 : (wrF P.first g L D).2.2.2 = 9
      · exact .inr ⟨k, g, hg, c9⟩
      · left
        split
        · split
          · exact c9
          · exact (by decide : (0 : Int) ≠ 9)
        · exact (by decide : (0 : Int) ≠ 9)
    by_cases hkj : k = j
    · have e : P.ring[k] = f := by
        have := hj
        rw [← hkj, List.getElem?_eq_getElem hkl] at this
        exact Option.some.inj this
      rw [e, if_neg (by omega), if_neg (by rw [hu]; decide)]
      exact hwr f (by rw [hkj]; exact hj)
    · have hd0 : d ≠ 0 := by
        intro h
        rw [h, Nat.add_zero, ← hkn] at hm
        exact hkj hm
      have hmod : ((k + 1) + (d - 1)) % P.ring.length = j := by
        rw [show (k + 1) + (d - 1) = k + d by omega, hkn, Nat.mod_add_mod]
        exact hm
      by_cases c1 : 0 < P.ring[k].held
      · rw [if_pos c1]
        rcases evict_near n { P with hand := (k : Int) + 1 } L D j (d - 1) f hj hh hu (by show 0 ≤ (k : Int) + 1; omega) (by omega) (by
          show (((k : Int) + 1).toNat + (d - 1)) % P.ring.length = j
          rw [show ((k : Int) + 1).toNat = k + 1 by omega]; exact hmod) with h | ⟨i, g, h1, h2⟩
        · exact .inl h
        · exact .inr ⟨i, g, h1, h2⟩
      · rw [if_neg c1]
        by_cases c2 : P.ring[k].used = true
        · rw [if_pos c2]
          rcases evict_near n { P with hand := (k : Int) + 1, ring := P.ring.set k { P.ring[k] with used := false } } L D j (d - 1) f (by
            show (P.ring.set k _)[j]? = some f
            rw [List.getElem?_set_ne hkj]; exact hj) hh hu (by show 0 ≤ (k : Int) + 1; omega) (by omega) (by
            show (((k : Int) + 1).toNat + (d - 1)) % (P.ring.set k _).length = j
            rw [List.length_set, show ((k : Int) + 1).toNat = k + 1 by omega]; exact hmod) with h | ⟨i, g, h1, h2⟩
          · exact .inl h
          · right
            have h1' : (P.ring.set k { P.ring[k] with used := false })[i]? = some g := h1
            by_cases hki : k = i
            · subst hki
              rw [List.getElem?_set_self hkl] at h1'
              obtain rfl := Option.some.inj h1'
              refine ⟨k, P.ring[k], List.getElem?_eq_getElem hkl, ?_⟩
              rw [← h2, ← wrF_used P.first P.ring[k] false L D]
            · rw [List.getElem?_set_ne hki] at h1'
              exact ⟨i, g, h1', h2⟩
        · rw [if_neg c2]
          exact hwr _ (List.getElem?_eq_getElem hkl)
theorem evict_far : ∀ (n : Nat) (P : PoolM) (L : LogM) (D : DevM) (j d : Nat) (f : FrM), P.ring[j]? = some f → f.held ≤ 0 → 0 ≤ P.hand → d < P.ring.length → d + P.ring.length < n → (P.hand.toNat + d) % P.ring.length = j → (evictM n P L D).2.2.2.2 ≠ 9 ∨ ∃ (i : Nat) (g : FrM), P.ring[i]? = some g ∧ (wrF P.first g L D).2.2.2 = 9
  | 0, P, L, D, j, d, f, _, _, _, _, hd, _ => by omega
  | n + 1, P, L, D, j, d, f, hj, hh, h0, hdl, hd, hm => by
    have hjl := (List.getElem?_eq_some_iff.1 hj).1
    have hp : 0 < P.ring.length := by omega
    unfold evictM
    dsimp only
    obtain ⟨k, hk⟩ : ∃ k, k = (P.hand % P.ring.length).toNat := ⟨_, rfl⟩
    have hkn : k = P.hand.toNat % P.ring.length := by
      obtain ⟨m0, hm0⟩ := Int.eq_ofNat_of_zero_le h0
      rw [hk, hm0, ← Int.natCast_emod, Int.toNat_natCast, Int.toNat_natCast]
    have hkl : k < P.ring.length := by rw [hkn]; exact Nat.mod_lt _ hp
    rw [← hk]
    rw [List.getElem?_eq_getElem hkl]
    dsimp only
    have hwr : ∀ g : FrM, P.ring[k]? = some g → (if g.dirty = true then (if (wrF P.first g L D).2.2.2 ≠ 0 then (({ P with hand := (k : Int) + 1 } : PoolM), (wrF P.first g L D).2.1, (wrF P.first g L D).2.2.1, 0, (wrF P.first g L D).2.2.2) else ({ P with hand := (k : Int) + 1, ring := P.ring.set k (wrF P.first g L D).1 }, (wrF P.first g L D).2.1, (wrF P.first g L D).2.2.1, k, 0)) else (({ P with hand := (k : Int) + 1 } : PoolM), L, D, k, 0)).2.2.2.2 ≠ 9 ∨ ∃ (i : Nat) (g : FrM), P.ring[i]? = some g ∧ (wrF P.first g L D).2.2.2 = 9 := fun g hg => by
      by_cases c9 : (wrF P.first g L D).2.2.2 = 9
      · exact .inr ⟨k, g, hg, c9⟩
      · left
        split
        · split
          · exact c9
          · exact (by decide : (0 : Int) ≠ 9)
        · exact (by decide : (0 : Int) ≠ 9)
    have hset : ∀ {i : Nat} {g : FrM}, (P.ring.set k { P.ring[k] with used := false })[i]? = some g → (wrF P.first g L D).2.2.2 = 9 → ∃ (i : Nat) (g : FrM), P.ring[i]? = some g ∧ (wrF P.first g L D).2.2.2 = 9 := fun {i g} h1' h2 => by
      by_cases hki : k = i
      · subst hki
        rw [List.getElem?_set_self hkl] at h1'
        obtain rfl := Option.some.inj h1'
        refine ⟨k, P.ring[k], List.getElem?_eq_getElem hkl, ?_⟩
        rw [← h2, ← wrF_used P.first P.ring[k] false L D]
      · rw [List.getElem?_set_ne hki] at h1'
        exact ⟨i, g, h1', h2⟩
    by_cases hkj : k = j
    · have e : P.ring[k] = f := by
        have := hj
        rw [← hkj, List.getElem?_eq_getElem hkl] at this
        exact Option.some.inj this
      rw [if_neg (by rw [e]; omega)]
      by_cases hu : P.ring[k].used = true
      · rw [if_pos hu]
        rcases evict_near n { P with hand := (k : Int) + 1, ring := P.ring.set k { P.ring[k] with used := false } } L D j (P.ring.length - 1) { P.ring[k] with used := false } (by
          show (P.ring.set k _)[j]? = _
          rw [← hkj, List.getElem?_set_self hkl]) (by show P.ring[k].held ≤ 0; rw [e]; exact hh) rfl (by show 0 ≤ (k : Int) + 1; omega) (by omega) (by
          show (((k : Int) + 1).toNat + (P.ring.length - 1)) % (P.ring.set k _).length = j
          rw [List.length_set, show ((k : Int) + 1).toNat + (P.ring.length - 1) = k + P.ring.length by omega, Nat.add_mod_right, Nat.mod_eq_of_lt hkl]
          exact hkj) with h | ⟨i, g, h1, h2⟩
        · exact .inl h
        · exact .inr (hset h1 h2)
      · rw [if_neg hu]
        exact hwr _ (List.getElem?_eq_getElem hkl)
    · have hd0 : d ≠ 0 := by
        intro h
        rw [h, Nat.add_zero, ← hkn] at hm
        exact hkj hm
      have hmod : ((k + 1) + (d - 1)) % P.ring.length = j := by
        rw [show (k + 1) + (d - 1) = k + d by omega, hkn, Nat.mod_add_mod]
        exact hm
      by_cases c1 : 0 < P.ring[k].held
      · rw [if_pos c1]
        rcases evict_far n { P with hand := (k : Int) + 1 } L D j (d - 1) f hj hh (by show 0 ≤ (k : Int) + 1; omega) (by show d - 1 < P.ring.length; omega) (by show d - 1 + P.ring.length < n; omega) (by
          show (((k : Int) + 1).toNat + (d - 1)) % P.ring.length = j
          rw [show ((k : Int) + 1).toNat = k + 1 by omega]; exact hmod) with h | ⟨i, g, h1, h2⟩
        · exact .inl h
        · exact .inr ⟨i, g, h1, h2⟩
      · rw [if_neg c1]
        by_cases c2 : P.ring[k].used = true
        · rw [if_pos c2]
          rcases evict_far n { P with hand := (k : Int) + 1, ring := P.ring.set k { P.ring[k] with used := false } } L D j (d - 1) f (by
            show (P.ring.set k _)[j]? = some f
            rw [List.getElem?_set_ne hkj]; exact hj) hh (by show 0 ≤ (k : Int) + 1; omega) (by show d - 1 < (P.ring.set k _).length; rw [List.length_set]; omega) (by show d - 1 + (P.ring.set k _).length < n; rw [List.length_set]; omega) (by
            show (((k : Int) + 1).toNat + (d - 1)) % (P.ring.set k _).length = j
            rw [List.length_set, show ((k : Int) + 1).toNat = k + 1 by omega]; exact hmod) with h | ⟨i, g, h1, h2⟩
          · exact .inl h
          · exact .inr (hset h1 h2)
        · rw [if_neg c2]
          exact hwr _ (List.getElem?_eq_getElem hkl)
theorem evict_free {n : Nat} {P : PoolM} {L : LogM} {D : DevM} {j : Nat} {f : FrM} (hj : P.ring[j]? = some f) (hh : f.held ≤ 0) (h0 : 0 ≤ P.hand) (hn : 2 * P.ring.length < n + 1) : (evictM n P L D).2.2.2.2 ≠ 9 ∨ ∃ (i : Nat) (g : FrM), P.ring[i]? = some g ∧ (wrF P.first g L D).2.2.2 = 9 := by
  have hjl := (List.getElem?_eq_some_iff.1 hj).1
  have hp : 0 < P.ring.length := by omega
  obtain ⟨h, hh'⟩ : ∃ h, h = P.hand.toNat % P.ring.length := ⟨_, rfl⟩
  have hl : h < P.ring.length := by rw [hh']; exact Nat.mod_lt _ hp
  by_cases c : h ≤ j
  · refine evict_far n P L D j (j - h) f hj hh h0 (by omega) (by omega) ?_
    rw [Nat.add_mod, ← hh', ← Nat.add_mod_mod, Nat.mod_mod, Nat.add_mod_mod, show h + (j - h) = j by omega, Nat.mod_eq_of_lt hjl]
  · refine evict_far n P L D j (j + P.ring.length - h) f hj hh h0 (by omega) (by omega) ?_
    rw [Nat.add_mod, ← hh', ← Nat.add_mod_mod, Nat.mod_mod, Nat.add_mod_mod, show h + (j + P.ring.length - h) = j + P.ring.length by omega, Nat.add_mod_right, Nat.mod_eq_of_lt hjl]
end Go.Proofs.YtfgagakepmigbaaGreat
namespace Go.Proofs.YtfgagakepmigbaaGreat
open Go.RowKit
theorem wrF_well {D : DevM} {L : LogM} {R : List RecM} {B : Int → UInt8} (h : LogI D L R B) (hc : Calm D) {pf : Int} {f : FrM} (h0 : 0 ≤ pf + f.page) (h1 : pf + f.page < D.n) (hout : pf + f.page < L.first ∨ L.first + L.count ≤ pf + f.page) (hb : f.b.length = 512) (hl : f.last < L.fin) :
    ∃ L' D', wrF pf f L D = ({ f with dirty := false, first := 0 }, L', D', 0) ∧ LogI D' L' R B ∧ Calm D' ∧ D'.n = D.n ∧ (L' = L ∨ L' = madeSafe L) ∧ f.last < L'.safe ∧ D'.latest (pf + f.page) = f.b ∧
      ∀ k, (k < L.first ∨ L.first + L.count ≤ k) → k ≠ pf + f.page → D'.latest k = D.latest k := by
  have put : ∀ {D1 : DevM} {L1 : LogM}, LogI D1 L1 R B → Calm D1 → D1.n = D.n → L1.first = L.first → L1.count = L.count → D1.write (pf + f.page) f.b = (0, D1.put (pf + f.page) f.b) ∧ LogI (D1.put (pf + f.page) f.b) L1 R B ∧ Calm (D1.put (pf + f.page) f.b) := fun {D1 L1} hI hC hn hf hcn => by
    refine ⟨hC.write h0 (by omega) hb, hI.dev rfl hC.d (fun k => ?_) hI.slen (fun k k1 k2 => ?_), ⟨hC.a, hC.d, hC.n⟩⟩
    · rw [latest_put]; split
      · exact hb
      · exact hI.len k
    · rw [latest_put]
      have hk : k ≠ pf + f.page := by omega
      rw [if_neg hk]
      refine ⟨rfl, ?_⟩
      show updF D1.opn (pf + f.page) f.b k = none
      unfold updF
      rw [if_neg hk]
      exact hI.nop k k1 k2
  unfold wrF
  dsimp only
  by_cases hs : L.safe ≤ f.last
  · obtain ⟨D1, e1, c1, n1, i1, o1, _⟩ := force_well h hc
    obtain ⟨a1, a2, _, _, a5, a6, _⟩ := madeSafe_fld L
    obtain ⟨w1, w2, w3⟩ := put i1 c1 n1 a1 a2
    rw [if_pos hs, e1]
    dsimp only
    rw [if_neg (by decide), w1]
    dsimp only
    rw [if_neg (by decide)]
    refine ⟨_, _, rfl, w2, w3, n1, .inr rfl, by rw [a6]; exact hl, by rw [latest_put, if_pos rfl], fun k hk hne => ?_⟩
    rw [latest_put, if_neg hne]
    exact o1 k hk
  · obtain ⟨w1, w2, w3⟩ := put h hc rfl rfl rfl
    rw [if_neg hs]
    dsimp only
    rw [if_neg (by decide), w1]
    dsimp only
    rw [if_neg (by decide)]
    refine ⟨_, _, rfl, w2, w3, rfl, .inl rfl, by omega, by rw [latest_put, if_pos rfl], fun k hk hne => ?_⟩
    rw [latest_put, if_neg hne]
def PoolM.heldOf (P : PoolM) (page : Int) : Int := match P.ring[P.at page]? with | some f => f.held | none => 0
theorem held_in {P : PoolM} (hnd : (P.ring.map (·.page)).Nodup) {f : FrM} (h : f ∈ P.ring) : P.heldOf f.page = f.held := by
  obtain ⟨i, hi⟩ := List.getElem?_of_mem h
  unfold PoolM.heldOf
  rw [at_some hnd hi, hi]
theorem held_out {P : PoolM} {page : Int} (h : ∀ f ∈ P.ring, f.page ≠ page) : P.heldOf page = 0 := by
  unfold PoolM.heldOf
  cases e : P.ring[P.at page]? with
  | none => rfl
  | some f => exact absurd (at_page e) (h f (List.mem_of_getElem? e))
def FrM.alike (f g : FrM) : Prop := g.page = f.page ∧ g.b = f.b ∧ g.last = f.last ∧ g.first = f.first
structure Keeps (P : PoolM) (L : LogM) (D : DevM) (P' : PoolM) (L' : LogM) (D' : DevM) : Prop where
  like : Like P L D P' L' D'
  out : ∀ k, (k < L.first ∨ L.first + L.count ≤ k) → (k < P.first ∨ P.first + P.blocks ≤ k) → D'.latest k = D.latest k
  cur : ∀ p, 0 ≤ p → p < P.blocks → P'.cur D' p = P.cur D p
  held : ∀ p, P'.heldOf p = P.heldOf p
  dev : ∀ p, 0 ≤ p → p < P.blocks → D'.latest (P.first + p) = D.latest (P.first + p) ∨ ∃ f ∈ P.ring, f.page = p ∧ f.dirty = true ∧ f.last < L'.safe ∧ D'.latest (P.first + p) = f.b
  dirty : ∀ f ∈ P.ring, f.dirty = true → (∃ g ∈ P'.ring, g.dirty = true ∧ f.alike g) ∨ (f.last < L'.safe ∧ D'.latest (P.first + f.page) = f.b)
  new : ∀ g ∈ P'.ring, g.dirty = true → ∃ f ∈ P.ring, f.dirty = true ∧ f.alike g
theorem Keeps.refl (P : PoolM) (L : LogM) (D : DevM) : Keeps P L D P L D :=
  ⟨Like.refl _ _ _, fun _ _ _ => rfl, fun _ _ _ => rfl, fun _ => rfl, fun _ _ _ => .inl rfl, fun f hf hd => .inl ⟨f, hf, hd, rfl, rfl, rfl, rfl⟩, fun f hf hd => ⟨f, hf, hd, rfl, rfl, rfl, rfl⟩⟩
theorem Keeps.trans {P P1 P2 : PoolM} {L L1 L2 : LogM} {D D1 D2 : DevM} (hI : PoolI P L D) (h : Keeps P L D P1 L1 D1) (k : Keeps P1 L1 D1 P2 L2 D2) : Keeps P L D P2 L2 D2 := by
  have l1 := h.like
  have l2 := k.like
  have hs := l2.safe
  refine ⟨l1.trans l2, fun x h1 h2 => ?_, fun p h1 h2 => ?_, fun p => (k.held p).trans (h.held p), fun p h1 h2 => ?_, fun f hf hd => ?_, fun g hg hd => ?_⟩
  · rw [k.out x (by rw [l1.lf, l1.lc]; exact h1) (by rw [l1.pf, l1.pb]; exact h2)]
    exact h.out x h1 h2
  · rw [k.cur p h1 (by rw [l1.pb]; exact h2)]
    exact h.cur p h1 h2
  · have k1 := k.dev p h1 (by rw [l1.pb]; exact h2)
    rw [l1.pf] at k1
    rcases k1 with e | ⟨f1, a1, a2, a3, a4, a5⟩
    · rcases h.dev p h1 h2 with e2 | ⟨f, b1, b2, b3, b4, b5⟩
      · exact .inl (e.trans e2)
      · exact .inr ⟨f, b1, b2, b3, by omega, e.trans b5⟩
    · obtain ⟨f, b1, b2, b3, b4, b5, b6⟩ := h.new f1 a1 a3
      exact .inr ⟨f, b1, by rw [← b3]; exact a2, b2, by rw [← b5]; exact a4, by rw [a5, b4]⟩
  · have hp := hI.fr f hf
    rcases h.dirty f hf hd with ⟨g, g1, g2, g3, g4, g5, g6⟩ | ⟨a1, a2⟩
    · rcases k.dirty g g1 g2 with ⟨g', q1, q2, q3, q4, q5, q6⟩ | ⟨a1, a2⟩
      · exact .inl ⟨g', q1, q2, q3.trans g3, q4.trans g4, q5.trans g5, q6.trans g6⟩
      · exact .inr ⟨by rw [← g5]; exact a1, by rw [← g4, ← g3, ← l1.pf]; exact a2⟩
    · have k1 := k.dev f.page hp.1 (by rw [l1.pb]; exact hp.2.1)
      rw [l1.pf] at k1
      rcases k1 with e | ⟨f1, b1, b2, b3, b4, b5⟩
      · exact .inr ⟨by omega, e.trans a2⟩
      · obtain ⟨f0, c1, c2, c3, c4, c5, c6⟩ := h.new f1 b1 b3
        have e0 : f0 = f := by
          obtain ⟨i, hi⟩ := List.getElem?_of_mem c1
          obtain ⟨j, hj⟩ := List.getElem?_of_mem hf
          have q1 := at_some hI.nd hi
          have q2 := at_some hI.nd hj
          rw [← c3, b2, q2] at q1
          rw [← q1, hj] at hi
          exact (Option.some.inj hi).symm
        subst e0
        exact .inr ⟨by rw [← c5]; exact b4, by rw [b5, c4]⟩
  · obtain ⟨f1, a1, a2, a3, a4, a5, a6⟩ := k.new g hg hd
    obtain ⟨f, b1, b2, b3, b4, b5, b6⟩ := h.new f1 a1 a2
    exact ⟨f, b1, b2, a3.trans b3, a4.trans b4, a5.trans b5, a6.trans b6⟩
theorem PoolI.same {P P1 : PoolM} {L : LogM} {D : DevM} (h : PoolI P L D) (h1 : P1.first = P.first) (h2 : P1.blocks = P.blocks) (h3 : P1.most = P.most) (h4 : SameR P.ring P1.ring) (h5 : 0 ≤ P1.hand) (h6 : P1.hand ≤ P1.ring.length) : PoolI P1 L D := by
  refine ⟨by rw [h1]; exact h.f0, by rw [h2]; exact h.b1, by rw [h1, h2]; exact h.fn, h.dn, by rw [h1, h2]; exact h.ap, by rw [h3]; exact h.m8, by rw [h3]; exact h.m1, by rw [h4.len, h3]; exact h.len, h5, h6, by rw [h4.pages]; exact h.nd, fun f hf => ?_⟩
  obtain ⟨i, hi⟩ := List.getElem?_of_mem hf
  obtain ⟨g, hg, hc⟩ := h4.get hi
  obtain ⟨c1, c2, c3, c4, c5, c6⟩ := core_inj hc
  have := h.fr g (List.mem_of_getElem? hg)
  rw [c1, c2, c3, c4, c5, c6, h1, h2]
  exact this
theorem Keeps.same {P P1 : PoolM} {L : LogM} {D : DevM} (h : PoolI P L D) (h1 : P1.first = P.first) (h2 : P1.blocks = P.blocks) (h3 : P1.most = P.most) (h4 : SameR P.ring P1.ring) : Keeps P L D P1 L D := by
  have hnd1 : (P1.ring.map (·.page)).Nodup := by rw [h4.pages]; exact h.nd
  have key : ∀ p, (∃ f ∈ P.ring, ∃ g ∈ P1.ring, f.page = p ∧ g.core = f.core) ∨ ((∀ f ∈ P.ring, f.page ≠ p) ∧ ∀ g ∈ P1.ring, g.page ≠ p) := fun p => by
    by_cases c : ∃ f ∈ P.ring, f.page = p
    · obtain ⟨f, hf, hp⟩ := c
      obtain ⟨i, hi⟩ := List.getElem?_of_mem hf
      obtain ⟨g, hg, hc⟩ := h4.symm.get hi
      exact .inl ⟨f, hf, g, List.mem_of_getElem? hg, hp, hc.symm⟩
    · refine .inr ⟨fun f hf e => c ⟨f, hf, e⟩, fun g hg e => ?_⟩
      obtain ⟨i, hi⟩ := List.getElem?_of_mem hg
      obtain ⟨f, hf, hc⟩ := h4.get hi
      exact c ⟨f, List.mem_of_getElem? hf, by rw [← (core_inj hc).1]; exact e⟩
  refine ⟨⟨h1, h2, h3, rfl, rfl, rfl, rfl, rfl, Int.le_refl _, rfl, rfl⟩, fun _ _ _ => rfl, fun p _ _ => ?_, fun p => ?_, fun _ _ _ => .inl rfl, fun f hf hd => .inl ?_, fun g hg hd => ?_⟩
  · rcases key p with ⟨f, hf, g, hg, rfl, hc⟩ | ⟨a1, a2⟩
    · obtain ⟨c1, c2, _⟩ := core_inj hc
      rw [cur_in h.nd hf, ← c1, cur_in hnd1 hg, c2]
    · rw [cur_out a1, cur_out a2, h1]
  · rcases key p with ⟨f, hf, g, hg, rfl, hc⟩ | ⟨a1, a2⟩
    · obtain ⟨c1, _, c3, _⟩ := core_inj hc
      rw [held_in h.nd hf, ← c1, held_in hnd1 hg, c3]
    · rw [held_out a1, held_out a2]
  · obtain ⟨i, hi⟩ := List.getElem?_of_mem hf
    obtain ⟨g, hg, hc⟩ := h4.symm.get hi
    obtain ⟨c1, c2, c3, c4, c5, c6⟩ := core_inj hc
    exact ⟨g, List.mem_of_getElem? hg, by rw [← c4]; exact hd, c1.symm, c2.symm, c6.symm, c5.symm⟩
  · obtain ⟨i, hi⟩ := List.getElem?_of_mem hg
    obtain ⟨f, hf, hc⟩ := h4.get hi
    obtain ⟨c1, c2, c3, c4, c5, c6⟩ := core_inj hc
    exact ⟨f, List.mem_of_getElem? hf, by rw [← c4]; exact hd, c1, c2, c6, c5⟩
theorem mem_set {l : List FrM} {k : Nat} {g x : FrM} (h : x ∈ l.set k g) : x = g ∨ ∃ i, i ≠ k ∧ l[i]? = some x := by
  obtain ⟨i, hi⟩ := List.getElem?_of_mem h
  by_cases e : k = i
  · subst e
    have hl : k < l.length := by have := (List.getElem?_eq_some_iff.1 hi).1; simpa using this
    rw [List.getElem?_set_self hl] at hi
    exact .inl (Option.some.inj hi).symm
  · rw [List.getElem?_set_ne e] at hi
    exact .inr ⟨i, fun e2 => e e2.symm, hi⟩
theorem set_mem {l : List FrM} {k i : Nat} {g x : FrM} (h : l[i]? = some x) (hne : i ≠ k) : x ∈ l.set k g := by
  refine List.mem_of_getElem? (i := i) ?_
  rw [List.getElem?_set_ne (fun e => hne e.symm)]
  exact h
theorem set_self {l : List FrM} {k : Nat} {f g : FrM} (h : l[k]? = some f) : g ∈ l.set k g := by
  refine List.mem_of_getElem? (i := k) ?_
  rw [List.getElem?_set_self (List.getElem?_eq_some_iff.1 h).1]
theorem set_pages {l : List FrM} {k : Nat} {f g : FrM} (h : l[k]? = some f) (hp : g.page = f.page) : (l.set k g).map (·.page) = l.map (·.page) := by
  rw [List.map_set]
  apply List.ext_getElem?
  intro i
  rw [List.getElem?_set]
  by_cases e : k = i
  · subst e
    rw [if_pos rfl, List.getElem?_map, h]
    have := (List.getElem?_eq_some_iff.1 h).1
    simp [this, hp]
  · rw [if_neg e]
theorem wrote {P : PoolM} {L L' : LogM} {D D' : DevM} (h : PoolI P L D) {k : Nat} {f : FrM} (hf : P.ring[k]? = some f) (hd : f.dirty = true) (hn : D'.n = D.n) (hL : L' = L ∨ L' = madeSafe L) (hsf : L.safe ≤ L.fin) (hlast : f.last < L'.safe) (hat : D'.latest (P.first + f.page) = f.b)
    (hout : ∀ k, (k < L.first ∨ L.first + L.count ≤ k) → k ≠ P.first + f.page → D'.latest k = D.latest k) :
    PoolI { P with ring := P.ring.set k { f with dirty := false, first := 0 } } L' D' ∧ Keeps P L D { P with ring := P.ring.set k { f with dirty := false, first := 0 } } L' D' := by
  have hfl : L'.first = L.first ∧ L'.count = L.count ∧ L'.turn = L.turn ∧ L'.oldest = L.oldest ∧ L'.fin = L.fin ∧ L.safe ≤ L'.safe ∧ L'.lsns = L.lsns := by
    rcases hL with rfl | rfl
    · exact ⟨rfl, rfl, rfl, rfl, rfl, Int.le_refl _, rfl⟩
    · obtain ⟨a1, a2, a3, a4, a5, a6, a7⟩ := madeSafe_fld L
      exact ⟨a1, a2, a3, a4, a5, by omega, a7⟩
  obtain ⟨l1, l2, l3, l4, l5, l6, l7⟩ := hfl
  have hfm := List.mem_of_getElem? hf
  have hfr := h.fr f hfm
  have hpg : (P.ring.set k { f with dirty := false, first := 0 }).map (·.page) = P.ring.map (·.page) := set_pages hf rfl
  have hnd1 : ((P.ring.set k { f with dirty := false, first := 0 }).map (·.page)).Nodup := by rw [hpg]; exact h.nd
  have hne : ∀ {i : Nat} {x : FrM}, P.ring[i]? = some x → i ≠ k → x.page ≠ f.page := fun {i x} hi hik e => hik (by
    have q1 := at_some h.nd hi
    have q2 := at_some h.nd hf
    rw [e, q2] at q1
    exact q1.symm)
  have area : ∀ p, 0 ≤ p → p < P.blocks → (P.first + p < L.first ∨ L.first + L.count ≤ P.first + p) := fun p a b => by have := h.ap; omega
  refine ⟨⟨h.f0, h.b1, by rw [hn]; exact h.fn, by rw [hn]; exact h.dn, by rw [l1, l2]; exact h.ap, h.m8, h.m1, by show ((P.ring.set k _).length : Int) ≤ P.most; rw [List.length_set]; exact h.len, h.h0, by show P.hand ≤ ((P.ring.set k _).length : Int); rw [List.length_set]; exact h.h1, hnd1, fun x hx => ?_⟩, ?_⟩
  · rcases mem_set hx with rfl | ⟨i, hik, hi⟩
    · exact ⟨hfr.1, hfr.2.1, hfr.2.2.1, hfr.2.2.2.1, hfr.2.2.2.2.1, by rw [l5]; exact hfr.2.2.2.2.2.1, fun _ => hat.symm, fun e => by cases e⟩
    · have hx0 := h.fr x (List.mem_of_getElem? hi)
      refine ⟨hx0.1, hx0.2.1, hx0.2.2.1, hx0.2.2.2.1, hx0.2.2.2.2.1, by rw [l5]; exact hx0.2.2.2.2.2.1, fun e => ?_, hx0.2.2.2.2.2.2.2⟩
      show x.b = D'.latest (P.first + x.page)
      rw [hout _ (area _ hx0.1 hx0.2.1) (by have := hne hi hik; omega)]
      exact hx0.2.2.2.2.2.2.1 e
  · refine ⟨⟨rfl, rfl, rfl, l1, l2, l3, l4, l5, l6, hn, l7⟩, fun x h1 h2 => hout x h1 (by have := hfr.1; have := hfr.2.1; omega), fun p h1 h2 => ?_, fun p => ?_, fun p h1 h2 => ?_, fun x hx hxd => ?_, fun x hx hxd => ?_⟩
    · by_cases c : ∃ x ∈ P.ring, x.page = p
      · obtain ⟨x, hx, rfl⟩ := c
        obtain ⟨i, hi⟩ := List.getElem?_of_mem hx
        rw [cur_in h.nd hx]
        by_cases hik : i = k
        · subst hik
          rw [hf] at hi
          obtain rfl := Option.some.inj hi
          exact cur_in (P := { P with ring := P.ring.set i { f with dirty := false, first := 0 } }) (D := D') (f := { f with dirty := false, first := 0 }) hnd1 (set_self hf)
        · exact cur_in (P := { P with ring := P.ring.set k { f with dirty := false, first := 0 } }) (D := D') hnd1 (set_mem hi hik)
      · have c1 : ∀ x ∈ P.ring, x.page ≠ p := fun x hx e => c ⟨x, hx, e⟩
        have c2 : ∀ x ∈ P.ring.set k { f with dirty := false, first := 0 }, x.page ≠ p := fun x hx => by
          rcases mem_set hx with rfl | ⟨i, _, hi⟩
          · exact c1 f hfm
          · exact c1 x (List.mem_of_getElem? hi)
        rw [cur_out c1, cur_out (P := { P with ring := P.ring.set k { f with dirty := false, first := 0 } }) c2]
        exact hout _ (area p h1 h2) (show P.first + p ≠ P.first + f.page by have := c1 f hfm; omega)
    · by_cases c : ∃ x ∈ P.ring, x.page = p
      · obtain ⟨x, hx, rfl⟩ := c
        obtain ⟨i, hi⟩ := List.getElem?_of_mem hx
        rw [held_in h.nd hx]
        by_cases hik : i = k
        · subst hik
          rw [hf] at hi
          obtain rfl := Option.some.inj hi
          exact held_in (P := { P with ring := P.ring.set i { f with dirty := false, first := 0 } }) (f := { f with dirty := false, first := 0 }) hnd1 (set_self hf)
        · exact held_in (P := { P with ring := P.ring.set k { f with dirty := false, first := 0 } }) hnd1 (set_mem hi hik)
      · have c1 : ∀ x ∈ P.ring, x.page ≠ p := fun x hx e => c ⟨x, hx, e⟩
        have c2 : ∀ x ∈ P.ring.set k { f with dirty := false, first := 0 }, x.page ≠ p := fun x hx => by
          rcases mem_set hx with rfl | ⟨i, _, hi⟩
          · exact c1 f hfm
          · exact c1 x (List.mem_of_getElem? hi)
        rw [held_out c1, held_out (P := { P with ring := P.ring.set k { f with dirty := false, first := 0 } }) c2]
    · by_cases e : p = f.page
      · subst e
        exact .inr ⟨f, hfm, rfl, hd, hlast, hat⟩
      · exact .inl (hout _ (area p h1 h2) (by omega))
    · obtain ⟨i, hi⟩ := List.getElem?_of_mem hx
      by_cases hik : i = k
      · subst hik
        rw [hf] at hi
        obtain rfl := Option.some.inj hi
        exact .inr ⟨hlast, hat⟩
      · exact .inl ⟨x, set_mem hi hik, hxd, rfl, rfl, rfl, rfl⟩
    · rcases mem_set hx with rfl | ⟨i, hik, hi⟩
      · cases hxd
      · exact ⟨x, List.mem_of_getElem? hi, hxd, rfl, rfl, rfl, rfl⟩
theorem evict_well {P : PoolM} {L : LogM} {D : DevM} {R : List RecM} {B : Int → UInt8} (hI : PoolI P L D) (hL : LogI D L R B) (hC : Calm D) (hfull : (P.ring.length : Int) = P.most) (hfree : ∃ f ∈ P.ring, f.held ≤ 0) :
    ∃ P' L' D' k f, evictM (2 * P.most + 1).toNat P L D = (P', L', D', k, 0) ∧ P'.ring[k]? = some f ∧ f.held ≤ 0 ∧ f.dirty = false ∧ PoolI P' L' D' ∧ LogI D' L' R B ∧ Calm D' ∧ Keeps P L D P' L' D' := by
  have m8 := hI.m8
  have hw : ∀ f ∈ P.ring, ∃ L' D', wrF P.first f L D = ({ f with dirty := false, first := 0 }, L', D', 0) ∧ LogI D' L' R B ∧ Calm D' ∧ D'.n = D.n ∧ (L' = L ∨ L' = madeSafe L) ∧ f.last < L'.safe ∧ D'.latest (P.first + f.page) = f.b ∧
      ∀ k, (k < L.first ∨ L.first + L.count ≤ k) → k ≠ P.first + f.page → D'.latest k = D.latest k := fun f hf => by
    have h := hI.fr f hf
    have := hI.f0
    have := hI.fn
    have := hI.ap
    exact wrF_well hL hC (by omega) (by omega) (by omega) h.2.2.1 h.2.2.2.2.2.1
  have hcore : ∀ (f g : FrM), g.core = f.core → (wrF P.first g L D).2 = (wrF P.first f L D).2 := fun f g h => by
    obtain ⟨c1, c2, c3, c4, c5, c6⟩ := core_inj h
    unfold wrF
    dsimp only
    rw [c1, c2, c6]
    (repeat' split) <;> rfl
  obtain ⟨P1, h1, h2, h3, h4, h5, h6, h7⟩ := evict_shape (2 * P.most + 1).toNat P L D (by omega) hI.h0 hI.h1
  rcases h7 with h7 | ⟨k, f, a1, a2, a3, h7⟩
  · exfalso
    obtain ⟨f, hf, hh⟩ := hfree
    obtain ⟨j, hj⟩ := List.getElem?_of_mem hf
    rcases evict_free (n := (2 * P.most + 1).toNat) (L := L) (D := D) hj hh hI.h0 (by omega) with h8 | ⟨i, g, h8, h9⟩
    · rw [h7] at h8; exact h8 rfl
    · obtain ⟨L', D', e, _⟩ := hw g (List.mem_of_getElem? h8)
      rw [e] at h9
      exact absurd (show (0 : Int) = 9 from h9) (by decide)
  · obtain ⟨g, hg, hc⟩ := h4.get a1
    obtain ⟨c1, c2, c3, c4, c5, c6⟩ := core_inj hc
    have hI1 := hI.same h1 h2 h3 h4 h5 h6
    have hK1 := Keeps.same hI h1 h2 h3 h4
    rcases h7 with ⟨b1, b2⟩ | ⟨b1, b2, b3⟩ | ⟨b1, b2, b3⟩
    · exact ⟨P1, L, D, k, f, b2, a1, a2, b1, hI1, hL, hC, hK1⟩
    · exfalso
      obtain ⟨L', D', e, _⟩ := hw g (List.mem_of_getElem? hg)
      have := hcore g f hc
      rw [this, e] at b2
      exact b2 rfl
    · have hfr := hI1.fr f (List.mem_of_getElem? a1)
      have q1 := hI1.f0
      have q2 := hI1.fn
      have q3 := hI1.ap
      obtain ⟨L', D', e, e1, e2, e3, e4, e5, e6, e7⟩ := wrF_well hL hC (pf := P.first) (f := f) (by rw [← h1]; omega) (by rw [← h1]; omega) (by rw [← h1]; omega) hfr.2.2.1 hfr.2.2.2.2.2.1
      rw [← h1] at e6 e7
      obtain ⟨w1, w2⟩ := wrote hI1 a1 b1 e3 e4 hL.sf e5 e6 e7
      rw [e] at b3
      refine ⟨_, L', D', k, { f with dirty := false, first := 0 }, b3, ?_, a2, rfl, w1, e1, e2, hK1.trans hI w2⟩
      show (P1.ring.set k _)[k]? = _
      rw [List.getElem?_set_self (List.getElem?_eq_some_iff.1 a1).1]
end Go.Proofs.YtfgagakepmigbaaGreat
