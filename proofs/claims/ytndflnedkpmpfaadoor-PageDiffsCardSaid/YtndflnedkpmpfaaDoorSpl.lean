/-
  No statement is proved here: how many spans there are, at the most; the rows of bytes that spans hold, in the order in which they are told.
-/
import Derived.Test.YtndflnedkpmpfaaDoorPeg
import Derived.Test.YtndflnedkpmpfaaDoorFlata
namespace Go.Proofs.YtndflnedkpmpfaaDoor
open Go.RowKit

theorem apart8_len : ∀ (o : Sp) (lo : Nat), o.Pairwise Apart8 → (∀ s ∈ o, lo ≤ s.1 ∧ s.1 < s.2 ∧ s.2 ≤ 512) → o = [] ∨ o.length * 9 + lo ≤ 520
  | [], _, _, _ => .inl rfl
  | s :: o, lo, hp, h => by
    right
    obtain ⟨h1, h2, h3⟩ := h s (by simp)
    rw [List.pairwise_cons] at hp
    rcases apart8_len o (s.2 + 8) hp.2 (fun u hu => ⟨hp.1 u hu, (h u (by simp [hu])).2⟩) with rfl | e
    · simp; omega
    · rw [List.length_cons]; omega
theorem diffM_len (a b : Bytes) : (diffM a b).length ≤ 57 := by
  have hg := diffM_good a b
  rcases apart8_len (diffM a b) 0 hg.far (fun s hs => ⟨Nat.zero_le _, (hg.ok s hs).1, (hg.ok s hs).2.1⟩) with e | e
  · rw [e]; simp
  · omega
/-- A row of bytes: its block, its room, its bytes. -/
structure BrD where
  g : Nat
  c : Nat
  l : Bytes
def brV (d : BrD) : Value := .slice (some ⟨d.g, 0, none⟩) d.l.length d.c
def spBr (a b : Bytes) (s : SpD) : List BrD := [⟨s.g1, s.c1, segB a (s.f, s.t)⟩, ⟨s.g2, s.c2, segB b (s.f, s.t)⟩]
def spBrs (a b : Bytes) (L : List SpD) : List BrD := L.flatMap (spBr a b)
theorem spBrs_g (a b : Bytes) (L : List SpD) : (spBrs a b L).map (·.g) = gsOf L := by
  unfold spBrs gsOf spBr
  induction L with
  | nil => rfl
  | cons s L ih => simp [List.flatMap_cons, ih]
theorem SegsAt.brs {w : World} {B : Nat} {a b : Bytes} {L : List SpD} (h : SegsAt w B a b L) : ∀ d ∈ spBrs a b L, OwnB w B d.g d.c d.l := by
  intro d hd
  obtain ⟨s, hs, hd⟩ := List.mem_flatMap.1 hd
  have := h s hs
  simp only [spBr, List.mem_cons, List.not_mem_nil, or_false] at hd
  rcases hd with rfl | rfl
  · exact this.1
  · exact this.2
def dA (D : List BrD) (k : Nat) : Option Addr := (D[k]?).map fun d => ⟨d.g, 0, none⟩
def dN (D : List BrD) (k : Nat) : Nat := ((D[k]?).map fun d => d.l.length).getD 0
def dC (D : List BrD) (k : Nat) : Nat := ((D[k]?).map fun d => d.c).getD 0
def dL (D : List BrD) (k : Nat) : Bytes := ((D[k]?).map fun d => d.l).getD []
theorem brs_at {D : List BrD} {k : Nat} (h : k < D.length) : ∃ d ∈ D, D[k]? = some d ∧ dA D k = some ⟨d.g, 0, none⟩ ∧ dN D k = d.l.length ∧ dC D k = d.c ∧ dL D k = d.l := by
  have e := List.getElem?_eq_getElem h
  refine ⟨D[k], List.getElem_mem h, e, ?_, ?_, ?_, ?_⟩ <;> simp [dA, dN, dC, dL, e]
/-- The rows, told in a table: as flatBytes wants them. -/
theorem brs_FB {w : World} {B gl : Nat} {D : List BrD} (ht : ∀ k, k < D.length → w.cell? ⟨gl, k, none⟩ = (D.map brV)[k]?) (hD : ∀ d ∈ D, OwnB w B d.g d.c d.l) : FB w B gl D.length (dA D) (dN D) (dC D) (dL D) := by
  refine ⟨fun k hk => ?_, fun k hk => ?_⟩
  · obtain ⟨d, hd, e, e1, e2, e3, e4⟩ := brs_at hk
    rw [ht k hk, List.getElem?_map, e, e1, e2, e3]
    rfl
  · obtain ⟨d, hd, e, e1, e2, e3, e4⟩ := brs_at hk
    rw [e1, e2, e3, e4]
    exact hD d hd
theorem brs_Sep {gl : Nat} {D : List BrD} (hn : (D.map (·.g)).Nodup) (hg : ∀ d ∈ D, d.g ≠ gl) : Sep D.length gl (dA D) := by
  refine ⟨fun i j x hi hj h1 h2 => ?_, fun k hk h => ?_⟩
  · obtain ⟨d, _, e, e1, _⟩ := brs_at hi
    obtain ⟨d', _, e', e1', _⟩ := brs_at hj
    rw [e1] at h1
    rw [e1'] at h2
    have q1 : d.g = x := by simpa [ob] using h1
    have q2 : d'.g = x := by simpa [ob] using h2
    have p1 : (D.map (·.g))[i]? = some x := by rw [List.getElem?_map, e, Option.map_some, q1]
    have p2 : (D.map (·.g))[j]? = some x := by rw [List.getElem?_map, e', Option.map_some, q2]
    obtain ⟨u1, r1⟩ := List.getElem?_eq_some_iff.1 p1
    obtain ⟨u2, r2⟩ := List.getElem?_eq_some_iff.1 p2
    have hp := List.pairwise_iff_getElem.1 hn
    rcases Nat.lt_trichotomy i j with hij | hij | hij
    · exact absurd (r1.trans r2.symm) (hp i j u1 u2 hij)
    · exact hij
    · exact absurd (r2.trans r1.symm) (hp j i u2 u1 hij)
  · obtain ⟨d, hd, e, e1, _⟩ := brs_at hk
    rw [e1] at h
    exact hg d hd (by simpa [ob] using h)
theorem brs_OwnS {D : List BrD} {x : Nat} (h : OwnS D.length (dA D) x) : ∃ d ∈ D, d.g = x := by
  obtain ⟨k, hk, h⟩ := h
  obtain ⟨d, hd, e, e1, _⟩ := brs_at hk
  rw [e1] at h
  exact ⟨d, hd, by simpa [ob] using h⟩
end Go.Proofs.YtndflnedkpmpfaaDoor
