/-
  No statement is proved here: a page taken apart, in plain Lean; rows of rows of bytes.
-/
import Derived.Test.YtndflnedkpmpfaaGreatDoorPdo
namespace Go.Proofs.YtndflnedkpmpfaaGreatDoor
open Go.RowKit

def cellM (l : Bytes) (k : Nat) : Bytes := (l.take (placeM l (k + 1))).drop (placeM l k + 2)
def cellsM (l : Bytes) (n : Nat) : List Bytes := (List.range n).map (cellM l)
def nextM (l : Bytes) : Nat := (bAt l 2).toNat * 16777216 + (bAt l 3).toNat * 65536 + (bAt l 4).toNat * 256 + (bAt l 5).toNat
theorem cellsM_len (l : Bytes) (n : Nat) : (cellsM l n).length = n := by simp [cellsM]
theorem cellsM_succ (l : Bytes) (n : Nat) : cellsM l (n + 1) = cellsM l n ++ [cellM l n] := by unfold cellsM; rw [List.range_succ, List.map_append]; rfl
theorem endM_zero_len {l : Bytes} (h : l.length ≠ 512) : endM l = 0 := by unfold endM; rw [if_pos h]
/-- A cell that does not end within the page: it is no right page. -/
theorem endM_zero_place {l : Bytes} {k : Nat} (h : placeM l k = 0) (hk : k ≤ (bAt l 1).toNat) : endM l = 0 := by
  by_cases h0 : endM l = 0
  · exact h0
  · exact absurd h (placeM_ok h0 hk)
theorem endM_zero_rest {l : Bytes} (h : allZ (l.drop (placeM l (bAt l 1).toNat)) = false) : endM l = 0 := by
  by_cases h0 : endM l = 0
  · exact h0
  · have := endM_place h0
    rw [this.1, this.2] at h
    cases h
theorem endM_ok {l : Bytes} (h1 : l.length = 512) (h2 : placeM l (bAt l 1).toNat ≠ 0) (h3 : allZ (l.drop (placeM l (bAt l 1).toNat)) = true) : endM l = placeM l (bAt l 1).toNat := by
  unfold endM
  rw [if_neg (by omega), if_neg h2, if_pos h3]
theorem placeM_next {l : Bytes} {k : Nat} (h : placeM l k ≠ 0) : placeM l (k + 1) = afterM l (placeM l k) := by
  show (if placeM l k = 0 then 0 else _) = _
  rw [if_neg h]
/-- One cell, with the row that holds it. -/
structure CeD where
  g : Nat
  c : Nat
  b : Bytes
def ceVal (s : CeD) : Value := .slice (some ⟨s.g, 0, none⟩) s.b.length s.c
def OwnCs (w : World) (base : Nat) (v : Value) (L : List CeD) : Prop := w.ownsRow base 22 1 v L.length (L.map ceVal)
def CsAt (w : World) (base : Nat) (L : List CeD) : Prop := ∀ s ∈ L, OwnB w base s.g s.c s.b
theorem infoCs : ((Tryz.prog).info? 22).map (fun i => (i.zero, i.size, i.bytes)) = some (some (.slice none 0 0), 1, 24) := by kernel_rfl
theorem OwnCs.blk {w : World} {base x : Nat} {v : Value} {L : List CeD} (h : OwnCs w base v L) (hx : v.ownBlock = some x) : base ≤ x ∧ ∃ cur, w.heap[x]? = some (.cells cur 22 (0, 0)) := by
  rcases h.2 with ⟨rfl, -⟩ | ⟨g, cap, cur, rfl, hb, hh, -⟩
  · simp [Value.ownBlock] at hx
  · have e : g = x := by simpa [Value.ownBlock] using hx
    subst e
    exact ⟨hb, cur, hh⟩
theorem OwnCs.kept {S : Nat → Prop} {w w' : World} {base : Nat} {v : Value} {L : List CeD} (h : OwnCs w base v L) (hk : Kept S w w') (hS : ∀ x, S x → x < base) : OwnCs w' base v L := by
  rcases h with ⟨h0, h | ⟨g, cap, cur, hv, hb, hh, r⟩⟩
  · exact ⟨h0, .inl h⟩
  · exact ⟨h0, .inr ⟨g, cap, cur, hv, hb, hk.heap hh (fun e => by have := hS g e; omega), r⟩⟩
theorem CsAt.keep {S : Nat → Prop} {w w' : World} {base : Nat} {L : List CeD} (h : CsAt w base L) (hk : Kept S w w') (hS : ∀ x cur, w.heap[x]? = some (.cells cur 5 (0, 0)) → base ≤ x → ¬ S x) : CsAt w' base L := by
  intro s hs
  have h1 := h s hs
  obtain ⟨u1, b1, k1, -⟩ := h1.form
  exact h1.keep hk (hS _ u1 k1 b1)
theorem CsAt.snoc {w : World} {base : Nat} {L : List CeD} {s : CeD} (h : CsAt w base L) (h1 : OwnB w base s.g s.c s.b) : CsAt w base (L ++ [s]) := by
  intro u hu
  rcases List.mem_append.1 hu with hu | hu
  · exact h u hu
  · simp at hu
    subst hu
    exact h1
theorem OwnCs.low {w : World} {base base' : Nat} {v : Value} {L : List CeD} (h : OwnCs w base v L) (hb : base' ≤ base) : OwnCs w base' v L := by
  unfold OwnCs at *
  obtain ⟨h0, h⟩ := h
  exact ⟨h0, h.elim .inl (fun ⟨g, cap, cur, hv, hg, r⟩ => .inr ⟨g, cap, cur, hv, Nat.le_trans hb hg, r⟩)⟩
theorem CsAt.low {w : World} {base base' : Nat} {L : List CeD} (h : CsAt w base L) (hb : base' ≤ base) : CsAt w base' L := fun s hs => (h s hs).low hb
theorem OwnCs.view {w : World} {base : Nat} {v : Value} {L : List CeD} (h : OwnCs w base v L) : ∃ G cap, v = .slice G L.length cap ∧
    ∀ k s, L[k]? = some s → ∃ g, G = some ⟨g, 0, none⟩ ∧ g < w.heap.size ∧ w.cell? ⟨g, k, none⟩ = some (ceVal s) := by
  obtain ⟨h1, ⟨h, hl⟩ | ⟨g, cap, cur, hv, hg, hh, hle, -, hc, ht⟩⟩ := h
  · have h0 : L = [] := List.eq_nil_of_length_eq_zero hl
    subst h0
    exact ⟨_, _, h, fun k s hk => by simp at hk⟩
  · refine ⟨_, cap, hv, fun k s hk => ⟨g, rfl, heap_lt hh, cell_blk hh ?_⟩⟩
    have hlt := (List.getElem?_eq_some_iff.1 hk).1
    have e : (L.map ceVal)[k]? = some (ceVal s) := by rw [List.getElem?_map, hk]; rfl
    rw [← ht, List.getElem?_take] at e
    split at e
    · rwa [Array.getElem?_toList] at e
    · simp at e
/-- 'append', bytes or none, onto bytes of the call's own: one step. -/
theorem step_appendB {w : World} {ops : Array Oper} {o : Oper} {a : Act} {K : Act → World → Prop} {Q : Exit → Act → World → Prop} {E : Prop} (hgd : o.guard = none) (s x : Operand)
    (ho : o.op = .call { callee := .builtin .append, args := #[s, x], argTypes := #[22, 22] }) (base g cap : Nat) (l m : Bytes) (hs : a.eval s = .slice (some ⟨g, 0, none⟩) l.length cap) (hown : OwnB w base g cap l)
    (A : Option Addr) (c : Nat) (hx : a.eval x = .slice A m.length c) (hm : RdB w A m) (h63 : l.length + m.length ≤ 140737488355328) (hbase : base ≤ w.heap.size)
    (k : ∀ g' cap' w', OwnB w' base g' cap' (l ++ m) → Kept (fun x => x = g) w w' → (g' = g ∨ w.heap.size ≤ g') → g' < w'.heap.size → K (a.put o.dst (.slice (some ⟨g', 0, none⟩) (l.length + m.length) cap')) w') : if Region.wanted o (yielded ops a.tmps) = true then Oper.wp Tryz.prog o a w K Q else E := by
  by_cases h0 : m = []
  · subst h0
    obtain ⟨i, hi, h2, h3, h4⟩ := info_parts info5
    have hrun := run_append_owned_empty (P := Tryz.prog) (w := w) base 22 o.type 5 i 1 Tryz.underlying22 hi _ l.length _ hown A c
    rw [if_pos (by simp [Region.wanted, hgd])]
    unfold Oper.wp
    have hx' : a.eval x = .slice A 0 c := hx
    simp [execOp, ho, resolve, invoke, builtin, hs, hx', hrun, Result.andThen]
    refine k g cap w (by simpa using hown) (Kept.refl _ _) (.inl rfl) ?_
    obtain ⟨cur, _, hh, _⟩ := hown.form
    exact heap_lt hh
  · obtain ⟨b, off, rfl, hc⟩ := hm h0
    have : 0 < m.length := List.length_pos_iff.2 h0
    have e63 : maxLen = 9223372036854775807 := rfl
    refine step_append hgd s x 22 ho base 5 Tryz.underlying22 info5 rfl (by omega) _ l.length _ hs hown b off m.length c (cellsOf m).toList hx (by rw [cellsOf_len, Nat.mul_one]) (fun j u hu => hc j u (by simpa using hu)) (fun u hu => (Array.all_eq_true_iff_forall_mem.1 (one_cellsOf m)) u (by simpa using hu)) this (by omega) (by omega) hbase ?_
    intro g' cap' w' ho' hk' hat m'
    refine k g' cap' w' ?_ (hk'.mono (fun x _ e => by simpa [Value.ownBlock, eq_comm] using e)) (hat.imp_left (fun e => by simpa [Value.ownBlock, eq_comm] using e)) m'
    unfold OwnB
    rw [List.length_append, cellsOf_append]
    exact ho'
end Go.Proofs.YtndflnedkpmpfaaGreatDoor
