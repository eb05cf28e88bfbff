/-
  No statement is proved here: 'copy' of bytes onto a row of the call's own.
-/
import Derived.Test.YtndflnedkpmpfaaDoorPgg
import Derived.Laws.CopyRow
import Derived.Laws.CopyOwn
namespace Go.Proofs.YtndflnedkpmpfaaDoor
open Go.RowKit

theorem over_len {l m : Bytes} {i : Nat} (h : i ≤ l.length) : (over l i m).length = l.length := by
  unfold over
  simp
  omega
theorem splice_take {α : Type} {cur X Y : List α} {L i : Nat} (h : cur.take L = X) (hL : L ≤ cur.length) (hi : i + Y.length ≤ L) : (cur.take i ++ Y ++ cur.drop (i + Y.length)).take L = X.take i ++ Y ++ X.drop (i + Y.length) := by
  subst h
  rw [List.take_append, List.take_of_length_le (by simp; omega)]
  rw [List.take_take, Nat.min_eq_left (by omega), List.drop_take]
  congr 2
  simp
  omega
theorem run_copyB {w : World} {base g cap : Nat} {l : Bytes} (h : OwnB w base g cap l) (i : Nat) (hi : i ≤ l.length) (D S : Option Addr) (hD : i < l.length → D = some ⟨g, i, none⟩) (m : Bytes) (hS : RdB w S m) (dc sc : Nat) (ty : TypeId) :
    ∃ (n : Nat) (w' : World), (Builtin.copy_ #[22, 22] ty #[.slice D (l.length - i) dc, .slice S m.length sc]).run Tryd.prog w = .ok (goInt n) w' ∧ n = Nat.min m.length (l.length - i) ∧ OwnB w' base g cap (over l i m) ∧ Kept (fun x => x = g) w w' := by
  have hsz : ((Tryd.prog).info? 5).map (·.size) = some 1 := by kernel_rfl
  by_cases h0 : Nat.min m.length (l.length - i) = 0
  · refine ⟨0, w, by simpa using run_copy_none (P := Tryd.prog) w 22 22 ty 5 D S (l.length - i) dc m.length sc Tryd.underlying22 hsz h0, h0.symm, ?_, Kept.refl _ _⟩
    have e : over l i m = l := by
      unfold over
      have : m.take (l.length - i) = [] := by
        apply List.eq_nil_of_length_eq_zero
        rw [List.length_take]
        have h0' : min m.length (l.length - i) = 0 := h0
        omega
      rw [this]; simp
    rw [e]; exact h
  · have h0' : ¬ min m.length (l.length - i) = 0 := h0
    have hil : i < l.length := by omega
    obtain rfl := hD hil
    obtain ⟨b, off, rfl, hc⟩ := hS (fun e => by subst e; exact h0' (by simp))
    obtain ⟨cur, hb, hh, h1, h2, h3, h4⟩ := h.form
    have hcl : (cellsOf (m.take (l.length - i))).toList.length = Nat.min m.length (l.length - i) := by
      rw [cellsOf_len, List.length_take]; exact Nat.min_comm _ _
    have hcl' : (cellsOf (m.take (l.length - i))).toList.length = min m.length (l.length - i) := hcl
    have hr := run_copy_row (P := Tryd.prog) w 22 22 ty 5 g i (l.length - i) dc ⟨b, off, none⟩ m.length sc cur 5 (cellsOf (m.take (l.length - i))).toList Tryd.underlying22 hsz hh hcl
      (fun j v hv => by
        rw [Addr.add_mid]
        refine hc j v ?_
        rw [Array.getElem?_toList, cellsOf_get, List.getElem?_take] at hv
        rw [cellsOf_get]
        split at hv
        · exact hv
        · simp at hv) (by omega) (fun u hu => (Array.all_eq_true_iff_forall_mem.1 (one_cellsOf _)) u (by simpa using hu))
    refine ⟨_, _, hr, hcl, ?_, (Kept.refl (fun x => x = g) w).setRow (.inr rfl) _⟩
    have hlo : (over l i m).length = l.length := over_len hi
    unfold OwnB
    rw [hlo]
    refine ⟨by rw [cellsOf_len, hlo, Nat.mul_one], .inr ⟨g, cap, _, rfl, hb, setRow_heap w g cur _ 5 (0, 0) hh, h1, h2, ?_, ?_⟩⟩
    · simp [size_cellsOf]; omega
    · rw [Nat.mul_one]
      have := splice_take (cur := cur.toList) (Y := (cellsOf (m.take (l.length - i))).toList) (i := i) h4 (by simp; omega) (by omega)
      simp only [List.toList_toArray]
      rw [this]
      unfold over
      simp [cellsOf]
theorem wl_copyB {w : World} {ops : Array Oper} {rest : List Oper} {o : Oper} {a : Act} {Q : Exit → Act → World → Prop} (hgd : o.guard = none) (d s : Operand)
    (ho : o.op = .call { callee := .builtin .copy, args := #[d, s], argTypes := #[22, 22] }) {base g cap : Nat} {l : Bytes} (h : OwnB w base g cap l) (i : Nat) (hi : i ≤ l.length) (D S : Option Addr) (hD : i < l.length → D = some ⟨g, i, none⟩) (m : Bytes) (hS : RdB w S m) (dc sc : Nat)
    (hd : a.eval d = .slice D (l.length - i) dc) (hs : a.eval s = .slice S m.length sc)
    (k : ∀ n w', n = Nat.min m.length (l.length - i) → OwnB w' base g cap (over l i m) → Kept (fun x => x = g) w w' → wpList Tryd.prog ops Q rest (a.put o.dst (goInt n)) w') : wpList Tryd.prog ops Q (o :: rest) a w := by
  obtain ⟨n, w', hr, hn, h2, h3⟩ := run_copyB h i hi D S hD m hS dc sc o.type
  refine wpList_plain hgd fun K hK => ?_
  unfold Oper.wp
  simp [execOp, ho, resolve, invoke, builtin, hd, hs, hr, Result.andThen]
  exact hK _ _ (k n w' hn h2 h3)
theorem step_copyB {ops : Array Oper} {o : Oper} {a : Act} {w : World} {K : Act → World → Prop} {Q : Exit → Act → World → Prop} {E : Prop} (hgd : o.guard = none) (d s : Operand)
    (ho : o.op = .call { callee := .builtin .copy, args := #[d, s], argTypes := #[22, 22] }) {base g cap : Nat} {l : Bytes} (h : OwnB w base g cap l) (i : Nat) (hi : i ≤ l.length) (D S : Option Addr) (hD : i < l.length → D = some ⟨g, i, none⟩) (m : Bytes) (hS : RdB w S m) (dc sc : Nat)
    (hd : a.eval d = .slice D (l.length - i) dc) (hs : a.eval s = .slice S m.length sc)
    (k : ∀ n w', n = Nat.min m.length (l.length - i) → OwnB w' base g cap (over l i m) → Kept (fun x => x = g) w w' → K (a.put o.dst (goInt n)) w') : if Region.wanted o (yielded ops a.tmps) = true then Oper.wp Tryd.prog o a w K Q else E := by
  obtain ⟨n, w', hr, hn, h2, h3⟩ := run_copyB h i hi D S hD m hS dc sc o.type
  rw [if_pos (by simp [Region.wanted, hgd])]
  unfold Oper.wp
  simp [execOp, ho, resolve, invoke, builtin, hd, hs, hr, Result.andThen]
  exact k n w' hn h2 h3
end Go.Proofs.YtndflnedkpmpfaaDoor
