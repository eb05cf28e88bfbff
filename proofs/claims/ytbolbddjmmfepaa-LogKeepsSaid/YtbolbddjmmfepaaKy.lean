/-
  No statement is proved here: rows of records, law10's record and alike, LogKeeps' steps and what is in memory between two.
-/
import Derived.Test.YtbolbddjmmfepaaSr
import Derived.ArgAppend
import Derived.Test.YtbolbddjmmfepaaKz
namespace Go.Proofs.Ytbolbddjmmfepaa
open Go.RowKit

theorem setC_heap (g : Nat) : ∀ (vs : List Value) (o : Nat) (w : World) (cur : Array Value) (te : TypeId), w.heap[g]? = some (.cells cur te (0, 0)) → o + vs.length ≤ cur.size →
    ∃ cur', (w.setCells g o vs).heap[g]? = some (.cells cur' te (0, 0)) ∧ cur'.size = cur.size ∧ (∀ j, cur'[j]? = if o ≤ j ∧ j < o + vs.length then vs[j - o]? else cur[j]?) ∧ Kept (fun x => x = g) w (w.setCells g o vs)
  | [], o, w, cur, te, h, _ => ⟨cur, h, rfl, fun j => by rw [if_neg (by simp only [List.length_nil]; omega)], Kept.refl _ _⟩
  | v :: vs, o, w, cur, te, h, hs => by
    rw [List.length_cons] at hs
    obtain ⟨cur', h1, h2, h3, h4⟩ := setC_heap g vs (o + 1) (w.setCell ⟨g, o, none⟩ v) (cur.setIfInBounds o v) te (set_blk h o v) (by rw [Array.size_setIfInBounds]; omega)
    refine ⟨cur', h1, by rw [h2, Array.size_setIfInBounds], fun j => ?_, ((Kept.cell w g o v).mono (fun x _ h => h)).trans h4 (fun x _ h => h)⟩
    rw [h3 j, List.length_cons, Array.getElem?_setIfInBounds]
    by_cases hj : j = o
    · subst hj
      rw [if_neg (by omega), if_pos rfl, if_pos (by omega), if_pos (by omega), Nat.sub_self]
      rfl
    · by_cases h5 : o + 1 ≤ j ∧ j < o + 1 + vs.length
      · rw [if_pos h5, if_pos (by omega), show j - o = (j - (o + 1)) + 1 by omega]
        rfl
      · rw [if_neg h5, if_neg (fun e => hj e.symm), if_neg (by omega)]
theorem rowsC_app (a b : List RowR) : rowsC (a ++ b) = rowsC a ++ rowsC b := by simp [rowsC]
/-- Records in a row of the call's own, or none; it may begin in the midst of its block. -/
structure RecsM (w : World) (base : Nat) (v : Value) (l : List RowR) : Prop where
  row : (v = .slice none 0 0 ∧ l = []) ∨ ∃ g off c cur, v = .slice (some ⟨g, off, none⟩) l.length c ∧ base ≤ g ∧ w.heap[g]? = some (.cells cur 27 (0, 0)) ∧ l.length ≤ c ∧ off + c * 10 ≤ cur.size ∧ c ≤ 9223372036854775807 ∧
    ∀ (k : Nat) u, (rowsC l)[k]? = some u → cur[off + k]? = some u
  own : ∀ x ∈ l, OwnV w base (.slice x.A1 x.r.old.length x.c1) x.r.old ∧ OwnV w base (.slice x.A2 x.r.new.length x.c2) x.r.new
theorem RecsM.nil (w : World) (base : Nat) : RecsM w base (.slice none 0 0) [] := ⟨.inl ⟨rfl, rfl⟩, fun x h => by cases h⟩
theorem OwnV.keepT {S : Nat → Prop} {w w' : World} {base : Nat} {A : Option Addr} {n c : Nat} {b : Bytes} (h : OwnV w base (.slice A n c) b) (hk : Kept S w w') (hn : ∀ x, (Value.slice A n c).ownBlock = some x → ¬ S x) : OwnV w' base (.slice A n c) b := h.keep hk hn
theorem RecsM.keep {S : Nat → Prop} {w w' : World} {base : Nat} {v : Value} {l : List RowR} (h : RecsM w base v l) (hk : Kept S w w') (hn : ∀ x, v.ownBlock = some x → ¬ S x)
    (hb : ∀ y ∈ l, ∀ g, (Value.slice y.A1 y.r.old.length y.c1).ownBlock = some g ∨ (Value.slice y.A2 y.r.new.length y.c2).ownBlock = some g → ¬ S g) : RecsM w' base v l := by
  refine ⟨?_, fun x hx => ⟨(h.own x hx).1.keep hk (fun g hg => hb x hx g (.inl hg)), (h.own x hx).2.keep hk (fun g hg => hb x hx g (.inr hg))⟩⟩
  rcases h.row with h | ⟨g, off, c, cur, rfl, h2, h3, h4⟩
  · exact .inl h
  · exact .inr ⟨g, off, c, cur, rfl, h2, hk.heap h3 (hn g rfl), h4⟩
theorem RecsM.keep0 {w w' : World} {base : Nat} {v : Value} {l : List RowR} (h : RecsM w base v l) (hk : Kept (fun _ => False) w w') : RecsM w' base v l := h.keep hk (fun _ _ => id) (fun _ _ _ _ => id)
theorem RecsM.blk {w : World} {base : Nat} {v : Value} {l : List RowR} (h : RecsM w base v l) {x : Nat} (hx : v.ownBlock = some x) : base ≤ x ∧ ∃ cur, w.heap[x]? = some (.cells cur 27 (0, 0)) := by
  rcases h.row with ⟨rfl, _⟩ | ⟨g, off, c, cur, rfl, h2, h3, _⟩
  · cases hx
  · cases hx; exact ⟨h2, cur, h3⟩
theorem RecsM.slice {w : World} {base : Nat} {v : Value} {l : List RowR} (h : RecsM w base v l) : ∃ A c, v = .slice A l.length c ∧ l.length ≤ c ∧ c ≤ 9223372036854775807 ∧ ∀ k (hk : k < l.length), ∃ g off, A = some ⟨g, off, none⟩ ∧
    ∀ j u, (recC l[k].r l[k].A1 l[k].c1 l[k].A2 l[k].c2)[j]? = some u → w.cell? ⟨g, off + k * 10 + j, none⟩ = some u := by
  rcases h.row with ⟨rfl, rfl⟩ | ⟨g, off, c, cur, rfl, h2, h3, h4, h5, h6, h7⟩
  · exact ⟨none, 0, rfl, Nat.le_refl _, by decide, fun k hk => by simp at hk⟩
  · refine ⟨_, _, rfl, h4, h6, fun k hk => ⟨g, off, rfl, fun j u hu => ?_⟩⟩
    refine cell_blk h3 ?_
    rw [Nat.add_assoc]
    refine h7 _ u ?_
    have hj : j < 10 := by
      rcases Nat.lt_or_ge j 10 with h | h
      · exact h
      · rw [Array.getElem?_eq_none (by exact h)] at hu; cases hu
    have e : rowsC l = rowsC (l.take k) ++ (rowC l[k] ++ rowsC (l.drop (k + 1))) := by
      have e1 : l = l.take k ++ (l[k] :: l.drop (k + 1)) := by rw [← List.drop_eq_getElem_cons hk, List.take_append_drop]
      conv => lhs; rw [e1, rowsC_app]
      rfl
    have hl : (rowsC (l.take k)).length = k * 10 := by rw [rowsC_len, List.length_take, Nat.min_eq_left (Nat.le_of_lt hk)]
    rw [e, List.getElem?_append_right (by omega), hl, Nat.add_sub_cancel_left, List.getElem?_append_left (by rw [rowC_len]; exact hj)]
    unfold rowC
    rw [Array.getElem?_toList]
    exact hu
theorem RecsM.of {w : World} {base : Nat} {v : Value} {l : List RowR} (hr : w.ownsRow base 27 10 v l.length (rowsC l)) (ho : ∀ x ∈ l, OwnV w base (.slice x.A1 x.r.old.length x.c1) x.r.old ∧ OwnV w base (.slice x.A2 x.r.new.length x.c2) x.r.new) : RecsM w base v l := by
  refine ⟨?_, ho⟩
  rcases hr.2 with ⟨rfl, h2⟩ | ⟨g, cap, cur, rfl, h3, h4, h5, h6, h7, h8⟩
  · exact .inl ⟨rfl, List.length_eq_zero_iff.1 h2⟩
  · have e63 : maxLen = 9223372036854775807 := rfl
    refine .inr ⟨g, 0, cap, cur, rfl, h3, h4, h5, by omega, by omega, fun k u hk => ?_⟩
    have hl : k < l.length * 10 := by
      rcases Nat.lt_or_ge k (rowsC l).length with h | h
      · rw [rowsC_len] at h; exact h
      · rw [List.getElem?_eq_none h] at hk; cases hk
    rw [← h8, List.getElem?_take, if_pos hl] at hk
    rw [Nat.zero_add, ← hk]
    simp
theorem RecsM.recs {w : World} {base : Nat} {v : Value} {l : List RowR} (h : RecsV w base v l) : RecsM w base v l := RecsM.of h.row h.own
theorem RecsM.low {w : World} {base base' : Nat} {v : Value} {l : List RowR} (h : RecsM w base v l) (hb : base' ≤ base) : RecsM w base' v l := by
  refine ⟨?_, fun x hx => ⟨(h.own x hx).1.low hb, (h.own x hx).2.low hb⟩⟩
  rcases h.row with h | ⟨g, off, c, cur, h1, h2, h3⟩
  · exact .inl h
  · exact .inr ⟨g, off, c, cur, h1, by omega, h3⟩
theorem OwnV.u8 {w : World} {base : Nat} {A : Option Addr} {n c : Nat} {b : Bytes} (h : OwnV w base (.slice A n c) b) {g : Nat} (hg : (Value.slice A n c).ownBlock = some g) : ∃ cur, w.heap[g]? = some (.cells cur 5 (0, 0)) := by
  rcases h.form with ⟨h1, _⟩ | ⟨g', cap, h1, h2⟩
  · cases h1; cases hg
  · cases h1; cases hg
    obtain ⟨cur, h3, h4, _⟩ := h2.form
    exact ⟨cur, h4⟩
/-- Something appended. -/
theorem RecsM.append {w : World} {base : Nat} {v : Value} {l : List RowR} (h : RecsM w base v l) (x : RowR) (h1 : OwnV w base (.slice x.A1 x.r.old.length x.c1) x.r.old) (h2 : OwnV w base (.slice x.A2 x.r.new.length x.c2) x.r.new)
    (b c : Nat) (hb : w.heap[b]? = some (.cells (recC x.r x.A1 x.c1 x.A2 x.c2) 27 (0, 0))) (h63 : l.length ≤ 1000000000) (hbase : base ≤ w.heap.size) (ty : TypeId) :
    ∃ v' w', (Builtin.append_ #[55, 55] ty #[v, .slice (some ⟨b, 0, none⟩) 1 c]).run Try.prog w = .ok v' w' ∧ RecsM w' base v' (l ++ [x]) ∧ Kept (fun x => v.ownBlock = some x) w w' ∧ (v'.ownBlock = v.ownBlock ∨ ∀ x, v'.ownBlock = some x → w.heap.size ≤ x) := by
  have e63 : maxLen = 9223372036854775807 := rfl
  obtain ⟨i, hi, e2, e3, e4⟩ := info_parts infoRecB
  have one : ∀ u ∈ rowC x, u.oneCell' = true := fun u hu => (Array.all_eq_true_iff_forall_mem.1 (one_recC x.r x.A1 x.c1 x.A2 x.c2)) u (by unfold rowC at hu; simpa using hu)
  have hnews : ∀ (j : Nat) (u : Value), (rowC x)[j]? = some u → w.cell? ((⟨b, 0, none⟩ : Addr).add j) = some u := fun j u hu => by
    rw [Addr.add_mid]
    exact rowC_at hb j u hu
  have hlen : l.length + 1 = (l ++ [x]).length := by simp
  -- what is read is not touched
  have own : ∀ {w' : World}, Kept (fun x => v.ownBlock = some x) w w' → ∀ y ∈ l ++ [x], OwnV w' base (.slice y.A1 y.r.old.length y.c1) y.r.old ∧ OwnV w' base (.slice y.A2 y.r.new.length y.c2) y.r.new := fun {w'} hk y hy => by
    have nb : ∀ (A : Option Addr) (n c : Nat) (bb : Bytes), OwnV w base (.slice A n c) bb → OwnV w' base (.slice A n c) bb := fun A n c bb ho => ho.keep hk (fun g hg e => by
      obtain ⟨cur, hc⟩ := ho.u8 hg
      obtain ⟨_, cur', hc'⟩ := h.blk e
      rw [hc] at hc'
      cases hc')
    rcases List.mem_append.1 hy with hy | hy
    · exact ⟨nb _ _ _ _ (h.own y hy).1, nb _ _ _ _ (h.own y hy).2⟩
    · rw [List.mem_singleton] at hy
      subst hy
      exact ⟨nb _ _ _ _ h1, nb _ _ _ _ h2⟩
  rcases h.row with ⟨rfl, rfl⟩ | ⟨g, off, cp, cur, rfl, hg1, hg, hg3, hg4, hg5, hg6⟩
  · obtain ⟨g', cap', w', hr, ho', _, hat, _⟩ := run_append_split (P := Try.prog) (w := w) 55 ty base 27 Try.underlying55 infoRecB zRecSz (by decide) (.slice none 0 0) 0 [] ⟨rfl, .inl ⟨rfl, rfl⟩⟩ ⟨b, 0, none⟩ 1 c (rowC x) rfl hnews one (by omega) (by omega) (by omega) hbase
    have hk : Kept (fun _ => False) w w' := by
      rcases hat with ⟨e, hk⟩ | ⟨e, hk⟩
      · cases e
      · exact hk
    have hk' : Kept (fun x => (Value.slice none 0 0).ownBlock = some x) w w' := hk.mono (fun _ _ h => h.elim)
    refine ⟨_, w', hr, RecsM.of ho' (own hk'), hk', .inr (fun x hx => ?_)⟩
    rcases hat with ⟨e, _⟩ | ⟨e, _⟩
    · cases e
    · have : g' = x := Option.some.inj hx
      omega
  · by_cases hroom : l.length + 1 ≤ cp
    · have hfit : off + l.length * 10 + (rowC x).length ≤ cur.size := by rw [rowC_len]; omega
      have hr := run_append_room_cells (P := Try.prog) w 55 ty 27 i Try.underlying55 hi g off l.length cp ⟨b, 0, none⟩ 1 c (rowC x) (by rw [e3, rowC_len]) hnews one hroom
        (fun j hj => by
          rw [e3, cell_of_row w g _ cur 27 (0, 0) hg, Array.getElem?_eq_getElem (by omega)]
          rfl) (fun j _ => free_blk hg _)
      rw [e3] at hr
      obtain ⟨cur', s1, s2, s3, s4⟩ := setC_heap g (rowC x) (off + l.length * 10) w cur 27 hg hfit
      have hk' : Kept (fun x => (Value.slice (some ⟨g, off, none⟩) l.length cp).ownBlock = some x) w (w.setCells g (off + l.length * 10) (rowC x)) := s4.mono (fun y _ h => by subst h; rfl)
      refine ⟨_, _, hr, ⟨.inr ⟨g, off, cp, cur', by rw [hlen], hg1, s1, by rw [← hlen]; exact hroom, by rw [s2]; exact hg4, hg5, fun k u hk => ?_⟩, own hk'⟩, hk', .inl rfl⟩
      rw [rowsC_snoc] at hk
      rw [s3, rowC_len]
      by_cases hkl : k < l.length * 10
      · rw [if_neg (by omega)]
        rw [List.getElem?_append_left (by rw [rowsC_len]; exact hkl)] at hk
        exact hg6 k u hk
      · rw [List.getElem?_append_right (by rw [rowsC_len]; omega), rowsC_len] at hk
        have : k - l.length * 10 < 10 := by
          rcases Nat.lt_or_ge (k - l.length * 10) 10 with h | h
          · exact h
          · rw [List.getElem?_eq_none (by rw [rowC_len]; exact h)] at hk; cases hk
        rw [if_pos (by omega), show off + k - (off + l.length * 10) = k - l.length * 10 by omega]
        exact hk
    · obtain ⟨v', w', hr, ho, hgr⟩ := run_append_arg_grows (P := Try.prog) w 55 ty 27 i _ 10 112 Try.underlying55 hi e2 e3 e4 zRecSz (by omega) ⟨g, off, none⟩ l.length cp (rowsC l) (rowsC_len l)
        (fun j u hu => by
          rw [Addr.add_mid]
          exact cell_blk hg (hg6 j u hu)) ⟨b, 0, none⟩ 1 c (rowC x) rfl hnews (by omega) (by omega) (by omega)
      have hk : Kept (fun _ => False) w w' := (Kept.refl _ w).grown hgr (fun x h => by cases h)
      have hk' : Kept (fun x => (Value.slice (some ⟨g, off, none⟩) l.length cp).ownBlock = some x) w w' := hk.mono (fun _ _ h => h.elim)
      have hrow : w'.ownsRow w.heap.size 27 10 v' (l ++ [x]).length (rowsC (l ++ [x])) := by rw [← hlen, rowsC_snoc]; exact ho
      have hb' : ∀ x, v'.ownBlock = some x → w.heap.size ≤ x := fun x hx => by
        rcases hrow.2 with ⟨rfl, _⟩ | ⟨g', cap, cur', rfl, h3, _⟩
        · cases hx
        · cases hx; exact h3
      refine ⟨v', w', hr, ⟨?_, own hk'⟩, hk', .inr hb'⟩
      rcases hrow.2 with ⟨rfl, h2⟩ | ⟨g', cap, cur', rfl, h3, h4, h5, h6, h7, h8⟩
      · rw [← hlen] at h2; omega
      · refine .inr ⟨g', 0, cap, cur', rfl, by omega, h4, h5, by omega, by omega, fun k u hk => ?_⟩
        have hl : k < (l ++ [x]).length * 10 := by
          rcases Nat.lt_or_ge k (rowsC (l ++ [x])).length with h | h
          · rw [rowsC_len] at h; exact h
          · rw [List.getElem?_eq_none h] at hk; cases hk
        rw [← h8, List.getElem?_take, if_pos hl] at hk
        rw [Nat.zero_add, ← hk]
        simp
theorem wl_appendRM {w : World} {ops : Array Oper} {rest : List Oper} {o : Oper} {a : Act} {Q : Exit → Act → World → Prop} (hgd : o.guard = none) (s xo : Operand)
    (ho : o.op = .call { callee := .builtin .append, args := #[s, xo], argTypes := #[55, 55] }) (base : Nat) (v : Value) (l : List RowR) (hs : a.eval s = v) (h : RecsM w base v l) (x : RowR)
    (h1 : OwnV w base (.slice x.A1 x.r.old.length x.c1) x.r.old) (h2 : OwnV w base (.slice x.A2 x.r.new.length x.c2) x.r.new)
    (b c : Nat) (hx : a.eval xo = .slice (some ⟨b, 0, none⟩) 1 c) (hb : w.heap[b]? = some (.cells (recC x.r x.A1 x.c1 x.A2 x.c2) 27 (0, 0))) (h63 : l.length ≤ 1000000000) (hbase : base ≤ w.heap.size)
    (k : ∀ v' w', RecsM w' base v' (l ++ [x]) → Kept (fun x => v.ownBlock = some x) w w' → (v'.ownBlock = v.ownBlock ∨ ∀ x, v'.ownBlock = some x → w.heap.size ≤ x) → wpList Try.prog ops Q rest (a.put o.dst v') w') : wpList Try.prog ops Q (o :: rest) a w := by
  obtain ⟨v', w', hr, g1, g2, g3⟩ := h.append x h1 h2 b c hb h63 hbase o.type
  refine wpList_plain hgd fun K hK => ?_
  unfold Oper.wp
  simp [execOp, ho, resolve, invoke, builtin, hs, hx, hr, Result.andThen]
  exact hK _ _ (k v' w' g1 g2 g3)
/-- Shorter rows. -/
def slA10 (A : Option Addr) (k c : Nat) : Option Addr := if c = k then A else A.map (·.add (k * 10))
theorem sizeRR (w : World) : (sizeOf ((Try.prog).elem 55)).run Try.prog w = .ok 10 w := by
  have h : ((Try.prog).info? ((Try.prog).elem 55)).map (·.size) = some 10 := by kernel_rfl
  cases hq : (Try.prog).info? ((Try.prog).elem 55) with
  | none => simp [hq] at h
  | some i =>
    have h1 : i.size = 10 := by simpa [hq] using h
    simp [sizeOf, typeInfo, hq, h1]
theorem underRR : (Try.prog).underlying 55 = some (.slice ((Try.prog).elem 55)) := by kernel_rfl
theorem exec_slRL {ev : Operand → Value} {o : Oper} (x z : Operand) (k : Nat) (ho : o.op = .slice 55 x (some z) none none) (A : Option Addr) (n c : Nat) (hI : Int) (hx : ev x = .slice A n c) (hz : ev z = .int .i64 hI) (e : hI = (k : Int)) (hk : k ≤ n) (w : World) :
    (execOp ev o).run Try.prog w = .ok (.value (.slice (slA10 A k c) (n - k) (c - k))) w := by
  subst e
  have h : (Instr.slice 55 (.slice A n c) (some (.int .i64 k)) none none).run Try.prog w = .ok (.slice (slA10 A k c) (n - k) (c - k)) w := by
    rw [run_slice_l w 55 A n c underRR .i64 (k : Int) (by omega) (by omega), sizeRR]
    rfl
  simp only [execOp, ho, hx, hz, Option.map, Sem.run_bind, run_sliceAt_slice w 55 _ _ _ _ underRR, h, Result.andThen]
  rfl
theorem exec_slRH {ev : Operand → Value} {o : Oper} (x z : Operand) (k : Nat) (ho : o.op = .slice 55 x none (some z) none) (A : Option Addr) (n c : Nat) (hI : Int) (hx : ev x = .slice A n c) (hz : ev z = .int .i64 hI) (e : hI = (k : Int)) (hk : k ≤ c) (w : World) :
    (execOp ev o).run Try.prog w = .ok (.value (.slice (slA10 A 0 c) k c)) w := by
  subst e
  have h : (Instr.slice 55 (.slice A n c) none (some (.int .i64 k)) none).run Try.prog w = .ok (.slice (slA10 A 0 c) k c) w := by
    rw [run_slice_h w 55 A n c underRR .i64 (k : Int) (by omega) (by omega), sizeRR]
    rfl
  simp only [execOp, ho, hx, hz, Option.map, Sem.run_bind, run_sliceAt_slice w 55 _ _ _ _ underRR, h, Result.andThen]
  rfl
theorem slA10_block {A : Option Addr} {k c n m c' : Nat} : (Value.slice (slA10 A k c) n c').ownBlock = (Value.slice A m c).ownBlock := by
  unfold slA10
  split
  · cases A <;> rfl
  · cases A with
    | none => rfl
    | some a =>
      show some (a.add (k * 10)).block = some a.block
      unfold Addr.add
      split <;> rfl
theorem rowsC_drop (l : List RowR) (k : Nat) (h : k ≤ l.length) : (rowsC l).drop (k * 10) = rowsC (l.drop k) := by
  have e : rowsC l = rowsC (l.take k) ++ rowsC (l.drop k) := by rw [← rowsC_app, List.take_append_drop]
  have hl : (rowsC (l.take k)).length = k * 10 := by rw [rowsC_len, List.length_take, Nat.min_eq_left h]
  rw [e, ← hl, List.drop_left]
theorem rowsC_take (l : List RowR) (k : Nat) (h : k ≤ l.length) : (rowsC l).take (k * 10) = rowsC (l.take k) := by
  have e : rowsC l = rowsC (l.take k) ++ rowsC (l.drop k) := by rw [← rowsC_app, List.take_append_drop]
  have hl : (rowsC (l.take k)).length = k * 10 := by rw [rowsC_len, List.length_take, Nat.min_eq_left h]
  rw [e, ← hl, List.take_left]
theorem RecsM.drop {w : World} {base : Nat} {A : Option Addr} {n c : Nat} {l : List RowR} (h : RecsM w base (.slice A n c) l) (k : Nat) (hk : k ≤ n) : RecsM w base (.slice (slA10 A k c) (n - k) (c - k)) (l.drop k) := by
  refine ⟨?_, fun x hx => h.own x (List.mem_of_mem_drop hx)⟩
  rcases h.row with ⟨h1, rfl⟩ | ⟨g, off, c', cur, h1, h2, h3, h4, h5, h6, h7⟩
  · cases h1
    have : k = 0 := by omega
    subst this
    exact .inl ⟨rfl, rfl⟩
  · cases h1
    unfold slA10
    by_cases hck : c = k
    · rw [if_pos hck]
      refine .inr ⟨g, off, c - k, cur, by rw [List.length_drop], h2, h3, by rw [List.length_drop]; omega, by omega, by omega, fun j u hu => ?_⟩
      rw [List.drop_eq_nil_of_le (by omega)] at hu
      cases hu
    · rw [if_neg hck]
      refine .inr ⟨g, off + k * 10, c - k, cur, ?_, h2, h3, by rw [List.length_drop]; omega, by omega, by omega, fun j u hu => ?_⟩
      · rw [List.length_drop]
        show Value.slice (some ((⟨g, off, none⟩ : Addr).add (k * 10))) _ _ = _
        rw [Addr.add_mid]
      · rw [← rowsC_drop l k hk, List.getElem?_drop] at hu
        rw [Nat.add_assoc]
        exact h7 _ u hu
theorem RecsM.take {w : World} {base : Nat} {A : Option Addr} {n c : Nat} {l : List RowR} (h : RecsM w base (.slice A n c) l) (k : Nat) (hk : k ≤ n) : RecsM w base (.slice (slA10 A 0 c) k c) (l.take k) := by
  refine ⟨?_, fun x hx => h.own x (List.mem_of_mem_take hx)⟩
  rcases h.row with ⟨h1, rfl⟩ | ⟨g, off, c', cur, h1, h2, h3, h4, h5, h6, h7⟩
  · cases h1
    have : k = 0 := by omega
    subst this
    exact .inl ⟨rfl, rfl⟩
  · cases h1
    have hA : slA10 (some ⟨g, off, none⟩) 0 c = some ⟨g, off, none⟩ := by
      unfold slA10
      split
      · rfl
      · show some ((⟨g, off, none⟩ : Addr).add (0 * 10)) = _
        rw [Addr.add_mid]
        rfl
    have hlt : (l.take k).length = k := by rw [List.length_take]; omega
    rw [hA]
    refine .inr ⟨g, off, c, cur, by rw [hlt], h2, h3, by omega, h5, h6, fun j u hu => ?_⟩
    rw [← rowsC_take l k hk] at hu
    refine h7 j u ?_
    rw [List.getElem?_take] at hu
    split at hu
    · exact hu
    · cases hu
end Go.Proofs.Ytbolbddjmmfepaa
namespace Go.Proofs.Ytbolbddjmmfepaa
open Go.RowKit

def bytN (n : Nat) : Bytes := (List.range (1 + n % 200)).map fun i => UInt8.ofNat (n + i)
theorem bytN_len (n : Nat) : (bytN n).length = 1 + n % 200 := by simp [bytN]
theorem bytN_get (n i : Nat) (h : i < 1 + n % 200) : (bytN n)[i]? = some (UInt8.ofNat (n + i)) := by
  unfold bytN
  rw [List.getElem?_map, List.getElem?_range h]
  rfl
def recN (n : Nat) : RecM := if n % 3 = 0 then ⟨0, 0, 3, n, 0, 0, 0, 0, [], []⟩ else if n % 3 = 1 then ⟨0, 0, 1, n, 0, 0, (n % 50 : Nat), (n % 300 : Nat), bytN n, bytN n⟩ else ⟨0, 0, 2, n, 0, n, (n % 50 : Nat), (n % 300 : Nat), [], bytN n⟩
def stripR (r : RecM) : RecM := { r with lsn := 0, turn := 0 }
theorem recN_strip (n : Nat) (a t : Int) : stripR { recN n with lsn := a, turn := t } = recN n := by
  unfold stripR recN
  split
  · rfl
  · split <;> rfl
theorem recN_right (n : Nat) (hn : n < 4000) (a t : Int) (ha : 1 ≤ a) (ha2 : a ≤ topM) (ht : 1 ≤ t) (ht2 : t < 2147483648) : rightM { recN n with lsn := a, turn := t } := by
  have hl := bytN_len n
  have ein : inM n := by unfold inM topM; omega
  have e0 : inM 0 := by unfold inM topM; omega
  unfold recN
  split
  · exact ⟨ha, ha2, ht, ht2, ein, e0, e0, .inr (.inr ⟨.inl rfl, rfl, rfl, rfl, rfl, rfl⟩)⟩
  · split
    · refine ⟨ha, ha2, ht, ht2, ein, e0, e0, .inl ⟨rfl, rfl, ?_, rfl⟩⟩
      unfold fitsM
      simp only
      omega
    · refine ⟨ha, ha2, ht, ht2, ein, e0, ein, .inr (.inl ⟨rfl, ?_, rfl⟩)⟩
      unfold fitsM
      simp only
      omega
theorem recN_small (n : Nat) : (recN n).old.length ≤ 200 ∧ (recN n).new.length ≤ 200 := by
  have hl := bytN_len n
  unfold recN
  split
  · exact ⟨Nat.zero_le _, Nat.zero_le _⟩
  · split
    · exact ⟨by show (bytN n).length ≤ 200; omega, by show (bytN n).length ≤ 200; omega⟩
    · exact ⟨Nat.zero_le _, by show (bytN n).length ≤ 200; omega⟩
theorem recN_ok (n : Nat) (hn : n < 4000) : RecOk (recN n) := by
  have e : ∀ x : Int, 0 ≤ x → x < 4000 → isI x := fun x h1 h2 => by unfold isI; omega
  unfold recN
  split
  · exact ⟨zero_isI, zero_isI, e _ (by show (0 : Int) ≤ (n : Int); omega) (by show (n : Int) < 4000; omega), zero_isI, zero_isI, zero_isI, zero_isI⟩
  · split
    · exact ⟨zero_isI, zero_isI, e _ (by show (0 : Int) ≤ (n : Int); omega) (by show (n : Int) < 4000; omega), zero_isI, zero_isI, e _ (by simp only; omega) (by simp only; omega), e _ (by simp only; omega) (by simp only; omega)⟩
    · exact ⟨zero_isI, zero_isI, e _ (by show (0 : Int) ≤ (n : Int); omega) (by show (n : Int) < 4000; omega), zero_isI, e _ (by show (0 : Int) ≤ (n : Int); omega) (by show (n : Int) < 4000; omega), e _ (by simp only; omega) (by simp only; omega), e _ (by simp only; omega) (by simp only; omega)⟩
theorem conv_u8N (n k : Nat) : ((n : Int) + (k : Int)) % 256 = ((UInt8.ofNat (n + k)).toNat : Int) := by
  rw [UInt8.toNat_ofNat']
  omega
theorem bRN3 (n : Int) (wz : World) : (Instr.build 27 #[(2, .int .u8 3), (3, .int .i64 n)]).run Try.prog wz = .ok (.agg (recC ⟨0, 0, 3, n, 0, 0, 0, 0, [], []⟩ none 0 none 0)) wz := run_build wz _ _ _ (by kernel_rfl)
def spN (a b : Int) (A : Option Addr) (l c : Nat) (B : Option Addr) (m d : Nat) : Array Value := #[.int .i64 a, .int .i64 b, .slice A l c, .slice B m d]
theorem bSpN1 (a b : Int) (A B : Option Addr) (n c m d : Nat) (wz : World) : (Instr.build 25 #[(0, .int .i64 a), (1, .int .i64 b), (2, .slice A n c), (3, .slice B m d)]).run Try.prog wz = .ok (.agg (spN a b A n c B m d)) wz := run_build wz _ _ _ (by kernel_rfl)
theorem bSpN2 (a b : Int) (B : Option Addr) (m d : Nat) (wz : World) : (Instr.build 25 #[(0, .int .i64 a), (1, .int .i64 b), (3, .slice B m d)]).run Try.prog wz = .ok (.agg (spN a b none 0 0 B m d)) wz := run_build wz _ _ _ (by kernel_rfl)
def rcN (k n x a b : Int) (A : Option Addr) (l c : Nat) (B : Option Addr) (m d : Nat) : Array Value := #[.int .i64 0, .int .i64 0, .int .u8 k, .int .i64 n, .int .i64 0, .int .i64 x, .int .i64 a, .int .i64 b, .slice A l c, .slice B m d]
theorem bRN1 (n a b : Int) (A B : Option Addr) (l c m d : Nat) (wz : World) : (Instr.build 27 #[(2, .int .u8 1), (3, .int .i64 n), (6, .agg (spN a b A l c B m d))]).run Try.prog wz = .ok (.agg (rcN 1 n 0 a b A l c B m d)) wz := run_build wz _ _ _ (by kernel_rfl)
theorem bRN2 (n a b : Int) (A B : Option Addr) (l c m d : Nat) (wz : World) : (Instr.build 27 #[(2, .int .u8 2), (3, .int .i64 n), (5, .int .i64 n), (6, .agg (spN a b A l c B m d))]).run Try.prog wz = .ok (.agg (rcN 2 n n a b A l c B m d)) wz := run_build wz _ _ _ (by kernel_rfl)
/-- What record answers. -/
def RnPost (n : Nat) (w : World) (e : Ending) (w' : World) : Prop := Kept (fun _ => False) w w' ∧ ∃ A1 c1 A2 c2, e = .returned (.agg (recC (recN n) A1 c1 A2 c2)) ∧
  OwnV w' w.heap.size (.slice A1 (recN n).old.length c1) (recN n).old ∧ OwnV w' w.heap.size (.slice A2 (recN n).new.length c2) (recN n).new
set_option maxRecDepth 100000 in
set_option maxHeartbeats 1600000 in
theorem record_any (n : Nat) (hn : n < 4000) (w : World) : Calls Try.prog 33 #[.int .i64 n] w (RnPost n w) := by
  have B3 := bRN3
  have B1 := bRN1
  have B2 := bRN2
  have S1 := bSpN1
  have S2 := bSpN2
  have n0 : (0 : Int) ≤ (n : Int) := by omega
  have n1 : (n : Int) < 4000 := by omega
  go_enter Try.func33, Try.ntmps33
  go_wp2_with (refine wl_alloc' rfl 27 rfl zRecC zeroRec ?_)
  intro y w1 y1 y2 hb1 hk1
  have HY1 := Lib.hid hb1
  have HK1 := Lib.hid hk1
  clear hb1 hk1
  by_cases h3 : n % 3 = 0
  · have e3 : (n : Int) % 3 = 0 := by omega
    have HR := Lib.hid (show recN n = ⟨0, 0, 3, n, 0, 0, 0, 0, [], []⟩ from if_pos h3)
    clear h3
    go_wp2_with (refine wl_store_row rfl 27 _ _ rfl y (recC ⟨0, 0, 3, n, 0, 0, 0, 0, [], []⟩ none 0 none 0) _ rfl rfl HY1.out sizeRec rfl (one_recC _ _ _ _ _) ?_)
    intro w2 hb2 hk2
    go_wp2
    refine bodyPost_ret (results_cell_row rfl _ w2 y 27 _ (0, 0) _ rfl hb2 Try.underlying27 rfl sizeRec) rfl ?_
    refine ⟨HK1.out.new hk2 (by rintro x rfl; exact y1), none, 0, none, 0, by rw [HR.out], ?_, ?_⟩
    · rw [HR.out]; exact OwnV.nil _ _
    · rw [HR.out]; exact OwnV.nil _ _
  · have e3 : ¬ (n : Int) % 3 = 0 := by omega
    have LEN := Lib.hid (bytN_len n)
    obtain ⟨m, hm⟩ : ∃ m, m = 1 + n % 200 := ⟨_, rfl⟩
    have hm2 : (1 : Int) + (n : Int) % 200 = (m : Int) := by omega
    have hm3 : m ≤ 200 := by omega
    have HM := Lib.hid hm
    rw [← hm] at LEN
    clear hm
    go_wp2_with (refine wl_makeB rfl _ _ rfl .i64 .i64 m m (by simp only [go_sem]; rw [← hm2]; rfl) (by simp only [go_sem]; rw [← hm2]; rfl) (Nat.le_refl _) (by omega) ?_)
    intro g w2 g1 g2 hb2 hk2
    have HY2 := Lib.hid (hk2.heap HY1.out id)
    have HK2 := Lib.hid (HK1.out.trans0 hk2)
    have gy : y ≠ g := fun e => by omega
    clear hk2
    go_wp2
    go_loopw [4] (fun i wr => ∃ (k : Nat) (l : Bytes), k ≤ m ∧ i = .int .i64 k ∧ l.length = m ∧ (∀ j, j < k → l[j]? = (bytN n)[j]?) ∧ wr.heap[g]? = some (.cells (cellsOf l) 5 (0, 0)) ∧ Kept (fun x => x = g) w2 wr) (fun i wr => m - (intOf i).toNat)
    case atStart => exact ⟨0, zeros m, by omega, rfl, lenL_zeros _, by omega, hb2, Kept.refl _ _⟩
    case round =>
      obtain ⟨k, l, hk, rfl, hl, hj, hbr, hkr⟩ := hrel
      have HJ := Lib.hid hj
      have HL := Lib.hid hl
      have HB := Lib.hid hbr
      have HK := Lib.hid hkr
      clear hj hkr
      by_cases hlt : k < m
      · have i0 : (0 : Int) ≤ (k : Int) := by omega
        have i1 : (k : Int) < (m : Int) := by omega
        have c1 := cell_bytes hbr (i := k) (by omega)
        have f1 := free_blk hbr k
        clear hl hbr
        go_wp2
        go_roundw
        case rel =>
          refine ⟨k + 1, l.set k (UInt8.ofNat (n + k)), by omega, by go_num, by simp [HL.out], ?_, ?_, HK.out.trans' (Kept.cell wr g k _)⟩
          · intro j hj
            rw [List.getElem?_set]
            split
            · rename_i e; subst e; rw [if_pos (by rw [HL.out]; omega), bytN_get n _ (by rw [← HM.out]; omega)]
            · exact HJ.out j (by omega)
          · rw [conv_u8N n k]; exact set_bytes HB.out k _
        case measure => simp [intOf]; omega
      · have hge : ¬ ((k : Int) < (m : Int)) := by omega
        clear hl hbr
        have e : l = bytN n := by
          apply List.ext_getElem?
          intro j
          by_cases h : j < m
          · exact HJ.out j (by omega)
          · rw [List.getElem?_eq_none (by rw [HL.out]; omega), List.getElem?_eq_none (by rw [LEN.out]; omega)]
        have HOW := Lib.hid (show OwnV wr w.heap.size (.slice (some ⟨g, 0, none⟩) (bytN n).length m) (bytN n) from by
          rw [← e]
          have e63 : maxLen = 9223372036854775807 := rfl
          have hl2 := HL.out
          have hs1 := HK1.out.size
          refine ⟨by rw [cellsOf_len, Nat.mul_one], .inr ⟨g, m, _, rfl, by omega, HB.out, by omega, by omega, by rw [size_cellsOf]; omega, ?_⟩⟩
          rw [Nat.mul_one, ← cellsOf_len l]
          exact List.take_length)
        have HYr := Lib.hid (HK.out.heap HY2.out gy)
        have HKr := Lib.hid (HK2.out.new HK.out (by rintro x rfl; have := HK1.out.size; omega))
        clear e HJ HB HK
        by_cases h1 : n % 3 = 1
        · have e1 : (n : Int) % 3 = 1 := by omega
          have HR := Lib.hid (show recN n = ⟨0, 0, 1, n, 0, 0, (n % 50 : Nat), (n % 300 : Nat), bytN n, bytN n⟩ from by unfold recN; rw [if_neg h3, if_pos h1])
          clear h1 h3
          go_wp2_with (refine wl_store_row rfl 27 _ _ rfl y (rcN 1 n 0 ((n : Int) % 50) ((n : Int) % 300) (some ⟨g, 0, none⟩) m m (some ⟨g, 0, none⟩) m m) _ rfl rfl HYr.out sizeRec rfl (by simp [rcN, Value.oneCell']) ?_)
          intro w4 hb4 hk4
          go_wp2
          refine bodyPost_ret (results_cell_row rfl _ w4 y 27 _ (0, 0) _ rfl hb4 Try.underlying27 rfl sizeRec) rfl ?_
          have HO4 := HOW.out.keep hk4 (fun x hx e => by cases hx; exact gy e.symm)
          refine ⟨HKr.out.new hk4 (by rintro x rfl; exact y1), some ⟨g, 0, none⟩, m, some ⟨g, 0, none⟩, m, ?_, ?_, ?_⟩
          · rw [HR.out]
            unfold rcN recC
            simp only [LEN.out]
            rfl
          · rw [HR.out]; exact HO4
          · rw [HR.out]; exact HO4
        · have e1 : ¬ (n : Int) % 3 = 1 := by omega
          have HR := Lib.hid (show recN n = ⟨0, 0, 2, n, 0, n, (n % 50 : Nat), (n % 300 : Nat), [], bytN n⟩ from by unfold recN; rw [if_neg h3, if_neg h1])
          clear h1 h3
          go_wp2_with (refine wl_store_row rfl 27 _ _ rfl y (rcN 2 n n ((n : Int) % 50) ((n : Int) % 300) none 0 0 (some ⟨g, 0, none⟩) m m) _ rfl rfl HYr.out sizeRec rfl (by simp [rcN, Value.oneCell']) ?_)
          intro w4 hb4 hk4
          go_wp2
          refine bodyPost_ret (results_cell_row rfl _ w4 y 27 _ (0, 0) _ rfl hb4 Try.underlying27 rfl sizeRec) rfl ?_
          have HO4 := HOW.out.keep hk4 (fun x hx e => by cases hx; exact gy e.symm)
          refine ⟨HKr.out.new hk4 (by rintro x rfl; exact y1), none, 0, some ⟨g, 0, none⟩, m, ?_, ?_, ?_⟩
          · rw [HR.out]
            unfold rcN recC
            simp only [LEN.out]
            rfl
          · rw [HR.out]; exact OwnV.nil _ _
          · rw [HR.out]; exact HO4
theorem sizeLong : (Try.prog.info? 2).map (·.size) = some 1 := by kernel_rfl
theorem recC_set0 (r : RecM) (A1 : Option Addr) (c1 : Nat) (A2 : Option Addr) (c2 : Nat) : (recC r A1 c1 A2 c2).setIfInBounds 0 (.int .i64 0) = recC { r with lsn := 0 } A1 c1 A2 c2 := rfl
theorem recC_set1 (r : RecM) (A1 : Option Addr) (c1 : Nat) (A2 : Option Addr) (c2 : Nat) : (recC r A1 c1 A2 c2).setIfInBounds 1 (.int .i64 0) = recC { r with turn := 0 } A1 c1 A2 c2 := rfl
set_option maxRecDepth 100000 in
set_option maxHeartbeats 800000 in
theorem alike_any (a b : RecM) (A1 A2 B1 B2 : Option Addr) (c1 c2 d1 d2 : Nat) (w : World) (hab : stripR a = stripR b) (h1 : RdB w A1 a.old) (h2 : RdB w B1 b.old) (h3 : RdB w A2 a.new) (h4 : RdB w B2 b.new) (e1 : a.old.length ≤ 1000000) (e2 : a.new.length ≤ 1000000) :
    Calls Try.prog 36 #[.agg (recC a A1 c1 A2 c2), .agg (recC b B1 d1 B2 d2)] w fun e w' => e = .returned (.bool true) ∧ Kept (fun _ => False) w w' := by
  have eo : b.old = a.old := (congrArg RecM.old hab).symm
  have en : b.new = a.new := (congrArg RecM.new hab).symm
  rw [eo] at h2
  rw [en] at h4
  have HS := Lib.hid (fun (wz : World) (hz : Kept (fun _ => False) w wz) => srec_any (stripR a) A1 A2 B1 B2 c1 c2 d1 d2 wz (h1.kept hz (fun _ _ _ _ => id)) (h2.kept hz (fun _ _ _ _ => id)) (h3.kept hz (fun _ _ _ _ => id)) (h4.kept hz (fun _ _ _ _ => id)) e1 e2)
  have HA := Lib.hid (show recC { { a with lsn := 0 } with turn := 0 } A1 c1 A2 c2 = recC (stripR a) A1 c1 A2 c2 from rfl)
  have HB := Lib.hid (show recC { { b with lsn := 0 } with turn := 0 } B1 d1 B2 d2 = recC (stripR a) B1 d1 B2 d2 from by rw [hab]; rfl)
  obtain ⟨R, hR⟩ : ∃ R, R = stripR a := ⟨_, rfl⟩
  rw [← hR] at HS HA HB
  clear h1 h2 h3 h4 hab eo en hR
  go_enter Try.func36, Try.ntmps36
  go_wp2_with (refine wl_box rfl 27 _ rfl (.agg (recC a A1 c1 A2 c2)) rfl ?_)
  intro px w1 npx mpx hpx kpx
  have HX1 := Lib.hid (show w1.heap[px]? = some (.cells (recC a A1 c1 A2 c2) 27 (0, 0)) from hpx)
  have K1 := Lib.hid kpx
  clear hpx kpx
  go_wp2_with (refine wl_box rfl 27 _ rfl (.agg (recC b B1 d1 B2 d2)) rfl ?_)
  intro py w2 npy mpy hpy kpy
  have HY2 := Lib.hid (show w2.heap[py]? = some (.cells (recC b B1 d1 B2 d2) 27 (0, 0)) from hpy)
  have HX2 := Lib.hid (kpy.heap HX1.out id)
  have K2 := Lib.hid (K1.out.trans0 kpy)
  have hxy : px ≠ py := fun e => by omega
  have npy' : w.heap.size ≤ py := by have := K1.out.size; omega
  clear hpy kpy
  go_wp2_with (refine wl_store1 rfl 2 _ _ rfl px 0 (.int .i64 0) _ rfl rfl HX2.out sizeLong (show _ < 10 by decide) rfl ?_)
  intro w3 hb3 hk3
  rw [recC_set0] at hb3
  have HX3 := Lib.hid hb3
  have HY3 := Lib.hid (hk3.heap HY2.out (fun e => hxy e.symm))
  have K3 := Lib.hid (K2.out.new hk3 (by rintro x rfl; exact npx))
  clear hb3 hk3
  go_wp2_with (refine wl_store1 rfl 2 _ _ rfl px 1 (.int .i64 0) _ rfl rfl HX3.out sizeLong (show _ < 10 by decide) rfl ?_)
  intro w4 hb4 hk4
  rw [recC_set1] at hb4
  have HX4 := Lib.hid hb4
  have HY4 := Lib.hid (hk4.heap HY3.out (fun e => hxy e.symm))
  have K4 := Lib.hid (K3.out.new hk4 (by rintro x rfl; exact npx))
  clear hb4 hk4
  go_wp2_with (refine wl_store1 rfl 2 _ _ rfl py 0 (.int .i64 0) _ rfl rfl HY4.out sizeLong (show _ < 10 by decide) rfl ?_)
  intro w5 hb5 hk5
  rw [recC_set0] at hb5
  have HY5 := Lib.hid hb5
  have HX5 := Lib.hid (hk5.heap HX4.out hxy)
  have K5 := Lib.hid (K4.out.new hk5 (by rintro x rfl; exact npy'))
  clear hb5 hk5
  go_wp2_with (refine wl_store1 rfl 2 _ _ rfl py 1 (.int .i64 0) _ rfl rfl HY5.out sizeLong (show _ < 10 by decide) rfl ?_)
  intro w6 hb6 hk6
  rw [recC_set1, HB.out] at hb6
  have HY6 := Lib.hid hb6
  have HX6 := Lib.hid (show w6.heap[px]? = some (.cells (recC R A1 c1 A2 c2) 27 (0, 0)) from by rw [← HA.out]; exact hk6.heap HX5.out hxy)
  have K6 := Lib.hid (K5.out.new hk6 (by rintro x rfl; exact npy'))
  clear hb6 hk6
  go_wp2_with (first
    | (refine wl_load_row rfl 27 _ rfl px rfl (recC R A1 c1 A2 c2) HX6.out Try.underlying27 rfl sizeRec ?_)
    | (refine wl_load_row rfl 27 _ rfl py rfl (recC R B1 d1 B2 d2) HY6.out Try.underlying27 rfl sizeRec ?_))
  refine (HS.out _ K6.out).mono ?_
  rintro e w7 ⟨rfl, hk7⟩
  have K7 := Lib.hid (K6.out.trans0 hk7)
  clear hk7
  go_wp2
  go_ret
  exact ⟨rfl, K7.out⟩
end Go.Proofs.Ytbolbddjmmfepaa
namespace Go.Proofs.Ytbolbddjmmfepaa
open Go.RowKit

theorem write_calm {D : DevM} (b : Int) (pg : Bytes) (ha : D.armed = 0) (hd : D.down = false) : (D.write b pg).1 ≠ 8 ∧ (D.write b pg).2.armed = 0 ∧ (D.write b pg).2.down = false := by
  have hc : (D.put b pg).crash = D.put b pg := by unfold DevM.crash DevM.put; rw [if_neg (by simp only; omega)]
  unfold DevM.write
  by_cases hm : D.mayE b ≠ 0
  · rw [if_pos hm]
    refine ⟨?_, ha, hd⟩
    show D.mayE b ≠ 8
    unfold DevM.mayE
    rw [hd]
    simp only [Bool.false_eq_true, if_false]
    split <;> decide
  · rw [if_neg hm]
    by_cases hl : pg.length ≠ 512
    · rw [if_pos hl]; exact ⟨(by decide : (2 : Int) ≠ 8), ha, hd⟩
    · rw [if_neg hl, hc]
      refine ⟨?_, ha, hd⟩
      show errDown D.down ≠ 8
      rw [hd]; decide
theorem sync_calm {D : DevM} (ha : D.armed = 0) (hd : D.down = false) : D.syncR.1 ≠ 8 ∧ D.syncR.2.armed = 0 ∧ D.syncR.2.down = false := by
  have hc : D.crash = D := by unfold DevM.crash; rw [if_neg (by omega)]
  unfold DevM.syncR
  by_cases hm : D.mayE 0 ≠ 0
  · rw [if_pos hm]
    refine ⟨?_, ha, hd⟩
    show D.mayE 0 ≠ 8
    unfold DevM.mayE
    rw [hd]
    simp only [Bool.false_eq_true, if_false]
    split <;> decide
  · rw [if_neg hm, hc, hd]
    exact ⟨(by decide : (0 : Int) ≠ 8), ha, hd⟩
theorem pour_calm (F C T : Int) : ∀ (f : Nat) (D : DevM) (rest : Bytes) (fst : Int), D.armed = 0 → D.down = false → (pourM F C T f D rest fst).2 ≠ 8 ∧ (pourM F C T f D rest fst).1.armed = 0 ∧ (pourM F C T f D rest fst).1.down = false := by
  intro f
  induction f with
  | zero => intro D rest fst ha hd; exact ⟨(by decide : (0 : Int) ≠ 8), ha, hd⟩
  | succ f ih =>
    intro D rest fst ha hd
    by_cases hr : rest = []
    · rw [hr, pour_nil]; exact ⟨(by decide : (0 : Int) ≠ 8), ha, hd⟩
    · rw [pour_go hr]
      by_cases hm : D.mayE (secB F C fst) ≠ 0
      · rw [if_pos hm]
        refine ⟨?_, ha, hd⟩
        show D.mayE (secB F C fst) ≠ 8
        unfold DevM.mayE
        rw [hd]
        simp only [Bool.false_eq_true, if_false]
        split <;> decide
      · rw [if_neg hm]
        obtain ⟨Y, hY⟩ : ∃ Y, Y = fillM T 8 ((D.latest (secB F C fst)).take (secO C fst).toNat ++ zeros (512 - (secO C fst).toNat)) (secO C fst).toNat rest fst := ⟨_, rfl⟩
        rw [← hY]
        obtain ⟨w1, w2, w3⟩ := write_calm (secB F C fst) Y.1 ha hd
        by_cases hw : (D.write (secB F C fst) Y.1).1 ≠ 0
        · rw [if_pos hw]; exact ⟨w1, w2, w3⟩
        · rw [if_neg hw]; exact ih _ _ _ w2 w3
theorem force_calm {L : LogM} {D : DevM} (ha : D.armed = 0) (hd : D.down = false) : (L.force D).2.2 ≠ 8 ∧ (L.force D).2.1.armed = 0 := by
  by_cases hs : L.safe = L.fin
  · rw [force_same hs]; exact ⟨(by decide : (0 : Int) ≠ 8), ha⟩
  · obtain ⟨X, hX⟩ : ∃ X, X = pourM L.first L.count L.turn (L.tail.length + 1) D L.tail L.beg := ⟨_, rfl⟩
    have hv : L.force D = if X.2 ≠ 0 then (L, X.1, X.2) else L.forceEnd X.1 := by unfold LogM.force; rw [if_neg hs, ← hX]; rfl
    obtain ⟨x1, x2, x3⟩ := pour_calm L.first L.count L.turn (L.tail.length + 1) D L.tail L.beg ha hd
    rw [← hX] at x1 x2 x3
    rw [hv]
    by_cases hx : X.2 ≠ 0
    · rw [if_pos hx]; exact ⟨x1, x2⟩
    · rw [if_neg hx]
      obtain ⟨y, hy⟩ : ∃ y, y = if secO L.count L.fin = 0 ∧ secF L.fin = L.fin then X.1.write (secB L.first L.count L.fin) (zeros 512) else (0, X.1) := ⟨_, rfl⟩
      have hv2 : L.forceEnd X.1 = if y.1 ≠ 0 then (L, y.2, y.1) else if y.2.syncR.1 ≠ 0 then (L, y.2.syncR.2, y.2.syncR.1) else (forcedL L, y.2.syncR.2, 0) := by rw [hy]; rfl
      have hyc : y.1 ≠ 8 ∧ y.2.armed = 0 ∧ y.2.down = false := by
        rw [hy]
        split
        · exact write_calm _ _ x2 x3
        · exact ⟨(by decide : (0 : Int) ≠ 8), x2, x3⟩
      obtain ⟨y1, y2, y3⟩ := hyc
      obtain ⟨z1, z2, z3⟩ := sync_calm y2 y3
      rw [hv2]
      by_cases h1 : y.1 ≠ 0
      · rw [if_pos h1]; exact ⟨y1, y2⟩
      · rw [if_neg h1]
        by_cases h2 : y.2.syncR.1 ≠ 0
        · rw [if_pos h2]; exact ⟨z1, z2⟩
        · rw [if_neg h2]; exact ⟨(by decide : (0 : Int) ≠ 8), z2⟩
theorem write_n (D : DevM) (b : Int) (pg : Bytes) : (D.write b pg).2.n = D.n := by
  unfold DevM.write
  split
  · rfl
  · split
    · rfl
    · exact (crash_same (D.put b pg)).1
theorem sync_n (D : DevM) : D.syncR.2.n = D.n := by
  unfold DevM.syncR
  split
  · rfl
  · split
    · exact (crash_same D).1
    · exact (crash_same D).1
theorem pour_n (F C T : Int) : ∀ (f : Nat) (D : DevM) (rest : Bytes) (fst : Int), (pourM F C T f D rest fst).1.n = D.n := by
  intro f
  induction f with
  | zero => intro D rest fst; rfl
  | succ f ih =>
    intro D rest fst
    by_cases hr : rest = []
    · rw [hr, pour_nil]
    · rw [pour_go hr]
      split
      · rfl
      · split
        · exact write_n _ _ _
        · rw [ih]; exact write_n _ _ _
theorem force_n (L : LogM) (D : DevM) : (L.force D).2.1.n = D.n := by
  by_cases hs : L.safe = L.fin
  · rw [force_same hs]
  · obtain ⟨X, hX⟩ : ∃ X, X = pourM L.first L.count L.turn (L.tail.length + 1) D L.tail L.beg := ⟨_, rfl⟩
    have hv : L.force D = if X.2 ≠ 0 then (L, X.1, X.2) else L.forceEnd X.1 := by unfold LogM.force; rw [if_neg hs, ← hX]; rfl
    have hx : X.1.n = D.n := by rw [hX]; exact pour_n _ _ _ _ _ _ _
    rw [hv]
    split
    · exact hx
    · obtain ⟨y, hy⟩ : ∃ y, y = if secO L.count L.fin = 0 ∧ secF L.fin = L.fin then X.1.write (secB L.first L.count L.fin) (zeros 512) else (0, X.1) := ⟨_, rfl⟩
      have hv2 : L.forceEnd X.1 = if y.1 ≠ 0 then (L, y.2, y.1) else if y.2.syncR.1 ≠ 0 then (L, y.2.syncR.2, y.2.syncR.1) else (forcedL L, y.2.syncR.2, 0) := by rw [hy]; rfl
      have hyn : y.2.n = D.n := by
        rw [hy]
        split
        · rw [write_n]; exact hx
        · exact hx
      rw [hv2]
      split
      · exact hyn
      · split
        · show y.2.syncR.2.n = _
          rw [sync_n]; exact hyn
        · show y.2.syncR.2.n = _
          rw [sync_n]; exact hyn
theorem arm_same (D : DevM) (a : Int) : (D.arm a).n = D.n ∧ (D.arm a).down = D.down ∧ (D.arm a).opn = D.opn ∧ (D.arm a).safe = D.safe := by
  unfold DevM.arm
  split <;> exact ⟨rfl, rfl, rfl, rfl⟩
theorem LogI.arm {D : DevM} {L : LogM} {R : List RecM} {B : Int → UInt8} (h : LogI D L R B) (a : Int) : LogI (D.arm a) L R B := by
  obtain ⟨h1, h2, h3, h4⟩ := arm_same D a
  have hl : (D.arm a).latest = D.latest := by unfold DevM.latest; rw [h3, h4]
  have hs : (D.arm a).safeG = D.safeG := by unfold DevM.safeG; rw [h4]
  have hm : ∀ b, (D.arm a).mayE b = D.mayE b := fun b => by unfold DevM.mayE; rw [h1, h2]
  exact { h with up := fun b => by rw [hm]; exact h.up b, nop := fun k a b => by rw [h3]; exact h.nop k a b, len := fun k => by rw [hl]; exact h.len k, slen := fun k => by rw [hs]; exact h.slen k, rest := by rw [hl]; exact h.rest }
/-- Between two steps. -/
structure KeepI (D : DevM) (L : LogM) (R al : List RecM) (js i : Nat) : Prop where
  log : ∃ B, LogI D L R B
  armed : D.armed = 0
  n : D.n = 7
  first : L.first = 1
  count : L.count = 6
  turn : L.turn ≤ i + 1
  fin : L.fin ≤ 1 + 2000 * i
  al : al = R.map stripR
  jl : js ≤ R.length
  safe : L.safe = L.oldest + (flatR (R.take js)).length
section
variable {D : DevM} {L : LogM} {R al : List RecM} {js i : Nat}
theorem KeepI.up (h : KeepI D L R al js i) {i' : Nat} (hi : i ≤ i') : KeepI D L R al js i' := { h with turn := by have := h.turn; omega, fin := by have := h.fin; omega }
theorem KeepI.down (h : KeepI D L R al js i) : D.down = false := by
  obtain ⟨B, hB⟩ := h.log
  exact (mayE_up (hB.up 1)).1
theorem KeepI.few (h : KeepI D L R al js i) : R.length ≤ 60 := by
  obtain ⟨B, hB⟩ := h.log
  have h1 := count_le hB R.length (Nat.le_refl _)
  have h2 := flat_all hB (Nat.le_refl R.length)
  have h3 := hB.room
  have h4 := h.count
  omega
theorem KeepI.tail (h : KeepI D L R al js i) : L.tail.length ≤ 100000 ∧ (L.safe ≠ L.fin → L.tail ≠ []) := by
  obtain ⟨B, hB⟩ := h.log
  have h1 := hB.tail.len
  have h2 := hB.begs
  have h3 := hB.room
  have h4 := h.count
  have h5 := hB.so
  have h6 := hB.sf
  refine ⟨by omega, fun hne he => ?_⟩
  rw [he] at h1
  simp at h1
  omega
theorem keep_append (h : KeepI D L R al js i) {n : Nat} (hn : n < 4000) (hi : i < 100) :
    (∃ L' x, L.append (recN n) = (L', x, 0) ∧ L'.turn = L.turn ∧ ∃ R', KeepI D L' R' (al ++ [recN n]) js (i + 1)) ∨ L.append (recN n) = (L, 0, 5) := by
  obtain ⟨B, hB⟩ := h.log
  have ht := h.turn
  have hf := h.fin
  have hr := recN_right n hn L.fin L.turn (by have := hB.o1; have := hB.so; have := hB.sf; omega) (by unfold topM; omega) hB.t1 hB.t2
  by_cases hroom : L.room < ((encM { recN n with lsn := L.fin, turn := L.turn }).length : Int)
  · right
    unfold LogM.append
    show (if ¬ rightM { recN n with lsn := L.fin, turn := L.turn } then (L, 0, 4) else if L.room < ((encM { recN n with lsn := L.fin, turn := L.turn }).length : Int) then (L, 0, 5) else _) = _
    rw [if_neg (fun hq => hq hr), if_pos hroom]
  · left
    obtain ⟨e, B', hI⟩ := append_inv hB (recN n) hr hroom (by omega)
    refine ⟨_, _, e, rfl, _, ⟨⟨B', hI⟩, h.armed, h.n, h.first, h.count, by show L.turn ≤ _; omega, ?_, ?_, ?_, ?_⟩⟩
    · show L.fin + ((encM { recN n with lsn := L.fin, turn := L.turn }).length : Int) ≤ _
      have := enc_len hr
      omega
    · rw [List.map_append, List.map_cons, List.map_nil, recN_strip, h.al]
    · rw [List.length_append]; have := h.jl; omega
    · show L.safe = L.oldest + _
      rw [List.take_append_of_le_length h.jl]
      exact h.safe
theorem keep_forced (h : KeepI D L R al js i) {D' : DevM} {B : Int → UInt8} (hI : LogI D' (forcedL L) R B) (ha : D'.armed = 0) (hn : D'.n = 7) : KeepI D' (forcedL L) R al R.length i :=
  ⟨⟨B, hI⟩, ha, hn, h.first, h.count, h.turn, h.fin, h.al, Nat.le_refl _, by
    rw [List.take_length]
    have := hI.flen
    show L.fin = L.oldest + _
    have e1 : (forcedL L).fin = L.fin := rfl
    have e2 : (forcedL L).oldest = L.oldest := rfl
    omega⟩
theorem keep_full (h : KeepI D L R al js i) (hs : L.safe = L.fin) : js = R.length := by
  obtain ⟨B, hB⟩ := h.log
  have h1 := hB.flen
  have h2 := h.safe
  have h3 := h.jl
  rcases Nat.lt_or_eq_of_le h3 with h4 | h4
  · have h5 := placesR_step hB h4
    have h6 := flatR_mono R (show js + 1 ≤ R.length by omega)
    rw [List.take_length] at h6
    omega
  · exact h4
theorem keep_force (h : KeepI D L R al js i) : (L.force D).2.2 = 0 ∧ (L.force D).1.turn = L.turn ∧ KeepI (L.force D).2.1 (L.force D).1 R al R.length i := by
  obtain ⟨B, hB⟩ := h.log
  obtain ⟨c1, c2⟩ := force_calm (L := L) h.armed h.down
  by_cases hs : L.safe = L.fin
  · rw [force_same hs]
    refine ⟨rfl, rfl, ?_⟩
    have := keep_full h hs
    subst this
    exact h
  · rcases force_inv hB hs with ⟨f1, f2, f3⟩ | ⟨f1, _⟩
    · refine ⟨f1, by rw [f2]; rfl, ?_⟩
      rw [f2]
      exact keep_forced h f3 c2 (by rw [force_n]; exact h.n)
    · exact absurd f1 c1
/-- The device crashes, or does not, while all is made safe; it wakes; the log is opened anew. -/
theorem keep_crash (h : KeepI D L R al js i) (hi : i < 100) (a : Int) (fs : Fates) : ∃ js', js' = (if (L.force (D.arm a)).2.2 = 0 then R.length else js) ∧ ((L.force (D.arm a)).2.2 = 0 ∨ (L.force (D.arm a)).2.2 = 8) ∧
    ¬ badM ((L.force (D.arm a)).2.1.wake fs).n 1 6 L.oldest (L.turn + 1) ∧
    (chainM ((L.force (D.arm a)).2.1.wake fs) 1 6 (L.turn + 1) (6 * 408 - 408 : Int).toNat ((6 * 408 - 408 : Int).toNat + 1) L.oldest 0 []).1.length ≤ 1000000 ∧
    ∃ L3 D3 k, openM ((L.force (D.arm a)).2.1.wake fs) 1 6 L.oldest (L.turn + 1) = (some L3, D3, 0) ∧ js' ≤ k ∧ k ≤ R.length ∧ KeepI D3 L3 (R.take k) (al.take k) k (i + 1) ∧ L3.oldest = L.oldest ∧ L3.turn = L.turn + 1 := by
  obtain ⟨B, hB⟩ := h.log
  have ht := h.turn
  have hf := h.fin
  have hso := hB.so
  have hsf := hB.sf
  have ho1 := hB.o1
  have hroom := hB.room
  have hc := h.count
  have hA := hB.arm a
  -- what is there when it wakes
  have key : ∃ p, L.safe ≤ p ∧ p ≤ L.fin ∧ WokeS ((L.force (D.arm a)).2.1.wake fs) L p B ∧ ((L.force (D.arm a)).2.2 = 0 ∧ p = L.fin ∨ (L.force (D.arm a)).2.2 = 8) := by
    by_cases hs : L.safe = L.fin
    · rw [force_same hs]
      obtain ⟨p, p1, p2, p3⟩ := woke hA (PourS.refl _ _ _ _ _ _ _ _) hA.len fs
      exact ⟨p, p1, p2, p3, .inl ⟨rfl, by omega⟩⟩
    · rcases force_inv hA hs with ⟨f1, f2, f3⟩ | ⟨f1, f2, f3, f4⟩
      · obtain ⟨p, p1, p2, p3⟩ := woke f3 (PourS.refl _ _ _ _ _ _ _ _) f3.len fs
        have e1 : (forcedL L).safe = L.fin := rfl
        have e2 : (forcedL L).fin = L.fin := rfl
        exact ⟨p, by omega, by omega, ⟨p3.up, p3.n, p3.armed, p3.nop, p3.len, p3.area, p3.std⟩, .inl ⟨f1, by omega⟩⟩
      · obtain ⟨p, p1, p2, p3⟩ := woke hA f3 f4 fs
        exact ⟨p, p1, p2, p3, .inr f1⟩
  obtain ⟨p, p1, p2, hW, hp⟩ := key
  have hn : ((L.force (D.arm a)).2.1.wake fs).n = 7 := by
    show (L.force (D.arm a)).2.1.n = 7
    rw [force_n, (arm_same D a).1]
    exact h.n
  obtain ⟨W, hWd⟩ : ∃ W, W = (L.force (D.arm a)).2.1.wake fs := ⟨_, rfl⟩
  rw [← hWd] at hW hn ⊢
  have hbad : ¬ badM W.n 1 6 L.oldest (L.turn + 1) := by
    unfold badM
    rw [hn]
    have := hB.t1
    omega
  have hre := reopen hB hW p1 p2 (T' := L.turn + 1) (by omega) (by omega) (by omega) (by rw [h.first, hc]; exact hbad)
  rw [h.first, hc] at hre
  obtain ⟨r1, L3, D3, k, r2, r3, r4, r5, r6, r7, r8, r9, r10, r11, r12, r13⟩ := hre
  refine ⟨_, rfl, ?_, hbad, by omega, L3, D3, k, r2, ?_, r3, ⟨⟨B, r4⟩, r5, by rw [r6]; exact hn, r7, r8, by omega, by omega, ?_, ?_, ?_⟩, r9, r10⟩
  · rcases hp with ⟨h1, _⟩ | h1
    · exact .inl h1
    · exact .inr h1
  · rcases hp with ⟨h1, h2⟩ | h1
    · rw [if_pos h1]
      refine r13 _ (Nat.le_refl _) ?_
      rw [List.take_length, h2]
      have := hB.flen
      omega
    · rw [if_neg (by rw [h1]; decide)]
      refine r13 _ h.jl ?_
      rw [← h.safe]
      exact p1
  · rw [h.al, List.map_take]
  · rw [List.length_take]; omega
  · rw [List.take_take, Nat.min_self, r11]
    have h1 := r4.flen
    omega
theorem keep_trim (h : KeepI D L R al js i) (hk : 0 < js / 2) : ∃ hk2 : js / 2 < R.length, L.trim (R[js / 2]).lsn = ({ L with oldest := (R[js / 2]).lsn, lsns := L.lsns.drop (js / 2) }, 0) ∧
    KeepI D { L with oldest := (R[js / 2]).lsn, lsns := L.lsns.drop (js / 2) } (R.drop (js / 2)) (al.drop (js / 2)) (js - js / 2) i := by
  obtain ⟨B, hB⟩ := h.log
  have hj := h.jl
  have hk2 : js / 2 < R.length := by omega
  obtain ⟨t1, t2, t3⟩ := trim_inv hB hk2 hj (by omega) h.safe
  exact ⟨hk2, t1, ⟨⟨B, t2⟩, h.armed, h.n, h.first, h.count, h.turn, h.fin, by rw [h.al, List.map_drop], by rw [List.length_drop]; omega, t3⟩⟩
end
/-- The first log. -/
def kpL0 : LogM := ⟨1, 6, 1, 1, 1, 1, [], [], 1⟩
theorem kp_open : openM (newM 7) 1 6 1 1 = (some kpL0, newM 7, 0) := by kernel_rfl
theorem kp_all : (chainM (newM 7) 1 6 1 2040 2041 1 0 []) = ([], 0) := by kernel_rfl
theorem kp_start : KeepI (newM 7) kpL0 [] [] 0 0 := by
  have hl : ∀ k, (newM 7).latest k = zeros 512 := fun k => rfl
  have hsx : ∀ n, sx (newM 7).latest 1 6 n = zeros 64 := fun n => by
    have := mod_in n (C := 6) (by decide)
    unfold sx
    rw [hl, zeros_cut (by omega)]
  have hA : AreaS (newM 7).latest 1 6 1 := ⟨fun n => by rw [hsx]; exact lenL_zeros 64, fun n => by rw [hsx, zeros_fld]; exact .inl (Int.le_refl 0), fun n => by rw [hsx, zeros_trn]; decide⟩
  have hR : RestS (newM 7).latest 1 6 1 1 1 (fun _ => 0) := by
    refine ⟨hA, ⟨fun n a b => by omega, fun n a b => by omega, fun n a b c => absurd (by decide) c, fun a => absurd a (by decide), ?_⟩, ?_, fun n a b => ?_⟩
    · left; rw [hsx, zeros_fld]; decide
    · left; rw [hsx, zeros_fld]; decide
    · rw [hsx, zeros_fld] at b; omega
  refine ⟨⟨fun _ => 0, ?_⟩, rfl, rfl, rfl, rfl, by decide, by decide, rfl, by decide, rfl⟩
  exact { up := fun a => DevM.mayE_ok rfl (by unfold secB; have := mod_in ((a - 1) / 51) (C := 6) (by decide); show 0 ≤ 1 + (a - 1) / 51 % (6 * 8) / 8; omega) (by unfold secB; have := mod_in ((a - 1) / 51) (C := 6) (by decide); show 1 + (a - 1) / 51 % (6 * 8) / 8 < 7; omega),
          nop := fun _ _ _ => rfl, len := fun k => by rw [hl]; exact lenL_zeros 512, slen := fun k => by show ((newM 7).safe k |>.getD (zeros 512)).length = 512; exact lenL_zeros 512,
          f0 := by decide, f1 := by decide, c4 := by decide, c1 := by decide, t1 := by decide, t2 := by decide, o1 := by decide, so := by decide, sf := by decide, fm := by decide, room := by decide, rest := hR, beg := rfl,
          tail := ⟨rfl, fun i hi => by simp [kpL0] at hi⟩, recs := trivial, lsns := rfl, flat := rfl, sb := ⟨0, Nat.le_refl _, rfl⟩ }
end Go.Proofs.Ytbolbddjmmfepaa
namespace Go.Proofs.Ytbolbddjmmfepaa
open Go.RowKit

theorem class_anyL (w : World) : ∃ (T : Type) (f : T → World) (_ : Nonempty T), (∃ n, w.drew = f n) ∧ (∀ n wx, Kept (fun _ => False) (f n) wx → ∃ m, wx = f m) ∧ (∀ n, Kept (fun _ => False) w (f n)) :=
  ⟨{ x : World // Kept (fun _ => False) w x }, fun x => x.1, ⟨⟨w, Kept.refl _ _⟩⟩, ⟨⟨w.drew, (Kept.refl _ _).drew⟩, rfl⟩, fun n wx hx => ⟨⟨wx, n.2.trans0 hx⟩, rfl⟩, fun n => n.2⟩
theorem wp_region_quiet_clsL {P : Program} {C : World → Prop} {id : Nat} {Q : Exit → Act → World → Prop} {a : Act} {w : World} {l : List Oper} (hm : P.follows .mixedOrders = true) (hB : Region.lexB .any l.toArray = true) (hC : C w.drew)
    (h : wpQuiet P l.toArray C (fun a' => ∀ w', C w' → Q .normal a' w') l a) : (Code.region id l.toArray true).wp P Q a w :=
  wp_region_quiet (C := C) hm hB hC (by simpa using h)
/-- A load of a struct, in a region whose operations only read. -/
theorem wq_load_midL {P : Program} {ops : Array Oper} {C : World → Prop} {Q : Act → Prop} {a : Act} {o : Oper} {rest : List Oper} (hw : Region.wanted o (yielded ops a.tmps) = true) (t : TypeId) (x : Operand) (ho : o.op = .load t x) (b off : Nat) (hx : a.eval x = .pointer (some ⟨b, off, none⟩)) (cs : Array Value)
    (hc : ∀ w, C w → ∀ (j : Nat) v, cs[j]? = some v → w.cell? ⟨b, off + j, none⟩ = some v) {d : TypeDesc} (hu : P.underlying t = some d) (hd : (match d with | .struct _ | .array _ _ => true | _ => false) = true) (hi : (P.info? t).map (·.size) = some cs.size)
    (k : wpQuiet P ops C Q rest (a.put o.dst (.agg cs))) : wpQuiet P ops C Q (o :: rest) a := by
  show if Region.wanted o (yielded ops a.tmps) = true then _ else _
  rw [if_pos hw]
  refine ⟨.agg cs, fun w hC => ?_, k⟩
  unfold Oper.quietAt
  simp only [execOp, ho, hx, Sem.run_bind, run_loadAt_cells t b off cs (hc w hC) hu hd hi, Result.andThen_ok]
  exact ⟨rfl, rfl⟩
theorem pick_nat (x : Int) (n : Nat) (h0 : 1 ≤ n) (hn : n ≤ 65536) (w : World) :
    Calls Try.prog 20 #[.int .i64 x, .int .i64 n] w fun e w' => ∃ k : Nat, k < n ∧ pickM x n = (k : Int) ∧ e = .returned (.int .i64 k) ∧ w = w' := by
  have h := pickM_lt (x := x) (n := n) (by omega)
  refine (pick_any x n (by omega) w).mono fun e w' ⟨h1, h2⟩ => ⟨(pickM x n).toNat, by omega, by omega, ?_, h2⟩
  rw [h1, Int.toNat_of_nonneg h.1]
/-- A slice of numbers, as it is read. -/
def RdI (w : World) (A : Option Addr) (l : List Int) : Prop := l ≠ [] → ∃ b off, A = some ⟨b, off, none⟩ ∧ ∀ i x, l[i]? = some x → w.cell? ⟨b, off + i, none⟩ = some (.int .i64 x)
/-- A slice of slices of fates. -/
def RdFF (w : World) (A : Option Addr) (l : List Fates) : Prop := l ≠ [] → ∃ b off, A = some ⟨b, off, none⟩ ∧ ∀ i x, l[i]? = some x → ∃ FA c, w.cell? ⟨b, off + i, none⟩ = some (.slice FA x.length c) ∧ RdF w FA x ∧ x.length ≤ maxLen
/-- Between two steps: what is in memory. -/
structure KpW (w wr : World) (p ms mo q : Nat) (lv tv : Value) (L : LogM) (D : DevM) (rows : List RowR) (al : Value) : Prop where
  log : LogS wr q p ms mo lv tv L D
  all : RecsM wr w.heap.size al rows
  apart : ∀ x ∈ rows, ∀ g, (Value.slice x.A1 x.r.old.length x.c1).ownBlock = some g ∨ (Value.slice x.A2 x.r.new.length x.c2).ownBlock = some g → tv.ownBlock ≠ some g
  small : ∀ x ∈ rows, x.r.old.length ≤ 200 ∧ x.r.new.length ≤ 200
  kept : Kept (fun _ => False) w wr
  fresh : ∀ x, LogK q p ms mo lv tv x → w.heap.size ≤ x
theorem RdF.kept0 {w w' : World} {A : Option Addr} {l : Fates} (h : RdF w A l) (hk : Kept (fun _ => False) w w') : RdF w' A l := by
  intro hl
  obtain ⟨b, off, e, hc⟩ := h hl
  refine ⟨b, off, e, fun i x hx => ?_⟩
  obtain ⟨h1, h2⟩ := hc i x hx
  have l1 := block_lt_of_cell h1
  simp only at l1
  exact ⟨(World.cell?_of_block (hk.block b l1 id)).trans h1, (World.cell?_of_block (hk.block b l1 id)).trans h2⟩
section
variable {w wr wz : World} {p ms mo q : Nat} {lv tv al : Value} {L : LogM} {D : DevM} {rows : List RowR}
theorem KpW.keep0 (h : KpW w wr p ms mo q lv tv L D rows al) (hk : Kept (fun _ => False) wr wz) : KpW w wz p ms mo q lv tv L D rows al :=
  { h with log := h.log.keep hk (fun _ _ => id), all := h.all.keep0 hk, kept := h.kept.trans0 hk }
/-- The row of all records is none of the log's blocks. -/
theorem KpW.far (h : KpW w wr p ms mo q lv tv L D rows al) {x : Nat} (hx : al.ownBlock = some x) : ¬ LogK q p ms mo lv tv x := by
  obtain ⟨_, cur, hc⟩ := h.all.blk hx
  rintro (rfl | rfl | rfl | rfl | hl | ht)
  · have := h.log.hq
    unfold LogQ at this
    rw [hc] at this; cases this
  · have := h.log.dev.hp
    rw [hc] at this; cases this
  · obtain ⟨_, _, hm, _⟩ := h.log.dev.hs
    rw [hc] at hm; cases hm
  · obtain ⟨_, _, hm, _⟩ := h.log.dev.ho
    rw [hc] at hm; cases hm
  · rcases h.log.hl with ⟨rfl, _⟩ | ⟨g, off, c, cur2, rfl, _, hg, _⟩
    · cases hl
    · cases hl; rw [hc] at hg; cases hg
  · have hv : OwnV wr 0 tv L.tail := h.log.ht
    rcases hv.2 with ⟨rfl, _⟩ | ⟨g, cap, cur2, rfl, _, hg, _⟩
    · cases ht
    · cases ht; rw [hc] at hg; cases hg
/-- Bytes of the records are none of the log's blocks. -/
theorem KpW.farB (h : KpW w wr p ms mo q lv tv L D rows al) {y : RowR} (hy : y ∈ rows) {g : Nat} (hg : (Value.slice y.A1 y.r.old.length y.c1).ownBlock = some g ∨ (Value.slice y.A2 y.r.new.length y.c2).ownBlock = some g) : ¬ LogK q p ms mo lv tv g := by
  obtain ⟨cur, hc⟩ : ∃ cur, wr.heap[g]? = some (.cells cur 5 (0, 0)) := by
    rcases hg with hg | hg
    · exact (h.all.own y hy).1.u8 hg
    · exact (h.all.own y hy).2.u8 hg
  rintro (rfl | rfl | rfl | rfl | hl | ht)
  · have := h.log.hq
    unfold LogQ at this
    rw [hc] at this; cases this
  · have := h.log.dev.hp
    rw [hc] at this; cases this
  · obtain ⟨_, _, hm, _⟩ := h.log.dev.hs
    rw [hc] at hm; cases hm
  · obtain ⟨_, _, hm, _⟩ := h.log.dev.ho
    rw [hc] at hm; cases hm
  · rcases h.log.hl with ⟨rfl, _⟩ | ⟨g', off, c, cur2, rfl, _, hg', _⟩
    · cases hl
    · cases hl; rw [hc] at hg'; cases hg'
  · exact h.apart y hy g hg ht
/-- All blocks of the log are there. -/
theorem KpW.lt (h : KpW w wr p ms mo q lv tv L D rows al) {x : Nat} (hx : LogK q p ms mo lv tv x) : x < wr.heap.size := by
  rcases hx with rfl | rfl | rfl | rfl | hl | ht
  · exact heap_lt h.log.hq
  · exact heap_lt h.log.dev.hp
  · exact h.log.dev.hs.lt
  · exact h.log.dev.ho.lt
  · exact (h.log.hl.base_le hl).2
  · exact (h.log.ht.base_le ht).2
/-- A call that turns the log's blocks alone. -/
theorem KpW.call (h : KpW w wr p ms mo q lv tv L D rows al) {S : Nat → Prop} (hk : Kept S wr wz) (hS : ∀ x, S x → LogK q p ms mo lv tv x) : RecsM wz w.heap.size al rows ∧ Kept (fun _ => False) w wz :=
  ⟨h.all.keep hk (fun x hx hs => h.far hx (hS x hs)) (fun y hy g hg hs => h.farB hy hg (hS g hs)), h.kept.new hk (fun x hs => h.fresh x (hS x hs))⟩
/-- A call that turns the log's blocks alone, and leaves a log. -/
theorem KpW.turn (h : KpW w wr p ms mo q lv tv L D rows al) {S : Nat → Prop} {q' : Nat} {lv' tv' : Value} {L' : LogM} {D' : DevM} (hk : Kept S wr wz) (hS : ∀ x, S x → LogK q p ms mo lv tv x) (hs : LogS wz q' p ms mo lv' tv' L' D')
    (hf : ∀ x, LogK q' p ms mo lv' tv' x → LogK q p ms mo lv tv x ∨ wr.heap.size ≤ x) (ht : ∀ x, tv'.ownBlock = some x → tv.ownBlock = some x ∨ wr.heap.size ≤ x) : KpW w wz p ms mo q' lv' tv' L' D' rows al := by
  obtain ⟨k1, k2⟩ := h.call hk hS
  refine ⟨hs, k1, fun y hy g hg e => ?_, h.small, k2, fun x hx => ?_⟩
  · have hlt : g < wr.heap.size := by
      rcases hg with hg | hg
      · obtain ⟨cur, hc⟩ := (h.all.own y hy).1.u8 hg; exact heap_lt hc
      · obtain ⟨cur, hc⟩ := (h.all.own y hy).2.u8 hg; exact heap_lt hc
    rcases ht g e with e | e
    · exact h.apart y hy g hg e
    · omega
  · rcases hf x hx with e | e
    · exact h.fresh x e
    · have := h.kept.size; omega
/-- One more record. -/
theorem KpW.more (h : KpW w wr p ms mo q lv tv L D rows al) {x : RowR} {al' : Value} (hr : RecsM wz w.heap.size al' (rows ++ [x])) (hk : Kept (fun x => al.ownBlock = some x) wr wz)
    (hx : ∀ g, (Value.slice x.A1 x.r.old.length x.c1).ownBlock = some g ∨ (Value.slice x.A2 x.r.new.length x.c2).ownBlock = some g → tv.ownBlock ≠ some g) (hs : x.r.old.length ≤ 200 ∧ x.r.new.length ≤ 200) : KpW w wz p ms mo q lv tv L D (rows ++ [x]) al' := by
  refine ⟨h.log.keep hk (fun g hg e => h.far e hg), hr, fun y hy => ?_, fun y hy => ?_, h.kept.new hk (fun g hg => (h.all.blk hg).1), h.fresh⟩
  · rcases List.mem_append.1 hy with hy | hy
    · exact h.apart y hy
    · rw [List.mem_singleton] at hy; subst hy; exact hx
  · rcases List.mem_append.1 hy with hy | hy
    · exact h.small y hy
    · rw [List.mem_singleton] at hy; subst hy; exact hs
theorem KpW.sub (h : KpW w wr p ms mo q lv tv L D rows al) {rows' : List RowR} {al' : Value} (hr : RecsM wr w.heap.size al' rows') (hs : ∀ x ∈ rows', x ∈ rows) : KpW w wr p ms mo q lv tv L D rows' al' :=
  ⟨h.log, hr, fun y hy => h.apart y (hs y hy), fun y hy => h.small y (hs y hy), h.kept, h.fresh⟩
theorem KpW.app {R al2 : List RecM} {js i : Nat} (h : KpW w wr p ms mo q lv tv L D rows al) (hI : KeepI D L R al2 js i) (r : RecM) (A1 A2 : Option Addr) (c1 c2 : Nat) (ho : RecOk r) (h1 : r.old.length ≤ 200) (h2 : r.new.length ≤ 200) (hr1 : RdB wr A1 r.old) (hr2 : RdB wr A2 r.new) :
    Calls Try.prog 22 #[.pointer (some ⟨q, 0, none⟩), .agg (recC r A1 c1 A2 c2)] wr (fun e w' => e = .returned (.tuple #[.int .i64 (L.append r).2.1, .int .i64 (L.append r).2.2]) ∧ ∃ lv' tv', KpW w w' p ms mo q lv' tv' (L.append r).1 D rows al ∧ Kept (fun x => LogK q p ms mo lv tv x) wr w' ∧ OwnTo wr tv tv') := by
  obtain ⟨B, hB⟩ := hI.log
  have hl := hB.llen
  have hf := hI.few
  have ht := hI.tail
  refine (append_any wr q p ms mo lv tv L D h.log hB.ok (by have := hB.t1; have := hB.t2; unfold isI; omega) (by omega) (by omega) r A1 c1 A2 c2 ho (by omega) (by omega) hr1 hr2).mono ?_
  rintro e w' ⟨he, lv', tv', hs, hk, hlv, htv⟩
  have hS : ∀ x, (x = q ∨ lv.ownBlock = some x ∨ tv.ownBlock = some x) → LogK q p ms mo lv tv x := fun x hx => by
    rcases hx with hx | hx | hx
    · exact .inl hx
    · exact .inr (.inr (.inr (.inr (.inl hx))))
    · exact .inr (.inr (.inr (.inr (.inr hx))))
  refine ⟨he, lv', tv', h.turn hk hS hs (fun x hx => ?_) (fun x hx => ?_), hk.mono (fun x _ hx => hS x hx), htv⟩
  · rcases hx with hx | hx | hx | hx | hx | hx
    · exact .inl (.inl hx)
    · exact .inl (.inr (.inl hx))
    · exact .inl (.inr (.inr (.inl hx)))
    · exact .inl (.inr (.inr (.inr (.inl hx))))
    · rcases hlv with e | e
      · exact .inl (.inr (.inr (.inr (.inr (.inl (by rw [← e]; exact hx))))))
      · exact .inr (e x hx)
    · rcases htv with e | e
      · exact .inl (.inr (.inr (.inr (.inr (.inr (by rw [← e]; exact hx))))))
      · exact .inr (e x hx)
  · rcases htv with e | e
    · exact .inl (by rw [← e]; exact hx)
    · exact .inr (e x hx)
theorem KpW.force {R al2 : List RecM} {js i : Nat} {D' : DevM} (h : KpW w wr p ms mo q lv tv L D' rows al) (hI : KeepI D L R al2 js i) :
    Calls Try.prog 24 #[.pointer (some ⟨q, 0, none⟩)] wr (fun e w' => e = .returned (.int .i64 (L.force D').2.2) ∧ ∃ tv', KpW w w' p ms mo q lv tv' (L.force D').1 (L.force D').2.1 rows al) := by
  obtain ⟨B, hB⟩ := hI.log
  have ht := hI.tail
  have ok := hB.ok
  have ob := hB.b
  refine (force_any wr q p ms mo lv tv L D' h.log ok ob (by have := hB.t1; omega) (by have := hB.t2; omega) ht.2).mono ?_
  rintro e w' ⟨he, tv', hs, hk, htv⟩
  refine ⟨he, tv', h.turn hk (fun x hx => ?_) hs (fun x hx => ?_) (fun x hx => ?_)⟩
  · rcases hx with hx | hx | hx | hx
    · exact .inl hx
    · exact .inr (.inl hx)
    · exact .inr (.inr (.inl hx))
    · exact .inr (.inr (.inr (.inl hx)))
  · rcases hx with hx | hx | hx | hx | hx | hx
    · exact .inl (.inl hx)
    · exact .inl (.inr (.inl hx))
    · exact .inl (.inr (.inr (.inl hx)))
    · exact .inl (.inr (.inr (.inr (.inl hx))))
    · exact .inl (.inr (.inr (.inr (.inr (.inl hx)))))
    · rcases htv with e | e
      · exact .inl (.inr (.inr (.inr (.inr (.inr (by rw [← e]; exact hx))))))
      · exact .inr (e x hx)
  · rcases htv with e | e
    · exact .inl (by rw [← e]; exact hx)
    · exact .inr (e x hx)
theorem KpW.from {R al2 : List RecM} {js i : Nat} (h : KpW w wr p ms mo q lv tv L D rows al) (hI : KeepI D L R al2 js i) :
    Calls Try.prog 26 #[.pointer (some ⟨q, 0, none⟩), .int .i64 L.oldest] wr (FromPost wr R) := by
  obtain ⟨B, hB⟩ := hI.log
  have := from_any wr q p ms mo lv tv L D h.log hB.ok hB.b hB.r L.oldest
  rwa [from_std hB] at this
theorem KpW.trim {R al2 : List RecM} {js i : Nat} (h : KpW w wr p ms mo q lv tv L D rows al) (hI : KeepI D L R al2 js i) (a : Int) :
    Calls Try.prog 25 #[.pointer (some ⟨q, 0, none⟩), .int .i64 a] wr (fun e w' => e = .returned (.int .i64 (L.trim a).2) ∧ ∃ lv', KpW w w' p ms mo q lv' tv (L.trim a).1 D rows al) := by
  obtain ⟨B, hB⟩ := hI.log
  have hl := hB.llen
  have hf := hI.few
  refine (trim_any wr q p ms mo lv tv L D h.log hB.r.ri (by omega) a).mono ?_
  rintro e w' ⟨he, lv', hs, hk, hlv⟩
  refine ⟨he, lv', h.turn hk (fun x hx => .inl hx) hs (fun x hx => ?_) (fun x hx => .inl hx)⟩
  rcases hx with hx | hx | hx | hx | hx | hx
  · exact .inl (.inl hx)
  · exact .inl (.inr (.inl hx))
  · exact .inl (.inr (.inr (.inl hx)))
  · exact .inl (.inr (.inr (.inr (.inl hx))))
  · exact .inl (.inr (.inr (.inr (.inr (.inl (by rw [← hlv]; exact hx))))))
  · exact .inl (.inr (.inr (.inr (.inr (.inr hx)))))
theorem KpW.arm (h : KpW w wr p ms mo q lv tv L D rows al) (a : Int) (ha : a ≤ 9223372036854775807) : Calls Try.prog 34 #[.pointer (some ⟨p, 0, none⟩), .int .i64 a] wr (fun e w' => e = .returned (.tuple #[]) ∧ KpW w w' p ms mo q lv tv L (D.arm a) rows al) := by
  refine (arm_any h.log.dev a ha).mono ?_
  rintro e w' ⟨he, hd, hk⟩
  exact ⟨he, h.turn hk (fun x hx => .inr (.inl hx)) (h.log.dev2 hk (fun x hx => .inl hx) hd) (fun x hx => .inl hx) (fun x hx => .inl hx)⟩
theorem KpW.wake (h : KpW w wr p ms mo q lv tv L D rows al) (A : Option Addr) (c : Nat) (fs : Fates) (hfs : RdF wr A fs) (hap : fs ≠ [] → ∀ b off, A = some ⟨b, off, none⟩ → b ≠ p) (hn : fs.length ≤ 4611686018427387904) :
    Calls Try.prog 35 #[.pointer (some ⟨p, 0, none⟩), .slice A fs.length c] wr (fun e w' => e = .returned (.tuple #[]) ∧ KpW w w' p ms mo q lv tv L (D.wake fs) rows al) := by
  refine (wake_any h.log.dev A c fs hfs hap hn).mono ?_
  rintro e w' ⟨he, hd, hk⟩
  exact ⟨he, h.turn hk (fun x hx => by rcases hx with hx | hx | hx; exact .inr (.inl hx); exact .inr (.inr (.inl hx)); exact .inr (.inr (.inr (.inl hx)))) (h.log.dev2 hk (fun x hx => hx) hd) (fun x hx => .inl hx) (fun x hx => .inl hx)⟩
theorem KpW.open (h : KpW w wr p ms mo q lv tv L D rows al) {o t : Int} {L3 : LogM} {D3 : DevM} (hg : ¬ badM D.n 1 6 o t) (hall : (chainM D 1 6 t (6 * 408 - 408 : Int).toNat ((6 * 408 - 408 : Int).toNat + 1) o 0 []).1.length ≤ 1000000) (ho : openM D 1 6 o t = (some L3, D3, 0)) :
    Calls Try.prog 31 #[.pointer (some ⟨p, 0, none⟩), .int .i64 1, .int .i64 6, .int .i64 o, .int .i64 t] wr (fun e w' => ∃ q' lv' tv', e = .returned (.tuple #[.pointer (some ⟨q', 0, none⟩), .int .i64 0]) ∧ KpW w w' p ms mo q' lv' tv' L3 D3 rows al) := by
  have := open_ok wr p ms mo D h.log.dev 1 6 o t hg hall
  rw [ho] at this
  refine this.mono ?_
  rintro e w' ⟨hk, -, hy⟩
  obtain ⟨q', lv', tv', he, hs, hq, hl, ht⟩ := hy L3 rfl
  refine ⟨q', lv', tv', he, h.turn hk (fun x hx => by rcases hx with hx | hx | hx; exact .inr (.inl hx); exact .inr (.inr (.inl hx)); exact .inr (.inr (.inr (.inl hx)))) hs (fun x hx => ?_) (fun x hx => .inr (ht x hx))⟩
  rcases hx with hx | hx | hx | hx | hx | hx
  · exact .inr (by omega)
  · exact .inl (.inr (.inl hx))
  · exact .inl (.inr (.inr (.inl hx)))
  · exact .inl (.inr (.inr (.inr (.inl hx))))
  · exact .inr (hl x hx)
  · exact .inr (ht x hx)
end
end Go.Proofs.Ytbolbddjmmfepaa
