/-
  No statement is proved here: a log with its rows in memory; rows of int64.
-/
import Derived.Test.YtbolbddjmmfepaaLgd
import Derived.ArgAppend
namespace Go.Proofs.Ytbolbddjmmfepaa
open Go.RowKit

theorem infoI64 : ((Try.prog).info? 2).map (fun i => (i.zero, i.size, i.bytes)) = some (some (.int .i64 0), 1, 8) := by kernel_rfl
/-- A row of int64 of the call's own, or none; it may begin in the midst of its block. -/
def LsV (w : World) (base : Nat) (v : Value) (l : List Int) : Prop := (v = .slice none 0 0 ∧ l = []) ∨
  ∃ g off c cur, v = .slice (some ⟨g, off, none⟩) l.length c ∧ base ≤ g ∧ w.heap[g]? = some (.cells cur 2 (0, 0)) ∧ l.length ≤ c ∧ off + c ≤ cur.size ∧ c ≤ 9223372036854775807 ∧ ∀ k x, l[k]? = some x → cur[off + k]? = some (.int .i64 x)
theorem LsV.nil (w : World) (base : Nat) : LsV w base (.slice none 0 0) [] := .inl ⟨rfl, rfl⟩
theorem LsV.keep {S : Nat → Prop} {w w' : World} {base : Nat} {v : Value} {l : List Int} (h : LsV w base v l) (hk : Kept S w w') (hn : ∀ x, v.ownBlock = some x → ¬ S x) : LsV w' base v l := by
  rcases h with h | ⟨g, off, c, cur, rfl, h2, h3, h4⟩
  · exact .inl h
  · exact .inr ⟨g, off, c, cur, rfl, h2, hk.heap h3 (hn g rfl), h4⟩
theorem LsV.base_le {w : World} {base : Nat} {v : Value} {l : List Int} (h : LsV w base v l) {x : Nat} (hx : v.ownBlock = some x) : base ≤ x ∧ x < w.heap.size := by
  rcases h with ⟨rfl, _⟩ | ⟨g, off, c, cur, rfl, h2, h3, _⟩
  · cases hx
  · cases hx; exact ⟨h2, heap_lt h3⟩
theorem LsV.slice {w : World} {base : Nat} {v : Value} {l : List Int} (h : LsV w base v l) : ∃ A c, v = .slice A l.length c ∧ l.length ≤ c ∧ c ≤ 9223372036854775807 ∧ (∀ k x, l[k]? = some x → ∃ g off, A = some ⟨g, off, none⟩ ∧ w.cell? ⟨g, off + k, none⟩ = some (.int .i64 x)) := by
  rcases h with ⟨rfl, rfl⟩ | ⟨g, off, c, cur, rfl, h2, h3, h4, h5, h6, h7⟩
  · exact ⟨none, 0, rfl, Nat.le_refl _, by decide, fun k x h => by simp at h⟩
  · exact ⟨_, _, rfl, h4, h6, fun k x hk => ⟨g, off, rfl, cell_blk h3 (h7 k x hk)⟩⟩
theorem LsV.form3 {w : World} {base : Nat} {v : Value} {l : List Int} (h : LsV w base v l) : ∃ A n c, v = .slice A n c ∧ n = l.length := by
  obtain ⟨A, c, h, _⟩ := h.slice
  exact ⟨A, _, c, h, rfl⟩
theorem LsV.low {w : World} {base base' : Nat} {v : Value} {l : List Int} (h : LsV w base v l) (hb : base' ≤ base) : LsV w base' v l := by
  rcases h with h | ⟨g, off, c, cur, h1, h2, h3⟩
  · exact .inl h
  · exact .inr ⟨g, off, c, cur, h1, by omega, h3⟩
theorem LsV.of_row {w : World} {base : Nat} {v : Value} {l : List Int} (h : w.ownsRow base 2 1 v l.length (l.map (Value.int .i64))) : LsV w base v l := by
  rcases h.2 with ⟨rfl, h2⟩ | ⟨g, cap, cur, rfl, h3, h4, h5, h6, h7, h8⟩
  · exact .inl ⟨rfl, List.length_eq_zero_iff.1 h2⟩
  · have e63 : maxLen = 9223372036854775807 := rfl
    refine .inr ⟨g, 0, cap, cur, rfl, h3, h4, h5, by omega, by omega, fun k x hk => ?_⟩
    have hl : k < l.length := by
      rcases Nat.lt_or_ge k l.length with h | h
      · exact h
      · rw [List.getElem?_eq_none h] at hk; cases hk
    have := congrArg (fun L => L[k]?) h8
    simp only [List.getElem?_map, hk, List.getElem?_take, Nat.mul_one, if_pos hl, Option.map] at this
    rw [Nat.zero_add, ← this]
    simp
/-- Something appended. -/
theorem LsV.append {w : World} {base : Nat} {v : Value} {l : List Int} (hown : LsV w base v l) (n : Int) (b c : Nat) (hc : w.cell? ⟨b, 0, none⟩ = some (.int .i64 n)) (h63 : l.length ≤ 1000000000) (hbase : base ≤ w.heap.size) (ty : TypeId) :
    ∃ v' w', (Builtin.append_ #[45, 45] ty #[v, .slice (some ⟨b, 0, none⟩) 1 c]).run Try.prog w = .ok v' w' ∧ LsV w' base v' (l ++ [n]) ∧ Kept (fun x => v.ownBlock = some x) w w' ∧ (v'.ownBlock = v.ownBlock ∨ ∀ x, v'.ownBlock = some x → w.heap.size ≤ x) := by
  have e63 : maxLen = 9223372036854775807 := rfl
  obtain ⟨i, hi, h2, h3, h4⟩ := info_parts infoI64
  have hnews : ∀ (j : Nat) (u : Value), [Value.int .i64 n][j]? = some u → w.cell? ((⟨b, 0, none⟩ : Addr).add j) = some u := fun j u hu => by
    match j, hu with
    | 0, hu => cases hu; rw [Addr.add_mid]; exact hc
  have hmap : l.map (Value.int .i64) ++ [Value.int .i64 n] = (l ++ [n]).map (Value.int .i64) := by simp
  have hlen : l.length + 1 = (l ++ [n]).length := by simp
  rcases hown with ⟨rfl, rfl⟩ | ⟨g, off, cp, cur, rfl, hg1, hg, hg3, hg4, hg5, hg6⟩
  · obtain ⟨g', cap', w', hr, ho', _, hat, _⟩ := run_append_split (P := Try.prog) (w := w) 45 ty base 2 Try.underlying45 infoI64 rfl (by omega) (.slice none 0 0) 0 [] ⟨rfl, .inl ⟨rfl, rfl⟩⟩ ⟨b, 0, none⟩ 1 c [.int .i64 n] rfl hnews (by simp [Value.oneCell']) (by omega) (by omega) (by omega) hbase
    refine ⟨_, w', hr, LsV.of_row ho', ?_, ?_⟩
    · rcases hat with ⟨e, hk⟩ | ⟨e, hk⟩
      · cases e
      · exact hk.mono (fun _ _ h => h.elim)
    · rcases hat with ⟨e, hk⟩ | ⟨e, hk⟩
      · cases e
      · exact .inr (fun x hx => by have : g' = x := Option.some.inj hx; omega)
  · by_cases hroom : l.length + 1 ≤ cp
    · have hr := run_append_room_cells (P := Try.prog) w 45 ty 2 i Try.underlying45 hi g off l.length cp ⟨b, 0, none⟩ 1 c [.int .i64 n] (by rw [h3]; rfl) hnews (by simp [Value.oneCell']) hroom
        (fun j hj => by
          have hj : j < 1 := hj
          rw [h3, cell_of_row w g _ cur 2 (0, 0) hg, Array.getElem?_eq_getElem (by omega)]
          rfl) (fun j _ => free_blk hg _)
      rw [h3] at hr
      have hw : w.setCells g (off + l.length * 1) [.int .i64 n] = w.setCell ⟨g, off + l.length, none⟩ (.int .i64 n) := by rw [Nat.mul_one]; rfl
      rw [hw] at hr
      refine ⟨_, _, hr, ?_, (Kept.cell w g _ _).mono (fun x _ h => by subst h; rfl), .inl rfl⟩
      refine .inr ⟨g, off, cp, cur.setIfInBounds (off + l.length) (.int .i64 n), by rw [hlen], hg1, set_blk hg _ _, by rw [← hlen]; exact hroom, by rw [Array.size_setIfInBounds]; exact hg4, hg5, fun k x hk => ?_⟩
      rw [Array.getElem?_setIfInBounds]
      by_cases hkl : k < l.length
      · rw [if_neg (by omega)]
        rw [List.getElem?_append_left hkl] at hk
        exact hg6 k x hk
      · rw [List.getElem?_append_right (by omega)] at hk
        have : k = l.length := by
          rcases Nat.lt_or_ge (k - l.length) 1 with h | h
          · omega
          · rw [List.getElem?_eq_none (by simpa using h)] at hk; cases hk
        subst this
        rw [if_pos rfl, if_pos (by omega)]
        simpa using hk
    · obtain ⟨v', w', hr, ho, hgr⟩ := run_append_arg_grows (P := Try.prog) w 45 ty 2 i _ 1 8 Try.underlying45 hi h2 h3 h4 rfl (by omega) ⟨g, off, none⟩ l.length cp (l.map (Value.int .i64)) (by simp)
        (fun j u hu => by
          rw [List.getElem?_map] at hu
          obtain ⟨x, hx, rfl⟩ := Option.map_eq_some_iff.1 hu
          rw [Addr.add_mid]
          exact cell_blk hg (hg6 j x hx)) ⟨b, 0, none⟩ 1 c [.int .i64 n] rfl hnews (by omega) (by omega) (by omega)
      rw [hmap, hlen] at ho
      refine ⟨v', w', hr, (LsV.of_row ho).low hbase, (Kept.refl _ w).grown hgr (fun x h => by cases h), .inr (fun x hx => ((LsV.of_row ho).base_le hx).1)⟩
theorem step_appendL {w : World} {ops : Array Oper} {o : Oper} {a : Act} {K : Act → World → Prop} {Q : Exit → Act → World → Prop} {E : Prop} (hgd : o.guard = none) (s x : Operand)
    (ho : o.op = .call { callee := .builtin .append, args := #[s, x], argTypes := #[45, 45] }) (base : Nat) (v : Value) (l : List Int) (n : Int) (hs : a.eval s = v) (hown : LsV w base v l)
    (b c : Nat) (hx : a.eval x = .slice (some ⟨b, 0, none⟩) 1 c) (hc : w.cell? ⟨b, 0, none⟩ = some (.int .i64 n)) (h63 : l.length ≤ 1000000000) (hbase : base ≤ w.heap.size)
    (k : ∀ v' w', LsV w' base v' (l ++ [n]) → Kept (fun x => v.ownBlock = some x) w w' → (v'.ownBlock = v.ownBlock ∨ ∀ x, v'.ownBlock = some x → w.heap.size ≤ x) → K (a.put o.dst v') w') : if Region.wanted o (yielded ops a.tmps) = true then Oper.wp Try.prog o a w K Q else E := by
  rw [if_pos (by unfold Region.wanted; rw [hgd])]
  obtain ⟨v', w', hr, h1, h2, h3⟩ := hown.append n b c hc h63 hbase o.type
  unfold Oper.wp
  simp [execOp, ho, resolve, invoke, builtin, hs, hx, hr, Result.andThen]
  exact k v' w' h1 h2 h3
theorem wl_appendL {w : World} {ops : Array Oper} {rest : List Oper} {o : Oper} {a : Act} {Q : Exit → Act → World → Prop} (hgd : o.guard = none) (s x : Operand)
    (ho : o.op = .call { callee := .builtin .append, args := #[s, x], argTypes := #[45, 45] }) (base : Nat) (v : Value) (l : List Int) (n : Int) (hs : a.eval s = v) (hown : LsV w base v l)
    (b c : Nat) (hx : a.eval x = .slice (some ⟨b, 0, none⟩) 1 c) (hc : w.cell? ⟨b, 0, none⟩ = some (.int .i64 n)) (h63 : l.length ≤ 1000000000) (hbase : base ≤ w.heap.size)
    (k : ∀ v' w', LsV w' base v' (l ++ [n]) → Kept (fun x => v.ownBlock = some x) w w' → (v'.ownBlock = v.ownBlock ∨ ∀ x, v'.ownBlock = some x → w.heap.size ≤ x) → wpList Try.prog ops Q rest (a.put o.dst v') w') : wpList Try.prog ops Q (o :: rest) a w := by
  obtain ⟨v', w', hr, h1, h2, h3⟩ := hown.append n b c hc h63 hbase o.type
  refine wpList_plain hgd fun K hK => ?_
  unfold Oper.wp
  simp [execOp, ho, resolve, invoke, builtin, hs, hx, hr, Result.andThen]
  exact hK _ _ (k v' w' h1 h2 h3)
/-- A log with its rows and its device. -/
structure LogS (w : World) (q p ms mo : Nat) (lv tv : Value) (L : LogM) (D : DevM) : Prop where
  dev : DevAt w p ms mo D
  hq : LogQ w q p lv tv L
  hl : LsV w 0 lv L.lsns
  ht : OwnV w 0 tv L.tail
  nq : p ≠ q ∧ ms ≠ q ∧ mo ≠ q
  nl : ∀ x, lv.ownBlock = some x → x ≠ q ∧ x ≠ p ∧ x ≠ ms ∧ x ≠ mo ∧ tv.ownBlock ≠ some x
  nt : ∀ x, tv.ownBlock = some x → x ≠ q ∧ x ≠ p ∧ x ≠ ms ∧ x ≠ mo
/-- The blocks of a log. -/
def LogK (q p ms mo : Nat) (lv tv : Value) (x : Nat) : Prop := x = q ∨ x = p ∨ x = ms ∨ x = mo ∨ lv.ownBlock = some x ∨ tv.ownBlock = some x
theorem LogS.keep {S : Nat → Prop} {w w' : World} {q p ms mo : Nat} {lv tv : Value} {L : LogM} {D : DevM} (h : LogS w q p ms mo lv tv L D) (hk : Kept S w w') (hn : ∀ x, LogK q p ms mo lv tv x → ¬ S x) : LogS w' q p ms mo lv tv L D :=
  ⟨h.dev.keep hk (hn _ (.inr (.inl rfl))) (hn _ (.inr (.inr (.inl rfl)))) (hn _ (.inr (.inr (.inr (.inl rfl))))), hk.heap h.hq (hn _ (.inl rfl)), h.hl.keep hk (fun x hx => hn x (.inr (.inr (.inr (.inr (.inl hx)))))), h.ht.keep hk (fun x hx => hn x (.inr (.inr (.inr (.inr (.inr hx)))))), h.nq, h.nl, h.nt⟩
theorem heq_cell {w w' : World} {a : Addr} {v : Value} (h : w.heap = w'.heap) (hc : w.cell? a = some v) : w'.cell? a = some v := by
  unfold World.cell?
  rw [← h]
  exact hc
theorem zInit : (Try.prog.info? 47).map (·.size) = some 10 := by kernel_rfl
theorem bLog (p : Nat) (f c t o : Int) (wz : World) : (Instr.build 47 #[(0, .pointer (some ⟨p, 0, none⟩)), (1, .int .i64 f), (2, .int .i64 c), (3, .int .i64 t), (4, .int .i64 o), (5, .int .i64 o), (6, .int .i64 o)]).run Try.prog wz =
    .ok (.agg (logC p (.slice none 0 0) (.slice none 0 0) ⟨f, c, t, o, o, o, [], [], 0⟩)) wz := run_build wz _ _ _ (by kernel_rfl)
end Go.Proofs.Ytbolbddjmmfepaa
