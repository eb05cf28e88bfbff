/-
  No statement is proved here: the contract of the closure 'put' of page's Diff.
-/
import Derived.Test.YtndflnedkpmpfaaGreatDoorPdm
import Derived.Test.YtndflnedkpmpfaaGreatDoorOrd
import Derived.Deep.RegionHeld3
namespace Go.Proofs.YtndflnedkpmpfaaGreatDoor
open Go.RowKit

theorem step_append {P : Program} {w : World} {ops : Array Oper} {o : Oper} {a : Act} {K : Act → World → Prop} {Q : Exit → Act → World → Prop} {E : Prop} (hgd : o.guard = none) (s x : Operand) (t : TypeId)
    (ho : o.op = .call { callee := .builtin .append, args := #[s, x], argTypes := #[t, t] })
    (base : Nat) (e : TypeId) {z : Value} {size bytes : Nat} (ht : P.underlying t = some (.slice e)) (hinf : (P.info? e).map (fun i => (i.zero, i.size, i.bytes)) = some (some z, size, bytes)) (hzs : z.cells.size = size) (hsz : 0 < size)
    (v : Value) (n : Nat) (xs : List Value) (hs : a.eval s = v) (hown : w.ownsRow base e size v n xs)
    (b off m c : Nat) (news : List Value) (hx : a.eval x = .slice (some ⟨b, off, none⟩) m c) (hl : news.length = m * size) (hnews : ∀ j u, news[j]? = some u → w.cell? ⟨b, off + j, none⟩ = some u) (h1 : ∀ u ∈ news, u.oneCell' = true)
    (hm : 0 < m) (h63 : n + m ≤ maxLen) (hbytes : (n + m) * bytes ≤ 140737488355328) (hbase : base ≤ w.heap.size)
    (k : ∀ g cap w', w'.ownsRow base e size (.slice (some ⟨g, 0, none⟩) (n + m) cap) (n + m) (xs ++ news) → Kept (fun x => v.ownBlock = some x) w w' → (v.ownBlock = some g ∨ w.heap.size ≤ g) → g < w'.heap.size →
      K (a.put o.dst (.slice (some ⟨g, 0, none⟩) (n + m) cap)) w') :
    if Region.wanted o (yielded ops a.tmps) = true then Oper.wp P o a w K Q else E := by
  obtain ⟨i, hi, h2, h3, h4⟩ := info_parts hinf
  refine step_append_lies w hgd s x t ho base e i z size bytes ht hi h2 h3 h4 hzs hsz v n xs hs hown ⟨b, off, none⟩ m c news hx hl (fun j u hu => by rw [Addr.add_mid]; exact hnews j u hu) h1 hm h63 hbytes hbase w.heap.size rfl ?_
  intro g cap w' hown' hgr hat hlt
  exact k g cap w' hown' ((Kept.refl _ w).grown hgr (fun x hx => .inr hx)) (hat.imp id (fun e => by omega)) hlt
/-- One span, with the rows that hold its bytes. -/
structure SpD where
  f : Nat
  t : Nat
  g1 : Nat
  c1 : Nat
  g2 : Nat
  c2 : Nat
def spVals (s : SpD) : List Value := [.int .i64 0, .int .i64 s.f, .slice (some ⟨s.g1, 0, none⟩) (s.t - s.f) s.c1, .slice (some ⟨s.g2, 0, none⟩) (s.t - s.f) s.c2]
def rowSp (L : List SpD) : List Value := (L.map spVals).flatten
def OwnSp (w : World) (base : Nat) (v : Value) (L : List SpD) : Prop := w.ownsRow base 46 4 v L.length (rowSp L)
def SegsAt (w : World) (base : Nat) (a b : Bytes) (L : List SpD) : Prop := ∀ s ∈ L, OwnB w base s.g1 s.c1 (segB a (s.f, s.t)) ∧ OwnB w base s.g2 s.c2 (segB b (s.f, s.t))
theorem infoSpan : ((Tryz.prog).info? 46).map (fun i => (i.zero, i.size, i.bytes)) = some (some (.agg #[.int .i64 0, .int .i64 0, .slice none 0 0, .slice none 0 0]), 4, 64) := by kernel_rfl
/-- The five variables that 'put' captured. -/
def DC (w : World) (cf co ca ct cb : Nat) (A B : Option Addr) (ac bc : Nat) (f : Int) (t : Nat) (v : Value) : Prop :=
  w.cell? ⟨cf, 0, none⟩ = some (.int .i64 f) ∧ w.cell? ⟨co, 0, none⟩ = some v ∧ w.cell? ⟨ca, 0, none⟩ = some (.slice A 512 ac) ∧ w.cell? ⟨ct, 0, none⟩ = some (.int .i64 t) ∧ w.cell? ⟨cb, 0, none⟩ = some (.slice B 512 bc)
theorem DC.kept {S : Nat → Prop} {w w' : World} {cf co ca ct cb : Nat} {A B : Option Addr} {ac bc : Nat} {f : Int} {t : Nat} {v : Value} (h : DC w cf co ca ct cb A B ac bc f t v) (hk : Kept S w w') (h1 : ¬ S cf) (h2 : ¬ S co) (h3 : ¬ S ca) (h4 : ¬ S ct) (h5 : ¬ S cb) : DC w' cf co ca ct cb A B ac bc f t v := by
  obtain ⟨c1, c2, c3, c4, c5⟩ := h
  exact ⟨(World.cell?_of_block (hk.block _ (block_lt_of_cell c1) h1)).trans c1, (World.cell?_of_block (hk.block _ (block_lt_of_cell c2) h2)).trans c2, (World.cell?_of_block (hk.block _ (block_lt_of_cell c3) h3)).trans c3,
    (World.cell?_of_block (hk.block _ (block_lt_of_cell c4) h4)).trans c4, (World.cell?_of_block (hk.block _ (block_lt_of_cell c5) h5)).trans c5⟩
theorem clone_seg {x off ac : Nat} {a : Bytes} {w : World} (h : RdB w (some ⟨x, off, none⟩) a) (n t : Nat) (h1 : n < t) (h2 : t ≤ a.length) (ha : a.length ≤ 1000000) :
    Calls Tryz.prog 29 #[.slice (some ⟨x, off + n, none⟩) (t - n) (ac - n)] w fun e w' => ∃ g cap, e = .returned (.slice (some ⟨g, 0, none⟩) (t - n) cap) ∧ OwnB w' w.heap.size g cap (segB a (n, t)) ∧ Kept (fun _ => False) w w' := by
  have hl : (segB a (n, t)).length = t - n := segB_len (s := (n, t)) h2
  have := clone_any x (off + n) (ac - n) (segB a (n, t)) w ((h.take t).drop n) (by omega)
  rw [hl] at this
  exact this
set_option maxRecDepth 100000 in
set_option maxHeartbeats 1000000 in
theorem put_no (cf co ca ct cb : Nat) (A B : Option Addr) (ac bc : Nat) (t : Nat) (v : Value) (w : World) (h : DC w cf co ca ct cb A B ac bc (-1) t v) :
    Calls Tryz.prog 28 #[.pointer (some ⟨cf, 0, none⟩), .pointer (some ⟨co, 0, none⟩), .pointer (some ⟨ca, 0, none⟩), .pointer (some ⟨ct, 0, none⟩), .pointer (some ⟨cb, 0, none⟩)] w fun e w' => e = .returned (.tuple #[]) ∧ w' = w := by
  obtain ⟨c1, -⟩ := h
  go_enter Tryz.func28, Tryz.ntmps28
  go_wp2
  go_end0
  exact ⟨rfl, rfl⟩
theorem OwnSp.blk {w : World} {base x : Nat} {v : Value} {L : List SpD} (h : OwnSp w base v L) (hx : v.ownBlock = some x) : base ≤ x ∧ ∃ cur, w.heap[x]? = some (.cells cur 46 (0, 0)) := by
  rcases h.2 with ⟨rfl, -⟩ | ⟨g, cap, cur, rfl, hb, hh, -⟩
  · simp [Value.ownBlock] at hx
  · have e : g = x := by simpa [Value.ownBlock] using hx
    subst e
    exact ⟨hb, cur, hh⟩
theorem OwnSp.kept {S : Nat → Prop} {w w' : World} {base : Nat} {v : Value} {L : List SpD} (h : OwnSp w base v L) (hk : Kept S w w') (hS : ∀ x, S x → x < base) : OwnSp w' base v L := by
  rcases h with ⟨h0, h | ⟨g, cap, cur, hv, hb, hh, r⟩⟩
  · exact ⟨h0, .inl h⟩
  · exact ⟨h0, .inr ⟨g, cap, cur, hv, hb, hk.heap hh (fun e => by have := hS g e; omega), r⟩⟩
theorem SegsAt.keep {S : Nat → Prop} {w w' : World} {base : Nat} {a b : Bytes} {L : List SpD} (h : SegsAt w base a b L) (hk : Kept S w w') (hS : ∀ x cur, w.heap[x]? = some (.cells cur 5 (0, 0)) → base ≤ x → ¬ S x) : SegsAt w' base a b L := by
  intro s hs
  obtain ⟨h1, h2⟩ := h s hs
  have e1 := h1.form
  have e2 := h2.form
  obtain ⟨u1, b1, k1, -⟩ := e1
  obtain ⟨u2, b2, k2, -⟩ := e2
  exact ⟨h1.keep hk (hS _ u1 k1 b1), h2.keep hk (hS _ u2 k2 b2)⟩
theorem rowSp_snoc (L : List SpD) (s : SpD) : rowSp (L ++ [s]) = rowSp L ++ spVals s := by simp [rowSp]
theorem SegsAt.snoc {w : World} {base : Nat} {a b : Bytes} {L : List SpD} {s : SpD} (h : SegsAt w base a b L) (h1 : OwnB w base s.g1 s.c1 (segB a (s.f, s.t))) (h2 : OwnB w base s.g2 s.c2 (segB b (s.f, s.t))) : SegsAt w base a b (L ++ [s]) := by
  intro u hu
  rcases List.mem_append.1 hu with hu | hu
  · exact h u hu
  · simp at hu
    subst hu
    exact ⟨h1, h2⟩
theorem OwnB.low {w : World} {base base' g cap : Nat} {l : Bytes} (h : OwnB w base g cap l) (hb : base' ≤ base) : OwnB w base' g cap l := by
  unfold OwnB at *
  obtain ⟨h0, h⟩ := h
  exact ⟨h0, h.elim .inl (fun ⟨g, cap, cur, hv, hg, r⟩ => .inr ⟨g, cap, cur, hv, Nat.le_trans hb hg, r⟩)⟩
set_option maxRecDepth 100000 in
set_option maxHeartbeats 4000000 in
theorem put_some (cf co ca ct cb xa oa xb ob : Nat) (ac bc n t base : Nat) (v : Value) (w : World) (a b : Bytes) (L : List SpD) (h : DC w cf co ca ct cb (some ⟨xa, oa, none⟩) (some ⟨xb, ob, none⟩) ac bc (n : Int) t v)
    (ho : w.heap[co]? = some (.cells #[v] 34 (0, 0))) (hb : cf < base ∧ co < base ∧ ca < base ∧ ct < base ∧ cb < base) (hd : cf ≠ co ∧ ca ≠ co ∧ ct ≠ co ∧ cb ≠ co) (hbs : base ≤ w.heap.size) (hL : OwnSp w base v L) (hS : SegsAt w base a b L)
    (ha : RdB w (some ⟨xa, oa, none⟩) a) (hb' : RdB w (some ⟨xb, ob, none⟩) b) (la : a.length = 512) (lb : b.length = 512) (hac : 512 ≤ ac) (hac2 : ac ≤ 9223372036854775807) (hbc : 512 ≤ bc) (hbc2 : bc ≤ 9223372036854775807) (h1 : n < t) (h2 : t ≤ 512) (hlen : L.length ≤ 600) :
    Calls Tryz.prog 28 #[.pointer (some ⟨cf, 0, none⟩), .pointer (some ⟨co, 0, none⟩), .pointer (some ⟨ca, 0, none⟩), .pointer (some ⟨ct, 0, none⟩), .pointer (some ⟨cb, 0, none⟩)] w fun e w' => e = .returned (.tuple #[]) ∧
      ∃ v' L', DC w' cf co ca ct cb (some ⟨xa, oa, none⟩) (some ⟨xb, ob, none⟩) ac bc (n : Int) t v' ∧ w'.heap[co]? = some (.cells #[v'] 34 (0, 0)) ∧ OwnSp w' base v' L' ∧ SegsAt w' base a b L' ∧ L'.map (fun s => (s.f, s.t)) = L.map (fun s => (s.f, s.t)) ++ [(n, t)] ∧ Kept (fun x => x = co ∨ base ≤ x) w w' := by
  have H := Lib.hid h
  have HO := Lib.hid ho
  have HL := Lib.hid hL
  have HS := Lib.hid hS
  have HA := Lib.hid ha
  have HB := Lib.hid hb'
  have LA := Lib.hid la
  have LB := Lib.hid lb
  have HD := Lib.hid hd
  obtain ⟨c1, c2, c3, c4, c5⟩ := h
  have i0 : ((n : Int) < 0) = False := by simp
  have i1 : (0 : Int) ≤ (n : Int) := by omega
  have i2 : (n : Int) ≤ (t : Int) := by omega
  have i3 : (t : Int) ≤ (ac : Int) := by omega
  have i4 : (t : Int) ≤ (bc : Int) := by omega
  have i5 : ¬ ac = n := by omega
  have i6 : ¬ bc = n := by omega
  have i7 : n ≤ t := by omega
  have i8 : t ≤ ac := by omega
  have i9 : t ≤ bc := by omega
  clear ho hL hS ha hb' la lb hd
  have H1 := Lib.hid ((show DC w cf co ca ct cb _ _ ac bc (n : Int) t v from ⟨c1, c2, c3, c4, c5⟩).kept ((Kept.refl (fun _ => False) w).drew) id id id id id)
  have HA1 := Lib.hid (HA.out.kept ((Kept.refl (fun _ => False) w).drew) (fun _ _ _ _ => id))
  have HB1 := Lib.hid (HB.out.kept ((Kept.refl (fun _ => False) w).drew) (fun _ _ _ _ => id))
  go_enter Tryz.func28, Tryz.ntmps28
  go_wp2
  refine startL 15 (fun w' => DC w' cf co ca ct cb (some ⟨xa, oa, none⟩) (some ⟨xb, ob, none⟩) ac bc (n : Int) t v) (by kernel_rfl) H1.out (fun hH => ?_)
  simp only [List.length_cons, List.length_nil, List.replicate]
  refine takeL 0 v rfl (by kernel_rfl) (fun _ _ _ h => h) (by rfl) (fun w' hw' => ?_) hH ?_
  · obtain ⟨r1, r2, r3, r4, r5⟩ := hw'
    go_simp
  simp only [Act.put, List.setIfInBounds_toArray, List.set_cons_zero, List.set_cons_succ]
  refine takeL 1 (.int .i64 (n : Int)) rfl (by kernel_rfl) (fun _ _ _ h => h) (by rfl) (fun w' hw' => ?_) hH ?_
  · obtain ⟨r1, r2, r3, r4, r5⟩ := hw'
    go_simp
  simp only [Act.put, List.setIfInBounds_toArray, List.set_cons_zero, List.set_cons_succ]
  refine takeL 2 (.slice (some ⟨xa, oa, none⟩) 512 ac) rfl (by kernel_rfl) (fun _ _ _ h => h) (by rfl) (fun w' hw' => ?_) hH ?_
  · obtain ⟨r1, r2, r3, r4, r5⟩ := hw'
    go_simp
  simp only [Act.put, List.setIfInBounds_toArray, List.set_cons_zero, List.set_cons_succ]
  refine takeL 3 (.int .i64 (n : Int)) rfl (by kernel_rfl) (fun _ _ _ h => h) (by rfl) (fun w' hw' => ?_) hH ?_
  · obtain ⟨r1, r2, r3, r4, r5⟩ := hw'
    go_simp
  simp only [Act.put, List.setIfInBounds_toArray, List.set_cons_zero, List.set_cons_succ]
  refine takeL 4 (.int .i64 (t : Int)) rfl (by kernel_rfl) (fun _ _ _ h => h) (by rfl) (fun w' hw' => ?_) hH ?_
  · obtain ⟨r1, r2, r3, r4, r5⟩ := hw'
    go_simp
  simp only [Act.put, List.setIfInBounds_toArray, List.set_cons_zero, List.set_cons_succ]
  refine takeL 7 (.slice (some ⟨xb, ob, none⟩) 512 bc) rfl (by kernel_rfl) (fun _ _ _ h => h) (by rfl) (fun w' hw' => ?_) hH ?_
  · obtain ⟨r1, r2, r3, r4, r5⟩ := hw'
    go_simp
  simp only [Act.put, List.setIfInBounds_toArray, List.set_cons_zero, List.set_cons_succ]
  refine takeL 8 (.int .i64 (n : Int)) rfl (by kernel_rfl) (fun _ _ _ h => h) (by rfl) (fun w' hw' => ?_) hH ?_
  · obtain ⟨r1, r2, r3, r4, r5⟩ := hw'
    go_simp
  simp only [Act.put, List.setIfInBounds_toArray, List.set_cons_zero, List.set_cons_succ]
  refine takeL 9 (.int .i64 (t : Int)) rfl (by kernel_rfl) (fun _ _ _ h => h) (by rfl) (fun w' hw' => ?_) hH ?_
  · obtain ⟨r1, r2, r3, r4, r5⟩ := hw'
    go_simp
  simp only [Act.put, List.setIfInBounds_toArray, List.set_cons_zero, List.set_cons_succ]
  refine takeL 5 ?_ rfl (by kernel_rfl) (fun _ _ _ h => h) (by rfl) (fun w' hw' => ?_) hH ?_
  rotate_left
  · clear hw'
    go_simp
    with_reducible rfl
  simp only [Act.put, List.setIfInBounds_toArray, List.set_cons_zero, List.set_cons_succ]
  refine takeL 10 ?_ rfl (by kernel_rfl) (fun _ _ _ h => h) (by rfl) (fun w' hw' => ?_) hH ?_
  rotate_left
  · clear hw'
    go_simp
    with_reducible rfl
  simp only [Act.put, List.setIfInBounds_toArray, List.set_cons_zero, List.set_cons_succ]
  refine stepL 6 rfl (by kernel_rfl) (fun K hK => ?_)
  go_simp
  go_at_call 29
  refine (clone_seg HA1.out n t h1 (by rw [LA.out]; exact h2) (by rw [LA.out]; decide)).mono ?_
  rintro e w2 ⟨g1, k1, rfl, hx1, hk2⟩
  have hS2 := H1.out.kept hk2 id id id id id
  have K2 := Lib.hid hk2
  have X1 := Lib.hid hx1
  have HB2 := Lib.hid (HB1.out.kept hk2 (fun _ _ _ _ => id))
  clear hx1 hk2
  go_simp
  refine hK.out _ _ (fun _ => hS2) (fun _ => ?_)
  simp only [Act.put, List.setIfInBounds_toArray, List.set_cons_zero, List.set_cons_succ]
  clear hK K
  refine stepL 11 rfl (by kernel_rfl) (fun K hK => ?_)
  go_simp
  go_at_call 29
  refine (clone_seg HB2.out n t h1 (by rw [LB.out]; exact h2) (by rw [LB.out]; decide)).mono ?_
  rintro e w3 ⟨g2, k2, rfl, hx2, hk3⟩
  have hS3 := hS2.kept hk3 id id id id id
  have K3 := Lib.hid (K2.out.trans0 hk3)
  have X2 := Lib.hid hx2
  have X1' := Lib.hid (X1.out.kept hk3)
  clear hx2 hk3
  go_simp
  refine hK.out _ _ (fun _ => hS3) (fun _ => ?_)
  simp only [Act.put, List.setIfInBounds_toArray, List.set_cons_zero, List.set_cons_succ]
  clear hK K
  refine takeL 12 (.agg #[.int .i64 0, .int .i64 (n : Int), .slice (some ⟨g1, 0, none⟩) (t - n) k1, .slice (some ⟨g2, 0, none⟩) (t - n) k2]) rfl (by kernel_rfl) (fun _ _ _ h => h) (by rfl) (fun w' hw' => ?_) hS3 ?_
  · clear hw'
    go_simp
  simp only [Act.put, List.setIfInBounds_toArray, List.set_cons_zero, List.set_cons_succ]
  refine stepL 13 rfl (by kernel_rfl) (fun K hK => ?_)
  go_simp
  have ka3 : Kept (fun _ => False) w (w3.alloc (.cells #[.int .i64 0, .int .i64 (n : Int), .slice (some ⟨g1, 0, none⟩) (t - n) k1, .slice (some ⟨g2, 0, none⟩) (t - n) k2] 46)) := (((Kept.refl (fun _ => False) w).drew).trans0 K3.out).alloc _
  have kb3 : Kept (fun _ => False) w3 (w3.alloc (.cells #[.int .i64 0, .int .i64 (n : Int), .slice (some ⟨g1, 0, none⟩) (t - n) k1, .slice (some ⟨g2, 0, none⟩) (t - n) k2] 46)) := (Kept.refl (fun _ => False) w3).alloc _
  have hS4 := hS3.kept kb3 id id id id id
  refine hK.out _ _ (fun _ => hS4) (fun _ => ?_)
  simp only [Act.put, List.setIfInBounds_toArray, List.set_cons_zero, List.set_cons_succ]
  clear hK K
  refine stepL 14 rfl (by kernel_rfl) (fun K hK => ?_)
  have HL3 := Lib.hid (HL.out.kept ka3 (fun _ h => h.elim))
  have KA3 := Lib.hid ka3
  have KB3 := Lib.hid kb3
  have sz3 := ka3.size
  have HX := Lib.hid (fun x (e : v.ownBlock = some x) => HL3.out.blk e)
  clear ka3 kb3
  refine step_append rfl _ _ _ (by rfl) base 46 Tryz.underlying34 infoSpan rfl (by omega) v L.length (rowSp L) (by rfl) HL3.out w3.heap.size 0 1 1 [.int .i64 0, .int .i64 (n : Int), .slice (some ⟨g1, 0, none⟩) (t - n) k1, .slice (some ⟨g2, 0, none⟩) (t - n) k2] (by rfl) rfl (fun j u hu => cell_blk (heap_alloc_new w3 _) (by simpa using hu)) (by simp [Value.oneCell']) (by omega) (by have : maxLen = 9223372036854775807 := rfl; omega) (by omega) (by omega) ?_
  intro g4 k4 w4 ho4 hk4 hat4 m4
  have hS5 := hS4.kept hk4 (fun e => by have := (HX.out _ e).1; omega) (fun e => by have := (HX.out _ e).1; omega) (fun e => by have := (HX.out _ e).1; omega) (fun e => by have := (HX.out _ e).1; omega) (fun e => by have := (HX.out _ e).1; omega)
  refine hK.out _ _ (fun _ => hS5) (fun _ => ?_)
  simp only [Act.put, List.setIfInBounds_toArray, List.set_cons_zero, List.set_cons_succ]
  clear hK K
  have hco4 : w4.heap[co]? = some (.cells #[v] 34 (0, 0)) := hk4.heap (KA3.out.heap HO.out id) (fun e => by have := (HX.out _ e).1; omega)
  have c24 := hS5.2.1
  have f4 := free_blk hco4 0
  have HK4 := Lib.hid hk4
  have HO4 := Lib.hid ho4
  have HC4 := Lib.hid hco4
  have HS5 := Lib.hid hS5
  clear hk4 ho4 hco4 hS5 hS4 hS3 hS2
  refine stepL 15 rfl (by kernel_rfl) (fun K hK => ?_)
  go_simp
  refine hK.out _ _ (fun h => absurd rfl h) (fun _ => ?_)
  simp only [Act.put, List.setIfInBounds_toArray, List.set_cons_zero, List.set_cons_succ]
  clear hK K
  refine doneL (by kernel_rfl) ?_ _
  go_wp2
  go_end0
  have hl4 : Kept (fun x => x = co ∨ base ≤ x) w w4 := (KA3.out.mono (fun _ _ h => h.elim)).trans HK4.out (fun x _ e => .inr (HX.out _ e).1)
  have kc : Kept (fun x => x = co) w4 (w4.setCell ⟨co, 0, none⟩ (.slice (some ⟨g4, 0, none⟩) (L.length + 1) k4)) := Kept.cell _ _ _ _
  refine ⟨rfl, .slice (some ⟨g4, 0, none⟩) (L.length + 1) k4, L ++ [⟨n, t, g1, k1, g2, k2⟩], ?_, ?_, ?_, ?_, ?_, ?_⟩
  · obtain ⟨c1, -, c3, c4, c5⟩ := HS5.out
    obtain ⟨d1, d3, d4, d5⟩ := HD.out
    exact ⟨(World.cell?_of_block (kc.block _ (block_lt_of_cell c1) d1)).trans c1, cell_blk (set_blk HC4.out 0 _) (by simp), (World.cell?_of_block (kc.block _ (block_lt_of_cell c3) d3)).trans c3,
      (World.cell?_of_block (kc.block _ (block_lt_of_cell c4) d4)).trans c4, (World.cell?_of_block (kc.block _ (block_lt_of_cell c5) d5)).trans c5⟩
  · simpa using set_blk HC4.out 0 (.slice (some ⟨g4, 0, none⟩) (L.length + 1) k4)
  · refine OwnSp.kept (w := w4) ?_ kc (fun x e => by omega)
    unfold OwnSp
    rw [rowSp_snoc, List.length_append]
    exact HO4.out
  · refine SegsAt.keep (w := w4) ?_ kc (fun x cur _ hx e => by omega)
    have hx4 : ∀ (x : Nat) (cur : Array Value), (w3.alloc _).heap[x]? = some (.cells cur 5 (0, 0)) → base ≤ x → ¬ v.ownBlock = some x := fun x cur hx _ e => by
      obtain ⟨-, cur', h'⟩ := HX.out _ e
      rw [hx] at h'
      cases h'
    refine SegsAt.keep (w := w3.alloc _) ?_ HK4.out hx4
    refine SegsAt.snoc (HS.out.keep KA3.out (fun _ _ _ _ h => h.elim)) ?_ ?_
    · exact ((X1'.out.kept KB3.out).low (by simpa using hbs))
    · exact ((X2.out.kept KB3.out).low (by have := K2.out.size; simp at this; omega))
  · simp
  · exact hl4.trans kc (fun x _ e => .inl e)
end Go.Proofs.YtndflnedkpmpfaaGreatDoor
