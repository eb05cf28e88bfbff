/-
  No statement is proved here: the closure 'put' of page's Diff, and that the rows of its bytes are each other's strangers.
-/
import Derived.Test.YtndflnedkpmpfaaGreatDoorPdg
namespace Go.Proofs.YtndflnedkpmpfaaGreatDoor
open Go.RowKit

/-- The rows of all bytes. -/
def gsOf (L : List SpD) : List Nat := L.flatMap fun s => [s.g1, s.g2]
def GsN (L : List SpD) : Prop := (gsOf L).Nodup
theorem gsOf_snoc (L : List SpD) (s : SpD) : gsOf (L ++ [s]) = gsOf L ++ [s.g1, s.g2] := by simp [gsOf]
theorem OwnB.ltg {w : World} {base g cap : Nat} {l : Bytes} (h : OwnB w base g cap l) : base ≤ g ∧ g < w.heap.size := by
  obtain ⟨u, h1, h2, -⟩ := h.form
  exact ⟨h1, heap_lt h2⟩
theorem SegsAt.lt {w : World} {base : Nat} {a b : Bytes} {L : List SpD} (h : SegsAt w base a b L) : ∀ x ∈ gsOf L, base ≤ x ∧ x < w.heap.size := by
  intro x hx
  obtain ⟨s, hs, hx⟩ := List.mem_flatMap.1 hx
  have := h s hs
  simp only [List.mem_cons, List.not_mem_nil, or_false] at hx
  rcases hx with rfl | rfl
  · exact this.1.ltg
  · exact this.2.ltg
theorem GsN.snoc {L : List SpD} {s : SpD} {n : Nat} (h : GsN L) (hn : ∀ x ∈ gsOf L, x < n) (h1 : n ≤ s.g1) (h2 : s.g1 < s.g2) : GsN (L ++ [s]) := by
  unfold GsN
  rw [gsOf_snoc]
  refine List.nodup_append.2 ⟨h, ?_, fun x hx y hy => ?_⟩
  · simp; omega
  · have := hn x hx
    simp only [List.mem_cons, List.not_mem_nil, or_false] at hy
    rcases hy with rfl | rfl <;> omega
set_option maxRecDepth 100000 in
set_option maxHeartbeats 4000000 in
theorem put_someN (cf co ca ct cb xa oa xb ob : Nat) (ac bc n t base : Nat) (v : Value) (w : World) (a b : Bytes) (L : List SpD) (h : DC w cf co ca ct cb (some ⟨xa, oa, none⟩) (some ⟨xb, ob, none⟩) ac bc (n : Int) t v)
    (ho : w.heap[co]? = some (.cells #[v] 34 (0, 0))) (hb : cf < base ∧ co < base ∧ ca < base ∧ ct < base ∧ cb < base) (hd : cf ≠ co ∧ ca ≠ co ∧ ct ≠ co ∧ cb ≠ co) (hbs : base ≤ w.heap.size) (hL : OwnSp w base v L) (hS : SegsAt w base a b L)
    (ha : RdB w (some ⟨xa, oa, none⟩) a) (hb' : RdB w (some ⟨xb, ob, none⟩) b) (la : a.length = 512) (lb : b.length = 512) (hac : 512 ≤ ac) (hac2 : ac ≤ 9223372036854775807) (hbc : 512 ≤ bc) (hbc2 : bc ≤ 9223372036854775807) (h1 : n < t) (h2 : t ≤ 512) (hlen : L.length ≤ 600) (hG : GsN L) :
    Calls Tryz.prog 28 #[.pointer (some ⟨cf, 0, none⟩), .pointer (some ⟨co, 0, none⟩), .pointer (some ⟨ca, 0, none⟩), .pointer (some ⟨ct, 0, none⟩), .pointer (some ⟨cb, 0, none⟩)] w fun e w' => e = .returned (.tuple #[]) ∧
      ∃ v' L', DC w' cf co ca ct cb (some ⟨xa, oa, none⟩) (some ⟨xb, ob, none⟩) ac bc (n : Int) t v' ∧ w'.heap[co]? = some (.cells #[v'] 34 (0, 0)) ∧ OwnSp w' base v' L' ∧ SegsAt w' base a b L' ∧ L'.map (fun s => (s.f, s.t)) = L.map (fun s => (s.f, s.t)) ++ [(n, t)] ∧ GsN L' ∧ Kept (fun x => x = co ∨ base ≤ x) w w' := by
  have H := Lib.hid h
  have HO := Lib.hid ho
  have HL := Lib.hid hL
  have HS := Lib.hid hS
  have HA := Lib.hid ha
  have HB := Lib.hid hb'
  have LA := Lib.hid la
  have LB := Lib.hid lb
  have HD := Lib.hid hd
  obtain ⟨c1, c2, c3, c4, c5⟩ := h
  have i0 : ((n : Int) < 0) = False := by simp
  have i1 : (0 : Int) ≤ (n : Int) := by omega
  have i2 : (n : Int) ≤ (t : Int) := by omega
  have i3 : (t : Int) ≤ (ac : Int) := by omega
  have i4 : (t : Int) ≤ (bc : Int) := by omega
  have i5 : ¬ ac = n := by omega
  have i6 : ¬ bc = n := by omega
  have i7 : n ≤ t := by omega
  have i8 : t ≤ ac := by omega
  have i9 : t ≤ bc := by omega
  clear ho hL hS ha hb' la lb hd
  have H1 := Lib.hid ((show DC w cf co ca ct cb _ _ ac bc (n : Int) t v from ⟨c1, c2, c3, c4, c5⟩).kept ((Kept.refl (fun _ => False) w).drew) id id id id id)
  have HA1 := Lib.hid (HA.out.kept ((Kept.refl (fun _ => False) w).drew) (fun _ _ _ _ => id))
  have HB1 := Lib.hid (HB.out.kept ((Kept.refl (fun _ => False) w).drew) (fun _ _ _ _ => id))
  go_enter Tryz.func28, Tryz.ntmps28
  go_wp2
  refine startL 15 (fun w' => DC w' cf co ca ct cb (some ⟨xa, oa, none⟩) (some ⟨xb, ob, none⟩) ac bc (n : Int) t v) (by kernel_rfl) H1.out (fun hH => ?_)
  simp only [List.length_cons, List.length_nil, List.replicate]
  refine takeL 0 v rfl (by kernel_rfl) (fun _ _ _ h => h) (by rfl) (fun w' hw' => ?_) hH ?_
  · obtain ⟨r1, r2, r3, r4, r5⟩ := hw'
    go_simp
  simp only [Act.put, List.setIfInBounds_toArray, List.set_cons_zero, List.set_cons_succ]
  refine takeL 1 (.int .i64 (n : Int)) rfl (by kernel_rfl) (fun _ _ _ h => h) (by rfl) (fun w' hw' => ?_) hH ?_
  · obtain ⟨r1, r2, r3, r4, r5⟩ := hw'
    go_simp
  simp only [Act.put, List.setIfInBounds_toArray, List.set_cons_zero, List.set_cons_succ]
  refine takeL 2 (.slice (some ⟨xa, oa, none⟩) 512 ac) rfl (by kernel_rfl) (fun _ _ _ h => h) (by rfl) (fun w' hw' => ?_) hH ?_
  · obtain ⟨r1, r2, r3, r4, r5⟩ := hw'
    go_simp
  simp only [Act.put, List.setIfInBounds_toArray, List.set_cons_zero, List.set_cons_succ]
  refine takeL 3 (.int .i64 (n : Int)) rfl (by kernel_rfl) (fun _ _ _ h => h) (by rfl) (fun w' hw' => ?_) hH ?_
  · obtain ⟨r1, r2, r3, r4, r5⟩ := hw'
    go_simp
  simp only [Act.put, List.setIfInBounds_toArray, List.set_cons_zero, List.set_cons_succ]
  refine takeL 4 (.int .i64 (t : Int)) rfl (by kernel_rfl) (fun _ _ _ h => h) (by rfl) (fun w' hw' => ?_) hH ?_
  · obtain ⟨r1, r2, r3, r4, r5⟩ := hw'
    go_simp
  simp only [Act.put, List.setIfInBounds_toArray, List.set_cons_zero, List.set_cons_succ]
  refine takeL 7 (.slice (some ⟨xb, ob, none⟩) 512 bc) rfl (by kernel_rfl) (fun _ _ _ h => h) (by rfl) (fun w' hw' => ?_) hH ?_
  · obtain ⟨r1, r2, r3, r4, r5⟩ := hw'
    go_simp
  simp only [Act.put, List.setIfInBounds_toArray, List.set_cons_zero, List.set_cons_succ]
  refine takeL 8 (.int .i64 (n : Int)) rfl (by kernel_rfl) (fun _ _ _ h => h) (by rfl) (fun w' hw' => ?_) hH ?_
  · obtain ⟨r1, r2, r3, r4, r5⟩ := hw'
    go_simp
  simp only [Act.put, List.setIfInBounds_toArray, List.set_cons_zero, List.set_cons_succ]
  refine takeL 9 (.int .i64 (t : Int)) rfl (by kernel_rfl) (fun _ _ _ h => h) (by rfl) (fun w' hw' => ?_) hH ?_
  · obtain ⟨r1, r2, r3, r4, r5⟩ := hw'
    go_simp
  simp only [Act.put, List.setIfInBounds_toArray, List.set_cons_zero, List.set_cons_succ]
  refine takeL 5 ?_ rfl (by kernel_rfl) (fun _ _ _ h => h) (by rfl) (fun w' hw' => ?_) hH ?_
  rotate_left
  · clear hw'
    go_simp
    with_reducible rfl
  simp only [Act.put, List.setIfInBounds_toArray, List.set_cons_zero, List.set_cons_succ]
  refine takeL 10 ?_ rfl (by kernel_rfl) (fun _ _ _ h => h) (by rfl) (fun w' hw' => ?_) hH ?_
  rotate_left
  · clear hw'
    go_simp
    with_reducible rfl
  simp only [Act.put, List.setIfInBounds_toArray, List.set_cons_zero, List.set_cons_succ]
  refine stepL 6 rfl (by kernel_rfl) (fun K hK => ?_)
  go_simp
  go_at_call 29
  refine (clone_seg HA1.out n t h1 (by rw [LA.out]; exact h2) (by rw [LA.out]; decide)).mono ?_
  rintro e w2 ⟨g1, k1, rfl, hx1, hk2⟩
  have hS2 := H1.out.kept hk2 id id id id id
  have K2 := Lib.hid hk2
  have X1 := Lib.hid hx1
  have HB2 := Lib.hid (HB1.out.kept hk2 (fun _ _ _ _ => id))
  clear hx1 hk2
  go_simp
  refine hK.out _ _ (fun _ => hS2) (fun _ => ?_)
  simp only [Act.put, List.setIfInBounds_toArray, List.set_cons_zero, List.set_cons_succ]
  clear hK K
  refine stepL 11 rfl (by kernel_rfl) (fun K hK => ?_)
  go_simp
  go_at_call 29
  refine (clone_seg HB2.out n t h1 (by rw [LB.out]; exact h2) (by rw [LB.out]; decide)).mono ?_
  rintro e w3 ⟨g2, k2, rfl, hx2, hk3⟩
  have hS3 := hS2.kept hk3 id id id id id
  have K3 := Lib.hid (K2.out.trans0 hk3)
  have X2 := Lib.hid hx2
  have X1' := Lib.hid (X1.out.kept hk3)
  clear hx2 hk3
  go_simp
  refine hK.out _ _ (fun _ => hS3) (fun _ => ?_)
  simp only [Act.put, List.setIfInBounds_toArray, List.set_cons_zero, List.set_cons_succ]
  clear hK K
  refine takeL 12 (.agg #[.int .i64 0, .int .i64 (n : Int), .slice (some ⟨g1, 0, none⟩) (t - n) k1, .slice (some ⟨g2, 0, none⟩) (t - n) k2]) rfl (by kernel_rfl) (fun _ _ _ h => h) (by rfl) (fun w' hw' => ?_) hS3 ?_
  · clear hw'
    go_simp
  simp only [Act.put, List.setIfInBounds_toArray, List.set_cons_zero, List.set_cons_succ]
  refine stepL 13 rfl (by kernel_rfl) (fun K hK => ?_)
  go_simp
  have ka3 : Kept (fun _ => False) w (w3.alloc (.cells #[.int .i64 0, .int .i64 (n : Int), .slice (some ⟨g1, 0, none⟩) (t - n) k1, .slice (some ⟨g2, 0, none⟩) (t - n) k2] 46)) := (((Kept.refl (fun _ => False) w).drew).trans0 K3.out).alloc _
  have kb3 : Kept (fun _ => False) w3 (w3.alloc (.cells #[.int .i64 0, .int .i64 (n : Int), .slice (some ⟨g1, 0, none⟩) (t - n) k1, .slice (some ⟨g2, 0, none⟩) (t - n) k2] 46)) := (Kept.refl (fun _ => False) w3).alloc _
  have hS4 := hS3.kept kb3 id id id id id
  refine hK.out _ _ (fun _ => hS4) (fun _ => ?_)
  simp only [Act.put, List.setIfInBounds_toArray, List.set_cons_zero, List.set_cons_succ]
  clear hK K
  refine stepL 14 rfl (by kernel_rfl) (fun K hK => ?_)
  have HL3 := Lib.hid (HL.out.kept ka3 (fun _ h => h.elim))
  have KA3 := Lib.hid ka3
  have KB3 := Lib.hid kb3
  have sz3 := ka3.size
  have HX := Lib.hid (fun x (e : v.ownBlock = some x) => HL3.out.blk e)
  clear ka3 kb3
  refine step_append rfl _ _ _ (by rfl) base 46 Tryz.underlying34 infoSpan rfl (by omega) v L.length (rowSp L) (by rfl) HL3.out w3.heap.size 0 1 1 [.int .i64 0, .int .i64 (n : Int), .slice (some ⟨g1, 0, none⟩) (t - n) k1, .slice (some ⟨g2, 0, none⟩) (t - n) k2] (by rfl) rfl (fun j u hu => cell_blk (heap_alloc_new w3 _) (by simpa using hu)) (by simp [Value.oneCell']) (by omega) (by have : maxLen = 9223372036854775807 := rfl; omega) (by omega) (by omega) ?_
  intro g4 k4 w4 ho4 hk4 hat4 m4
  have hS5 := hS4.kept hk4 (fun e => by have := (HX.out _ e).1; omega) (fun e => by have := (HX.out _ e).1; omega) (fun e => by have := (HX.out _ e).1; omega) (fun e => by have := (HX.out _ e).1; omega) (fun e => by have := (HX.out _ e).1; omega)
  refine hK.out _ _ (fun _ => hS5) (fun _ => ?_)
  simp only [Act.put, List.setIfInBounds_toArray, List.set_cons_zero, List.set_cons_succ]
  clear hK K
  have hco4 : w4.heap[co]? = some (.cells #[v] 34 (0, 0)) := hk4.heap (KA3.out.heap HO.out id) (fun e => by have := (HX.out _ e).1; omega)
  have c24 := hS5.2.1
  have f4 := free_blk hco4 0
  have HK4 := Lib.hid hk4
  have HO4 := Lib.hid ho4
  have HC4 := Lib.hid hco4
  have HS5 := Lib.hid hS5
  clear hk4 ho4 hco4 hS5 hS4 hS3 hS2
  refine stepL 15 rfl (by kernel_rfl) (fun K hK => ?_)
  go_simp
  refine hK.out _ _ (fun h => absurd rfl h) (fun _ => ?_)
  simp only [Act.put, List.setIfInBounds_toArray, List.set_cons_zero, List.set_cons_succ]
  clear hK K
  refine doneL (by kernel_rfl) ?_ _
  go_wp2
  go_end0
  have hl4 : Kept (fun x => x = co ∨ base ≤ x) w w4 := (KA3.out.mono (fun _ _ h => h.elim)).trans HK4.out (fun x _ e => .inr (HX.out _ e).1)
  have kc : Kept (fun x => x = co) w4 (w4.setCell ⟨co, 0, none⟩ (.slice (some ⟨g4, 0, none⟩) (L.length + 1) k4)) := Kept.cell _ _ _ _
  refine ⟨rfl, .slice (some ⟨g4, 0, none⟩) (L.length + 1) k4, L ++ [⟨n, t, g1, k1, g2, k2⟩], ?_, ?_, ?_, ?_, ?_, ?_, ?_⟩
  · obtain ⟨c1, -, c3, c4, c5⟩ := HS5.out
    obtain ⟨d1, d3, d4, d5⟩ := HD.out
    exact ⟨(World.cell?_of_block (kc.block _ (block_lt_of_cell c1) d1)).trans c1, cell_blk (set_blk HC4.out 0 _) (by simp), (World.cell?_of_block (kc.block _ (block_lt_of_cell c3) d3)).trans c3,
      (World.cell?_of_block (kc.block _ (block_lt_of_cell c4) d4)).trans c4, (World.cell?_of_block (kc.block _ (block_lt_of_cell c5) d5)).trans c5⟩
  · simpa using set_blk HC4.out 0 (.slice (some ⟨g4, 0, none⟩) (L.length + 1) k4)
  · refine OwnSp.kept (w := w4) ?_ kc (fun x e => by omega)
    unfold OwnSp
    rw [rowSp_snoc, List.length_append]
    exact HO4.out
  · refine SegsAt.keep (w := w4) ?_ kc (fun x cur _ hx e => by omega)
    have hx4 : ∀ (x : Nat) (cur : Array Value), (w3.alloc _).heap[x]? = some (.cells cur 5 (0, 0)) → base ≤ x → ¬ v.ownBlock = some x := fun x cur hx _ e => by
      obtain ⟨-, cur', h'⟩ := HX.out _ e
      rw [hx] at h'
      cases h'
    refine SegsAt.keep (w := w3.alloc _) ?_ HK4.out hx4
    refine SegsAt.snoc (HS.out.keep KA3.out (fun _ _ _ _ h => h.elim)) ?_ ?_
    · exact ((X1'.out.kept KB3.out).low (by simpa using hbs))
    · exact ((X2.out.kept KB3.out).low (by have := K2.out.size; simp at this; omega))
  · simp
  · refine hG.snoc (n := w.heap.size) (fun x hx => (HS.out.lt x hx).2) ?_ ?_
    · have := X1.out.ltg
      simpa using this.1
    · have h1 := X1.out.ltg
      have h2 := X2.out.ltg
      simp only
      omega
  · exact hl4.trans kc (fun x _ e => .inl e)
/-- The memory of Diff's loop. -/
def DStN (w : World) (base cf co ca ct cb : Nat) (A B : Option Addr) (ac bc : Nat) (a b : Bytes) (o : Sp) (f : Int) (t : Nat) : Prop :=
  ∃ v L, w.heap[ca]? = some (.cells #[.slice A 512 ac] 22 (0, 0)) ∧ w.heap[cb]? = some (.cells #[.slice B 512 bc] 22 (0, 0)) ∧ w.heap[co]? = some (.cells #[v] 34 (0, 0)) ∧
    w.heap[cf]? = some (.cells #[.int .i64 f] 3 (0, 0)) ∧ w.heap[ct]? = some (.cells #[.int .i64 t] 3 (0, 0)) ∧ OwnSp w base v L ∧ SegsAt w base a b L ∧ L.map (fun s => (s.f, s.t)) = o ∧ GsN L
set_option maxRecDepth 100000 in
set_option maxHeartbeats 1000000 in
theorem put_anyN (base cf co ca ct cb xa oa xb ob : Nat) (ac bc : Nat) (w : World) (a b : Bytes) (o : Sp) (f : Int) (t : Nat) (h : DStN w base cf co ca ct cb (some ⟨xa, oa, none⟩) (some ⟨xb, ob, none⟩) ac bc a b o f t)
    (hord : ca < cb ∧ cb < co ∧ co < cf ∧ cf < ct ∧ ct < base) (hbs : base ≤ w.heap.size)
    (ha : RdB w (some ⟨xa, oa, none⟩) a) (hb' : RdB w (some ⟨xb, ob, none⟩) b) (la : a.length = 512) (lb : b.length = 512) (hac : 512 ≤ ac) (hac2 : ac ≤ 9223372036854775807) (hbc : 512 ≤ bc) (hbc2 : bc ≤ 9223372036854775807)
    (hf : f = -1 ∨ ∃ n : Nat, f = n ∧ n < t ∧ t ≤ 512) (ho : o.length ≤ 600) :
    Calls Tryz.prog 28 #[.pointer (some ⟨cf, 0, none⟩), .pointer (some ⟨co, 0, none⟩), .pointer (some ⟨ca, 0, none⟩), .pointer (some ⟨ct, 0, none⟩), .pointer (some ⟨cb, 0, none⟩)] w fun e w' => e = .returned (.tuple #[]) ∧
      DStN w' base cf co ca ct cb (some ⟨xa, oa, none⟩) (some ⟨xb, ob, none⟩) ac bc a b (putD o f t) f t ∧ Kept (fun x => x = co ∨ base ≤ x) w w' := by
  obtain ⟨v, L, h1, h2, h3, h4, h5, h6, h7, h8⟩ := h
  rcases hf with rfl | ⟨n, rfl, hn, ht⟩
  · refine (put_no cf co ca ct cb (some ⟨xa, oa, none⟩) (some ⟨xb, ob, none⟩) ac bc t v w ⟨cell_of_one' h4, cell_of_one' h3, cell_of_one' h1, cell_of_one' h5, cell_of_one' h2⟩).mono ?_
    rintro e w' ⟨rfl, rfl⟩
    exact ⟨rfl, ⟨v, L, h1, h2, h3, h4, h5, h6, h7, h8⟩, Kept.refl _ _⟩
  · obtain ⟨h8, h9⟩ := h8
    have hlen : L.length = o.length := by rw [← h8]; simp
    refine (put_someN cf co ca ct cb xa oa xb ob ac bc n t base v w a b L ⟨cell_of_one' h4, cell_of_one' h3, cell_of_one' h1, cell_of_one' h5, cell_of_one' h2⟩ h3 (by omega) (by omega) hbs h6 h7 ha hb' la lb hac hac2 hbc hbc2 hn ht (by omega) h9).mono ?_
    rintro e w' ⟨rfl, v', L', -, g3, g6, g7, g8, g9, hk⟩
    refine ⟨rfl, ⟨v', L', hk.heap h1 (by omega), hk.heap h2 (by omega), g3, hk.heap h4 (by omega), hk.heap h5 (by omega), g6, g7, ?_, g9⟩, hk⟩
    rw [g8, h8]
    unfold putD
    rw [if_pos (by omega)]
    simp
theorem DStN.kept {S : Nat → Prop} {w w' : World} {base cf co ca ct cb : Nat} {A B : Option Addr} {ac bc : Nat} {a b : Bytes} {o : Sp} {f : Int} {t : Nat} (h : DStN w base cf co ca ct cb A B ac bc a b o f t) (hk : Kept S w w') (hS : ∀ x, ¬ S x) : DStN w' base cf co ca ct cb A B ac bc a b o f t := by
  obtain ⟨v, L, h1, h2, h3, h4, h5, h6, h7, h8⟩ := h
  exact ⟨v, L, hk.heap h1 (hS _), hk.heap h2 (hS _), hk.heap h3 (hS _), hk.heap h4 (hS _), hk.heap h5 (hS _), h6.kept hk (fun x h => (hS x h).elim), h7.keep hk (fun x _ _ _ => hS x), h8⟩
/-- A store into 'from'. -/
theorem DStN.setF {w : World} {base cf co ca ct cb : Nat} {A B : Option Addr} {ac bc : Nat} {a b : Bytes} {o : Sp} {f : Int} {t : Nat} (h : DStN w base cf co ca ct cb A B ac bc a b o f t) (hord : ca < cb ∧ cb < co ∧ co < cf ∧ cf < ct ∧ ct < base) (f' : Int) :
    DStN (w.setCell ⟨cf, 0, none⟩ (.int .i64 f')) base cf co ca ct cb A B ac bc a b o f' t := by
  have kc : Kept (fun x => x = cf) w (w.setCell ⟨cf, 0, none⟩ (.int .i64 f')) := Kept.cell _ _ _ _
  obtain ⟨v, L, h1, h2, h3, h4, h5, h6, h7, h8⟩ := h
  exact ⟨v, L, kc.heap h1 (by omega), kc.heap h2 (by omega), kc.heap h3 (by omega), by simpa using set_blk h4 0 (.int .i64 f'), kc.heap h5 (by omega), h6.kept kc (fun x h => by omega), h7.keep kc (fun x _ _ hx => by omega), h8⟩
/-- A store into 'to'. -/
theorem DStN.setT {w : World} {base cf co ca ct cb : Nat} {A B : Option Addr} {ac bc : Nat} {a b : Bytes} {o : Sp} {f : Int} {t : Nat} (h : DStN w base cf co ca ct cb A B ac bc a b o f t) (hord : ca < cb ∧ cb < co ∧ co < cf ∧ cf < ct ∧ ct < base) (t' : Nat) (u : Int) (hu : u = t') :
    DStN (w.setCell ⟨ct, 0, none⟩ (.int .i64 u)) base cf co ca ct cb A B ac bc a b o f t' := by
  subst hu
  have kc : Kept (fun x => x = ct) w (w.setCell ⟨ct, 0, none⟩ (.int .i64 t')) := Kept.cell _ _ _ _
  obtain ⟨v, L, h1, h2, h3, h4, h5, h6, h7, h8⟩ := h
  exact ⟨v, L, kc.heap h1 (by omega), kc.heap h2 (by omega), kc.heap h3 (by omega), kc.heap h4 (by omega), by simpa using set_blk h5 0 (.int .i64 t'), h6.kept kc (fun x h => by omega), h7.keep kc (fun x _ _ hx => by omega), h8⟩
end Go.Proofs.YtndflnedkpmpfaaGreatDoor
