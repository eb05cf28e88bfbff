/-
  No statement is proved here: how the document's device lies while a row is appended and set.
-/
import Derived.Test.YtjhbkamgmldkmaaRefr
import Derived.Test.YtjhbkamgmldkmaaLawa
namespace Go.Proofs.Ytjhbkamgmldkmaa
open Go.RowKit

section
variable {w w' : World} {q : Nat} {M I : Nat → Prop} {R : RefM} {v : Value} {cs : List RowC}
/-- As RefP; row k may lack its latest bytes. -/
structure RefX (w : World) (q : Nat) (M I : Nat → Prop) (R : RefM) (v : Value) (cs : List RowC) (k : Nat) : Prop where
  hq : w.heap[q]? = some (.cells #[.int .i64 R.n, v, .int .i64 R.armed, .bool R.off] 70 (0, 0))
  own : w.ownsRow 0 77 4 v cs.length (rowCells cs)
  mv : ∀ x, v.ownBlock = some x → M x ∧ x ≠ q
  mq : M q
  len : cs.length = R.rows.length
  rows : ∀ (i : Nat) (c : RowC) (r : RowM), cs[i]? = some c → R.rows[i]? = some r → (i ≠ k → RowOk w I c r) ∧ c.n = r.n ∧ c.opn = r.opn ∧ BytesV w I c.sv r.safe
  apart : ∀ x, I x → ¬ M x
  mlt : ∀ x, M x → x < w.heap.size
  ilt : ∀ x, I x → x < w.heap.size
  n0 : 1 ≤ R.n
  n1 : R.n ≤ 65536
  a0 : 0 ≤ R.armed
  a1 : R.armed ≤ 9223372036854775807
theorem RefP.toX (h : RefP w q M I R v cs) (k : Nat) : RefX w q M I R v cs k :=
  ⟨h.hq, h.own, h.mv, h.mq, h.len, fun i c r h1 h2 => ⟨fun _ => h.rows i c r h1 h2, (h.rows i c r h1 h2).1, (h.rows i c r h1 h2).2.1, (h.rows i c r h1 h2).2.2.2⟩, h.apart, h.mlt, h.ilt, h.n0, h.n1, h.a0, h.a1⟩
def RefM.push (R : RefM) (n : Int) : RefM := { R with rows := R.rows ++ [⟨n, [], zeros 512, false⟩] }
theorem rowCells_push (cs : List RowC) (c : RowC) : rowCells (cs ++ [c]) = rowCells cs ++ c.cells := by simp [rowCells]
theorem rowCells_set1 (cs : List RowC) (k : Nat) (c : RowC) (h : cs[k]? = some c) (u : Value) : (rowCells cs).set (k * 4 + 1) u = rowCells (cs.set k { c with lv := u }) := by
  induction cs generalizing k with
  | nil => simp at h
  | cons a r ih =>
    cases k with
    | zero => simp at h; subst h; rfl
    | succ j =>
      have h' : r[j]? = some c := by simpa using h
      have e : (j + 1) * 4 + 1 = (j * 4 + 1) + 4 := by omega
      have := ih j h'
      show (a.cells ++ rowCells r).set _ _ = a.cells ++ rowCells (r.set j { c with lv := u })
      rw [e, List.set_append_right _ _ (by simp [RowC.cells]), ← this]
      simp [RowC.cells]
theorem rowCells_set2 (cs : List RowC) (k : Nat) (c : RowC) (h : cs[k]? = some c) (u : Value) : (rowCells cs).set (k * 4 + 2) u = rowCells (cs.set k { c with sv := u }) := by
  induction cs generalizing k with
  | nil => simp at h
  | cons a r ih =>
    cases k with
    | zero => simp at h; subst h; rfl
    | succ j =>
      have h' : r[j]? = some c := by simpa using h
      have e : (j + 1) * 4 + 2 = (j * 4 + 2) + 4 := by omega
      have := ih j h'
      show (a.cells ++ rowCells r).set _ _ = a.cells ++ rowCells (r.set j { c with sv := u })
      rw [e, List.set_append_right _ _ (by simp [RowC.cells]), ← this]
      simp [RowC.cells]
theorem rowCells_set3 (cs : List RowC) (k : Nat) (c : RowC) (h : cs[k]? = some c) (b : Bool) : (rowCells cs).set (k * 4 + 3) (.bool b) = rowCells (cs.set k { c with opn := b }) := by
  induction cs generalizing k with
  | nil => simp at h
  | cons a r ih =>
    cases k with
    | zero => simp at h; subst h; rfl
    | succ j =>
      have h' : r[j]? = some c := by simpa using h
      have e : (j + 1) * 4 + 3 = (j * 4 + 3) + 4 := by omega
      have := ih j h'
      show (a.cells ++ rowCells r).set _ _ = a.cells ++ rowCells (r.set j { c with opn := b })
      rw [e, List.set_append_right _ _ (by simp [RowC.cells]), ← this]
      simp [RowC.cells]

theorem BytesV.fresh {g cap : Nat} {l : Bytes} {t : TypeId} {fr : Nat × Nat} (h : w.heap[g]? = some (.cells (cellsOf l) t fr)) (hl : l.length = 512) (hI : I g) : BytesV w I (.slice (some ⟨g, 0, none⟩) 512 cap) l :=
  ⟨hl, g, cap, rfl, hI, fun j u hu => by rw [Nat.zero_add]; exact cell_blk h hu⟩
/-- A row is appended. -/
theorem RefP.append {wa w3 : World} {A : Option Addr} {cap g cap2 g0 : Nat} {n : Int} (h : RefP w q M I R (.slice A cs.length cap) cs) (ka : Kept (fun _ => False) w wa)
    (k3 : Kept (fun x => (Value.slice A cs.length cap).ownBlock = some x) wa w3)
    (o3 : w3.ownsRow 0 77 4 (.slice (some ⟨g, 0, none⟩) (cs.length + 1) cap2) (cs.length + 1) (rowCells cs ++ [.int .i64 n, .slice none 0 0, .slice (some ⟨g0, 0, none⟩) 512 512, .bool false]))
    (at3 : (Value.slice A cs.length cap).ownBlock = some g ∨ wa.heap.size ≤ g) (m3 : g < w3.heap.size)
    (b0 : wa.heap[g0]? = some (.cells (cellsOf (zeros 512)) 5 (0, 0))) (n0 : w.heap.size ≤ g0) :
    RefX (w3.setCell ⟨q, 1, none⟩ (.slice (some ⟨g, 0, none⟩) (cs.length + 1) cap2)) q (fun x => M x ∨ x = g) (fun x => I x ∨ x = g0) (R.push n) (.slice (some ⟨g, 0, none⟩) (cs.length + 1) cap2) (cs ++ [⟨n, .slice none 0 0, .slice (some ⟨g0, 0, none⟩) 512 512, false⟩]) cs.length ∧
    Kept M w (w3.setCell ⟨q, 1, none⟩ (.slice (some ⟨g, 0, none⟩) (cs.length + 1) cap2)) ∧ (M g ∨ w.heap.size ≤ g) := by
  have lq := heap_lt h.hq
  have hqo : (Value.slice A cs.length cap).ownBlock ≠ some q := fun e => (h.mv q e).2 rfl
  have hg : M g ∨ w.heap.size ≤ g := by
    rcases at3 with e | e
    · exact .inl (h.mv g e).1
    · exact .inr (Nat.le_trans ka.size e)
  have hgq : g ≠ q := by
    rintro rfl
    rcases at3 with e | e
    · exact hqo e
    · have := ka.size; omega
  have hq3 := k3.heap (ka.heap h.hq id) hqo
  have kw3 : Kept M w w3 := (ka.mono (fun _ _ e => e.elim)).trans k3 (fun x _ e => (h.mv x e).1)
  have kw4 : Kept M w (w3.setCell ⟨q, 1, none⟩ (.slice (some ⟨g, 0, none⟩) (cs.length + 1) cap2)) := kw3.setCell (p := ⟨q, 1, none⟩) (.inr h.mq) _
  have hg0 : g0 < wa.heap.size := heap_lt b0
  have hg0M : ¬ M g0 := fun e => by have := h.mlt g0 e; omega
  have hg0g : g0 ≠ g := by
    rintro rfl
    rcases at3 with e | e
    · exact hg0M (h.mv _ e).1
    · omega
  have b4 : (w3.setCell ⟨q, 1, none⟩ (.slice (some ⟨g, 0, none⟩) (cs.length + 1) cap2)).heap[g0]? = some (.cells (cellsOf (zeros 512)) 5 (0, 0)) :=
    heap_setCell_ne (k3.heap b0 (fun e => hg0M (h.mv _ e).1)) (by show g0 ≠ q; omega)
  have hI4 : ∀ x, I x → ¬ M x := h.apart
  refine ⟨⟨?_, ?_, ?_, .inl h.mq, ?_, ?_, ?_, ?_, ?_, h.n0, h.n1, h.a0, h.a1⟩, kw4, hg⟩
  · exact set_blk hq3 1 _
  · have e : rowCells (cs ++ [⟨n, .slice none 0 0, .slice (some ⟨g0, 0, none⟩) 512 512, false⟩]) = rowCells cs ++ [.int .i64 n, .slice none 0 0, .slice (some ⟨g0, 0, none⟩) 512 512, .bool false] := rowCells_push _ _
    rw [e, List.length_append]
    exact ownsRow_kept o3 (Kept.cell w3 q 1 _) (fun x hx => by cases hx; exact hgq)
  · intro x hx; cases hx; exact ⟨.inr rfl, hgq⟩
  · simp [RefM.push, h.len]
  · intro i c r hc hr
    by_cases hi : i < cs.length
    · rw [List.getElem?_append_left hi] at hc
      simp only [RefM.push] at hr
      rw [List.getElem?_append_left (by rw [← h.len]; exact hi)] at hr
      have := (h.rows i c r hc hr).kept kw4 hI4
      have h2 : RowOk _ (fun x => I x ∨ x = g0) c r := ⟨this.1, this.2.1, this.2.2.1.mono (fun _ e => .inl e), this.2.2.2.mono (fun _ e => .inl e)⟩
      exact ⟨fun _ => h2, h2.1, h2.2.1, h2.2.2.2⟩
    · have hi2 : i = cs.length := by
        have := (List.getElem?_eq_some_iff.1 hc).1
        simp at this; omega
      subst hi2
      rw [List.getElem?_append_right (Nat.le_refl _)] at hc
      simp only [RefM.push] at hr
      rw [List.getElem?_append_right (by rw [h.len]; exact Nat.le_refl _)] at hr
      simp [h.len] at hc hr
      subst hc; subst hr
      exact ⟨fun e => absurd rfl e, rfl, rfl, BytesV.fresh b4 (len_zeros _) (.inr rfl)⟩
  · rintro x (hx | rfl) (hm | e)
    · exact h.apart x hx hm
    · subst e
      rcases hg with e | e
      · exact h.apart _ hx e
      · have := h.ilt _ hx; omega
    · exact hg0M hm
    · exact hg0g e
  · rintro x (hx | rfl)
    · exact Nat.lt_of_lt_of_le (h.mlt x hx) kw4.size
    · simpa using m3
  · rintro x (hx | rfl)
    · exact Nat.lt_of_lt_of_le (h.ilt x hx) kw4.size
    · exact heap_lt b4
theorem RowOk.mono {I' : Nat → Prop} {c : RowC} {r : RowM} (h : RowOk w I c r) (hI : ∀ x, I x → I' x) : RowOk w I' c r := ⟨h.1, h.2.1, h.2.2.1.mono hI, h.2.2.2.mono hI⟩
theorem RefX.kept {S : Nat → Prop} {k : Nat} (h : RefX w q M I R v cs k) (hk : Kept S w w') (hM : ∀ x, M x → ¬ S x) (hI : ∀ x, I x → ¬ S x) : RefX w' q M I R v cs k :=
  ⟨hk.heap h.hq (hM q h.mq), ownsRow_kept h.own hk (fun x hx => hM x (h.mv x hx).1), h.mv, h.mq, h.len,
    fun i c r h1 h2 => ⟨fun hi => ((h.rows i c r h1 h2).1 hi).kept hk hI, (h.rows i c r h1 h2).2.1, (h.rows i c r h1 h2).2.2.1, (h.rows i c r h1 h2).2.2.2.kept hk hI⟩, h.apart,
    fun x hx => Nat.lt_of_lt_of_le (h.mlt x hx) hk.size, fun x hx => Nat.lt_of_lt_of_le (h.ilt x hx) hk.size, h.n0, h.n1, h.a0, h.a1⟩
theorem RefX.more {I' : Nat → Prop} {k : Nat} (h : RefX w q M I R v cs k) (hI : ∀ x, I x → I' x) (ha : ∀ x, I' x → ¬ M x) (hl : ∀ x, I' x → x < w.heap.size) : RefX w q M I' R v cs k :=
  ⟨h.hq, h.own, h.mv, h.mq, h.len, fun i c r h1 h2 => ⟨fun hi => ((h.rows i c r h1 h2).1 hi).mono hI, (h.rows i c r h1 h2).2.1, (h.rows i c r h1 h2).2.2.1, (h.rows i c r h1 h2).2.2.2.mono hI⟩, ha, h.mlt, hl, h.n0, h.n1, h.a0, h.a1⟩
/-- A cell of row k is set. -/
theorem RefX.set {g n cap k f : Nat} (h : RefX w q M I R (.slice (some ⟨g, 0, none⟩) n cap) cs k) (u : Value) (c' : RowC) (r' : RowM) (hcells : (rowCells cs).set (k * 4 + f) u = rowCells (cs.set k c')) (hrow : RowOk w I c' r') :
    RefP (w.setCell ⟨g, k * 4 + f, none⟩ u) q M I { R with rows := R.rows.set k r' } (.slice (some ⟨g, 0, none⟩) n cap) (cs.set k c') ∧ Kept (fun x => x = g) w (w.setCell ⟨g, k * 4 + f, none⟩ u) := by
  have hk : Kept (fun x => x = g) w (w.setCell ⟨g, k * 4 + f, none⟩ u) := Kept.cell w g (k * 4 + f) u
  obtain ⟨hg, hgq⟩ := h.mv g rfl
  have hI : ∀ x, I x → ¬ x = g := fun x hx e => h.apart x hx (e ▸ hg)
  refine ⟨⟨hk.heap h.hq (Ne.symm hgq), ?_, h.mv, h.mq, by simp [h.len], ?_, h.apart, fun x hx => Nat.lt_of_lt_of_le (h.mlt x hx) hk.size, fun x hx => Nat.lt_of_lt_of_le (h.ilt x hx) hk.size, h.n0, h.n1, h.a0, h.a1⟩, hk⟩
  · rw [← hcells, List.length_set]
    obtain ⟨A', cap', hv, _⟩ := row_form h.own
    injection hv with _ e2 _
    subst e2
    exact (h.own.stored (k * 4 + f) u).1
  · intro i c r hc hr
    by_cases hi : i = k
    · subst hi
      have h1 := (List.getElem?_eq_some_iff.1 hc).1
      have h2 := (List.getElem?_eq_some_iff.1 hr).1
      simp at h1 h2
      rw [List.getElem?_set_self h1] at hc
      rw [List.getElem?_set_self h2] at hr
      cases hc; cases hr
      exact hrow.kept hk hI
    · rw [List.getElem?_set_ne (Ne.symm hi)] at hc
      rw [List.getElem?_set_ne (Ne.symm hi)] at hr
      exact ((h.rows i c r hc hr).1 hi).kept hk hI
/-- The latest bytes of row k are set, to new ones. -/
theorem RefX.lv {w6 : World} {g n cap k g5 : Nat} {c : RowC} {r : RowM} {u : Value} {l : Bytes} (h : RefX w q M I R (.slice (some ⟨g, 0, none⟩) n cap) cs k) (hc : cs[k]? = some c) (hr : R.rows[k]? = some r) (k6 : Kept (fun _ => False) w w6)
    (bv : BytesV w6 (fun x => x = g5) u l) (n5 : w.heap.size ≤ g5) (m5 : g5 < w6.heap.size) :
    RefP (w6.setCell ⟨g, k * 4 + 1, none⟩ u) q M (fun x => I x ∨ x = g5) { R with rows := R.rows.set k { r with latest := l } } (.slice (some ⟨g, 0, none⟩) n cap) (cs.set k { c with lv := u }) ∧ Kept (fun x => x = g) w6 (w6.setCell ⟨g, k * 4 + 1, none⟩ u) := by
  have h6 := (h.kept k6 (fun _ _ h => h) (fun _ _ h => h)).more (I' := fun x => I x ∨ x = g5) (fun _ e => .inl e) (by
    rintro x (hx | rfl) hm
    · exact h.apart x hx hm
    · have := h.mlt _ hm; omega) (by
    rintro x (hx | rfl)
    · exact Nat.lt_of_lt_of_le (h.ilt x hx) k6.size
    · exact m5)
  obtain ⟨-, h1, h2, h3⟩ := h6.rows k c r hc hr
  exact h6.set u { c with lv := u } { r with latest := l } (rowCells_set1 cs k c hc u) ⟨h1, h2, bv.mono (fun _ e => .inr e), h3⟩
/-- Whether row k is open is set. -/
theorem RefP.opn {g n cap k : Nat} {c : RowC} {r : RowM} (b : Bool) (h : RefP w q M I R (.slice (some ⟨g, 0, none⟩) n cap) cs) (hc : cs[k]? = some c) (hr : R.rows[k]? = some r) :
    RefP (w.setCell ⟨g, k * 4 + 3, none⟩ (.bool b)) q M I { R with rows := R.rows.set k { r with opn := b } } (.slice (some ⟨g, 0, none⟩) n cap) (cs.set k { c with opn := b }) ∧ Kept (fun x => x = g) w (w.setCell ⟨g, k * 4 + 3, none⟩ (.bool b)) := by
  obtain ⟨h1, h2, h3, h4⟩ := h.rows k c r hc hr
  exact (h.toX k).set (.bool b) { c with opn := b } { r with opn := b } (rowCells_set3 cs k c hc b) ⟨h1, rfl, h3, h4⟩
/-- The safe bytes of row k are set to those of a value that is held already. -/
theorem RefP.sv {g n cap k : Nat} {c : RowC} {r : RowM} {u : Value} {l : Bytes} (h : RefP w q M I R (.slice (some ⟨g, 0, none⟩) n cap) cs) (hc : cs[k]? = some c) (hr : R.rows[k]? = some r) (bv : BytesV w I u l) :
    RefP (w.setCell ⟨g, k * 4 + 2, none⟩ u) q M I { R with rows := R.rows.set k { r with safe := l } } (.slice (some ⟨g, 0, none⟩) n cap) (cs.set k { c with sv := u }) ∧ Kept (fun x => x = g) w (w.setCell ⟨g, k * 4 + 2, none⟩ u) := by
  obtain ⟨h1, h2, h3, h4⟩ := h.rows k c r hc hr
  exact (h.toX k).set u { c with sv := u } { r with safe := l } (rowCells_set2 cs k c hc u) ⟨h1, h2, h3, bv⟩
/-- The row of a block. -/
def lkR (l : List RowM) (m : Int) : Option RowM := l.find? (fun r => r.n == m)
theorem lkR_set {l : List RowM} {n : Int} {k : Nat} {r r' : RowM} (hr : l[k]? = some r) (hn : r.n = n) (hn' : r'.n = n) (hk : findM l n = k) (m : Int) : lkR (l.set k r') m = if m = n then some r' else lkR l m := by
  have hf : l.findIdx? (fun r => r.n == n) = some k := by
    unfold findM at hk
    cases h : l.findIdx? (fun r => r.n == n) with
    | none => rw [h] at hk; simp at hk
    | some j => rw [h] at hk; simp at hk; rw [show j = k by omega]
  clear hk
  induction l generalizing k with
  | nil => simp at hr
  | cons a t ih =>
    cases k with
    | zero =>
      simp at hr; subst hr
      unfold lkR
      simp only [List.set_cons_zero, List.find?_cons]
      by_cases hm : m = n
      · subst hm; simp [hn']
      · have h1 : (r'.n == m) = false := by simp [hn']; omega
        have h2 : (a.n == m) = false := by simp [hn]; omega
        simp [h1, h2, hm]
    | succ j =>
      have hr' : t[j]? = some r := by simpa using hr
      have ha : (a.n == n) = false ∧ t.findIdx? (fun r => r.n == n) = some j := by
        rw [List.findIdx?_cons] at hf
        cases h : (a.n == n) with
        | true => simp [h] at hf
        | false => simp [h] at hf; exact ⟨rfl, hf⟩
      have := ih hr' ha.2
      unfold lkR at *
      simp only [List.set_cons_succ, List.find?_cons]
      rw [this]
      by_cases hm : m = n
      · subst hm; simp [ha.1]
      · simp [hm]
theorem lkR_push {l : List RowM} {n : Int} {r' : RowM} (h : lkR l n = none) (hn' : r'.n = n) (m : Int) : lkR (l ++ [r']) m = if m = n then some r' else lkR l m := by
  unfold lkR at *
  rw [List.find?_append]
  by_cases hm : m = n
  · subst hm; simp [h, hn']
  · have : (r'.n == m) = false := by simp [hn']; omega
    simp [hm, List.find?_cons, this]
/-- What Write makes of the rows. -/
structure PutR (R : RefM) (n : Int) (l : Bytes) (R' : RefM) : Prop where
  hn : R'.n = R.n
  armed : R'.armed = R.armed
  off : R'.off = R.off
  lk : ∀ m, lkR R'.rows m = if m = n then some ⟨n, l, ((lkR R.rows n).map RowM.safe).getD (zeros 512), true⟩ else lkR R.rows m
  len : R'.rows.length ≤ R.rows.length + 1
theorem PutR.at {R : RefM} {n : Int} {l : Bytes} {k : Nat} {r : RowM} (hr : R.rows[k]? = some r) (hn : r.n = n) (hk : findM R.rows n = k) (hf : lkR R.rows n = some r) :
    PutR R n l { R with rows := (R.rows.set k { r with latest := l }).set k { r with latest := l, opn := true } } := by
  refine ⟨rfl, rfl, rfl, fun m => ?_, by simp⟩
  rw [List.set_set]
  show lkR (R.rows.set k { r with latest := l, opn := true }) m = _
  rw [lkR_set (r' := { r with latest := l, opn := true }) hr hn hn hk, hf]
  simp [← hn]
theorem PutR.new {R : RefM} {n : Int} {l : Bytes} (hf : lkR R.rows n = none) :
    PutR R n l { R with rows := ((R.push n).rows.set R.rows.length ⟨n, l, zeros 512, false⟩).set R.rows.length ⟨n, l, zeros 512, true⟩ } := by
  have e : ((R.push n).rows.set R.rows.length ⟨n, l, zeros 512, false⟩).set R.rows.length ⟨n, l, zeros 512, true⟩ = R.rows ++ [⟨n, l, zeros 512, true⟩] := by
    rw [List.set_set]
    simp [RefM.push, List.set_append_right]
  refine ⟨rfl, rfl, rfl, fun m => ?_, by rw [e]; simp⟩
  show lkR (((R.push n).rows.set R.rows.length _).set R.rows.length _) m = _
  rw [e, lkR_push hf rfl, hf]
  rfl
theorem BytesV.own {g cap base : Nat} {l : Bytes} (h : OwnB w base g cap l) (hl : l.length = 512) : BytesV w (fun x => x = g) (.slice (some ⟨g, 0, none⟩) 512 cap) l :=
  ⟨hl, g, cap, rfl, rfl, fun j u hu => by
    have hj : j < l.length := by
      have := (Array.getElem?_eq_some_iff.1 hu).1
      simpa [size_cellsOf] using this
    rw [cellsOf_at hj] at hu
    cases hu
    rw [Nat.zero_add]
    exact h.cellAt hj⟩
end
end Go.Proofs.Ytjhbkamgmldkmaa
