/-
  No statement is proved here: the document's device (parchmentref01.Device) in memory, and contracts of its small methods.
-/
import Derived.Test.YtjhbkamgmldkmaaDev4
import Derived.Laws.OwnMore
namespace Go.Proofs.Ytjhbkamgmldkmaa
open Go.RowKit

structure RowM where
  n : Int
  latest : Bytes
  safe : Bytes
  opn : Bool
structure RefM where
  n : Int
  rows : List RowM
  armed : Int
  off : Bool
/-- A row as its cells lie. -/
structure RowC where
  n : Int
  lv : Value
  sv : Value
  opn : Bool
def RowC.cells (c : RowC) : List Value := [.int .i64 c.n, c.lv, c.sv, .bool c.opn]
def rowCells (cs : List RowC) : List Value := cs.flatMap RowC.cells
theorem len_rowCells (cs : List RowC) : (rowCells cs).length = cs.length * 4 := by
  induction cs with
  | nil => rfl
  | cons c r ih => simp [rowCells, RowC.cells] at *; omega
theorem rowCells_get (cs : List RowC) (i f : Nat) (hf : f < 4) : (rowCells cs)[i * 4 + f]? = (cs[i]?).bind fun c => c.cells[f]? := by
  induction cs generalizing i with
  | nil => simp [rowCells]
  | cons c r ih =>
    have e : rowCells (c :: r) = c.cells ++ rowCells r := rfl
    rw [e]
    cases i with
    | zero => rw [List.getElem?_append_left (by simp [RowC.cells]; omega)]; simp
    | succ j =>
      rw [List.getElem?_append_right (by simp [RowC.cells]; omega)]
      have : (j + 1) * 4 + f - c.cells.length = j * 4 + f := by simp [RowC.cells]; omega
      rw [this, ih]
      simp
/-- A value that reads as a block's bytes; the bytes lie in a block of I. -/
def BytesV (w : World) (I : Nat → Prop) (v : Value) (l : Bytes) : Prop :=
  l.length = 512 ∧ ∃ g cap, v = .slice (some ⟨g, 0, none⟩) 512 cap ∧ I g ∧ ∀ j u, (cellsOf l)[j]? = some u → w.cell? ⟨g, 0 + j, none⟩ = some u
def RowOk (w : World) (I : Nat → Prop) (c : RowC) (r : RowM) : Prop := c.n = r.n ∧ c.opn = r.opn ∧ BytesV w I c.lv r.latest ∧ BytesV w I c.sv r.safe
structure RefP (w : World) (q : Nat) (M I : Nat → Prop) (R : RefM) (v : Value) (cs : List RowC) : Prop where
  hq : w.heap[q]? = some (.cells #[.int .i64 R.n, v, .int .i64 R.armed, .bool R.off] 70 (0, 0))
  own : w.ownsRow 0 77 4 v cs.length (rowCells cs)
  mv : ∀ x, v.ownBlock = some x → M x ∧ x ≠ q
  mq : M q
  len : cs.length = R.rows.length
  rows : ∀ (i : Nat) (c : RowC) (r : RowM), cs[i]? = some c → R.rows[i]? = some r → RowOk w I c r
  apart : ∀ x, I x → ¬ M x
  mlt : ∀ x, M x → x < w.heap.size
  ilt : ∀ x, I x → x < w.heap.size
  n0 : 1 ≤ R.n
  n1 : R.n ≤ 65536
  a0 : 0 ≤ R.armed
  a1 : R.armed ≤ 9223372036854775807
/-- The document's device at block q; it writes blocks of M alone, and leans on blocks of I. -/
def RefAt (w : World) (q : Nat) (M I : Nat → Prop) (R : RefM) : Prop := ∃ v cs, RefP w q M I R v cs
section
variable {w w' : World} {q : Nat} {M I : Nat → Prop} {R : RefM} {v : Value} {cs : List RowC}
theorem BytesV.kept {S : Nat → Prop} {l : Bytes} (h : BytesV w I v l) (hk : Kept S w w') (hn : ∀ x, I x → ¬ S x) : BytesV w' I v l := by
  obtain ⟨h1, g, cap, e, hi, hc⟩ := h
  refine ⟨h1, g, cap, e, hi, fun j u hu => ?_⟩
  have h2 := hc j u hu
  exact (World.cell?_of_block (hk.block g (block_lt_of_cell h2) (hn g hi))).trans h2
theorem BytesV.mono {I' : Nat → Prop} {l : Bytes} (h : BytesV w I v l) (hI : ∀ x, I x → I' x) : BytesV w I' v l := by
  obtain ⟨h1, g, cap, e, hi, hc⟩ := h
  exact ⟨h1, g, cap, e, hI g hi, hc⟩
theorem RowOk.kept {S : Nat → Prop} {c : RowC} {r : RowM} (h : RowOk w I c r) (hk : Kept S w w') (hn : ∀ x, I x → ¬ S x) : RowOk w' I c r :=
  ⟨h.1, h.2.1, h.2.2.1.kept hk hn, h.2.2.2.kept hk hn⟩
theorem ownsRow_kept {S : Nat → Prop} {base : Nat} {e : TypeId} {size n : Nat} {xs : List Value} (h : w.ownsRow base e size v n xs) (hk : Kept S w w') (hn : ∀ x, v.ownBlock = some x → ¬ S x) : w'.ownsRow base e size v n xs := by
  obtain ⟨h0, h⟩ := h
  refine ⟨h0, ?_⟩
  rcases h with h | ⟨g, cap, cur, hv, hb, hh, h1, h2, h3, h4⟩
  · exact .inl h
  · exact .inr ⟨g, cap, cur, hv, hb, hk.heap hh (hn g (by rw [hv]; rfl)), h1, h2, h3, h4⟩
theorem RefAt.kept {S : Nat → Prop} (h : RefAt w q M I R) (hk : Kept S w w') (hM : ∀ x, M x → ¬ S x) (hI : ∀ x, I x → ¬ S x) : RefAt w' q M I R := by
  obtain ⟨v, cs, h⟩ := h
  have hs := hk.size
  exact ⟨v, cs, hk.heap h.hq (hM q h.mq), ownsRow_kept h.own hk (fun x hx => hM x (h.mv x hx).1), h.mv, h.mq, h.len, fun i c r h1 h2 => (h.rows i c r h1 h2).kept hk hI, h.apart,
    fun x hx => Nat.lt_of_lt_of_le (h.mlt x hx) hs, fun x hx => Nat.lt_of_lt_of_le (h.ilt x hx) hs, h.n0, h.n1, h.a0, h.a1⟩
theorem row_form {base : Nat} {e : TypeId} {size n : Nat} {xs : List Value} (h : w.ownsRow base e size v n xs) : ∃ A cap, v = .slice A n cap ∧ (0 < n → ∃ g, A = some ⟨g, 0, none⟩) := by
  rcases h.2 with ⟨rfl, rfl⟩ | ⟨g, cap, cur, hv, _⟩
  · exact ⟨none, 0, rfl, fun h => by omega⟩
  · exact ⟨_, cap, hv, fun _ => ⟨g, rfl⟩⟩
theorem row_len {base : Nat} {e : TypeId} {size n : Nat} {xs : List Value} (h : w.ownsRow base e size v n xs) : n ≤ 9223372036854775807 := by
  rcases h.2 with ⟨rfl, rfl⟩ | ⟨g, cap, cur, hv, _, _, h1, h2, _⟩
  · omega
  · have : maxLen = 9223372036854775807 := rfl
    omega
theorem RefP.cell {g n cap : Nat} (h : RefP w q M I R (.slice (some ⟨g, 0, none⟩) n cap) cs) {i f : Nat} {c : RowC} (hc : cs[i]? = some c) (hf : f < 4) {u : Value} (hu : c.cells[f]? = some u) : w.cell? ⟨g, i * 4 + f, none⟩ = some u := by
  have ho := h.own
  have hi : i < cs.length := (List.getElem?_eq_some_iff.1 hc).1
  obtain ⟨A, cap', hv, _⟩ := row_form ho
  injection hv with _ e2 _
  subst e2
  rw [ho.cellAt (i * 4 + f) (by omega), rowCells_get cs i f hf, hc]
  exact hu

/-- Where a block's row is; -1: nowhere. -/
def findM (l : List RowM) (n : Int) : Int := match l.findIdx? (fun r => r.n == n) with | some i => i | none => -1

theorem findM_at {l : List RowM} {n : Int} {k : Nat} {r : RowM} (hr : l[k]? = some r) (hn : r.n = n) (hno : ∀ (j : Nat) (r : RowM), j < k → l[j]? = some r → r.n ≠ n) : findM l n = k := by
  have hk := (List.getElem?_eq_some_iff.1 hr).1
  have : l.findIdx? (fun r => r.n == n) = some k := by
    rw [List.findIdx?_eq_some_iff_getElem]
    refine ⟨hk, ?_, fun j hj => ?_⟩
    · rw [(List.getElem?_eq_some_iff.1 hr).2]; simp [hn]
    · have := hno j l[j] hj (by simp [Nat.lt_trans hj hk])
      simpa using this
  unfold findM
  rw [this]
theorem findM_no {l : List RowM} {n : Int} (hno : ∀ (j : Nat) (r : RowM), l[j]? = some r → r.n ≠ n) : findM l n = -1 := by
  have : l.findIdx? (fun r => r.n == n) = none := by
    rw [List.findIdx?_eq_none_iff]
    intro r hr
    obtain ⟨j, hj⟩ := List.getElem?_of_mem hr
    simpa using hno j r hj
  unfold findM
  rw [this]

set_option maxHeartbeats 400000 in
theorem rfind_any (h : RefP w q M I R v cs) (n : Int) : Calls Try.prog 49 #[.pointer (some ⟨q, 0, none⟩), .int .i64 n] w fun e w' => e = .returned (.int .i64 (findM R.rows n)) ∧ w = w' := by
  have c1 : w.cell? ⟨q, 1, none⟩ = some v := cell_blk h.hq rfl
  have H := Lib.hid h
  have hmx := row_len h.own
  obtain ⟨A, cap, rfl, hA⟩ := row_form h.own
  clear h
  go_enter Try.func49, Try.ntmps49
  go_wp2
  go_loopw [5] (fun i wr => ∃ k : Nat, k ≤ cs.length ∧ i = .int .i64 k ∧ wr = w ∧ ∀ (j : Nat) (r : RowM), j < k → R.rows[j]? = some r → r.n ≠ n) (fun i _ => cs.length - (intOf i).toNat)
  case atStart => exact ⟨0, by omega, rfl, rfl, by intro j r hj; omega⟩
  case round =>
    obtain ⟨k, hk, rfl, rfl, hno⟩ := hrel
    have HN := Lib.hid hno
    clear hno
    by_cases hlt : k < cs.length
    · obtain ⟨g, rfl⟩ := hA (by omega)
      have hck : cs[k]? = some cs[k] := by simp [hlt]
      have hlr : k < R.rows.length := by rw [← H.out.len]; exact hlt
      have hrk : R.rows[k]? = some R.rows[k] := by simp [hlr]
      have c0 : wr.cell? ⟨g, k * 4, none⟩ = some (.int .i64 cs[k].n) := H.out.cell (f := 0) hck (by omega) rfl
      have en := (H.out.rows k _ _ hck hrk).1
      rw [en] at c0
      have HR := Lib.hid hrk
      have i0 : (0 : Int) ≤ (k : Int) := by omega
      have i1 : (k : Int) < (cs.length : Int) := by omega
      clear hck hrk en
      generalize R.rows[k] = r at *
      by_cases hn : r.n = n
      · have hb : (r.n == n) = true := by simp [hn]
        have HF := Lib.hid (findM_at HR.out hn HN.out)
        clear hn
        go_wp2
        go_ret
        exact ⟨ret_int HF.out.symm, rfl⟩
      · have hb : (r.n == n) = false := by simp [hn]
        have HN2 := Lib.hid (show ∀ (j : Nat) (r : RowM), j < k + 1 → R.rows[j]? = some r → r.n ≠ n from fun j r' hj hr' => by
          rcases Nat.lt_or_ge j k with h | h
          · exact HN.out j r' h hr'
          · have : j = k := by omega
            subst this
            rw [HR.out] at hr'
            cases hr'
            exact hn)
        clear hn
        go_wp2
        go_roundw
        case rel => exact ⟨k + 1, by omega, by go_num, trivial, HN2.out⟩
        case measure => simp [intOf]; omega
    · have hge : ¬ ((k : Int) < (cs.length : Int)) := by omega
      have HF := Lib.hid (findM_no (l := R.rows) (n := n) (fun j r hr => HN.out j r (by have := (List.getElem?_eq_some_iff.1 hr).1; have := H.out.len; omega) hr))
      go_wp2
      go_ret
      exact ⟨ret_int HF.out.symm, rfl⟩

theorem RefAt.parts (h : RefAt w q M I R) : ∃ v cs, RefP w q M I R v cs := h
def RefM.mayE (R : RefM) (n : Int) : Int := if R.off then 8 else if n < 0 ∨ R.n ≤ n then 6 else 0
def newR (n : Int) : RefM := { n := n, rows := [], armed := 0, off := false }
set_option maxHeartbeats 400000 in
theorem rnew_ok (n : Int) (h0 : 1 ≤ n) (h1 : n ≤ 65536) (w : World) :
    Calls Try.prog 17 #[.int .i64 n] w fun e w' => ∃ q, e = .returned (.pointer (some ⟨q, 0, none⟩)) ∧ RefAt w' q (fun x => x = q) (fun _ => False) (newR n) ∧ Kept (fun _ => False) w w' ∧ w.heap.size ≤ q := by
  have g1 : ¬ n < 1 := by omega
  have g2 : ¬ 65536 < n := by omega
  go_enter Try.func17, Try.ntmps17
  go_wp2_with (refine wl_box rfl 70 _ rfl (.agg #[.int .i64 n, .slice none 0 0, .int .i64 0, .bool false]) rfl ?_)
  intro q w3 n3 m3 hb3 hk3
  have HB := Lib.hid hb3
  have HK := Lib.hid hk3
  clear hb3 hk3
  go_wp2
  go_ret
  refine ⟨q, rfl, ⟨.slice none 0 0, [], HB.out, ⟨rfl, .inl ⟨rfl, rfl⟩⟩, (fun x hx => by cases hx), rfl, rfl, (fun i c r hc => by simp at hc), (fun x hx => hx.elim), (fun x hx => by subst hx; exact m3), (fun x hx => hx.elim), h0, h1, Int.le_refl 0, by show (0:Int) ≤ _; omega⟩, HK.out, n3⟩
theorem rnew_no (n : Int) (h : n < 1 ∨ 65536 < n) (w : World) :
    Calls Try.prog 17 #[.int .i64 n] w fun e w' => e = .returned (.pointer none) ∧ w = w' := by
  by_cases g1 : n < 1
  · clear h
    go_enter Try.func17, Try.ntmps17
    go_wp2
    go_ret
    exact ⟨rfl, rfl⟩
  · have g2 : 65536 < n := by omega
    clear h
    go_enter Try.func17, Try.ntmps17
    go_wp2
    go_ret
    exact ⟨rfl, rfl⟩
theorem rdown_any (h : RefAt w q M I R) : Calls Try.prog 20 #[.pointer (some ⟨q, 0, none⟩)] w fun e w' => e = .returned (.bool R.off) ∧ w = w' := by
  obtain ⟨v, cs, h⟩ := h
  have c3 : w.cell? ⟨q, 3, none⟩ = some (.bool R.off) := cell_blk h.hq rfl
  clear h
  go_enter Try.func20, Try.ntmps20
  go_wp2
  go_ret
  exact ⟨rfl, rfl⟩
theorem rblocks_any (h : RefAt w q M I R) : Calls Try.prog 45 #[.pointer (some ⟨q, 0, none⟩)] w fun e w' => e = .returned (.int .i64 R.n) ∧ w = w' := by
  obtain ⟨v, cs, h⟩ := h
  have c3 : w.cell? ⟨q, 0, none⟩ = some (.int .i64 R.n) := cell_blk h.hq rfl
  clear h
  go_enter Try.func45, Try.ntmps45
  go_wp2
  go_ret
  exact ⟨rfl, rfl⟩
/-- What the head cells were set to. -/
theorem RefP.head {w' : World} (h : RefP w q M I R v cs) {a : Int} {o : Bool} (hk : Kept (fun x => x = q) w w') (hq : w'.heap[q]? = some (.cells #[.int .i64 R.n, v, .int .i64 a, .bool o] 70 (0, 0))) (a0 : 0 ≤ a) (a1 : a ≤ 9223372036854775807) :
    RefP w' q M I { R with armed := a, off := o } v cs :=
  ⟨hq, ownsRow_kept h.own hk (fun x hx => (h.mv x hx).2), h.mv, h.mq, h.len, fun i c r h1 h2 => (h.rows i c r h1 h2).kept hk (fun x hx e => h.apart x hx (e ▸ h.mq)), h.apart,
    fun x hx => Nat.lt_of_lt_of_le (h.mlt x hx) hk.size, fun x hx => Nat.lt_of_lt_of_le (h.ilt x hx) hk.size, h.n0, h.n1, a0, a1⟩
def RefM.crash (R : RefM) : RefM := if 0 < R.armed then { R with armed := R.armed - 1, off := R.armed - 1 == 0 } else R
def RefM.crashes (R : RefM) : Bool := decide (0 < R.armed) && (R.armed - 1 == 0)
set_option maxHeartbeats 400000 in
theorem rcrash_any (h : RefP w q M I R v cs) :
    Calls Try.prog 50 #[.pointer (some ⟨q, 0, none⟩)] w fun e w' => e = .returned (.bool R.crashes) ∧ RefP w' q M I R.crash v cs ∧ Kept (fun x => x = q) w w' := by
  have c2 : w.cell? ⟨q, 2, none⟩ = some (.int .i64 R.armed) := cell_blk h.hq rfl
  have c3 : w.cell? ⟨q, 3, none⟩ = some (.bool R.off) := cell_blk h.hq rfl
  have f2 := free_blk h.hq 2
  have f3 := free_blk h.hq 3
  have H := Lib.hid h
  have a0 := h.a0; have a1 := h.a1
  clear h
  by_cases ha : 0 < R.armed
  · have e : R.crash = { R with armed := R.armed - 1, off := R.armed - 1 == 0 } := by simp [RefM.crash, ha]
    have e2 : R.crashes = (R.armed - 1 == 0) := by simp [RefM.crashes, ha]
    rw [e, e2]
    clear e e2
    go_enter Try.func50, Try.ntmps50
    go_wp2
    go_ret
    have k : Kept (fun x => x = q) w ((w.setCell ⟨q, 2, none⟩ (.int .i64 (R.armed - 1))).setCell ⟨q, 3, none⟩ (.bool (R.armed - 1 == 0))) := (Kept.cell w q 2 _).trans' (Kept.cell _ q 3 _)
    exact ⟨rfl, H.out.head k (set_blk (set_blk H.out.hq 2 _) 3 _) (by omega) (by omega), k⟩
  · have e : R.crash = R := by simp [RefM.crash, ha]
    have e2 : R.crashes = false := by simp [RefM.crashes, ha]
    have ha' : R.armed ≤ 0 := by omega
    rw [e, e2]
    clear e e2
    go_enter Try.func50, Try.ntmps50
    go_wp2
    go_ret
    exact ⟨rfl, H.out, Kept.refl _ _⟩
def RefM.arm (R : RefM) (n : Int) : RefM := if R.off then R else { R with armed := max n 0 }
theorem rarm_any (h : RefP w q M I R v cs) (n : Int) (hn : n ≤ 9223372036854775807) :
    Calls Try.prog 41 #[.pointer (some ⟨q, 0, none⟩), .int .i64 n] w fun e w' => e = .returned (.tuple #[]) ∧ RefP w' q M I (R.arm n) v cs ∧ Kept (fun x => x = q) w w' := by
  have c3 : w.cell? ⟨q, 3, none⟩ = some (.bool R.off) := cell_blk h.hq rfl
  have c2 : w.cell? ⟨q, 2, none⟩ = some (.int .i64 R.armed) := cell_blk h.hq rfl
  have f2 := free_blk h.hq 2
  have H := Lib.hid h
  clear h
  cases hd : R.off
  · have e : R.arm n = { R with armed := max n 0 } := by simp [RefM.arm, hd]
    have hq := H.out.hq
    rw [e]
    rw [hd] at c3 hq
    have HQ := Lib.hid hq
    have e3 : ({ R with armed := max n 0 } : RefM) = { R with armed := max n 0, off := false } := by rw [← hd]
    rw [e3]
    clear e hd hq e3
    go_enter Try.func41, Try.ntmps41
    go_wp2
    · have e : max n 0 = 0 := by omega
      rw [e]
      go_end0
      exact ⟨rfl, H.out.head (Kept.cell w q 2 _) (set_blk HQ.out 2 _) (by omega) (by omega), Kept.cell w q 2 _⟩
    · have e : max n 0 = n := by omega
      rw [e]
      go_end0
      exact ⟨rfl, H.out.head (Kept.cell w q 2 _) (set_blk HQ.out 2 _) (by assumption) (by omega), Kept.cell w q 2 _⟩
  · have e : R.arm n = R := by simp [RefM.arm, hd]
    rw [e]
    rw [hd] at c3
    clear e hd
    go_enter Try.func41, Try.ntmps41
    go_wp2
    go_end0
    exact ⟨rfl, H.out, Kept.refl _ _⟩
end
end Go.Proofs.Ytjhbkamgmldkmaa
