/-
  No statement is proved here.
-/
import Derived.Test.YtfgagakepmigbaaGreatProg
import Derived.Test.YtfgagakepmigbaaGreatJBase
import Derived.StillTailTactics
import Derived.Deep.QuietTactic
import Derived.BigQuiet
namespace Go.Proofs.YtfgagakepmigbaaGreat
open Go.RowKit
abbrev Bytes := List UInt8
def cellsOf (l : Bytes) : Array Value := (l.map fun b => Value.int .u8 b.toNat).toArray
def blk (l : Bytes) : Value := .agg (cellsOf l)
def zeros (n : Nat) : Bytes := List.replicate n 0
theorem size_cellsOf (l : Bytes) : (cellsOf l).size = l.length := by simp [cellsOf]
theorem one_cellsOf (l : Bytes) : (cellsOf l).all (·.oneCell') = true := by
  rw [Array.all_eq_true_iff_forall_mem]
  intro v hv
  simp [cellsOf] at hv
  obtain ⟨b, _, rfl⟩ := hv
  rfl
theorem len_zeros (n : Nat) : (zeros n).length = n := by simp [zeros]
section
variable {w : World}
theorem info5 : (Tryz.prog.info? 5).map (fun i => (i.zero, i.size, i.bytes)) = some (some (.int .u8 0), 1, 1) := by kernel_rfl
def OwnB (w : World) (base g cap : Nat) (l : Bytes) : Prop := w.ownsRow base 5 1 (.slice (some ⟨g, 0, none⟩) l.length cap) l.length (cellsOf l).toList
theorem cellsOf_toList (l : Bytes) : (cellsOf l).toList = l.map fun b => Value.int .u8 b.toNat := by simp [cellsOf]
theorem cellsOf_get (l : Bytes) (i : Nat) : (cellsOf l)[i]? = l[i]?.map fun b => Value.int .u8 b.toNat := by simp [cellsOf]
theorem cellsOf_len (l : Bytes) : (cellsOf l).toList.length = l.length := by simp [cellsOf]
theorem OwnB.form {base g cap : Nat} {l : Bytes} (h : OwnB w base g cap l) : ∃ cur, base ≤ g ∧ w.heap[g]? = some (.cells cur 5 (0, 0)) ∧ l.length ≤ cap ∧ cap ≤ maxLen ∧ cur.size = cap ∧ cur.toList.take l.length = (cellsOf l).toList := by
  obtain ⟨_, h⟩ := h
  rcases h with ⟨h, _⟩ | ⟨g', cap', cur, hv, hb, hh, h1, h2, h3, h4⟩
  · cases h
  · injection hv with e1 e2 e3
    injection e1 with e1
    injection e1 with e1
    subst e1; subst e3
    exact ⟨cur, hb, hh, h1, h2, by simpa using h3, by simpa using h4⟩
theorem zeroU8 (w : World) : (zeroValue 5).run Tryz.prog w = .ok (.int .u8 0) w := by
  obtain ⟨i, h1, h2, _, _⟩ := info_parts info5
  simp [zeroValue, typeInfo, h1, h2]
end
def RdB (w : World) (A : Option Addr) (l : Bytes) : Prop := l ≠ [] → ∃ b off, A = some ⟨b, off, none⟩ ∧ ∀ j v, (cellsOf l)[j]? = some v → w.cell? ⟨b, off + j, none⟩ = some v
def bAt (l : Bytes) (k : Nat) : UInt8 := l.getD k 0
theorem bAt_get {l : Bytes} {k : Nat} (h : k < l.length) : bAt l k = l[k] := by
  unfold bAt; rw [List.getD_eq_getElem?_getD, List.getElem?_eq_getElem h]; rfl
theorem cellsOf_at {l : Bytes} {k : Nat} (h : k < l.length) : (cellsOf l)[k]? = some (.int .u8 (bAt l k).toNat) := by
  rw [cellsOf_get, List.getElem?_eq_getElem h, bAt_get h]; rfl
theorem RdB.cell {w : World} {A : Option Addr} {l : Bytes} (h : RdB w A l) {k : Nat} (hk : k < l.length) : ∃ b off, A = some ⟨b, off, none⟩ ∧ w.cell? ⟨b, off + k, none⟩ = some (.int .u8 (bAt l k).toNat) := by
  obtain ⟨b, off, e, hc⟩ := h (by intro e; simp [e] at hk)
  exact ⟨b, off, e, hc k _ (cellsOf_at hk)⟩
theorem RdB.kept {S : Nat → Prop} {w w' : World} {A : Option Addr} {l : Bytes} (h : RdB w A l) (hk : Kept S w w') (hS : ∀ b off, A = some ⟨b, off, none⟩ → b < w.heap.size → ¬ S b) : RdB w' A l := by
  intro hl
  obtain ⟨b, off, e, hc⟩ := h hl
  refine ⟨b, off, e, fun j v hv => ?_⟩
  have h1 := hc j v hv
  have lb := block_lt_of_cell h1
  exact (World.cell?_of_block (hk.block b lb (hS b off e lb))).trans h1
theorem cellsOf_set (l : Bytes) (i : Nat) (x : UInt8) : (cellsOf l).setIfInBounds i (.int .u8 x.toNat) = cellsOf (l.set i x) := by
  apply Array.ext_getElem?
  intro j
  rw [Array.getElem?_setIfInBounds, cellsOf_get, cellsOf_get, size_cellsOf, List.getElem?_set]
  by_cases h : i = j
  · subst h
    by_cases h2 : i < l.length <;> simp [h2]
  · simp [h]
theorem madeCells_zeros (n : Nat) : madeCells #[Value.int .u8 0] n = cellsOf (zeros n) := by
  apply Array.toList_inj.1
  rw [toList_madeCells_one, cellsOf_toList]
  simp [zeros]
theorem wl_makeB {ops : Array Oper} {Q : Exit → Act → World → Prop} {a : Act} {w : World} {rest : List Oper} {o : Oper} (hg : o.guard = none) (l c : Operand) (ho : o.op = .makeSlice 47 l c)
    (kl kc : IntKind) (n m : Nat) (hl : a.eval l = .int kl n) (hc : a.eval c = .int kc m) (hnm : n ≤ m) (hm : m ≤ 281474976710656)
    (k : ∀ g w', w.heap.size ≤ g → g < w'.heap.size → w'.heap[g]? = some (.cells (cellsOf (zeros m)) 5 (0, 0)) → Kept (fun _ => False) w w' → wpList Tryz.prog ops Q rest (a.put o.dst (.slice (some ⟨g, 0, none⟩) n m)) w') : wpList Tryz.prog ops Q (o :: rest) a w := by
  obtain ⟨i, hi, h2, h3, h4⟩ := info_parts info5
  have hr := run_make (P := Tryz.prog) w 47 5 i _ Tryz.underlying47 hi h2 kl kc (n : Int) (m : Int) (by omega) (by omega) (by rw [h4]; omega) (by omega)
  simp only [Int.toNat_natCast, h3, Nat.mul_one] at hr
  rw [show (Value.int IntKind.u8 0).cells = #[Value.int .u8 0] from rfl, madeCells_zeros] at hr
  refine wl_val hg (v := .slice (some ⟨w.heap.size, 0, none⟩) n m) (w' := w.alloc (.cells (cellsOf (zeros m)) 5)) ?_ (k w.heap.size _ (Nat.le_refl _) (by simp) (heap_alloc_new w _) ((Kept.refl _ w).alloc _))
  simp [execOp, ho, hl, hc, hr, Result.andThen]
theorem RdB.of_blk {w : World} {g : Nat} {l : Bytes} {t : TypeId} {fr : Nat × Nat} (h : w.heap[g]? = some (.cells (cellsOf l) t fr)) : RdB w (some ⟨g, 0, none⟩) l :=
  fun _ => ⟨g, 0, rfl, fun j v hv => cell_blk h (by simpa using hv)⟩
theorem OwnB.cellAt {w : World} {base g cap : Nat} {l : Bytes} (h : OwnB w base g cap l) {i : Nat} (hi : i < l.length) : w.cell? ⟨g, i, none⟩ = some (.int .u8 (bAt l i).toNat) := by
  obtain ⟨cur, _, hh, _, _, _, ht⟩ := h.form
  refine cell_blk hh ?_
  have e1 : (cellsOf l).toList[i]? = some (.int .u8 (bAt l i).toNat) := by rw [Array.getElem?_toList]; exact cellsOf_at hi
  rw [← ht, List.getElem?_take, if_pos hi, Array.getElem?_toList] at e1
  exact e1
end Go.Proofs.YtfgagakepmigbaaGreat
namespace Go.Proofs.YtfgagakepmigbaaGreat
open Go.RowKit
def beN (n : Nat) : Nat → Bytes
  | 0 => []
  | k + 1 => UInt8.ofNat (n / 256 ^ k) :: beN n k
theorem beN_len (n : Nat) : ∀ k, (beN n k).length = k
  | 0 => rfl
  | k + 1 => by simp [beN, beN_len n k]
def valN : Bytes → Nat → Nat
  | [], a => a
  | x :: l, a => valN l (a * 256 + x.toNat)
theorem valN_acc : ∀ (l : Bytes) (a : Nat), valN l a = a * 256 ^ l.length + valN l 0
  | [], a => by simp [valN]
  | x :: l, a => by
    show valN l (a * 256 + x.toNat) = a * 256 ^ (l.length + 1) + valN l (0 * 256 + x.toNat)
    rw [valN_acc l (a * 256 + x.toNat), valN_acc l (0 * 256 + x.toNat), Nat.pow_succ, Nat.add_mul, Nat.add_mul]
    have : a * 256 * 256 ^ l.length = a * (256 ^ l.length * 256) := by rw [Nat.mul_assoc, Nat.mul_comm 256]
    omega
theorem valN_lt : ∀ l : Bytes, valN l 0 < 256 ^ l.length
  | [] => by simp [valN]
  | x :: l => by
    show valN l (0 * 256 + x.toNat) < 256 ^ (l.length + 1)
    rw [valN_acc, Nat.pow_succ]
    have h1 := valN_lt l
    have h2 := x.toNat_lt
    have h3 : (0 * 256 + x.toNat) * 256 ^ l.length ≤ 255 * 256 ^ l.length := Nat.mul_le_mul_right _ (by omega)
    omega
theorem valN_be (n : Nat) : ∀ k, valN (beN n k) 0 = n % 256 ^ k
  | 0 => by simp [beN, valN, Nat.mod_one]
  | k + 1 => by
    show valN (beN n k) (0 * 256 + (UInt8.ofNat (n / 256 ^ k)).toNat) = _
    have e : n % (256 ^ k * 256) = n % 256 ^ k + 256 ^ k * (n / 256 ^ k % 256) := Nat.mod_mul
    have e2 : (UInt8.ofNat (n / 256 ^ k)).toNat = n / 256 ^ k % 256 := by rw [UInt8.toNat_ofNat']
    rw [valN_acc, beN_len, valN_be n k, e2, Nat.pow_succ, e, Nat.zero_mul, Nat.zero_add, Nat.mul_comm (256 ^ k) (n / 256 ^ k % 256)]
    exact Nat.add_comm _ _
theorem beN_val : ∀ l : Bytes, beN (valN l 0) l.length = l
  | [] => rfl
  | x :: l => by
    have e : valN (x :: l) 0 = x.toNat * 256 ^ l.length + valN l 0 := by
      show valN l (0 * 256 + x.toNat) = _
      rw [valN_acc]; simp
    have h1 := valN_lt l
    have hp : 0 < 256 ^ l.length := Nat.pow_pos (by decide)
    show UInt8.ofNat (valN (x :: l) 0 / 256 ^ l.length) :: beN (valN (x :: l) 0) l.length = _
    rw [e]
    congr 1
    · rw [Nat.add_comm, Nat.add_mul_div_right _ _ hp, Nat.div_eq_of_lt h1, Nat.zero_add]
      simp
    · have hb : ∀ (k m a : Nat), k ≤ l.length → beN (a * 256 ^ l.length + m) k = beN m k := by
        intro k
        induction k with
        | zero => intro m a _; rfl
        | succ k ih =>
          intro m a hk
          show _ :: _ = _ :: _
          rw [ih m a (by omega)]
          congr 1
          apply UInt8.toNat_inj.1
          rw [UInt8.toNat_ofNat', UInt8.toNat_ofNat']
          have e2 : a * 256 ^ l.length = a * 256 ^ (l.length - (k + 1)) * 256 * 256 ^ k := by
            rw [Nat.mul_assoc, Nat.mul_assoc, ← Nat.pow_succ', ← Nat.pow_add]
            congr 2
            omega
          rw [e2, Nat.add_comm, Nat.add_mul_div_right _ _ (Nat.pow_pos (by decide))]
          show (m / 256 ^ k + a * 256 ^ (l.length - (k + 1)) * 256) % 256 = m / 256 ^ k % 256
          omega
      rw [hb l.length (valN l 0) x.toNat (Nat.le_refl _)]
      exact beN_val l
def crcS (c : Nat) : Nat := (c / 2) ^^^ (3988292384 * (c % 2))
def crcB (c : Nat) (x : UInt8) : Nat := crcS (crcS (crcS (crcS (crcS (crcS (crcS (crcS (c ^^^ x.toNat))))))))
def crcL (l : Bytes) : Nat := (l.foldl crcB 4294967295) ^^^ 4294967295
structure RecM where
  lsn : Int
  turn : Int
  kind : UInt8
  tx : Int
  prev : Int
  next : Int
  blk : Int
  off : Int
  old : Bytes
  new : Bytes
def topM : Int := 4611686018427387904
def inM (n : Int) : Prop := 0 ≤ n ∧ n ≤ topM
instance (n : Int) : Decidable (inM n) := by unfold inM; infer_instance
def fitsM (r : RecM) : Prop := 0 ≤ r.blk ∧ r.blk < 65536 ∧ 0 ≤ r.off ∧ r.off < 512 ∧ 1 ≤ r.new.length ∧ (r.new.length : Int) ≤ 512 - r.off
instance (r : RecM) : Decidable (fitsM r) := by unfold fitsM; infer_instance
def rightM (r : RecM) : Prop := 1 ≤ r.lsn ∧ r.lsn ≤ topM ∧ 1 ≤ r.turn ∧ r.turn < 2147483648 ∧ inM r.tx ∧ inM r.prev ∧ inM r.next ∧
  ((r.kind = 1 ∧ r.next = 0 ∧ fitsM r ∧ r.old.length = r.new.length) ∨ (r.kind = 2 ∧ fitsM r ∧ r.old = []) ∨ ((r.kind = 3 ∨ r.kind = 4) ∧ r.next = 0 ∧ r.blk = 0 ∧ r.off = 0 ∧ r.old = [] ∧ r.new = []))
instance (r : RecM) : Decidable (rightM r) := by unfold rightM; infer_instance
def bodyM (r : RecM) : Bytes := r.kind :: (beN r.tx.toNat 8 ++ (beN r.prev.toNat 8 ++ ((if r.kind = 2 then beN r.next.toNat 8 else []) ++
  (if r.new = [] then [] else beN r.blk.toNat 4 ++ (beN r.off.toNat 2 ++ (beN r.new.length 2 ++ (r.old ++ r.new)))))))
def headM (r : RecM) : Bytes := beN r.lsn.toNat 8 ++ (beN r.turn.toNat 4 ++ beN (bodyM r).length 2)
def encM (r : RecM) : Bytes := headM r ++ (beN (crcL (headM r ++ bodyM r)) 4 ++ bodyM r)
def sgn (n : Nat) : Int := if n < 9223372036854775808 then n else (n : Int) - 18446744073709551616
def cut (l : Bytes) (a n : Nat) : Bytes := (l.drop a).take n
def gN (b : Bytes) : Nat := valN (cut b 12 2) 0
def gBody (b : Bytes) : Bytes := cut b 18 (gN b)
def gBad (b : Bytes) : Prop := b.length - 18 < gN b ∨ gN b < 17 ∨ valN (cut b 14 4) 0 ≠ crcL (b.take 14 ++ gBody b)
instance (b : Bytes) : Decidable (gBad b) := by unfold gBad; infer_instance
def gKind (b : Bytes) : UInt8 := bAt (gBody b) 0
def gR0 (b : Bytes) : RecM := ⟨sgn (valN (cut b 0 8) 0), valN (cut b 8 4) 0, gKind b, sgn (valN (cut (gBody b) 1 8) 0), sgn (valN (cut (gBody b) 9 8) 0), 0, 0, 0, [], []⟩
def gRest (b : Bytes) : Bytes := (gBody b).drop 17
def gUn (b : Bytes) : Prop := gKind b = 2 ∧ 8 ≤ (gRest b).length
instance (b : Bytes) : Decidable (gUn b) := by unfold gUn; infer_instance
def gR1 (b : Bytes) : RecM := if gUn b then { gR0 b with next := sgn (valN (cut (gRest b) 0 8) 0) } else gR0 b
def gRest1 (b : Bytes) : Bytes := if gUn b then (gRest b).drop 8 else gRest b
def gM (b : Bytes) : Nat := valN (cut (gRest1 b) 6 2) 0
def gR2 (b : Bytes) : RecM := { gR1 b with blk := valN (cut (gRest1 b) 0 4) 0, off := valN (cut (gRest1 b) 4 2) 0 }
def gRest2 (b : Bytes) : Bytes := (gRest1 b).drop 8
def gOl (b : Bytes) : Prop := gKind b = 1 ∧ gM b ≤ (gRest2 b).length
instance (b : Bytes) : Decidable (gOl b) := by unfold gOl; infer_instance
def gR3 (b : Bytes) : RecM := if gOl b then { gR2 b with old := (gRest2 b).take (gM b) } else gR2 b
def gRest3 (b : Bytes) : Bytes := if gOl b then (gRest2 b).drop (gM b) else gRest2 b
def gR4 (b : Bytes) : RecM := { gR3 b with new := gRest3 b }
def getL (b : Bytes) : Option (RecM × Nat) :=
  if b.length < 18 then none else
  if gBad b then none else
  if gKind b = 2 ∨ gKind b = 1 then
    if (gRest1 b).length < 8 then none else
    if (gRest3 b).length ≠ gM b then none else
    if rightM (gR4 b) then some (gR4 b, 18 + gN b) else none
  else if 0 < (gRest1 b).length ∨ ¬ rightM (gR1 b) then none else some (gR1 b, 18 + gN b)
def hN (b : Bytes) : Nat := valN (cut b 12 2) 0
def hKind (b : Bytes) : UInt8 := bAt b 18
def hR0 (b : Bytes) : RecM := ⟨sgn (valN (cut b 0 8) 0), valN (cut b 8 4) 0, hKind b, sgn (valN (cut b 19 8) 0), sgn (valN (cut b 27 8) 0), 0, 0, 0, [], []⟩
def hUn (b : Bytes) : Prop := hKind b = 2 ∧ 25 ≤ hN b
instance (b : Bytes) : Decidable (hUn b) := by unfold hUn; infer_instance
def hR1 (b : Bytes) : RecM := if hUn b then { hR0 b with next := sgn (valN (cut b 35 8) 0) } else hR0 b
def hAt (b : Bytes) : Nat := if hUn b then 43 else 35
def hSp (b : Bytes) : Prop := (hKind b = 2 ∨ hKind b = 1) ∧ hAt b + 8 ≤ 18 + hN b
instance (b : Bytes) : Decidable (hSp b) := by unfold hSp; infer_instance
def hM (b : Bytes) : Nat := valN (cut b (hAt b + 6) 2) 0
def hR2 (b : Bytes) : RecM := { hR1 b with blk := valN (cut b (hAt b) 4) 0, off := valN (cut b (hAt b + 4) 2) 0 }
def hOl (b : Bytes) : Prop := hKind b = 1 ∧ hAt b + 8 + 2 * hM b = 18 + hN b
instance (b : Bytes) : Decidable (hOl b) := by unfold hOl; infer_instance
def hR3 (b : Bytes) : RecM := if hOl b then { hR2 b with old := cut b (hAt b + 8) (hM b) } else hR2 b
def hAt3 (b : Bytes) : Nat := if hOl b then hAt b + 8 + hM b else hAt b + 8
def hNw (b : Bytes) : Prop := hAt3 b + hM b = 18 + hN b
instance (b : Bytes) : Decidable (hNw b) := by unfold hNw; infer_instance
def hR4 (b : Bytes) : RecM := if hNw b then { hR3 b with new := cut b (hAt3 b) (hM b) } else hR3 b
def hR (b : Bytes) : RecM := if hSp b then hR4 b else hR1 b
end Go.Proofs.YtfgagakepmigbaaGreat
