/-
  DeviceSectors: the walk. WHATEVER steps and fates, parchmentlaw01.DeviceSectors returns true and nothing that was there turns.
-/
import Derived.Test.YtjhbkamgmldkmaaLawa
namespace Go.Proofs.Ytjhbkamgmldkmaa
open Go.RowKit

structure DoM where
  op : Int
  blk : Int
  n : Int
  byte : UInt8
  fates : Fates

/-- Steps that lie from a cell on. -/
def RdDo (w : World) (A : Option Addr) (l : List DoM) : Prop := l ≠ [] → ∃ b off, A = some ⟨b, off, none⟩ ∧ ∀ (i : Nat) x, l[i]? = some x →
  w.cell? ⟨b, off + i * 5, none⟩ = some (.int .i64 x.op) ∧ w.cell? ⟨b, off + i * 5 + 1, none⟩ = some (.int .i64 x.blk) ∧ w.cell? ⟨b, off + i * 5 + 2, none⟩ = some (.int .i64 x.n) ∧
  w.cell? ⟨b, off + i * 5 + 3, none⟩ = some (.int .u8 x.byte.toNat) ∧ ∃ FA c, w.cell? ⟨b, off + i * 5 + 4, none⟩ = some (.slice FA x.fates.length c) ∧ RdF w FA x.fates ∧ x.fates.length ≤ maxLen ∧ x.n ≤ 9223372036854775807

theorem pick_nat (x : Int) (n : Nat) (h0 : 1 ≤ n) (hn : n ≤ 65536) (w : World) :
    Calls Try.prog 11 #[.int .i64 x, .int .i64 n] w fun e w' => ∃ k : Nat, k < n ∧ pickM x n = (k : Int) ∧ e = .returned (.int .i64 k) ∧ w = w' := by
  have h := pickM_lt (x := x) (n := n) (by omega)
  refine (pick_any x n (by omega) w).mono fun e w' ⟨h1, h2⟩ => ⟨(pickM x n).toNat, by omega, by omega, ?_, h2⟩
  rw [h1, Int.toNat_of_nonneg h.1]
theorem or_one_u8 (b : UInt8) : bits BinOp.or IntKind.u8 (b.toNat : Int) 1 = ((b ||| 1).toNat : Int) := by
  have h : ∀ y : Fin 256, bits BinOp.or IntKind.u8 ((y.val : Nat) : Int) 1 = (((UInt8.ofNat y.val) ||| 1).toNat : Int) := by decide +kernel
  have := h ⟨b.toNat, b.toNat_lt⟩
  simpa using this
theorem or_one_ne (b : UInt8) : b ||| 1 ≠ 0 := by
  have h : ∀ y : Fin 256, (UInt8.ofNat y.val) ||| 1 ≠ 0 := by decide +kernel
  have := h ⟨b.toNat, b.toNat_lt⟩
  rwa [UInt8.ofNat_toNat] at this

def boolCells (l : List Bool) : Array Value := (l.map Value.bool).toArray
theorem boolCells_get (l : List Bool) (i : Nat) : (boolCells l)[i]? = l[i]?.map Value.bool := by simp [boolCells]
theorem boolCells_set (l : List Bool) (i : Nat) (x : Bool) : (boolCells l).setIfInBounds i (.bool x) = boolCells (l.set i x) := by
  apply Array.ext_getElem?
  intro j
  rw [Array.getElem?_setIfInBounds, boolCells_get, boolCells_get, List.getElem?_set]
  by_cases h : i = j
  · subst h
    by_cases h2 : i < l.length <;> simp [boolCells, h2]
  · simp [h]

/-- What stands in the law's three arrays, against the device. -/
structure SecInv (D : DevM) (La Sa : Bytes) (Op : List Bool) : Prop where
  n : D.n = 6
  up : D.down = false
  free : D.armed = 0
  ll : La.length = 6
  ls : Sa.length = 6
  lo : Op.length = 6
  open_ : ∀ k : Nat, k < 6 → D.opn k = if Op.getD k false then some (fullB (bAt La k)) else none
  safe : ∀ k : Nat, k < 6 → D.safe k = if bAt Sa k = 0 then none else some (fullB (bAt Sa k))
  same : ∀ k : Nat, k < 6 → Op.getD k false = false → bAt La k = bAt Sa k
  some_ : ∀ k : Nat, k < 6 → Op.getD k false = true → bAt La k ≠ 0
theorem bAt_zeros (n i : Nat) : bAt (zeros n) i = 0 := by
  unfold bAt zeros
  rw [List.getD_eq_getElem?_getD, List.getElem?_replicate]
  split <;> rfl
theorem SecInv.start : SecInv (newM 6) (zeros 6) (zeros 6) (List.replicate 6 false) := by
  have e : ∀ k : Nat, (List.replicate 6 false).getD k false = false := fun k => by
    rw [List.getD_eq_getElem?_getD, List.getElem?_replicate]; split <;> rfl
  exact ⟨rfl, rfl, rfl, rfl, rfl, rfl, fun k _ => by rw [e]; rfl, fun k _ => by rw [bAt_zeros]; rfl, fun k _ _ => by rw [bAt_zeros], fun k _ h => by rw [e] at h; cases h⟩
theorem bAt_set (l : Bytes) (i : Nat) (x : UInt8) (k : Nat) (hi : i < l.length) : bAt (l.set i x) k = if k = i then x else bAt l k := by
  unfold bAt
  rw [List.getD_eq_getElem?_getD, List.getD_eq_getElem?_getD, List.getElem?_set]
  by_cases h : i = k
  · subst h; simp [hi]
  · rw [if_neg h, if_neg (fun e => h e.symm)]
theorem getD_set (l : List Bool) (i : Nat) (x : Bool) (k : Nat) (hi : i < l.length) : (l.set i x).getD k false = if k = i then x else l.getD k false := by
  rw [List.getD_eq_getElem?_getD, List.getD_eq_getElem?_getD, List.getElem?_set]
  by_cases h : i = k
  · subst h; simp [hi]
  · rw [if_neg h, if_neg (fun e => h e.symm)]
theorem SecInv.write {D : DevM} {La Sa : Bytes} {Op : List Bool} (h : SecInv D La Sa Op) (i : Nat) (hi : i < 6) (b : UInt8) (hb : b ≠ 0) : SecInv (D.put i (fullB b)) (La.set i b) Sa (Op.set i true) := by
  refine ⟨h.n, h.up, h.free, by simp [h.ll], h.ls, by simp [h.lo], fun k hk => ?_, h.safe, fun k hk => ?_, fun k hk => ?_⟩
  · rw [getD_set _ _ _ _ (by rw [h.lo]; exact hi), bAt_set _ _ _ _ (by rw [h.ll]; exact hi)]
    show updF D.opn i (fullB b) k = _
    unfold updF
    by_cases he : k = i
    · subst he; simp
    · rw [if_neg (by omega), if_neg he, if_neg he]; exact h.open_ k hk
  · rw [getD_set _ _ _ _ (by rw [h.lo]; exact hi), bAt_set _ _ _ _ (by rw [h.ll]; exact hi)]
    by_cases he : k = i
    · rw [if_pos he]; intro h; cases h
    · rw [if_neg he, if_neg he]; exact h.same k hk
  · rw [getD_set _ _ _ _ (by rw [h.lo]; exact hi), bAt_set _ _ _ _ (by rw [h.ll]; exact hi)]
    by_cases he : k = i
    · rw [if_pos he, if_pos he]; intro _; exact hb
    · rw [if_neg he, if_neg he]; exact h.some_ k hk
theorem SecInv.sync {D : DevM} {La Sa : Bytes} {Op : List Bool} (h : SecInv D La Sa Op) : SecInv D.sync La La (List.replicate 6 false) := by
  have e : ∀ k : Nat, (List.replicate 6 false).getD k false = false := fun k => by
    rw [List.getD_eq_getElem?_getD, List.getElem?_replicate]; split <;> rfl
  refine ⟨h.n, h.up, h.free, h.ll, h.ll, rfl, fun k _ => by rw [e]; rfl, fun k hk => ?_, fun k _ _ => rfl, fun k _ hh => by rw [e] at hh; cases hh⟩
  show orF D.opn D.safe k = _
  unfold orF
  rw [h.open_ k hk, h.safe k hk]
  cases ho : Op.getD k false
  · rw [← h.same k hk ho]; rfl
  · have := h.some_ k hk ho
    rw [if_neg this]; rfl
/-- The law's own reckoning of a byte. -/
def wantB (La Sa : Bytes) (Op : List Bool) (keep : UInt8) (k i : Nat) : UInt8 :=
  let from_ := if Op.getD k false && bitOf keep i then bAt La k else bAt Sa k
  if from_ = 0 then 0 else from_ + UInt8.ofNat (i / 64)
theorem bAt_fullB (b : UInt8) {i : Nat} (h : i < 512) : bAt (fullB b) i = b + UInt8.ofNat (i / 64) := by
  unfold bAt; rw [List.getD_eq_getElem?_getD, fullB_get b h]; rfl
theorem bAt_mix (k : UInt8) (s b : Bytes) {i : Nat} (h : i < 512) : bAt (mix k s b) i = if bitOf k i then bAt b i else bAt s i := by
  unfold bAt mix; rw [List.getD_eq_getElem?_getD, mixTo_get k s b 512 i h]; simp [h]
theorem SecInv.read {D : DevM} {La Sa : Bytes} {Op : List Bool} (h : SecInv D La Sa Op) (fs : Fates) (k i : Nat) (hk : k < 6) (hi : i < 512) :
    bAt ((D.wake fs).latest k) i = wantB La Sa Op (keepOf fs k) k i := by
  have hs : bAt ((D.safe k).getD (zeros 512)) i = if bAt Sa k = 0 then 0 else bAt Sa k + UInt8.ofNat (i / 64) := by
    rw [h.safe k hk]
    split
    · rw [Option.getD_none]; exact bAt_zeros 512 i
    · rw [Option.getD_some]; exact bAt_fullB _ hi
  unfold DevM.latest DevM.wake wantB
  simp only [Option.getD_none]
  rw [h.open_ k hk]
  cases ho : Op.getD k false
  · simp only [Bool.false_eq_true, if_false, Bool.false_and]
    exact hs
  · simp only [if_true, Bool.true_and, Option.getD_some]
    rw [bAt_mix _ _ _ hi, hs, bAt_fullB _ hi]
    cases bitOf (keepOf fs k) i
    · simp
    · simp [h.some_ k hk ho]
theorem keepOf_succ (fs : Fates) (j : Nat) (h : j < fs.length) (n : Int) : keepOf (fs.take (j + 1)) n = if fs[j].1 = n then fs[j].2 else keepOf (fs.take j) n := by
  unfold keepOf
  rw [List.take_succ_eq_append_getElem h, keepF_snoc]
  unfold updF
  by_cases he : n = fs[j].1
  · rw [if_pos he, if_pos he.symm]; rfl
  · rw [if_neg he, if_neg (fun e => he e.symm)]
theorem wantB_zero {La Sa : Bytes} {Op : List Bool} {keep : UInt8} {k i : Nat} (h : (if Op.getD k false && bitOf keep i then bAt La k else bAt Sa k) = 0) : wantB La Sa Op keep k i = 0 := by
  unfold wantB; simp only [h, if_true]
theorem wantB_some {La Sa : Bytes} {Op : List Bool} {keep : UInt8} {k i : Nat} {f : UInt8} (h : (if Op.getD k false && bitOf keep i then bAt La k else bAt Sa k) = f) (hf : f ≠ 0) : ((wantB La Sa Op keep k i).toNat : Int) = ((f.toNat : Int) + (i : Int) / 64) % 256 := by
  unfold wantB; simp only [h, hf, if_false]
  rw [add_u8]
end Go.Proofs.Ytjhbkamgmldkmaa
