/-
  No statement is proved here.
-/
import Derived.Test.YtfgagakepmigbaaGreatJBlg
namespace Go.Proofs.YtfgagakepmigbaaGreat
open Go.RowKit
def bitB (x : UInt8) (j : Nat) : Bool := x.toNat / 2 ^ j % 2 == 1
def orB (x : UInt8) (j : Nat) : UInt8 := UInt8.ofNat (x.toNat ||| 2 ^ j)
def andnB (x : UInt8) (j : Nat) : UInt8 := UInt8.ofNat (x.toNat &&& (255 - 2 ^ j))
theorem all_bits (p : Nat → Nat → Bool) (h : ((List.range 256).all fun x => (List.range 8).all fun j => p x j) = true) (x : UInt8) {j : Nat} (hj : j < 8) : p x.toNat j = true := by
  have h1 := List.all_eq_true.1 h x.toNat (List.mem_range.2 x.toNat_lt)
  exact List.all_eq_true.1 h1 j (List.mem_range.2 hj)
theorem bitB_or (x : UInt8) {j k : Nat} (hj : j < 8) (hk : k < 8) : bitB (orB x j) k = (decide (k = j) || bitB x k) := by
  have h := all_bits (fun x j => (List.range 8).all fun k => bitB (orB (UInt8.ofNat x) j) k == (decide (k = j) || bitB (UInt8.ofNat x) k)) (by decide +kernel) x hj
  have h1 := List.all_eq_true.1 h k (List.mem_range.2 hk)
  rw [UInt8.ofNat_toNat] at h1
  exact eq_of_beq h1
theorem bitB_andn (x : UInt8) {j k : Nat} (hj : j < 8) (hk : k < 8) : bitB (andnB x j) k = (!decide (k = j) && bitB x k) := by
  have h := all_bits (fun x j => (List.range 8).all fun k => bitB (andnB (UInt8.ofNat x) j) k == (!decide (k = j) && bitB (UInt8.ofNat x) k)) (by decide +kernel) x hj
  have h1 := List.all_eq_true.1 h k (List.mem_range.2 hk)
  rw [UInt8.ofNat_toNat] at h1
  exact eq_of_beq h1
def bitP (b : Bytes) (i : Nat) : Bool := bitB (bAt b (i / 8)) (i % 8)
def setP (b : Bytes) (i : Nat) : Bytes := b.set (i / 8) (orB (bAt b (i / 8)) (i % 8))
def clrP (b : Bytes) (i : Nat) : Bytes := b.set (i / 8) (andnB (bAt b (i / 8)) (i % 8))
theorem bAt_set (b : Bytes) (i k : Nat) (x : UInt8) (hi : i < b.length) : bAt (b.set i x) k = if k = i then x else bAt b k := by
  unfold bAt
  simp only [List.getD_eq_getElem?_getD, List.getElem?_set]
  by_cases c : i = k
  · rw [if_pos c, if_pos hi, if_pos c.symm]; rfl
  · rw [if_neg c, if_neg (fun h => c h.symm)]
theorem setP_len (b : Bytes) (i : Nat) : (setP b i).length = b.length := by simp [setP]
theorem clrP_len (b : Bytes) (i : Nat) : (clrP b i).length = b.length := by simp [clrP]
theorem bitP_set {b : Bytes} {i k : Nat} (hi : i / 8 < b.length) : bitP (setP b i) k = (decide (k = i) || bitP b k) := by
  unfold bitP setP
  rw [bAt_set _ _ _ _ hi]
  by_cases c : k / 8 = i / 8
  · rw [if_pos c, bitB_or _ (by omega) (by omega), c]
    by_cases d : k % 8 = i % 8
    · rw [decide_eq_true d, decide_eq_true (show k = i by omega)]
    · rw [decide_eq_false d, decide_eq_false (show ¬ k = i by omega)]
  · rw [if_neg c, decide_eq_false (show ¬ k = i by rintro rfl; exact c rfl), Bool.false_or]
theorem bitP_clr {b : Bytes} {i k : Nat} (hi : i / 8 < b.length) : bitP (clrP b i) k = (!decide (k = i) && bitP b k) := by
  unfold bitP clrP
  rw [bAt_set _ _ _ _ hi]
  by_cases c : k / 8 = i / 8
  · rw [if_pos c, bitB_andn _ (by omega) (by omega), c]
    by_cases d : k % 8 = i % 8
    · rw [decide_eq_true d, decide_eq_true (show k = i by omega)]
    · rw [decide_eq_false d, decide_eq_false (show ¬ k = i by omega)]
  · rw [if_neg c, decide_eq_false (show ¬ k = i by rintro rfl; exact c rfl)]; simp
def sgnS : Bytes := [115, 112, 97, 99, 101, 1]
def hdrB (f : Int → Bytes) : Bool := (f 0).take 6 == sgnS
def mapP (q : Nat) : Int := ((1 + q / 4096 : Nat) : Int)
def takB (f : Int → Bytes) (q : Nat) : Bool := bitP (f (mapP q)) (q % 4096)
def ownS (pages : Int) : Int := 1 + (pages + 4095) / 4096
def freeQ (f : Int → Bytes) (n : Nat) : Option Nat := (List.range n).find? fun q => !takB f q
def freeN (f : Int → Bytes) (n : Nat) : Nat := ((List.range n).filter fun q => !takB f q).length
def BkA.N (S : BkA) : Nat := S.pages.toNat
def BkA.taken (S : BkA) (q : Int) : Bool × Int := if hdrB S.now = false then (false, 4) else if q < 0 ∨ S.pages ≤ q then (false, 0) else (takB S.now q.toNat, 0)
def BkA.free (S : BkA) : Int × Int := if hdrB S.now = false then (0, 4) else (((freeN S.now S.N : Nat) : Int), 0)
def thenA (X : BkA × Int) (k : BkA → BkA × Int) : BkA × Int := if X.2 ≠ 0 then X else k X.1
def BkA.takeAt (S : BkA) (q : Nat) : BkA × Int := thenA (S.put q (zeros 512)) fun S1 => S1.put (mapP q) (setP (S.now (mapP q)) (q % 4096))
def BkA.take (S : BkA) : BkA × Int × Int :=
  if S.inT = false then (S, 0, 7) else if hdrB S.now = false then (S, 0, 4) else
  match freeQ S.now S.N with
  | none => (S, 0, 5)
  | some q => ((S.takeAt q).1, if (S.takeAt q).2 = 0 then ((q : Nat) : Int) else 0, (S.takeAt q).2)
def BkA.give (S : BkA) (q : Int) : BkA × Int :=
  if S.inT = false then (S, 7) else if hdrB S.now = false then (S, 4) else
  if (S.taken q).1 = false ∨ q < ownS S.pages then (S, 2) else S.put (mapP q.toNat) (clrP (S.now (mapP q.toNat)) (q.toNat % 4096))
def rootV (f : Int → Bytes) (k : Nat) : Int := ((valN (((f 0).drop (8 + 4 * k)).take 4) 0 : Nat) : Int)
def ownP : Nat → Bytes
  | 0 => zeros 512
  | k + 1 => setP (ownP k) k
def hdrP : Bytes := sgnS ++ zeros 506
def mapsM (own : Nat) : Nat → Nat → BkA → BkA × Int
  | 0, _, S => (S, 0)
  | n + 1, i, S => thenA (S.put i (if i = 1 then ownP own else zeros 512)) (mapsM own n (i + 1))
def BkA.format (S : BkA) : BkA × Int :=
  if S.inT = false then (S, 7) else if S.pages ≤ ownS S.pages then (S, 5) else
  thenA (mapsM (ownS S.pages).toNat ((ownS S.pages).toNat - 1) 1 S) fun S1 => S1.put 0 hdrP
end Go.Proofs.YtfgagakepmigbaaGreat
namespace Go.Proofs.YtfgagakepmigbaaGreat
open Go.RowKit
def difN (a d : Bytes) : Nat → Nat
  | 0 => 0
  | i + 1 => difN a d i + if bAt a i = bAt d i then 0 else 1
def potS : Sp → Int
  | [] => 0
  | s :: l => (94 + 3 * ((s.2 : Int) - s.1)) + potS l
theorem potS_snoc (l : Sp) (s : Nat × Nat) : potS (l ++ [s]) = potS l + (94 + 3 * ((s.2 : Int) - s.1)) := by
  induction l with
  | nil => simp [potS]
  | cons x l ih => simp only [List.cons_append, potS, ih]; omega
theorem pot_put (o : Sp) (f : Int) (t : Nat) : potS (putD o f t) = potS o + if 0 ≤ f then 94 + 3 * ((t : Int) - f) else 0 := by
  unfold putD
  by_cases h : 0 ≤ f
  · rw [if_pos h, if_pos h, potS_snoc]; simp only; omega
  · rw [if_neg h, if_neg h]; omega
theorem pot_st (a d : Bytes) : ∀ i, potS (putD (stD a d i).1 (stD a d i).2.1 (stD a d i).2.2) ≤ 97 * (difN a d i : Int) ∧ (stD a d i).2.2 ≤ i
  | 0 => by simp [stD, putD, potS, difN]
  | i + 1 => by
    obtain ⟨ih, iht⟩ := pot_st a d i
    rw [pot_put] at ih ⊢
    show potS (nextD a d i (stD a d i).1 (stD a d i).2.1 (stD a d i).2.2).1 + _ ≤ 97 * ((difN a d i + if bAt a i = bAt d i then 0 else 1 : Nat) : Int) ∧ (nextD a d i (stD a d i).1 (stD a d i).2.1 (stD a d i).2.2).2.2 ≤ i + 1
    show potS (nextD a d i (stD a d i).1 (stD a d i).2.1 (stD a d i).2.2).1 + (if 0 ≤ (nextD a d i (stD a d i).1 (stD a d i).2.1 (stD a d i).2.2).2.1 then 94 + 3 * (((nextD a d i (stD a d i).1 (stD a d i).2.1 (stD a d i).2.2).2.2 : Int) - (nextD a d i (stD a d i).1 (stD a d i).2.1 (stD a d i).2.2).2.1) else 0) ≤ _ ∧ _
    generalize (stD a d i).1 = o at ih ⊢
    generalize (stD a d i).2.1 = f at ih ⊢
    generalize (stD a d i).2.2 = t at ih iht ⊢
    unfold nextD
    by_cases h : bAt a i = bAt d i
    · rw [if_pos h, if_pos h]; dsimp only; constructor <;> omega
    · rw [if_neg h, if_neg h]
      by_cases h2 : f < 0 ∨ (8 : Int) ≤ (i : Int) - t
      · rw [if_pos h2]
        dsimp only
        rw [pot_put, if_pos (show (0 : Int) ≤ (i : Int) by omega)]
        constructor
        · split at ih <;> (try rw [if_pos (by assumption)]) <;> (try rw [if_neg (by assumption)]) <;> omega
        · omega
      · rw [if_neg h2]
        dsimp only
        rw [if_pos (show 0 ≤ f by omega)] at ih ⊢
        constructor <;> omega
theorem cost_pot (a d : Bytes) (hd : d.length = 512) : cstD a d + owsD a d = potS (diffM a d) := by
  have h : ∀ l : Sp, (∀ s ∈ l, s.1 < s.2 ∧ s.2 ≤ 512) → costM (l.map (spR 0 a d)) + owesM (l.map (spR 0 a d)) = potS l := by
    intro l
    induction l with
    | nil => intro _; rfl
    | cons s l ih =>
      intro hl
      have h1 := hl s (List.mem_cons_self ..)
      have h2 := ih fun x hx => hl x (List.mem_cons_of_mem _ hx)
      have h3 : (spR 0 a d s).new.length = s.2 - s.1 := segB_len (by omega)
      simp only [List.map_cons, costM, owesM, potS, h3]
      omega
  exact h _ fun s hs => ⟨((diffM_good a d).ok s hs).1, ((diffM_good a d).ok s hs).2.1⟩
theorem put_cost (a d : Bytes) (hd : d.length = 512) : cstD a d + owsD a d ≤ 97 * (difN a d 512 : Int) := by
  rw [cost_pot a d hd]
  exact (pot_st a d 512).1
theorem difN_self (a : Bytes) : ∀ i, difN a a i = 0
  | 0 => rfl
  | i + 1 => by unfold difN; rw [difN_self a i]; simp
theorem difN_one (a : Bytes) (k : Nat) (x : UInt8) : ∀ i, difN a (a.set k x) i ≤ if k < i then 1 else 0
  | 0 => by simp [difN]
  | i + 1 => by
    have ih := difN_one a k x i
    unfold difN
    by_cases c : k = i
    · subst c
      rw [if_neg (Nat.lt_irrefl _)] at ih
      rw [if_pos (Nat.lt_succ_self _)]
      split <;> omega
    · have e : bAt a i = bAt (a.set k x) i := by
        unfold bAt
        simp only [List.getD_eq_getElem?_getD, List.getElem?_set]
        rw [if_neg c]
      rw [if_pos e]
      by_cases d : k < i
      · rw [if_pos d] at ih; rw [if_pos (by omega)]; exact ih
      · rw [if_neg d] at ih; rw [if_neg (by omega)]; exact ih
def BkA.slack (S : BkA) : Int := S.room - S.owed
def BkA.aft (S : BkA) (p : Int) (d : Bytes) : BkA := { S with now := updP S.now p d, room := S.room - cstD (S.now p) d, owed := S.owed + owsD (S.now p) d, chg := S.chg + (diffM (S.now p) d).length }
theorem put_cases {S : BkA} (hT : S.inT = true) {p : Int} (h0 : 0 ≤ p) (h1 : p < S.pages) {d : Bytes} (hd : d.length = 512) : (S.slack < cstD (S.now p) d + owsD (S.now p) d ∧ S.put p d = (S, 5)) ∨ (cstD (S.now p) d + owsD (S.now p) d ≤ S.slack ∧ S.put p d = (S.aft p d, 0)) := by
  unfold BkA.put BkA.slack
  rw [hT, if_neg (by decide), if_neg (by omega), if_neg (by omega)]
  by_cases c : S.room < cstD (S.now p) d + (S.owed + owsD (S.now p) d)
  · rw [if_pos c]; exact .inl ⟨by omega, rfl⟩
  · rw [if_neg c]; exact .inr ⟨by omega, by unfold BkA.aft; rw [hT]⟩
theorem aft_slack (S : BkA) (p : Int) (d : Bytes) : (S.aft p d).slack = S.slack - (cstD (S.now p) d + owsD (S.now p) d) := by
  unfold BkA.slack BkA.aft; dsimp only; omega
theorem aft_now (S : BkA) (p q : Int) (d : Bytes) : (S.aft p d).now q = if q = p then d else S.now q := rfl
theorem aft_pages (S : BkA) (p : Int) (d : Bytes) : (S.aft p d).pages = S.pages := rfl
structure Puts (S S' : BkA) : Prop where
  n : S'.n = S.n
  was : S'.was = S.was
  inT : S'.inT = S.inT
theorem Puts.refl (S : BkA) : Puts S S := ⟨rfl, rfl, rfl⟩
theorem Puts.trans {S S1 S2 : BkA} (h : Puts S S1) (k : Puts S1 S2) : Puts S S2 := ⟨k.n.trans h.n, k.was.trans h.was, k.inT.trans h.inT⟩
theorem Puts.aft (S : BkA) (p : Int) (d : Bytes) : Puts S (S.aft p d) := ⟨rfl, rfl, rfl⟩
theorem Puts.pages {S S' : BkA} (h : Puts S S') : S'.pages = S.pages := by unfold BkA.pages; rw [h.n]
end Go.Proofs.YtfgagakepmigbaaGreat
