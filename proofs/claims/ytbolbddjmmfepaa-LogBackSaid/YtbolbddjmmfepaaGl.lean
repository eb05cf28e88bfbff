/-
  No statement is proved here: a log on a device, with no program in sight, step by step as the code does it.
-/
import Derived.Test.YtbolbddjmmfepaaGq
import Derived.Test.YtbolbddjmmfepaaDev4
namespace Go.Proofs.Ytbolbddjmmfepaa
open Go.RowKit

/-- A log. -/
structure LogM where
  first : Int
  count : Int
  turn : Int
  oldest : Int
  fin : Int
  safe : Int
  lsns : List Int
  tail : Bytes
  beg : Int
/-- The sector of a place: its block, where it begins in it, the place of its first byte. -/
def secB (first count at_ : Int) : Int := first + ((at_ - 1) / 51 % (count * 8)) / 8
def secO (count at_ : Int) : Int := ((at_ - 1) / 51 % (count * 8)) % 8 * 64
def secF (at_ : Int) : Int := (at_ - 1) / 51 * 51 + 1
/-- A sector's stamp. -/
def stampM (fst turn used : Nat) : Bytes := beN fst 8 ++ (beN turn 4 ++ [UInt8.ofNat used])
/-- Does the chain end at a sector? -/
def chStop (p : Bytes) (fst at_ last turn : Int) : Prop := sgn (valN (cut p 0 8) 0) ≠ fst ∨ ((valN (cut p 8 4) 0 : Nat) : Int) < max last 1 ∨ turn ≤ ((valN (cut p 8 4) 0 : Nat) : Int) ∨
  51 < (bAt p 12).toNat ∨ (((bAt p 12).toNat : Nat) : Int) < at_ - fst
instance (p : Bytes) (fst at_ last turn : Int) : Decidable (chStop p fst at_ last turn) := by unfold chStop; infer_instance
def secP (D : DevM) (first count at_ : Int) : Bytes := cut (D.latest (secB first count at_)) (secO count at_).toNat 64
/-- The bytes that stand from a place on, as far as stamps go on. -/
def chainM (D : DevM) (first count turn : Int) (most : Nat) : Nat → Int → Int → Bytes → Bytes × Int
  | 0, _, _, out => (out.take most, 0)
  | f + 1, at_, last, out =>
    if most ≤ out.length then (out.take most, 0) else
    if D.mayE (secB first count at_) ≠ 0 then ([], D.mayE (secB first count at_)) else
    let p := secP D first count at_
    let fst := secF at_
    if chStop p fst at_ last turn then (out.take most, 0) else
    let out' := out ++ (p.take (13 + (bAt p 12).toNat)).drop (13 + (at_ - fst).toNat)
    if (bAt p 12).toNat < 51 then (out'.take most, 0) else
    chainM D first count turn most f (fst + 51) (valN (cut p 8 4) 0 : Nat) out'
/-- So many bytes that are known to stand, from a place on. -/
def stretchM (D : DevM) (first count : Int) (n : Nat) : Nat → Int → Bytes → Bytes × Int
  | 0, _, out => (out.take n, 0)
  | f + 1, at_, out =>
    if n ≤ out.length then (out.take n, 0) else
    if D.mayE (secB first count at_) ≠ 0 then ([], D.mayE (secB first count at_)) else
    stretchM D first count n f (secF at_ + 51) (out ++ (secP D first count at_).drop (13 + (at_ - secF at_).toNat))
/-- The records that stand in bytes. -/
def scanM (turn : Int) (all : Bytes) : Nat → Nat → Int → Int → List Int → List Int × Int × Nat
  | 0, at_, fin, _, lsns => (lsns, fin, at_)
  | f + 1, at_, fin, last, lsns =>
    match getL (all.drop at_) with
    | none => (lsns, fin, at_)
    | some (r, n) =>
      if r.lsn ≠ fin ∨ r.turn < last ∨ turn ≤ r.turn then (lsns, fin, at_) else
      scanM turn all f (at_ + n) (fin + n) r.turn (lsns ++ [fin])
/-- The bytes of the safe place's sector. -/
def LogM.begin (L : LogM) (D : DevM) : LogM × Int :=
  let s := stretchM D L.first L.count (L.safe - secF L.safe).toNat ((L.safe - secF L.safe).toNat + 1) (secF L.safe) []
  ({ L with beg := secF L.safe, tail := s.1 }, s.2)
/-- Does the end lie at the beginning of a sector that was written for that place? -/
def LogM.stale (L : LogM) (D : DevM) : Bool × Int :=
  if secF L.fin ≠ L.fin then (false, 0) else
  if D.mayE (secB L.first L.count L.fin) ≠ 0 then (false, D.mayE (secB L.first L.count L.fin)) else
  (decide (sgn (valN (cut (secP D L.first L.count L.fin) 0 8) 0) = L.fin), 0)
/-- Bytes laid over a block from a place on, all behind in the sector being noughts. -/
def laySec (page : Bytes) (off : Nat) (m : Bytes) : Bytes := page.take off ++ ((m ++ zeros (64 - m.length)).take 64 ++ page.drop (off + 64))
/-- What is left of lost records is taken out of the sector of the end. -/
def LogM.cut (L : LogM) (D : DevM) : DevM × Int :=
  if D.mayE (secB L.first L.count L.fin) ≠ 0 then (D, D.mayE (secB L.first L.count L.fin)) else
  let page := laySec (D.latest (secB L.first L.count L.fin)) (secO L.count L.fin).toNat (stampM (secF L.fin).toNat L.turn.toNat L.tail.length ++ L.tail)
  let x := D.write (secB L.first L.count L.fin) page
  if x.1 ≠ 0 then (x.2, x.1) else ((x.2.syncR).2, (x.2.syncR).1)
/-- A log of an area is opened. -/
def openM (D : DevM) (first count oldest turn : Int) : Option LogM × DevM × Int :=
  if D.n = 0 then (none, D, 1) else
  if first < 0 ∨ count < 4 ∨ D.n < first ∨ D.n - first < count ∨ oldest < 1 ∨ 2305843009213693952 < oldest ∨ turn < 1 ∨ 2147483648 ≤ turn then (none, D, 2) else
  let most := (count * 408 - 408).toNat
  let c := chainM D first count turn most (most + 1) oldest 0 []
  if c.2 ≠ 0 then (none, D, c.2) else
  let s := scanM turn c.1 (c.1.length + 1) 0 oldest 0 []
  let L : LogM := ⟨first, count, turn, oldest, s.2.1, s.2.1, s.1, [], 0⟩
  let b := L.begin D
  if b.2 ≠ 0 then (none, D, b.2) else
  let t := b.1.stale D
  if t.2 ≠ 0 then (none, D, t.2) else
  if t.1 ∨ s.2.2 < c.1.length then
    let x := b.1.cut D
    if x.2 ≠ 0 then (none, x.1, x.2) else (some b.1, x.1, 0)
  else (some b.1, D, 0)
def LogM.room (L : LogM) : Int := L.count * 408 - 408 - (L.fin - L.oldest)
/-- A record is laid behind the others. -/
def LogM.append (L : LogM) (r : RecM) : LogM × Int × Int :=
  let r' : RecM := { r with lsn := L.fin, turn := L.turn }
  if ¬ rightM r' then (L, 0, 4) else
  if L.room < ((encM r').length : Int) then (L, 0, 5) else
  ({ L with tail := L.tail ++ encM r', lsns := L.lsns ++ [L.fin], fin := L.fin + (encM r').length }, L.fin, 0)
/-- One block's sectors are filled: the page, what is left, its place. -/
def fillM (turn : Int) : Nat → Bytes → Nat → Bytes → Int → Bytes × Bytes × Int
  | 0, page, _, rest, fst => (page, rest, fst)
  | f + 1, page, off, rest, fst =>
    if rest = [] ∨ 512 ≤ off then (page, rest, fst) else
    let m := stampM fst.toNat turn.toNat (min rest.length 51) ++ rest.take 51
    fillM turn f (page.take off ++ (m ++ page.drop (off + m.length))) (off + 64) (rest.drop 51) (fst + 51)
/-- All blocks are written. -/
def pourM (first count turn : Int) : Nat → DevM → Bytes → Int → DevM × Int
  | 0, D, _, _ => (D, 0)
  | f + 1, D, rest, fst =>
    if rest = [] then (D, 0) else
    if D.mayE (secB first count fst) ≠ 0 then (D, D.mayE (secB first count fst)) else
    let off := (secO count fst).toNat
    let y := fillM turn 8 ((D.latest (secB first count fst)).take off ++ zeros (512 - off)) off rest fst
    let x := D.write (secB first count fst) y.1
    if x.1 ≠ 0 then (x.2, x.1) else pourM first count turn f x.2 y.2.1 y.2.2
/-- All is made safe. -/
def LogM.force (L : LogM) (D : DevM) : LogM × DevM × Int :=
  if L.safe = L.fin then (L, D, 0) else
  let x := pourM L.first L.count L.turn (L.tail.length + 1) D L.tail L.beg
  if x.2 ≠ 0 then (L, x.1, x.2) else
  let y := if secO L.count L.fin = 0 ∧ secF L.fin = L.fin then x.1.write (secB L.first L.count L.fin) (zeros 512) else (0, x.1)
  if y.1 ≠ 0 then (L, y.2, y.1) else
  let z := y.2.syncR
  if z.1 ≠ 0 then (L, z.2, z.1) else
  ({ L with safe := L.fin, beg := L.beg + (L.tail.length / 51 * 51 : Nat), tail := L.tail.drop (L.tail.length / 51 * 51) }, z.2, 0)
/-- Bytes of a stretch, out of the device and out of memory. -/
def LogM.bytes (L : LogM) (D : DevM) (at_ : Int) (n : Nat) : Bytes × Int :=
  let s : Bytes × Int := if at_ < L.beg then stretchM D L.first L.count (min n (L.beg - at_).toNat) (min n (L.beg - at_).toNat + 1) at_ [] else ([], 0)
  if s.2 ≠ 0 then ([], s.2) else
  (s.1 ++ (L.tail.drop (at_ + s.1.length - L.beg).toNat).take (n - s.1.length), 0)
/-- Where a place lies among the records. -/
def findM (l : List Int) (x : Int) : Nat := (l.takeWhile (· < x)).length
/-- The record at a place. -/
def LogM.read (L : LogM) (D : DevM) (lsn : Int) : Option RecM × Int :=
  let k := findM L.lsns lsn
  if L.lsns.getD k 0 ≠ lsn ∨ L.lsns.length ≤ k then (none, 6) else
  let e := if k + 1 < L.lsns.length then L.lsns.getD (k + 1) 0 else L.fin
  let b := L.bytes D lsn (e - lsn).toNat
  if b.2 ≠ 0 then (none, b.2) else
  match getL b.1 with
  | some (r, _) => (some r, 0)
  | none => (none, 4)
end Go.Proofs.Ytbolbddjmmfepaa
