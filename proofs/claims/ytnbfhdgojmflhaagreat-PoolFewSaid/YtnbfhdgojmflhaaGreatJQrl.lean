/-
  No statement is proved here: a part of what the claim's last text rests on.
-/
import Derived.Test.YtnbfhdgojmflhaaGreatJKept
import Derived.ProofKit
import Derived.OpenShut
import Derived.Deep.Slices
import Derived.Test.YtnbfhdgojmflhaaGreatJGm
namespace Go.Proofs.YtnbfhdgojmflhaaGreat
open Go.RowKit
section
variable {H : Type} {enc : TypeId × Value → H} {w : World} {base : Nat} {spare : Nat → Bool} {held : Bool}
theorem open_list {α : Type} [Inhabited α] {t e : TypeId} {size : Nat} (ht : (Tryz.prog).underlying t = some (.slice e)) (hc : (Tryz.prog).cellsOf e = size) (hs : 0 < size) (E : α → List Value → Prop)
    (elem : ∀ fuel cs x, DataW.trod enc Tryz.prog w base spare held fuel e cs = some x → ∃ y : α, E y cs) {fuel : Nat} {cs : List Value} {x : DataW H × List MemPlace} (h : DataW.trod enc Tryz.prog w base spare held fuel t cs = some x) :
    ∃ (A : Option Addr) (len c : Nat) (l : List α), cs = [.slice A len c] ∧ l.length = len ∧ len ≤ maxLen ∧
      (l ≠ [] → ∃ b off, A = some ⟨b, off, none⟩ ∧ ∀ i y, l[i]? = some y → ∃ cs', cs'.length = size ∧ (∀ j, j < size → w.cell? ⟨b, off + i * size + j, none⟩ = cs'[j]?) ∧ E y cs') := by
  rcases Deep.open_slice ht h with ⟨rfl, _⟩ | ⟨a, len, cap, m, n, D, Pl, rfl, _, hl, hm, hmm, _, hx⟩
  · exact ⟨none, 0, 0, [], rfl, rfl, Nat.zero_le _, fun h => absurd rfl h⟩
  have hlm : len ≤ m := by rw [hmm]; split <;> omega
  obtain ⟨Y, hY⟩ := Deep.choose_lt (α := α) (n := len) (p := fun i y => ∃ cs', w.cells? base (a.add (i * (Tryz.prog).cellsOf e)) ((Tryz.prog).cellsOf e) = some cs' ∧ E y cs') (fun i hi => by
    obtain ⟨cs', h1, h2⟩ := hx i (by omega)
    obtain ⟨y, hy⟩ := elem _ _ _ h2
    exact ⟨y, cs', h1, hy⟩)
  refine ⟨some a, len, cap, (List.range len).map Y, rfl, by simp, by omega, fun hne => ?_⟩
  have hlen : 0 < len := by
    rcases Nat.eq_zero_or_pos len with h0 | h0
    · subst h0; simp at hne
    · exact h0
  have hspot : a.spot = none := by
    obtain ⟨cs', h1, _⟩ := hY 0 hlen
    obtain ⟨_, h2, h3⟩ := World.cells?_some h1
    have h4 := h3 0 (by rw [hc]; exact hs)
    simp only [Nat.zero_mul, Addr.add_zero'] at h4
    rw [List.getElem?_eq_getElem (by rw [h2, hc]; exact hs)] at h4
    exact World.cell?_spot h4
  obtain ⟨b, off, spot⟩ := a
  simp only at hspot
  subst hspot
  refine ⟨b, off, rfl, fun i y hy => ?_⟩
  have hi : i < len := by
    have := (List.getElem?_eq_some_iff.1 hy).1
    simpa using this
  rw [List.getElem?_map, List.getElem?_range hi] at hy
  cases hy
  obtain ⟨cs', h1, h2⟩ := hY i hi
  obtain ⟨_, h3, h4⟩ := World.cells?_some h1
  refine ⟨cs', by rw [h3, hc], fun j hj => ?_, h2⟩
  have := h4 j (by rw [hc]; exact hj)
  rw [hc, Addr.add_lit, Addr.add_lit] at this
  exact this
theorem fld {fs : Array Field} {cs : List Value} {n : Nat} {xs : List (DataW H × List MemPlace)}
    (hf : ∀ (i : Nat) (f : Field), fs[i]? = some f → DataW.trod enc Tryz.prog w base spare held n f.type ((cs.drop f.offset).take ((Tryz.prog).cellsOf f.type)) = xs[i]?)
    (i : Nat) (f : Field) (h : fs[i]? = some f) (hx : i < xs.length) (t : TypeId) (ht : f.type = t) (o : Nat) (ho : f.offset = o) (k : Nat) (hc : (Tryz.prog).cellsOf t = k) : ∃ x, DataW.trod enc Tryz.prog w base spare held n t ((cs.drop o).take k) = some x := by
  subst ht; subst ho; subst hc
  exact ⟨xs[i], (hf i f h).trans (List.getElem?_eq_getElem hx)⟩
theorem wf_u8 {n : Int} (h : (Lit.int .u8 n).wf = true) : ∃ b : UInt8, n = (b.toNat : Int) := by
  have hb := bounds_u8 h
  refine ⟨UInt8.ofNat n.toNat, ?_⟩
  rw [UInt8.toNat_ofNat']
  omega
theorem cells3 : (Tryz.prog).cellsOf 3 = 1 := by kernel_rfl
theorem cells5 : (Tryz.prog).cellsOf 5 = 1 := by kernel_rfl
theorem cellsB : (Tryz.prog).cellsOf 26 = 1 := by kernel_rfl
theorem open_bytes {fuel : Nat} {cs : List Value} {x : DataW H × List MemPlace} (h : DataW.trod enc Tryz.prog w base spare held fuel 26 cs = some x) :
    ∃ (A : Option Addr) (c : Nat) (l : Bytes), cs = [.slice A l.length c] ∧ l.length ≤ maxLen ∧ RdB w A l := by
  obtain ⟨A, len, c, l, rfl, rfl, hm, hx⟩ := open_list (α := UInt8) Tryz.underlying26 cells5 (by omega) (fun b cs => cs = [.int .u8 b.toNat]) (fun fuel cs x h => by
    obtain ⟨n, rfl, _, hw⟩ := DataW.trod_int Tryz.underlying5 h
    obtain ⟨b, rfl⟩ := wf_u8 hw
    exact ⟨b, rfl⟩) h
  refine ⟨A, c, l, rfl, hm, fun hne => ?_⟩
  obtain ⟨b, off, hA, hc⟩ := hx hne
  refine ⟨b, off, hA, fun j v hv => ?_⟩
  rw [cellsOf_get] at hv
  obtain ⟨y, hy, rfl⟩ := Option.map_eq_some_iff.1 hv
  obtain ⟨cs', _, h1, rfl⟩ := hc j y hy
  have := h1 0 (by omega)
  simpa using this
end
end Go.Proofs.YtnbfhdgojmflhaaGreat
namespace Go.Proofs.YtnbfhdgojmflhaaGreat
open Go.RowKit
def recVal (r : RecM) (A1 : Option Addr) (c1 : Nat) (A2 : Option Addr) (c2 : Nat) : Value :=
  .agg #[.int .i64 r.lsn, .int .i64 r.turn, .int .u8 r.kind.toNat, .int .i64 r.tx, .int .i64 r.prev, .int .i64 r.next, .int .i64 r.blk, .int .i64 r.off, .slice A1 r.old.length c1, .slice A2 r.new.length c2]
def isI (n : Int) : Prop := -9223372036854775808 ≤ n ∧ n ≤ 9223372036854775807
structure RecOk (r : RecM) : Prop where
  lsn : isI r.lsn
  turn : isI r.turn
  tx : isI r.tx
  prev : isI r.prev
  next : isI r.next
  blk : isI r.blk
  off : isI r.off
section
variable {H : Type} {enc : TypeId × Value → H} {w : World} {base : Nat} {spare : Nat → Bool} {held : Bool}
theorem cellsSpan : (Tryz.prog).cellsOf 28 = 4 := by kernel_rfl
end
end Go.Proofs.YtnbfhdgojmflhaaGreat
namespace Go.Proofs.YtnbfhdgojmflhaaGreat
open Go.RowKit
structure DeM where
  kind : Int
  page : Int
  blk : Int
  off : Int
  new : Bytes
  n : Int
  odd : Bool
instance : Inhabited DeM := ⟨⟨0, 0, 0, 0, [], 0, false⟩⟩
def deC (y : DeM) (OA : Option Addr) (on oc : Nat) (NA : Option Addr) (nc : Nat) : List Value := [.int .i64 y.kind, .int .i64 y.page, .int .i64 y.blk, .int .i64 y.off, .slice OA on oc, .slice NA y.new.length nc, .int .i64 y.n, .bool y.odd]
def DeAt (w : World) (b off : Nat) (y : DeM) : Prop := ∃ OA on oc NA nc, (∀ k, k < 8 → w.cell? ⟨b, off + k, none⟩ = (deC y OA on oc NA nc)[k]?) ∧ RdB w NA y.new ∧ isI y.off ∧ isI y.n ∧ isI y.page ∧ isI y.kind ∧ y.new.length ≤ maxLen
def RdDe (w : World) (A : Option Addr) (l : List DeM) : Prop := l ≠ [] → ∃ b off, A = some ⟨b, off, none⟩ ∧ ∀ i y, l[i]? = some y → DeAt w b (off + i * 8) y
section
variable {H : Type} {enc : TypeId × Value → H} {w : World} {base : Nat} {spare : Nat → Bool} {held : Bool}
theorem cellsDe : (Tryz.prog).cellsOf 30 = 8 := by kernel_rfl
theorem cellsBo : (Tryz.prog).cellsOf 4 = 1 := by kernel_rfl
theorem list8 {l : List Value} (h : l.length = 8) : ∃ a b c d e f g i, l = [a, b, c, d, e, f, g, i] := by
  match l, h with | [a, b, c, d, e, f, g, i], _ => exact ⟨a, b, c, d, e, f, g, i, rfl⟩
theorem open_deeds {fuel : Nat} {cs : List Value} {x : DataW H × List MemPlace} (h : DataW.trod enc Tryz.prog w base spare held fuel 22 cs = some x) :
    ∃ (A : Option Addr) (c : Nat) (l : List DeM), cs = [.slice A l.length c] ∧ l.length ≤ maxLen ∧ RdDe w A l := by
  obtain ⟨A, len, c, l, rfl, rfl, hm, hx⟩ := open_list (α := DeM) Tryz.underlying22 cellsDe (by omega) (fun y cs => ∃ OA on oc NA nc, cs = deC y OA on oc NA nc ∧ RdB w NA y.new ∧ isI y.off ∧ isI y.n ∧ isI y.page ∧ isI y.kind ∧ y.new.length ≤ maxLen) (fun fuel cs x h => by
    obtain ⟨xs, n, _, _, hl, hxl, hf⟩ := DataW.trod_struct Tryz.underlying30 h
    obtain ⟨c0, c1, c2, c3, c4, c5, c6, c7, rfl⟩ := list8 (hl.trans cellsDe)
    obtain ⟨_, f0⟩ := fld hf 0 _ rfl (by simp [hxl]) 3 rfl 0 rfl 1 cells3
    obtain ⟨_, f1⟩ := fld hf 1 _ rfl (by simp [hxl]) 3 rfl 1 rfl 1 cells3
    obtain ⟨_, f2⟩ := fld hf 2 _ rfl (by simp [hxl]) 28 rfl 2 rfl 4 cellsSpan
    obtain ⟨_, f3⟩ := fld hf 3 _ rfl (by simp [hxl]) 3 rfl 6 rfl 1 cells3
    obtain ⟨_, f4⟩ := fld hf 4 _ rfl (by simp [hxl]) 4 rfl 7 rfl 1 cellsBo
    obtain ⟨n0, e0, _, w0⟩ := DataW.trod_int Tryz.underlying3 f0
    obtain ⟨n1, e1, _, w1⟩ := DataW.trod_int Tryz.underlying3 f1
    obtain ⟨ys, m, _, _, gl, gxl, gf⟩ := DataW.trod_struct Tryz.underlying28 f2
    obtain ⟨_, g0⟩ := fld gf 0 _ rfl (by simp [gxl]) 3 rfl 0 rfl 1 cells3
    obtain ⟨_, g1⟩ := fld gf 1 _ rfl (by simp [gxl]) 3 rfl 1 rfl 1 cells3
    obtain ⟨_, g2⟩ := fld gf 2 _ rfl (by simp [gxl]) 26 rfl 2 rfl 1 cellsB
    obtain ⟨_, g3⟩ := fld gf 3 _ rfl (by simp [gxl]) 26 rfl 3 rfl 1 cellsB
    obtain ⟨n6, e6, _, w6⟩ := DataW.trod_int Tryz.underlying3 g0
    obtain ⟨n7, e7, _, w7⟩ := DataW.trod_int Tryz.underlying3 g1
    obtain ⟨A1, k1, l1, e8, _, r1⟩ := open_bytes g2
    obtain ⟨A2, k2, l2, e9, hm2, r2⟩ := open_bytes g3
    obtain ⟨n3, e3, _, w3⟩ := DataW.trod_int Tryz.underlying3 f3
    obtain ⟨bb, e4, _⟩ := DataW.trod_bool Tryz.underlying4 f4
    cases e0; cases e1; cases e3; cases e4; cases e6; cases e7; cases e8; cases e9
    exact ⟨⟨n0, n1, n6, n7, l2, n3, bb⟩, A1, _, k1, A2, k2, rfl, r2, bounds_i64 w7, bounds_i64 w3, bounds_i64 w1, bounds_i64 w0, hm2⟩) h
  refine ⟨A, c, l, rfl, hm, fun hne => ?_⟩
  obtain ⟨b, off, hA, hc⟩ := hx hne
  refine ⟨b, off, hA, fun i y hy => ?_⟩
  obtain ⟨cs', _, h1, OA, on, oc, NA, nc, rfl, h2⟩ := hc i y hy
  exact ⟨OA, on, oc, NA, nc, fun k hk => h1 k hk, h2⟩
end
end Go.Proofs.YtnbfhdgojmflhaaGreat
