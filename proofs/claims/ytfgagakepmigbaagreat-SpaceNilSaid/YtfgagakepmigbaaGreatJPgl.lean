/-
  No statement is proved here.
-/
import Derived.Test.YtfgagakepmigbaaGreatJGm
import Derived.Laws.OwnMore
import Derived.ProofKit
import Derived.OpenShut
import Derived.Deep.Slices
import Derived.Laws.BitsLemmas
import Derived.Lib.SliceRun
namespace Go.Proofs.YtfgagakepmigbaaGreat
open Go.RowKit
def pickM (x n : Int) : Int := if n < 1 then 0 else x % n
theorem pickM_lt {x n : Int} (h : 1 ≤ n) : 0 ≤ pickM x n ∧ pickM x n < n := by
  unfold pickM; rw [if_neg (by omega)]
  exact ⟨Int.emod_nonneg _ (by omega), Int.emod_lt_of_pos _ (by omega)⟩
theorem pick_any (x n : Int) (hn : n ≤ 9223372036854775807) (w : World) :
    Calls Tryz.prog 21 #[.int .i64 x, .int .i64 n] w fun e w' => e = .returned (.int .i64 (pickM x n)) ∧ w = w' := by
  by_cases h : n < 1
  · have e : pickM x n = 0 := by simp [pickM, h]
    rw [e]
    clear e
    go_enter Tryz.func21, Tryz.ntmps21
    go_wp2
    go_ret
    exact ⟨rfl, rfl⟩
  · have e : pickM x n = x % n := by simp [pickM, h]
    rw [e]
    have t1 : x.tmod n < n := Int.tmod_lt_of_pos x (by omega)
    have t2 : -n < x.tmod n := by
      have := Int.tmod_lt_of_pos (-x) (b := n) (by omega)
      rw [Int.neg_tmod] at this
      omega
    have t3 := qh (Int.tmod_eq_emod (a := x) (b := n))
    have t4 := Int.emod_nonneg x (show n ≠ 0 by omega)
    have t5 := Int.emod_lt_of_pos x (show 0 < n by omega)
    clear e
    go_enter Tryz.func21, Tryz.ntmps21
    go_wp2
    · go_ret
      refine ⟨?_, rfl⟩
      have h3 := t3.out
      split at h3
      · exfalso; omega
      · exact ret_int (by omega)
    · go_ret
      refine ⟨?_, rfl⟩
      have h3 := t3.out
      split at h3
      · exact ret_int (by omega)
      · exact ret_int (by omega)
end Go.Proofs.YtfgagakepmigbaaGreat
namespace Go.Proofs.YtfgagakepmigbaaGreat
open Go.RowKit
theorem cellsOf_append (l m : Bytes) : (cellsOf (l ++ m)).toList = (cellsOf l).toList ++ (cellsOf m).toList := by simp [cellsOf]
theorem run_append_owned_empty {P : Program} {w : World} (base : Nat) (t ty e : TypeId) (i : TypeInfo) (size : Nat) (ht : P.underlying t = some (.slice e)) (hi : P.info? e = some i)
    (v : Value) (n : Nat) (xs : List Value) (hown : w.ownsRow base e size v n xs) (A : Option Addr) (c : Nat) :
    (Builtin.append_ #[t, t] ty #[v, .slice A 0 c]).run P w = .ok v w := by
  rcases hown.2 with ⟨rfl, rfl⟩ | ⟨g, cap, cur, rfl, _, _, hnc, _⟩
  · cases A <;> simp [Builtin.append_, run_underlying ht, sizeOf, typeInfo, hi, Builtin.lenOf, Builtin.firstCells, loadCells, loadCellsFrom]
  · cases A <;> simp [Builtin.append_, run_underlying ht, sizeOf, typeInfo, hi, Builtin.lenOf, Builtin.firstCells, hnc, storeCells, loadCells, loadCellsFrom]
theorem OwnB.kept {w w' : World} {base g cap : Nat} {l : Bytes} (h : OwnB w base g cap l) (hk : Kept (fun _ => False) w w') : OwnB w' base g cap l := by
  obtain ⟨h0, h⟩ := h
  rcases h with ⟨h, h'⟩ | ⟨g', cap', cur, hv, hb, hh, h1, h2, h3, h4⟩
  · cases h
  · exact ⟨h0, .inr ⟨g', cap', cur, hv, hb, hk.heap hh id, h1, h2, h3, h4⟩⟩
theorem OwnB.keep {S : Nat → Prop} {w w' : World} {base g cap : Nat} {l : Bytes} (h : OwnB w base g cap l) (hk : Kept S w w') (hn : ¬ S g) : OwnB w' base g cap l := by
  obtain ⟨h0, h⟩ := h
  rcases h with ⟨h, h'⟩ | ⟨g', cap', cur, hv, hb, hh, h1, h2, h3, h4⟩
  · cases h
  · injection hv with e1 e2 e3
    injection e1 with e1
    injection e1 with e1
    subst e1
    exact ⟨h0, .inr ⟨g, cap', cur, by rw [e3], hb, hk.heap hh hn, h1, h2, h3, h4⟩⟩
theorem OwnB.base_le {w : World} {base g cap : Nat} {l : Bytes} (h : OwnB w base g cap l) : base ≤ g := by
  obtain ⟨_, h, _⟩ := h.form; exact h
theorem wl_append0 {P : Program} {w : World} {ops : Array Oper} {rest : List Oper} {o : Oper} {a : Act} {Q : Exit → Act → World → Prop} (hgd : o.guard = none) (s x : Operand) (t : TypeId)
    (ho : o.op = .call { callee := .builtin .append, args := #[s, x], argTypes := #[t, t] })
    (base : Nat) (e : TypeId) {z : Value} {size bytes : Nat} (ht : P.underlying t = some (.slice e)) (hinf : (P.info? e).map (fun i => (i.zero, i.size, i.bytes)) = some (some z, size, bytes))
    (v : Value) (n : Nat) (xs : List Value) (hs : a.eval s = v) (hown : w.ownsRow base e size v n xs) (A : Option Addr) (c : Nat) (hx : a.eval x = .slice A 0 c)
    (h : wpList P ops Q rest (a.put o.dst v) w) : wpList P ops Q (o :: rest) a w := by
  obtain ⟨i, hi, h2, h3, h4⟩ := info_parts hinf
  refine wpList_plain hgd fun K hK => ?_
  have hrun := run_append_owned_empty (P := P) (w := w) base t o.type e i size ht hi v n xs hown A c
  unfold Oper.wp
  simp [execOp, ho, resolve, invoke, builtin, hs, hx, hrun, Result.andThen]
  exact hK _ _ h
theorem wl_appendB {w : World} {ops : Array Oper} {rest : List Oper} {o : Oper} {a : Act} {Q : Exit → Act → World → Prop} (hgd : o.guard = none) (s x : Operand)
    (ho : o.op = .call { callee := .builtin .append, args := #[s, x], argTypes := #[47, 47] }) (base g cap : Nat) (l m : Bytes) (hs : a.eval s = .slice (some ⟨g, 0, none⟩) l.length cap) (hown : OwnB w base g cap l)
    (A : Option Addr) (c : Nat) (hx : a.eval x = .slice A m.length c) (hm : RdB w A m) (h63 : l.length + m.length ≤ 140737488355328) (hbase : base ≤ w.heap.size)
    (k : ∀ g' cap' w', OwnB w' base g' cap' (l ++ m) → Kept (fun x => x = g) w w' → (g' = g ∨ w.heap.size ≤ g') → g' < w'.heap.size → wpList Tryz.prog ops Q rest (a.put o.dst (.slice (some ⟨g', 0, none⟩) (l.length + m.length) cap')) w') : wpList Tryz.prog ops Q (o :: rest) a w := by
  by_cases h0 : m = []
  · subst h0
    refine wl_append0 hgd s x 47 ho base 5 Tryz.underlying47 info5 _ l.length _ hs hown A c hx ?_
    refine k g cap w (by simpa using hown) (Kept.refl _ _) (.inl rfl) ?_
    obtain ⟨cur, _, hh, _⟩ := hown.form
    exact heap_lt hh
  · obtain ⟨b, off, rfl, hc⟩ := hm h0
    have : 0 < m.length := List.length_pos_iff.2 h0
    have e63 : maxLen = 9223372036854775807 := rfl
    refine wl_append hgd s x 47 ho base 5 Tryz.underlying47 info5 rfl (by omega) _ l.length _ hs hown b off m.length c (cellsOf m).toList hx (by rw [cellsOf_len, Nat.mul_one]) (fun j u hu => hc j u (by simpa using hu)) (fun u hu => (Array.all_eq_true_iff_forall_mem.1 (one_cellsOf m)) u (by simpa using hu)) this (by omega) (by omega) hbase ?_
    intro g' cap' w' ho' hk' hat m'
    refine k g' cap' w' ?_ (hk'.mono (fun x _ e => by simpa [Value.ownBlock, eq_comm] using e)) (hat.imp_left (fun e => by simpa [Value.ownBlock, eq_comm] using e)) m'
    unfold OwnB
    rw [List.length_append, cellsOf_append]
    exact ho'
end Go.Proofs.YtfgagakepmigbaaGreat
namespace Go.Proofs.YtfgagakepmigbaaGreat
open Go.RowKit
end Go.Proofs.YtfgagakepmigbaaGreat
namespace Go.Proofs.YtfgagakepmigbaaGreat
open Go.RowKit
section
variable {H : Type} {enc : TypeId × Value → H} {w : World} {base : Nat} {spare : Nat → Bool} {held : Bool}
end
end Go.Proofs.YtfgagakepmigbaaGreat
namespace Go.Proofs.YtfgagakepmigbaaGreat
open Go.RowKit
def recVal (r : RecM) (A1 : Option Addr) (c1 : Nat) (A2 : Option Addr) (c2 : Nat) : Value :=
  .agg #[.int .i64 r.lsn, .int .i64 r.turn, .int .u8 r.kind.toNat, .int .i64 r.tx, .int .i64 r.prev, .int .i64 r.next, .int .i64 r.blk, .int .i64 r.off, .slice A1 r.old.length c1, .slice A2 r.new.length c2]
def isI (n : Int) : Prop := -9223372036854775808 ≤ n ∧ n ≤ 9223372036854775807
structure RecOk (r : RecM) : Prop where
  lsn : isI r.lsn
  turn : isI r.turn
  tx : isI r.tx
  prev : isI r.prev
  next : isI r.next
  blk : isI r.blk
  off : isI r.off
section
variable {H : Type} {enc : TypeId × Value → H} {w : World} {base : Nat} {spare : Nat → Bool} {held : Bool}
end
end Go.Proofs.YtfgagakepmigbaaGreat
namespace Go.Proofs.YtfgagakepmigbaaGreat
open Go.RowKit
def over (l : Bytes) (i : Nat) (m : Bytes) : Bytes := l.take i ++ (m.take (l.length - i)) ++ l.drop (i + (m.take (l.length - i)).length)
theorem over_len {l m : Bytes} {i : Nat} (h : i ≤ l.length) : (over l i m).length = l.length := by
  unfold over
  simp
  omega
end Go.Proofs.YtfgagakepmigbaaGreat
namespace Go.Proofs.YtfgagakepmigbaaGreat
open Go.RowKit
theorem RdB.drop {w : World} {b off : Nat} {l : Bytes} (h : RdB w (some ⟨b, off, none⟩) l) (i : Nat) : RdB w (some ⟨b, off + i, none⟩) (l.drop i) := by
  intro hne
  have hl : l ≠ [] := by rintro rfl; simp at hne
  obtain ⟨b', off', e, hc⟩ := h hl
  cases e
  refine ⟨b, off + i, rfl, fun j u hu => ?_⟩
  rw [cellsOf_get, List.getElem?_drop] at hu
  have := hc (i + j) u (by rw [cellsOf_get]; exact hu)
  rw [Nat.add_assoc]
  exact this
theorem RdB.take {w : World} {A : Option Addr} {l : Bytes} (h : RdB w A l) (n : Nat) : RdB w A (l.take n) := by
  intro hne
  obtain ⟨b, off, e, hc⟩ := h (by rintro rfl; simp at hne)
  refine ⟨b, off, e, fun j u hu => hc j u ?_⟩
  rw [cellsOf_get, List.getElem?_take] at hu
  split at hu
  · rw [cellsOf_get]; exact hu
  · simp at hu
set_option maxHeartbeats 400000 in
theorem bclone_any (b off c : Nat) (l : Bytes) (w : World) (h : RdB w (some ⟨b, off, none⟩) l) (hl : l.length ≤ 1000000) :
    Calls Tryz.prog 99 #[.slice (some ⟨b, off, none⟩) l.length c] w fun e w' => ∃ g cap, e = .returned (.slice (some ⟨g, 0, none⟩) l.length cap) ∧ OwnB w' w.heap.size g cap l ∧ Kept (fun _ => False) w w' := by
  have q22 : ∀ (w : World) (a : Option Addr) (n c n' c' : Nat), (binOp .eql 47 (.slice a n c) (.slice none n' c')).run Tryz.prog w = .ok (.bool a.isNone) w := fun w a n c n' c' => Lib.run_eql_slice_nil w _ _ a n c n' c' Tryz.underlying47
  have H := qh h
  clear h
  go_enter Tryz.func99, Tryz.ntmps99
  go_wp2_with (refine wl_buildSlice0 rfl 47 5 rfl Tryz.underlying47 (by kernel_rfl) ?_)
  intro g1 w1 n1 m1 hb1 hk1
  have HO1 := qh (show OwnB w1 w.heap.size g1 0 [] from ⟨rfl, .inr ⟨g1, 0, #[], rfl, n1, hb1, Nat.le_refl _, by decide, rfl, rfl⟩⟩)
  have HR1 := qh (H.out.kept hk1 (fun _ _ _ _ => id))
  have HK1 := qh hk1
  have s1 := hk1.size
  clear hb1 hk1
  go_wp2_with (at_builtin; refine wl_appendB rfl _ _ rfl w.heap.size g1 0 [] l rfl HO1.out (some ⟨b, off, none⟩) c rfl HR1.out (by simp; omega) s1 ?_)
  intro g2 cap2 w2 ho2 hk2 hat2 m2
  have HO2 := qh (show OwnB w2 w.heap.size g2 cap2 l from by simpa using ho2)
  have HK2 := qh (HK1.out.new hk2 (by rintro x rfl; exact n1))
  clear ho2 hk2 hat2
  go_wp2
  go_ret
  refine ⟨g2, cap2, ?_, HO2.out, HK2.out⟩
  first | rfl | (simp; done) | (congr 2; omega)
end Go.Proofs.YtfgagakepmigbaaGreat
