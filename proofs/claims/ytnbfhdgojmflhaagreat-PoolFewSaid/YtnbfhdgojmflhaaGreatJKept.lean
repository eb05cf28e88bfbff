/-
  No statement is proved here: a part of what the claim's last text rests on.
-/
import Derived.Test.YtnbfhdgojmflhaaGreatJBytes
import Derived.Laws.OwnMore
namespace Go.Proofs.YtnbfhdgojmflhaaGreat
open Go.RowKit
def pickM (x n : Int) : Int := if n < 1 then 0 else x % n
theorem pickM_lt {x n : Int} (h : 1 ≤ n) : 0 ≤ pickM x n ∧ pickM x n < n := by
  unfold pickM; rw [if_neg (by omega)]
  exact ⟨Int.emod_nonneg _ (by omega), Int.emod_lt_of_pos _ (by omega)⟩
theorem pick_any (x n : Int) (hn : n ≤ 9223372036854775807) (w : World) :
    Calls Tryz.prog 11 #[.int .i64 x, .int .i64 n] w fun e w' => e = .returned (.int .i64 (pickM x n)) ∧ w = w' := by
  by_cases h : n < 1
  · have e : pickM x n = 0 := by simp [pickM, h]
    rw [e]
    clear e
    go_enter Tryz.func11, Tryz.ntmps11
    go_wp2
    go_ret
    exact ⟨rfl, rfl⟩
  · have e : pickM x n = x % n := by simp [pickM, h]
    rw [e]
    have t1 : x.tmod n < n := Int.tmod_lt_of_pos x (by omega)
    have t2 : -n < x.tmod n := by
      have := Int.tmod_lt_of_pos (-x) (b := n) (by omega)
      rw [Int.neg_tmod] at this
      omega
    have t3 := Lib.hid (Int.tmod_eq_emod (a := x) (b := n))
    have t4 := Int.emod_nonneg x (show n ≠ 0 by omega)
    have t5 := Int.emod_lt_of_pos x (show 0 < n by omega)
    clear e
    go_enter Tryz.func11, Tryz.ntmps11
    go_wp2
    · go_ret
      refine ⟨?_, rfl⟩
      have h3 := t3.out
      split at h3
      · exfalso; omega
      · exact ret_int (by omega)
    · go_ret
      refine ⟨?_, rfl⟩
      have h3 := t3.out
      split at h3
      · exact ret_int (by omega)
      · exact ret_int (by omega)
set_option maxHeartbeats 400000 in
theorem same_any (A A' : Option Addr) (c c' : Nat) (l l' : Bytes) (w : World) (h : RdB w A l) (h' : RdB w A' l') (hl : l.length ≤ 4611686018427387904) :
    Calls Tryz.prog 15 #[.slice A l.length c, .slice A' l'.length c'] w fun e w' => e = .returned (.bool (decide (l = l'))) ∧ Same w w' := by
  by_cases hn : l.length = l'.length
  · have H := Lib.hid h; have H' := Lib.hid h'
    have HN := Lib.hid hn
    have hne : ((l.length : Int) != (l'.length : Int)) = false := by simp [hn]
    clear h h' hn
    go_enter Tryz.func15, Tryz.ntmps15
    go_wp2
    go_loopw [5] (fun i wr => ∃ k : Nat, k ≤ l.length ∧ i = .int .i64 k ∧ l.take k = l'.take k ∧ Same w wr) (fun i _ => l.length - (intOf i).toNat)
    case atStart => exact ⟨0, Nat.zero_le _, rfl, by simp, Same.refl _⟩
    case round =>
      obtain ⟨k, hk, rfl, htk, q, rfl⟩ := hrel
      have HT := Lib.hid htk
      clear htk
      by_cases hlt : k < l.length
      · have hlt' : k < l'.length := by rw [← HN.out]; exact hlt
        obtain ⟨b, off, hA, hc⟩ := H.out.cell hlt
        obtain ⟨b', off', hA', hc'⟩ := H'.out.cell hlt'
        subst hA; subst hA'
        have i0 : (0 : Int) ≤ (k : Int) := by omega
        have i1 : (k : Int) < (l.length : Int) := by omega
        have i2 : (k : Int) < (l'.length : Int) := by omega
        by_cases he : bAt l k = bAt l' k
        · have HS := Lib.hid (take_eq_succ hlt hlt' HT.out he)
          have hb : (((bAt l k).toNat : Int) != ((bAt l' k).toNat : Int)) = false := by simp [he]
          clear he
          go_wp2
          go_quiet (fail)
          go_wp2
          go_roundw
          case rel => exact ⟨k + 1, by omega, by go_num, HS.out, _, rfl⟩
          case measure => simp [intOf]; omega
        · have hd : decide (l = l') = false := by
            rw [decide_eq_false_iff_not]; rintro rfl; exact he rfl
          have HD := Lib.hid hd
          have hb : (((bAt l k).toNat : Int) != ((bAt l' k).toNat : Int)) = true := by
            rw [bne_iff_ne]; intro e; exact he (UInt8.toNat_inj.1 (by omega))
          clear he hd
          go_wp2
          go_quiet (fail)
          go_wp2
          go_ret
          exact ⟨ret_bool HD.out.symm, (Same.refl _).drewN _ |>.trans (by first | exact Same.refl _ | exact ⟨_, rfl⟩)⟩
      · have hd : decide (l = l') = true := by
          rw [decide_eq_true_eq]
          have := HT.out
          rwa [List.take_of_length_le (by omega), List.take_of_length_le (by have := HN.out; omega)] at this
        have HD := Lib.hid hd
        have hge : ¬ ((k : Int) < (l.length : Int)) := by omega
        clear hd
        go_wp2
        go_ret
        exact ⟨ret_bool HD.out.symm, (Same.refl _).drewN _ |>.trans (by first | exact Same.refl _ | exact ⟨_, rfl⟩)⟩
  · have hd : decide (l = l') = false := by rw [decide_eq_false_iff_not]; rintro rfl; exact hn rfl
    rw [hd]
    have hne : ((l.length : Int) != (l'.length : Int)) = true := by rw [bne_iff_ne]; omega
    clear h h' hn hd
    go_enter Tryz.func15, Tryz.ntmps15
    go_wp2
    go_ret
    exact ⟨rfl, Same.refl _⟩
end Go.Proofs.YtnbfhdgojmflhaaGreat
namespace Go.Proofs.YtnbfhdgojmflhaaGreat
open Go.RowKit
def markM (k i : Int) : Int := 1000003 * (k + 7) + i
theorem mark_any (k i : Int) (k0 : 0 ≤ k) (k1 : k ≤ 1000000) (i0 : 0 ≤ i) (i1 : i ≤ 1000000000000) (w : World) :
    Calls Tryz.prog 144 #[.int .i64 k, .int .i64 i] w fun e w' => e = .returned (.int .i64 (markM k i)) ∧ w = w' := by
  go_enter Tryz.func144, Tryz.ntmps144
  go_wp2
  go_ret
  exact ⟨rfl, rfl⟩
def markB (k i : Int) : UInt8 := UInt8.ofNat (IntKind.u64.wrap (markM k i * 11400714819323198485) / 72057594037927936).toNat
theorem wrap_u64 (x : Int) : 0 ≤ IntKind.u64.wrap x := by
  have : IntKind.u64.wrap x = x % 18446744073709551616 := by simp [IntKind.wrap, IntKind.signed, IntKind.bits]
  omega
theorem markByte_any (k i : Int) (k0 : 0 ≤ k) (k1 : k ≤ 1000000) (i0 : 0 ≤ i) (i1 : i ≤ 1000000000000) (w : World) :
    Calls Tryz.prog 146 #[.int .i64 k, .int .i64 i] w fun e w' => e = .returned (.int .u8 (markB k i).toNat) ∧ w = w' := by
  have h0 : 0 ≤ markM k i := by unfold markM; omega
  have h1 : markM k i ≤ 9000000000000 := by unfold markM; omega
  go_enter Tryz.func146, Tryz.ntmps146
  go_wp2_with (go_at_call 144; refine (mark_any k i k0 k1 i0 i1 _).mono ?_; rintro e wx ⟨rfl, rfl⟩)
  go_ret
  refine ⟨ret_int ?_, rfl⟩
  have h2 := wrap_u64 (markM k i * 11400714819323198485)
  unfold markB
  rw [UInt8.toNat_ofNat']
  omega
theorem cellsOf_append (l m : Bytes) : (cellsOf (l ++ m)).toList = (cellsOf l).toList ++ (cellsOf m).toList := by simp [cellsOf]
theorem run_append_owned_empty {P : Program} {w : World} (base : Nat) (t ty e : TypeId) (i : TypeInfo) (size : Nat) (ht : P.underlying t = some (.slice e)) (hi : P.info? e = some i)
    (v : Value) (n : Nat) (xs : List Value) (hown : w.ownsRow base e size v n xs) (A : Option Addr) (c : Nat) :
    (Builtin.append_ #[t, t] ty #[v, .slice A 0 c]).run P w = .ok v w := by
  rcases hown.2 with ⟨rfl, rfl⟩ | ⟨g, cap, cur, rfl, _, _, hnc, _⟩
  · cases A <;> simp [Builtin.append_, run_underlying ht, sizeOf, typeInfo, hi, Builtin.lenOf, Builtin.firstCells, loadCells, loadCellsFrom]
  · cases A <;> simp [Builtin.append_, run_underlying ht, sizeOf, typeInfo, hi, Builtin.lenOf, Builtin.firstCells, hnc, storeCells, loadCells, loadCellsFrom]
theorem OwnB.kept {w w' : World} {base g cap : Nat} {l : Bytes} (h : OwnB w base g cap l) (hk : Kept (fun _ => False) w w') : OwnB w' base g cap l := by
  obtain ⟨h0, h⟩ := h
  rcases h with ⟨h, h'⟩ | ⟨g', cap', cur, hv, hb, hh, h1, h2, h3, h4⟩
  · cases h
  · exact ⟨h0, .inr ⟨g', cap', cur, hv, hb, hk.heap hh id, h1, h2, h3, h4⟩⟩
theorem OwnB.keep {S : Nat → Prop} {w w' : World} {base g cap : Nat} {l : Bytes} (h : OwnB w base g cap l) (hk : Kept S w w') (hn : ¬ S g) : OwnB w' base g cap l := by
  obtain ⟨h0, h⟩ := h
  rcases h with ⟨h, h'⟩ | ⟨g', cap', cur, hv, hb, hh, h1, h2, h3, h4⟩
  · cases h
  · injection hv with e1 e2 e3
    injection e1 with e1
    injection e1 with e1
    subst e1
    exact ⟨h0, .inr ⟨g, cap', cur, by rw [e3], hb, hk.heap hh hn, h1, h2, h3, h4⟩⟩
theorem OwnB.base_le {w : World} {base g cap : Nat} {l : Bytes} (h : OwnB w base g cap l) : base ≤ g := by
  obtain ⟨_, h, _⟩ := h.form; exact h
theorem wl_append0 {P : Program} {w : World} {ops : Array Oper} {rest : List Oper} {o : Oper} {a : Act} {Q : Exit → Act → World → Prop} (hgd : o.guard = none) (s x : Operand) (t : TypeId)
    (ho : o.op = .call { callee := .builtin .append, args := #[s, x], argTypes := #[t, t] })
    (base : Nat) (e : TypeId) {z : Value} {size bytes : Nat} (ht : P.underlying t = some (.slice e)) (hinf : (P.info? e).map (fun i => (i.zero, i.size, i.bytes)) = some (some z, size, bytes))
    (v : Value) (n : Nat) (xs : List Value) (hs : a.eval s = v) (hown : w.ownsRow base e size v n xs) (A : Option Addr) (c : Nat) (hx : a.eval x = .slice A 0 c)
    (h : wpList P ops Q rest (a.put o.dst v) w) : wpList P ops Q (o :: rest) a w := by
  obtain ⟨i, hi, h2, h3, h4⟩ := info_parts hinf
  refine wpList_plain hgd fun K hK => ?_
  have hrun := run_append_owned_empty (P := P) (w := w) base t o.type e i size ht hi v n xs hown A c
  unfold Oper.wp
  simp [execOp, ho, resolve, invoke, builtin, hs, hx, hrun, Result.andThen]
  exact hK _ _ h
end Go.Proofs.YtnbfhdgojmflhaaGreat
namespace Go.Proofs.YtnbfhdgojmflhaaGreat
open Go.RowKit
end Go.Proofs.YtnbfhdgojmflhaaGreat
