/-
  No statement is proved here: contracts of the verifier's LentBytes, KeptBytes and OverBytes.
-/
import Derived.Test.YtbolbddjmmfepaaKit
import Derived.Laws.OwnMore
namespace Go.Proofs.Ytbolbddjmmfepaa
open Go.RowKit

def markM (k i : Int) : Int := 1000003 * (k + 7) + i
theorem mark_any (k i : Int) (k0 : 0 ≤ k) (k1 : k ≤ 1000000) (i0 : 0 ≤ i) (i1 : i ≤ 1000000000000) (w : World) :
    Calls Try.prog 72 #[.int .i64 k, .int .i64 i] w fun e w' => e = .returned (.int .i64 (markM k i)) ∧ w = w' := by
  go_enter Try.func72, Try.ntmps72
  go_wp2
  go_ret
  exact ⟨rfl, rfl⟩
def markB (k i : Int) : UInt8 := UInt8.ofNat (IntKind.u64.wrap (markM k i * 11400714819323198485) / 72057594037927936).toNat
theorem wrap_u64 (x : Int) : 0 ≤ IntKind.u64.wrap x := by
  have : IntKind.u64.wrap x = x % 18446744073709551616 := by simp [IntKind.wrap, IntKind.signed, IntKind.bits]
  omega
theorem markByte_any (k i : Int) (k0 : 0 ≤ k) (k1 : k ≤ 1000000) (i0 : 0 ≤ i) (i1 : i ≤ 1000000000000) (w : World) :
    Calls Try.prog 46 #[.int .i64 k, .int .i64 i] w fun e w' => e = .returned (.int .u8 (markB k i).toNat) ∧ w = w' := by
  have h0 : 0 ≤ markM k i := by unfold markM; omega
  have h1 : markM k i ≤ 9000000000000 := by unfold markM; omega
  go_enter Try.func46, Try.ntmps46
  go_wp2_with (go_at_call 72; refine (mark_any k i k0 k1 i0 i1 _).mono ?_; rintro e wx ⟨rfl, rfl⟩)
  go_ret
  refine ⟨ret_int ?_, rfl⟩
  have h2 := wrap_u64 (markM k i * 11400714819323198485)
  unfold markB
  rw [UInt8.toNat_ofNat']
  omega
def lentL (l : Bytes) (k : Nat) : Bytes := l ++ (List.range k).map fun (i : Nat) => markB 1 (i : Int)
theorem len_lentL (l : Bytes) (k : Nat) : (lentL l k).length = l.length + k := by simp [lentL]
theorem lentL_succ (l : Bytes) (k : Nat) : lentL l (k + 1) = lentL l k ++ [markB 1 (k : Int)] := by
  unfold lentL
  rw [List.range_succ, List.map_append, List.append_assoc]
  rfl
theorem cellsOf_append (l m : Bytes) : (cellsOf (l ++ m)).toList = (cellsOf l).toList ++ (cellsOf m).toList := by simp [cellsOf]
theorem run_append_owned_empty {P : Program} {w : World} (base : Nat) (t ty e : TypeId) (i : TypeInfo) (size : Nat) (ht : P.underlying t = some (.slice e)) (hi : P.info? e = some i)
    (v : Value) (n : Nat) (xs : List Value) (hown : w.ownsRow base e size v n xs) (A : Option Addr) (c : Nat) :
    (Builtin.append_ #[t, t] ty #[v, .slice A 0 c]).run P w = .ok v w := by
  rcases hown.2 with ⟨rfl, rfl⟩ | ⟨g, cap, cur, rfl, _, _, hnc, _⟩
  · cases A <;> simp [Builtin.append_, run_underlying ht, sizeOf, typeInfo, hi, Builtin.lenOf, Builtin.firstCells, loadCells, loadCellsFrom]
  · cases A <;> simp [Builtin.append_, run_underlying ht, sizeOf, typeInfo, hi, Builtin.lenOf, Builtin.firstCells, hnc, storeCells, loadCells, loadCellsFrom]
theorem OwnB.kept {w w' : World} {base g cap : Nat} {l : Bytes} (h : OwnB w base g cap l) (hk : Kept (fun _ => False) w w') : OwnB w' base g cap l := by
  obtain ⟨h0, h⟩ := h
  rcases h with ⟨h, h'⟩ | ⟨g', cap', cur, hv, hb, hh, h1, h2, h3, h4⟩
  · cases h
  · exact ⟨h0, .inr ⟨g', cap', cur, hv, hb, hk.heap hh id, h1, h2, h3, h4⟩⟩
theorem OwnB.keep {S : Nat → Prop} {w w' : World} {base g cap : Nat} {l : Bytes} (h : OwnB w base g cap l) (hk : Kept S w w') (hn : ¬ S g) : OwnB w' base g cap l := by
  obtain ⟨h0, h⟩ := h
  rcases h with ⟨h, h'⟩ | ⟨g', cap', cur, hv, hb, hh, h1, h2, h3, h4⟩
  · cases h
  · injection hv with e1 e2 e3
    injection e1 with e1
    injection e1 with e1
    subst e1
    exact ⟨h0, .inr ⟨g, cap', cur, by rw [e3], hb, hk.heap hh hn, h1, h2, h3, h4⟩⟩
theorem OwnB.base_le {w : World} {base g cap : Nat} {l : Bytes} (h : OwnB w base g cap l) : base ≤ g := by
  obtain ⟨_, h, _⟩ := h.form; exact h
/-- 'append', nothing appended. -/
theorem wl_append0 {P : Program} {w : World} {ops : Array Oper} {rest : List Oper} {o : Oper} {a : Act} {Q : Exit → Act → World → Prop} (hgd : o.guard = none) (s x : Operand) (t : TypeId)
    (ho : o.op = .call { callee := .builtin .append, args := #[s, x], argTypes := #[t, t] })
    (base : Nat) (e : TypeId) {z : Value} {size bytes : Nat} (ht : P.underlying t = some (.slice e)) (hinf : (P.info? e).map (fun i => (i.zero, i.size, i.bytes)) = some (some z, size, bytes))
    (v : Value) (n : Nat) (xs : List Value) (hs : a.eval s = v) (hown : w.ownsRow base e size v n xs) (A : Option Addr) (c : Nat) (hx : a.eval x = .slice A 0 c)
    (h : wpList P ops Q rest (a.put o.dst v) w) : wpList P ops Q (o :: rest) a w := by
  obtain ⟨i, hi, h2, h3, h4⟩ := info_parts hinf
  refine wpList_plain hgd fun K hK => ?_
  have hrun := run_append_owned_empty (P := P) (w := w) base t o.type e i size ht hi v n xs hown A c
  unfold Oper.wp
  simp [execOp, ho, resolve, invoke, builtin, hs, hx, hrun, Result.andThen]
  exact hK _ _ h
/-- 'append', bytes appended (or none) onto bytes of the call's own. -/
theorem wl_appendB {w : World} {ops : Array Oper} {rest : List Oper} {o : Oper} {a : Act} {Q : Exit → Act → World → Prop} (hgd : o.guard = none) (s x : Operand)
    (ho : o.op = .call { callee := .builtin .append, args := #[s, x], argTypes := #[23, 23] }) (base g cap : Nat) (l m : Bytes) (hs : a.eval s = .slice (some ⟨g, 0, none⟩) l.length cap) (hown : OwnB w base g cap l)
    (A : Option Addr) (c : Nat) (hx : a.eval x = .slice A m.length c) (hm : RdB w A m) (h63 : l.length + m.length ≤ 140737488355328) (hbase : base ≤ w.heap.size)
    (k : ∀ g' cap' w', OwnB w' base g' cap' (l ++ m) → Kept (fun x => x = g) w w' → (g' = g ∨ w.heap.size ≤ g') → g' < w'.heap.size → wpList Try.prog ops Q rest (a.put o.dst (.slice (some ⟨g', 0, none⟩) (l.length + m.length) cap')) w') : wpList Try.prog ops Q (o :: rest) a w := by
  by_cases h0 : m = []
  · subst h0
    refine wl_append0 hgd s x 23 ho base 5 Try.underlying23 info5 _ l.length _ hs hown A c hx ?_
    refine k g cap w (by simpa using hown) (Kept.refl _ _) (.inl rfl) ?_
    obtain ⟨cur, _, hh, _⟩ := hown.form
    exact heap_lt hh
  · obtain ⟨b, off, rfl, hc⟩ := hm h0
    have : 0 < m.length := List.length_pos_iff.2 h0
    have e63 : maxLen = 9223372036854775807 := rfl
    refine wl_append hgd s x 23 ho base 5 Try.underlying23 info5 rfl (by omega) _ l.length _ hs hown b off m.length c (cellsOf m).toList hx (by rw [cellsOf_len, Nat.mul_one]) (fun j u hu => hc j u (by simpa using hu)) (fun u hu => (Array.all_eq_true_iff_forall_mem.1 (one_cellsOf m)) u (by simpa using hu)) this (by omega) (by omega) hbase ?_
    intro g' cap' w' ho' hk' hat m'
    refine k g' cap' w' ?_ (hk'.mono (fun x _ e => by simpa [Value.ownBlock, eq_comm] using e)) (hat.imp_left (fun e => by simpa [Value.ownBlock, eq_comm] using e)) m'
    unfold OwnB
    rw [List.length_append, cellsOf_append]
    exact ho'
theorem OwnB.made0 {w : World} {g base n : Nat} (h : w.heap[g]? = some (.cells (cellsOf (zeros n)) 5 (0, 0))) (hb : base ≤ g) (hn : n ≤ maxLen) : OwnB w base g n [] :=
  ⟨rfl, .inr ⟨g, n, _, rfl, hb, h, Nat.zero_le _, hn, by rw [size_cellsOf, len_zeros, Nat.mul_one], rfl⟩⟩

set_option maxHeartbeats 800000 in
theorem lentB_any (A : Option Addr) (c : Nat) (l : Bytes) (w : World) (h : RdB w A l) (hl : l.length ≤ 1000000) :
    Calls Try.prog 11 #[.slice A l.length c] w fun e w' => ∃ g cap, e = .returned (.slice (some ⟨g, 0, none⟩) l.length cap) ∧ OwnB w' w.heap.size g cap (lentL l 12) ∧ Kept (fun _ => False) w w' := by
  have H := Lib.hid h
  clear h
  have e63 : maxLen = 9223372036854775807 := rfl
  go_enter Try.func11, Try.ntmps11
  go_wp2_with (refine wl_makeB rfl _ _ rfl .i64 .i64 0 (l.length + 12) rfl (by go_num) (by omega) (by omega) ?_)
  intro g1 w1 n1 m1 hb1 hk1
  have HO1 := Lib.hid (OwnB.made0 hb1 n1 (by omega))
  have HR1 := Lib.hid (H.out.kept hk1 (fun _ _ _ _ => id))
  have HK1 := Lib.hid hk1
  have s1 := hk1.size
  clear hb1 hk1
  go_wp2_with (at_builtin; refine wl_appendB rfl _ _ rfl w.heap.size g1 _ [] l rfl HO1.out A c rfl HR1.out (by simp; omega) s1 ?_)
  intro g2 cap2 w2 ho2 hk2 hat2 m2
  have n2 : w.heap.size ≤ g2 := by rcases hat2 with rfl | h <;> omega
  have HO2 := Lib.hid (show OwnB w2 w.heap.size g2 cap2 (lentL l 0) from by simpa [lentL] using ho2)
  have HK2 := Lib.hid (HK1.out.new hk2 (by rintro x rfl; omega))
  have s2 := HK2.out.size
  clear ho2 hk2 hat2 HR1 HO1 HK1
  go_wp2
  go_loopw [3, 4] (fun o i wr => ∃ (k g cap : Nat), k ≤ 12 ∧ i = .int .i64 k ∧ o = .slice (some ⟨g, 0, none⟩) (l.length + k) cap ∧ OwnB wr w.heap.size g cap (lentL l k) ∧ w.heap.size ≤ g ∧ Kept (fun _ => False) w wr) (fun o i wr => 12 - (intOf i).toNat)
  case atStart => exact ⟨0, g2, cap2, by omega, rfl, rfl, HO2.out, n2, HK2.out⟩
  case round =>
    obtain ⟨k, g, cap, hk, rfl, rfl, ho, ng, hkr⟩ := hrel
    have HO := Lib.hid ho
    have HK := Lib.hid hkr
    have sr := hkr.size
    have hcap : l.length + k ≤ cap := by
      obtain ⟨cur, _, _, h, _⟩ := ho.form
      rwa [len_lentL] at h
    clear ho hkr
    by_cases hlt : k < 12
    · have i1 : (k : Int) < 12 := by omega
      have HM := Lib.hid (fun wx => markByte_any 1 (k : Int) (by omega) (by omega) (by omega) (by omega) wx)
      have HA := Lib.hid (HO.out.kept ((Kept.refl _ wr).alloc (.cells #[.int .u8 (markB 1 (k : Int)).toNat] 5)))
      have HS := Lib.hid (RdB.of_blk (l := [markB 1 (k : Int)]) (heap_alloc_new wr (.cells #[.int .u8 (markB 1 (k : Int)).toNat] 5)))
      have HKa := Lib.hid (HK.out.alloc (.cells #[.int .u8 (markB 1 (k : Int)).toNat] 5))
      go_wp2_with (first
        | (go_at_call 46; refine (HM.out _).mono ?_; rintro e wx ⟨rfl, rfl⟩)
        | (at_builtin; refine wl_appendB rfl _ _ rfl w.heap.size g cap (lentL l k) [markB 1 (k : Int)] (by rw [len_lentL]; rfl) HA.out _ 1 rfl HS.out (by rw [len_lentL]; simp; omega) (by simp; omega) ?_))
      intro g3 cap3 w3 ho3 hk3 hat3 m3
      have HO3 := Lib.hid (show OwnB w3 w.heap.size g3 cap3 (lentL l (k + 1)) from by rw [lentL_succ]; exact ho3)
      have HK3 := Lib.hid (HKa.out.new hk3 (by rintro x rfl; omega))
      have n3 : w.heap.size ≤ g3 := by
        rcases hat3 with rfl | h
        · exact ng
        · have := HKa.out.size; omega
      clear ho3 hk3 hat3
      go_wp2
      go_roundw
      case rel => exact ⟨k + 1, g3, cap3, by omega, by go_num, by rw [len_lentL]; rfl, HO3.out, n3, HK3.out⟩
      case measure => simp [intOf]; omega
    · have hge : ¬ ((k : Int) < 12) := by omega
      have hk12 : k = 12 := by omega
      subst hk12
      have q0 : l.length ≤ cap := by omega
      go_wp2
      go_ret
      exact ⟨g, cap, rfl, HO.out, HK.out⟩
end Go.Proofs.Ytbolbddjmmfepaa
