/-
  No statement is proved here: contracts of the verifier's LentFates and KeptFates.
-/
import Derived.Test.YtjhbkamgmldkmaaKept
import Derived.Deep.RegionHeld3
namespace Go.Proofs.Ytjhbkamgmldkmaa
open Go.RowKit

def fateVals (fs : Fates) : List Value := fs.flatMap fun x => [.int .i64 x.1, .int .u8 x.2.toNat]
theorem fateVals_append (l m : Fates) : fateVals (l ++ m) = fateVals l ++ fateVals m := by simp [fateVals]
theorem fateVals_len (l : Fates) : (fateVals l).length = l.length * 2 := by
  induction l with
  | nil => rfl
  | cons a r ih => simp [fateVals] at *; omega
theorem fateVals_get (l : Fates) (i : Nat) : (fateVals l)[i * 2]? = (l[i]?).map (fun x => Value.int .i64 x.1) ∧ (fateVals l)[i * 2 + 1]? = (l[i]?).map (fun x => Value.int .u8 x.2.toNat) := by
  induction l generalizing i with
  | nil => simp [fateVals]
  | cons a r ih =>
    have e : fateVals (a :: r) = [.int .i64 a.1, .int .u8 a.2.toNat] ++ fateVals r := rfl
    rw [e]
    cases i with
    | zero => exact ⟨rfl, rfl⟩
    | succ j =>
      have := ih j
      constructor
      · rw [List.getElem?_append_right (by simp; omega), show (j + 1) * 2 - [Value.int .i64 a.1, .int .u8 a.2.toNat].length = j * 2 by simp; omega, this.1]; simp
      · rw [List.getElem?_append_right (by simp; omega), show (j + 1) * 2 + 1 - [Value.int .i64 a.1, .int .u8 a.2.toNat].length = j * 2 + 1 by simp; omega, this.2]; simp
/-- Fates in a row of their own. -/
def OwnF (w : World) (base g cap : Nat) (fs : Fates) : Prop := w.ownsRow base 39 2 (.slice (some ⟨g, 0, none⟩) fs.length cap) fs.length (fateVals fs)
section
variable {w w' : World} {base g cap : Nat} {l : Fates}
theorem OwnF.form (h : OwnF w base g cap l) : ∃ cur, base ≤ g ∧ w.heap[g]? = some (.cells cur 39 (0, 0)) ∧ l.length ≤ cap ∧ cap ≤ maxLen ∧ cur.size = cap * 2 ∧ cur.toList.take (l.length * 2) = fateVals l := by
  obtain ⟨_, h⟩ := h
  rcases h with ⟨h, _⟩ | ⟨g', cap', cur, hv, hb, hh, h1, h2, h3, h4⟩
  · cases h
  · injection hv with e1 e2 e3
    injection e1 with e1
    injection e1 with e1
    subst e1; subst e3
    exact ⟨cur, hb, hh, h1, h2, h3, h4⟩
theorem OwnF.cellsAt (h : OwnF w base g cap l) {i : Nat} {x : Int × UInt8} (hx : l[i]? = some x) : w.cell? ⟨g, i * 2, none⟩ = some (.int .i64 x.1) ∧ w.cell? ⟨g, i * 2 + 1, none⟩ = some (.int .u8 x.2.toNat) := by
  have hi := (List.getElem?_eq_some_iff.1 hx).1
  have hg := fateVals_get l i
  rw [hx] at hg
  unfold OwnF at h
  exact ⟨(h.cellAt (i * 2) (by omega)).trans hg.1, (h.cellAt (i * 2 + 1) (by omega)).trans hg.2⟩
theorem OwnF.rd (h : OwnF w base g cap l) : RdF w (some ⟨g, 0, none⟩) l := fun _ => ⟨g, 0, rfl, fun i x hx => by
  have := h.cellsAt hx
  rw [Nat.zero_add]
  exact this⟩
theorem OwnF.keep {S : Nat → Prop} (h : OwnF w base g cap l) (hk : Kept S w w') (hn : ¬ S g) : OwnF w' base g cap l :=
  ownsRow_kept' h hk (fun x hx => by cases hx; exact hn)
where
  ownsRow_kept' {S : Nat → Prop} {base : Nat} {e : TypeId} {size n : Nat} {v : Value} {xs : List Value} (h : w.ownsRow base e size v n xs) (hk : Kept S w w') (hn : ∀ x, v.ownBlock = some x → ¬ S x) : w'.ownsRow base e size v n xs := by
    obtain ⟨h0, h⟩ := h
    refine ⟨h0, ?_⟩
    rcases h with h | ⟨g, cap, cur, hv, hb, hh, h1, h2, h3, h4⟩
    · exact .inl h
    · exact .inr ⟨g, cap, cur, hv, hb, hk.heap hh (hn g (by rw [hv]; rfl)), h1, h2, h3, h4⟩
theorem RdF.kept {S : Nat → Prop} {A : Option Addr} (h : RdF w A l) (hk : Kept S w w') (hS : l ≠ [] → ∀ b off, A = some ⟨b, off, none⟩ → b < w.heap.size → ¬ S b) : RdF w' A l := by
  intro hl
  obtain ⟨b, off, e, hc⟩ := h hl
  refine ⟨b, off, e, fun i x hx => ?_⟩
  obtain ⟨h1, h2⟩ := hc i x hx
  have lb := block_lt_of_cell h1
  exact ⟨(World.cell?_of_block (hk.block b lb (hS hl b off e lb))).trans h1, (World.cell?_of_block (hk.block b lb (hS hl b off e lb))).trans h2⟩
theorem RdF.vals {A : Option Addr} (h : RdF w A l) (hl : l ≠ []) : ∃ b off, A = some ⟨b, off, none⟩ ∧ ∀ j u, (fateVals l)[j]? = some u → w.cell? ⟨b, off + j, none⟩ = some u := by
  obtain ⟨b, off, e, hc⟩ := h hl
  refine ⟨b, off, e, fun j u hu => ?_⟩
  have hj := (List.getElem?_eq_some_iff.1 hu).1
  rw [fateVals_len] at hj
  obtain ⟨i, hi⟩ : ∃ i, j = i * 2 ∨ j = i * 2 + 1 := ⟨j / 2, by omega⟩
  have hg := fateVals_get l i
  have hx : l[i]? = some l[i] := List.getElem?_eq_getElem (by omega)
  have h1 := hc _ _ hx
  rw [hx] at hg
  rcases hi with rfl | rfl
  · rw [hg.1] at hu
    cases hu
    exact h1.1
  · rw [hg.2] at hu
    cases hu
    exact h1.2
theorem fateVals_one (l : Fates) : ∀ u ∈ fateVals l, u.oneCell' = true := by
  intro u hu
  simp [fateVals] at hu
  obtain ⟨a, b, _, rfl | rfl⟩ := hu <;> rfl
end
theorem infoFate3 : (Try.prog.info? 39).map (fun i => (i.zero, i.size, i.bytes)) = some (some (.agg #[.int .i64 0, .int .u8 0]), 2, 16) := by kernel_rfl
/-- 'make([]api.Fate, 0, n)'. -/
theorem wl_makeF {ops : Array Oper} {Q : Exit → Act → World → Prop} {a : Act} {w : World} {rest : List Oper} {o : Oper} (hg : o.guard = none) (x c : Operand) (ho : o.op = .makeSlice 23 x c)
    (kl kc : IntKind) (m : Nat) (hl : a.eval x = .int kl 0) (hc : a.eval c = .int kc m) (hm : m ≤ 1000000000000)
    (k : ∀ g w', w.heap.size ≤ g → OwnF w' w.heap.size g m [] → Kept (fun _ => False) w w' → wpList Try.prog ops Q rest (a.put o.dst (.slice (some ⟨g, 0, none⟩) 0 m)) w') : wpList Try.prog ops Q (o :: rest) a w := by
  obtain ⟨i, hi, h2, h3, h4⟩ := info_parts infoFate3
  have hr := run_make (P := Try.prog) w 23 39 i _ Try.underlying23 hi h2 kl kc (0 : Int) (m : Int) (by omega) (by omega) (by rw [h4]; omega) (by omega)
  simp only [Int.toNat_natCast, h3] at hr
  refine wl_val hg (v := .slice (some ⟨w.heap.size, 0, none⟩) 0 m) (w' := w.alloc (.cells (madeCells (Value.agg #[.int .i64 0, .int .u8 0]).cells (m * 2)) 39)) ?_ (k w.heap.size _ (Nat.le_refl _) ⟨rfl, .inr ⟨w.heap.size, m, _, rfl, Nat.le_refl _, heap_alloc_new w _, Nat.zero_le _, by have : maxLen = 9223372036854775807 := rfl; omega, size_madeCells _ _, rfl⟩⟩ ((Kept.refl _ w).alloc _))
  simp [execOp, ho, hl, hc, hr, Result.andThen]
/-- 'append', fates appended (or none) onto fates of the call's own. -/
theorem wl_appendF {w : World} {ops : Array Oper} {rest : List Oper} {o : Oper} {a : Act} {Q : Exit → Act → World → Prop} (hgd : o.guard = none) (s x : Operand)
    (ho : o.op = .call { callee := .builtin .append, args := #[s, x], argTypes := #[23, 23] }) (base g cap : Nat) (l m : Fates) (hs : a.eval s = .slice (some ⟨g, 0, none⟩) l.length cap) (hown : OwnF w base g cap l)
    (A : Option Addr) (c : Nat) (hx : a.eval x = .slice A m.length c) (hm : RdF w A m) (h63 : l.length + m.length ≤ 1000000000) (hbase : base ≤ w.heap.size)
    (k : ∀ g' cap' w', OwnF w' base g' cap' (l ++ m) → Kept (fun x => x = g) w w' → (g' = g ∨ w.heap.size ≤ g') → g' < w'.heap.size → wpList Try.prog ops Q rest (a.put o.dst (.slice (some ⟨g', 0, none⟩) (l.length + m.length) cap')) w') : wpList Try.prog ops Q (o :: rest) a w := by
  by_cases h0 : m = []
  · subst h0
    refine wl_append0 hgd s x 23 ho base 39 Try.underlying23 infoFate3 _ l.length _ hs hown A c hx ?_
    refine k g cap w (by simpa using hown) (Kept.refl _ _) (.inl rfl) ?_
    obtain ⟨cur, _, hh, _⟩ := hown.form
    exact heap_lt hh
  · obtain ⟨b, off, rfl, hc⟩ := hm.vals h0
    have : 0 < m.length := List.length_pos_iff.2 h0
    have e63 : maxLen = 9223372036854775807 := rfl
    refine wl_append hgd s x 23 ho base 39 Try.underlying23 infoFate3 rfl (by omega) _ l.length _ hs hown b off m.length c (fateVals m) hx (fateVals_len m) hc (fateVals_one m) this (by omega) (by omega) hbase ?_
    intro g' cap' w' ho' hk' hat m'
    refine k g' cap' w' ?_ (hk'.mono (fun x _ e => by simpa [Value.ownBlock, eq_comm] using e)) (hat.imp_left (fun e => by simpa [Value.ownBlock, eq_comm] using e)) m'
    unfold OwnF
    rw [List.length_append, fateVals_append]
    exact ho'
set_option maxHeartbeats 400000 in
theorem markFate_any (k i : Int) (k0 : 0 ≤ k) (k1 : k ≤ 1000000) (i0 : 0 ≤ i) (i1 : i ≤ 1000000000000) (w : World) :
    Calls Try.prog 51 #[.int .i64 k, .int .i64 i] w fun e w' => e = .returned (.agg #[.int .i64 (markM k i), .int .u8 0]) ∧ Kept (fun _ => False) w w' := by
  go_enter Try.func51, Try.ntmps51
  go_wp2_with (refine wl_alloc' rfl 39 rfl #[.int .i64 0, .int .u8 0] zeroFate ?_)
  intro g3 w3 n3 m3 hb3 hk3
  go_wp2_with (first
    | (go_at_call 70; refine (mark_any k i k0 k1 i0 i1 _).mono ?_; rintro e wx ⟨rfl, rfl⟩)
    | refine wl_store_row rfl 39 _ _ rfl g3 #[.int .i64 (markM k i), .int .u8 0] _ rfl rfl hb3 (zero_of_info infoFate).2 rfl (by simp [Value.oneCell']) ?_)
  intro w4 hb4 hk4
  have hK := hk3.new hk4 (by rintro x rfl; omega)
  have d0 : w4.cell? ⟨g3, 0, none⟩ = some (.int .i64 (markM k i)) := cell_blk hb4 rfl
  have d1 : w4.cell? ⟨g3, 1, none⟩ = some (.int .u8 0) := cell_blk hb4 rfl
  clear hb3 hk3 hk4
  go_wp2
  refine bodyPost_ret (results_cell_row rfl _ w4 g3 39 #[.int .i64 (markM k i), .int .u8 0] (0, 0) _ rfl hb4 Try.underlying39 rfl (zero_of_info infoFate).2) rfl ⟨rfl, hK⟩
def lentF (l : Fates) (k : Nat) : Fates := l ++ (List.range k).map fun (i : Nat) => (markM 1 (i : Int), 0)
theorem len_lentF (l : Fates) (k : Nat) : (lentF l k).length = l.length + k := by simp [lentF]
theorem lentF_succ (l : Fates) (k : Nat) : lentF l (k + 1) = lentF l k ++ [(markM 1 (k : Int), 0)] := by
  unfold lentF
  rw [List.range_succ, List.map_append, List.append_assoc]
  rfl
set_option maxHeartbeats 800000 in
theorem lentF_any (A : Option Addr) (c : Nat) (l : Fates) (w : World) (h : RdF w A l) (hl : l.length ≤ 1000000) :
    Calls Try.prog 43 #[.slice A l.length c] w fun e w' => ∃ g cap, e = .returned (.slice (some ⟨g, 0, none⟩) l.length cap) ∧ OwnF w' w.heap.size g cap (lentF l 12) ∧ Kept (fun _ => False) w w' := by
  have H := Lib.hid h
  clear h
  have e63 : maxLen = 9223372036854775807 := rfl
  go_enter Try.func43, Try.ntmps43
  go_wp2_with (refine wl_makeF rfl _ _ rfl .i64 .i64 (l.length + 12) rfl (by go_num) (by omega) ?_)
  intro g1 w1 n1 ho1 hk1
  have HO1 := Lib.hid ho1
  have HR1 := Lib.hid (H.out.kept hk1 (fun _ _ _ _ _ => id))
  have HK1 := Lib.hid hk1
  have s1 := hk1.size
  clear ho1 hk1
  go_wp2_with (at_builtin; refine wl_appendF rfl _ _ rfl w.heap.size g1 _ [] l rfl HO1.out A c rfl HR1.out (by simp; omega) s1 ?_)
  intro g2 cap2 w2 ho2 hk2 hat2 m2
  have n2 : w.heap.size ≤ g2 := by rcases hat2 with rfl | h <;> omega
  have HO2 := Lib.hid (show OwnF w2 w.heap.size g2 cap2 (lentF l 0) from by simpa [lentF] using ho2)
  have HK2 := Lib.hid (HK1.out.new hk2 (by rintro x rfl; omega))
  have s2 := HK2.out.size
  clear ho2 hk2 hat2 HR1 HO1 HK1
  go_wp2
  go_loopw [3, 4] (fun o i wr => ∃ (k g cap : Nat), k ≤ 12 ∧ i = .int .i64 k ∧ o = .slice (some ⟨g, 0, none⟩) (l.length + k) cap ∧ OwnF wr w.heap.size g cap (lentF l k) ∧ w.heap.size ≤ g ∧ Kept (fun _ => False) w wr) (fun o i wr => 12 - (intOf i).toNat)
  case atStart => exact ⟨0, g2, cap2, by omega, rfl, rfl, HO2.out, n2, HK2.out⟩
  case round =>
    obtain ⟨k, g, cap, hk, rfl, rfl, ho, ng, hkr⟩ := hrel
    have HO := Lib.hid ho
    have HK := Lib.hid hkr
    have sr := hkr.size
    have hcap : l.length + k ≤ cap := by
      obtain ⟨cur, _, _, h, _⟩ := ho.form
      rwa [len_lentF] at h
    clear ho hkr
    by_cases hlt : k < 12
    · have i1 : (k : Int) < 12 := by omega
      have HM := Lib.hid (fun wx => markFate_any 1 (k : Int) (by omega) (by omega) (by omega) (by omega) wx)
      go_wp2_with fail
      refine (HM.out _).mono ?_
      rintro e wx ⟨rfl, hkx⟩
      have HA := Lib.hid ((HO.out.keep hkx id).keep ((Kept.refl (fun _ => False) wx).alloc (.cells #[.int .i64 (markM 1 (k : Int)), .int .u8 0] 39)) id)
      have hb0 := heap_alloc_new wx (.cells #[.int .i64 (markM 1 (k : Int)), .int .u8 0] 39)
      have HS := Lib.hid (show RdF (wx.alloc (.cells #[.int .i64 (markM 1 (k : Int)), .int .u8 0] 39)) (some ⟨wx.heap.size, 0, none⟩) [(markM 1 (k : Int), 0)] from fun _ => ⟨_, 0, rfl, fun i x hx => by
        match i, hx with
        | 0, hx => cases hx; exact ⟨cell_blk hb0 rfl, cell_blk hb0 rfl⟩⟩)
      have HKa := Lib.hid ((HK.out.trans0 hkx).alloc (.cells #[.int .i64 (markM 1 (k : Int)), .int .u8 0] 39))
      have hkx' := Lib.hid hkx.size
      clear hkx hb0
      go_wp2_with (at_builtin; refine wl_appendF rfl _ _ rfl w.heap.size g cap (lentF l k) [(markM 1 (k : Int), 0)] (by rw [len_lentF]; rfl) HA.out _ 1 rfl HS.out (by rw [len_lentF]; simp; omega) HKa.out.size ?_)
      intro g3 cap3 w3 ho3 hk3 hat3 m3
      have HO3 := Lib.hid (show OwnF w3 w.heap.size g3 cap3 (lentF l (k + 1)) from by rw [lentF_succ]; exact ho3)
      have HK3 := Lib.hid (HKa.out.new hk3 (by rintro x rfl; omega))
      have n3 : w.heap.size ≤ g3 := by
        rcases hat3 with rfl | h
        · exact ng
        · have h2 := hkx'.out; have h3 := HK.out.size; omega
      clear ho3 hk3 hat3
      go_wp2
      go_roundw
      case rel => exact ⟨k + 1, g3, cap3, by omega, by go_num, by rw [len_lentF]; rfl, HO3.out, n3, HK3.out⟩
      case measure => simp [intOf]; omega
    · have hge : ¬ ((k : Int) < 12) := by omega
      have hk12 : k = 12 := by omega
      subst hk12
      have q0 : l.length ≤ cap := by omega
      go_wp2
      go_ret
      exact ⟨g, cap, rfl, HO.out, HK.out⟩
/-- Two fates are alike. -/
theorem bAt_lentF {l : Fates} {k : Nat} (h : l.length ≤ k) (h2 : k < l.length + 12) : (lentF l 12)[k]? = some (markM 1 ((k : Int) - (l.length : Int)), 0) := by
  unfold lentF
  rw [List.getElem?_append_right h, List.getElem?_map, List.getElem?_range (by omega)]
  simp only [Option.map_some]
  rw [show ((k - l.length : Nat) : Int) = (k : Int) - (l.length : Int) by omega]
theorem lentF_lt {l : Fates} {k : Nat} (h : k < l.length) : (lentF l 12)[k]? = l[k]? := by
  unfold lentF
  rw [List.getElem?_append_left h]
/-- As 'wp_region_quiet_lit', at whatever class of worlds. -/
theorem wp_region_quiet_class {P : Program} {C : World → Prop} {id : Nat} {Q : Exit → Act → World → Prop} {a : Act} {w : World} {l : List Oper} (hm : P.follows .mixedOrders = true) (hB : Region.lexB .any l.toArray = true) (hC : C w.drew)
    (h : wpQuiet P l.toArray C (fun a' => ∀ w', C w' → Q .normal a' w') l a) : (Code.region id l.toArray true).wp P Q a w :=
  wp_region_quiet (C := C) hm hB hC (by simpa using h)
/-- The worlds in which what was there stands, as a class; two cells. -/
theorem class_kept {w : World} {b o b' o' : Nat} {v v' : Value} (h : w.cell? ⟨b, o, none⟩ = some v) (h' : w.cell? ⟨b', o', none⟩ = some v') :
    ∃ (T : Type) (f : T → World) (_ : Nonempty T), (∃ n, w.drew = f n) ∧ (∀ n, (f n).cell? ⟨b, o, none⟩ = some v) ∧ (∀ n, (f n).cell? ⟨b', o', none⟩ = some v') ∧
      (∀ n wx, Kept (fun _ => False) (f n) wx → ∃ m, wx = f m) ∧ (∀ n, Kept (fun _ => False) w (f n)) := by
  refine ⟨{ x : World // Kept (fun _ => False) w x }, fun x => x.1, ⟨⟨w, Kept.refl _ _⟩⟩, ⟨⟨w.drew, (Kept.refl _ _).drew⟩, rfl⟩, fun n => ?_, fun n => ?_, fun n wx hx => ⟨⟨wx, n.2.trans0 hx⟩, rfl⟩, fun n => n.2⟩
  · exact (World.cell?_of_block (n.2.block b (block_lt_of_cell h) id)).trans h
  · exact (World.cell?_of_block (n.2.block b' (block_lt_of_cell h') id)).trans h'
set_option maxHeartbeats 1600000 in
theorem keptF_any (A : Option Addr) (g base cap c : Nat) (l : Fates) (w : World) (h : RdF w A l) (ho : OwnF w base g cap (lentF l 12)) (hl : l.length ≤ 1000000) :
    Calls Try.prog 44 #[.slice (some ⟨g, 0, none⟩) l.length cap, .slice A l.length c] w fun e w' => e = .returned (.bool true) ∧ Kept (fun _ => False) w w' := by
  have H := Lib.hid h
  have HO := Lib.hid ho
  have hcap : l.length + 12 ≤ cap := by
    obtain ⟨cur, _, _, h, _⟩ := ho.form
    rwa [len_lentF] at h
  have hm : cap ≤ 9223372036854775807 := by
    obtain ⟨cur, _, _, _, h, _⟩ := ho.form
    exact h
  clear h ho
  go_enter Try.func44, Try.ntmps44
  go_wp2
  go_loopw [6] (fun i wr => ∃ k : Nat, k ≤ l.length + 12 ∧ i = .int .i64 k ∧ Kept (fun _ => False) w wr) (fun i _ => l.length + 12 - (intOf i).toNat)
  case atStart => exact ⟨0, Nat.zero_le _, rfl, Kept.refl _ _⟩
  case round =>
    obtain ⟨k, hk, rfl, hkr⟩ := hrel
    have HK := Lib.hid hkr
    by_cases hlt : k < l.length + 12
    · have i0 : (0 : Int) ≤ (k : Int) := by omega
      have i1 : (k : Int) < (l.length : Int) + 12 := by omega
      by_cases hll : k < l.length
      · have hlk : l[k]? = some l[k] := List.getElem?_eq_getElem hll
        obtain ⟨c1, c2⟩ := (HO.out.keep hkr id).cellsAt ((lentF_lt hll).trans hlk)
        obtain ⟨b', off', hA', hc⟩ := H.out.kept hkr (fun _ _ _ _ _ => id) (by intro e; simp [e] at hll)
        obtain ⟨c3, c4⟩ := hc k _ hlk
        generalize l[k] = x at c1 c2 c3 c4
        obtain ⟨fb, fk⟩ := x
        simp only at c1 c2 c3 c4
        subst hA'
        have i2 : (k : Int) < (l.length : Int) := by omega
        have hd : decide (l.length ≤ k) = false := by simpa using hll
        clear hkr hlk hc
        go_wp2
        go_quiet (fail)
        go_wp2
        go_roundw
        case rel => exact ⟨k + 1, by omega, by go_num, HK.out.drewN _⟩
        case measure => simp [intOf]; omega
      · obtain ⟨c1, c2⟩ := (HO.out.keep hkr id).cellsAt (bAt_lentF (by omega) hlt)
        simp only at c1 c2
        have hd1 : decide (k < l.length) = false := by simpa using hll
        have hd2 : decide (l.length ≤ k) = true := by simpa using hll
        have HM := Lib.hid (fun wx => markFate_any 1 ((k : Int) - (l.length : Int)) (by omega) (by omega) (by omega) (by omega) wx)
        rw [show ((UInt8.toNat 0 : Nat) : Int) = 0 from rfl] at c2
        obtain ⟨T, f, hne, hT0, hT1, hT2, hT3, hT4⟩ := class_kept c1 c2
        have HT0 := Lib.hid hT0
        have HT3 := Lib.hid hT3
        have HT4 := Lib.hid hT4
        clear hkr hT0 hT3 hT4 c1 c2
        go_wp2
        refine wp_region_quiet_class (C := fun w' => ∃ n : T, w' = f n) (by kernel_rfl) (by kernel_rfl) HT0.out ?_
        repeat (go_big_quiet_step (first | (go_at_call 51; exact (HM.out _).mono (fun _ _ h => ⟨h.1, HT3.out _ _ h.2⟩))))
        refine wpQuiet_nil ?_
        intro _ hw'
        obtain ⟨nq, hw''⟩ := hw'
        subst hw''
        have HKn := Lib.hid (HT4.out nq)
        generalize f nq = wn at HKn ⊢
        go_wp2
        go_roundw
        case rel => exact ⟨k + 1, by omega, by go_num, HK.out.trans0 HKn.out⟩
        case measure => simp [intOf]; omega
    · have hge : ¬ ((k : Int) < (l.length : Int) + 12) := by omega
      clear hkr
      go_wp2
      go_ret
      exact ⟨rfl, HK.out⟩
theorem lentF_rd {base g cap : Nat} {l : Fates} {w : World} (h : OwnF w base g cap (lentF l 12)) : RdF w (some ⟨g, 0, none⟩) l := fun _ => ⟨g, 0, rfl, fun i x hx => by
  have hi := (List.getElem?_eq_some_iff.1 hx).1
  have := h.cellsAt ((lentF_lt hi).trans hx)
  rw [Nat.zero_add]
  exact this⟩
end Go.Proofs.Ytjhbkamgmldkmaa
