/-
  No statement is proved here: a part of what the claim's last text rests on.
-/
import Derived.Test.YtnbfhdgojmflhaaGreatJKept
import Derived.Lib.SliceRun
import Derived.Test.YtnbfhdgojmflhaaGreatJOrc
import Derived.Deep.RegionHeld3
namespace Go.Proofs.YtnbfhdgojmflhaaGreat
abbrev Sp := List (Nat × Nat)
def putD (o : Sp) (f : Int) (t : Nat) : Sp := if 0 ≤ f then o ++ [(f.toNat, t)] else o
def nextD (a b : Bytes) (i : Nat) (o : Sp) (f : Int) (t : Nat) : Sp × Int × Nat := if bAt a i = bAt b i then (o, f, t) else if f < 0 ∨ (8 : Int) ≤ (i : Int) - t then (putD o f t, i, i + 1) else (o, f, i + 1)
def SpOk (a b : Bytes) (i : Nat) (s : Nat × Nat) : Prop := s.1 < s.2 ∧ s.2 ≤ i ∧ bAt a s.1 ≠ bAt b s.1 ∧ bAt a (s.2 - 1) ≠ bAt b (s.2 - 1)
def Apart8 (s u : Nat × Nat) : Prop := s.2 + 8 ≤ u.1
structure DInv (a b : Bytes) (i : Nat) (o : Sp) (f : Int) (t : Nat) : Prop where
  ok : ∀ s ∈ o, SpOk a b i s
  far : o.Pairwise Apart8
  cur : (f = -1 ∧ t = 0 ∧ o = []) ∨ ∃ n : Nat, f = n ∧ SpOk a b i (n, t) ∧ ∀ s ∈ o, Apart8 s (n, t)
  cov : ∀ j, j < i → bAt a j = bAt b j ∨ (∃ s ∈ o, s.1 ≤ j ∧ j < s.2) ∨ (0 ≤ f ∧ f ≤ j ∧ j < t)
theorem SpOk.le {a b : Bytes} {i k : Nat} {s : Nat × Nat} (h : SpOk a b i s) (hk : i ≤ k) : SpOk a b k s := ⟨h.1, Nat.le_trans h.2.1 hk, h.2.2⟩
theorem DInv.zero (a b : Bytes) : DInv a b 0 [] (-1) 0 := ⟨fun _ h => by simp at h, List.Pairwise.nil, .inl ⟨rfl, rfl, rfl⟩, fun j h => by omega⟩
structure DGood (a b : Bytes) (i : Nat) (o : Sp) : Prop where
  ok : ∀ s ∈ o, SpOk a b i s
  far : o.Pairwise Apart8
  cov : ∀ j, j < i → bAt a j = bAt b j ∨ (∃ s ∈ o, s.1 ≤ j ∧ j < s.2)
theorem DInv.done {a b : Bytes} {i t : Nat} {o : Sp} {f : Int} (h : DInv a b i o f t) : DGood a b i (putD o f t) := by
  rcases h.cur with ⟨rfl, rfl, rfl⟩ | ⟨n, rfl, hn, hf⟩
  · refine ⟨fun s hs => by simp [putD] at hs, by simp [putD], fun j hj => ?_⟩
    rcases h.cov j hj with e | ⟨s, hs, _⟩ | ⟨e, _⟩
    · exact .inl e
    · simp at hs
    · omega
  · have e : putD o n t = o ++ [(n, t)] := by unfold putD; rw [if_pos (by omega)]; simp
    rw [e]
    refine ⟨fun s hs => ?_, ?_, fun j hj => ?_⟩
    · rcases List.mem_append.1 hs with hs | hs
      · exact h.ok s hs
      · simp at hs; subst hs; exact hn
    · rw [List.pairwise_append]
      exact ⟨h.far, by simp, fun s hs u hu => by simp at hu; subst hu; exact hf s hs⟩
    · rcases h.cov j hj with e | ⟨s, hs, h1⟩ | ⟨h0, h1, h2⟩
      · exact .inl e
      · exact .inr ⟨s, List.mem_append.2 (.inl hs), h1⟩
      · exact .inr ⟨(n, t), by simp, by simp; omega⟩
theorem DInv.step {a b : Bytes} {i t : Nat} {o : Sp} {f : Int} (h : DInv a b i o f t) : DInv a b (i + 1) (nextD a b i o f t).1 (nextD a b i o f t).2.1 (nextD a b i o f t).2.2 := by
  unfold nextD
  by_cases he : bAt a i = bAt b i
  · rw [if_pos he]
    refine ⟨fun s hs => (h.ok s hs).le (by omega), h.far, ?_, fun j hj => ?_⟩
    · rcases h.cur with h1 | ⟨n, h1, h2, h3⟩
      · exact .inl h1
      · exact .inr ⟨n, h1, h2.le (by omega), h3⟩
    · by_cases e : j = i
      · subst e; exact .inl he
      · exact h.cov j (by omega)
  · rw [if_neg he]
    by_cases h8 : f < 0 ∨ (8 : Int) ≤ (i : Int) - t
    · rw [if_pos h8]
      have hd := h.done
      refine ⟨fun s hs => (hd.ok s hs).le (by omega), hd.far, .inr ⟨i, rfl, ⟨by simp, by simp, he, by simpa using he⟩, fun s hs => ?_⟩, fun j hj => ?_⟩
      · show s.2 + 8 ≤ i
        rcases h.cur with ⟨rfl, rfl, rfl⟩ | ⟨n, rfl, hn, hf⟩
        · simp [putD] at hs
        · have h8' : (8 : Int) ≤ (i : Int) - t := by omega
          have e : putD o n t = o ++ [(n, t)] := by unfold putD; rw [if_pos (by omega)]; simp
          rw [e] at hs
          rcases List.mem_append.1 hs with hs | hs
          · have := hf s hs
            have h2 := hn.1
            unfold Apart8 at this
            simp at this h2
            omega
          · simp at hs; subst hs; simp; omega
      · by_cases e : j = i
        · subst e; exact .inr (.inr (by simp))
        · rcases hd.cov j (by omega) with e | hs
          · exact .inl e
          · exact .inr (.inl hs)
    · rw [if_neg h8]
      rcases h.cur with ⟨rfl, rfl, rfl⟩ | ⟨n, rfl, hn, hf⟩
      · omega
      · have hn1 := hn.1
        have hn2 := hn.2.1
        simp at hn1 hn2
        refine ⟨fun s hs => (h.ok s hs).le (by omega), h.far, .inr ⟨n, rfl, ⟨by simp; omega, by simp, hn.2.2.1, by simpa using he⟩, fun s hs => hf s hs⟩, fun j hj => ?_⟩
        by_cases e : j = i
        · subst e; exact .inr (.inr (by simp; omega))
        · rcases h.cov j (by omega) with e | hs | ⟨h1, h2, h3⟩
          · exact .inl e
          · exact .inr (.inl hs)
          · exact .inr (.inr ⟨h1, h2, by show j < i + 1; omega⟩)
def mixS (a b : Bytes) (S : Sp) : Bytes := (List.range 512).map fun j => if S.any (fun s => decide (s.1 ≤ j ∧ j < s.2)) then bAt b j else bAt a j
def segB (b : Bytes) (s : Nat × Nat) : Bytes := (b.take s.2).drop s.1
theorem mixS_len (a b : Bytes) (S : Sp) : (mixS a b S).length = 512 := by simp [mixS]
theorem bAt_mixS (a b : Bytes) (S : Sp) {j : Nat} (hj : j < 512) : bAt (mixS a b S) j = if S.any (fun s => decide (s.1 ≤ j ∧ j < s.2)) then bAt b j else bAt a j := by
  rw [bAt_get (by rw [mixS_len]; exact hj)]
  unfold mixS
  rw [List.getElem_map, List.getElem_range]
theorem bytes_ext {x y : Bytes} (h : x.length = y.length) (hj : ∀ j, j < x.length → bAt x j = bAt y j) : x = y := by
  refine List.ext_getElem h fun j h1 h2 => ?_
  have := hj j h1
  unfold bAt at this
  simpa [h1, h2] using this
theorem mix_nil {a : Bytes} (b : Bytes) (ha : a.length = 512) : mixS a b [] = a :=
  bytes_ext (by rw [mixS_len, ha]) fun j hj => by rw [mixS_len] at hj; rw [bAt_mixS _ _ _ hj]; simp
theorem mix_all {a b : Bytes} {S : Sp} (hb : b.length = 512) (h : DGood a b 512 S) : mixS a b S = b :=
  bytes_ext (by rw [mixS_len, hb]) fun j hj => by
    rw [mixS_len] at hj
    rw [bAt_mixS _ _ _ hj]
    split
    · rfl
    · rename_i hn
      rcases h.cov j hj with e | ⟨s, hs, h1⟩
      · exact e
      · exact absurd (List.any_eq_true.2 ⟨s, hs, by simpa using h1⟩) hn
theorem segB_len {b : Bytes} {s : Nat × Nat} (h : s.2 ≤ b.length) : (segB b s).length = s.2 - s.1 := by unfold segB; rw [List.length_drop, List.length_take]; omega
theorem bAt_segB {b : Bytes} {s : Nat × Nat} {j : Nat} (h : s.1 + j < s.2) : bAt (segB b s) j = bAt b (s.1 + j) := by
  unfold bAt segB
  simp only [List.getD_eq_getElem?_getD]
  rw [List.getElem?_drop, List.getElem?_take, if_pos h]
theorem bAt_over {l m : Bytes} {i j : Nat} (hi : i + m.length ≤ l.length) (hj : j < l.length) : bAt (over l i m) j = if i ≤ j ∧ j < i + m.length then bAt m (j - i) else bAt l j := by
  have e : m.take (l.length - i) = m := List.take_of_length_le (by omega)
  unfold over bAt
  rw [e]
  simp only [List.getD_eq_getElem?_getD]
  by_cases h1 : j < i
  · rw [if_neg (by omega), List.getElem?_append_left (by simp; omega), List.getElem?_append_left (by simp; omega), List.getElem?_take, if_pos h1]
  · by_cases h2 : j < i + m.length
    · rw [if_pos (by omega), List.getElem?_append_left (by simp; omega), List.getElem?_append_right (by simp; omega)]
      congr 2
      simp; omega
    · rw [if_neg (by omega), List.getElem?_append_right (by simp; omega), List.getElem?_drop]
      congr 2
      simp; omega
theorem mixS_snoc (a b : Bytes) (S : Sp) {s : Nat × Nat} (h1 : s.1 < s.2) (h2 : s.2 ≤ 512) (hb : b.length = 512) : over (mixS a b S) s.1 (segB b s) = mixS a b (S ++ [s]) := by
  have hl := segB_len (b := b) (s := s) (by omega)
  have ho : (over (mixS a b S) s.1 (segB b s)).length = 512 := by rw [over_len (by rw [mixS_len]; omega), mixS_len]
  refine bytes_ext (by rw [ho, mixS_len]) fun j hj => ?_
  rw [ho] at hj
  rw [bAt_over (by rw [mixS_len]; omega) (by rw [mixS_len]; omega), bAt_mixS _ _ _ hj, bAt_mixS _ _ _ hj, List.any_append, hl]
  by_cases hc : s.1 ≤ j ∧ j < s.2
  · rw [if_pos (by omega), bAt_segB (by omega), show s.1 + (j - s.1) = j by omega, if_pos (by simp [hc])]
  · rw [if_neg (by omega)]
    have : ([s].any fun s => decide (s.1 ≤ j ∧ j < s.2)) = false := by simp; omega
    rw [this, Bool.or_false]
end Go.Proofs.YtnbfhdgojmflhaaGreat
namespace Go.Proofs.YtnbfhdgojmflhaaGreat
open Go.RowKit
theorem RdB.drop {w : World} {b off : Nat} {l : Bytes} (h : RdB w (some ⟨b, off, none⟩) l) (i : Nat) : RdB w (some ⟨b, off + i, none⟩) (l.drop i) := by
  intro hne
  have hl : l ≠ [] := by rintro rfl; simp at hne
  obtain ⟨b', off', e, hc⟩ := h hl
  cases e
  refine ⟨b, off + i, rfl, fun j u hu => ?_⟩
  rw [cellsOf_get, List.getElem?_drop] at hu
  have := hc (i + j) u (by rw [cellsOf_get]; exact hu)
  rw [Nat.add_assoc]
  exact this
theorem RdB.take {w : World} {A : Option Addr} {l : Bytes} (h : RdB w A l) (n : Nat) : RdB w A (l.take n) := by
  intro hne
  obtain ⟨b, off, e, hc⟩ := h (by rintro rfl; simp at hne)
  refine ⟨b, off, e, fun j u hu => hc j u ?_⟩
  rw [cellsOf_get, List.getElem?_take] at hu
  split at hu
  · rw [cellsOf_get]; exact hu
  · simp at hu
set_option maxHeartbeats 400000 in
theorem bclone_any (b off c : Nat) (l : Bytes) (w : World) (h : RdB w (some ⟨b, off, none⟩) l) (hl : l.length ≤ 1000000) :
    Calls Tryz.prog 120 #[.slice (some ⟨b, off, none⟩) l.length c] w fun e w' => ∃ g cap, e = .returned (.slice (some ⟨g, 0, none⟩) l.length cap) ∧ OwnB w' w.heap.size g cap l ∧ Kept (fun _ => False) w w' := by
  have q22 : ∀ (w : World) (a : Option Addr) (n c n' c' : Nat), (binOp .eql 26 (.slice a n c) (.slice none n' c')).run Tryz.prog w = .ok (.bool a.isNone) w := fun w a n c n' c' => Lib.run_eql_slice_nil w _ _ a n c n' c' Tryz.underlying26
  have H := Lib.hid h
  clear h
  go_enter Tryz.func120, Tryz.ntmps120
  go_wp2_with (refine wl_buildSlice0 rfl 26 5 rfl Tryz.underlying26 (by kernel_rfl) ?_)
  intro g1 w1 n1 m1 hb1 hk1
  have HO1 := Lib.hid (show OwnB w1 w.heap.size g1 0 [] from ⟨rfl, .inr ⟨g1, 0, #[], rfl, n1, hb1, Nat.le_refl _, by decide, rfl, rfl⟩⟩)
  have HR1 := Lib.hid (H.out.kept hk1 (fun _ _ _ _ => id))
  have HK1 := Lib.hid hk1
  have s1 := hk1.size
  clear hb1 hk1
  go_wp2_with (at_builtin; refine wl_appendB rfl _ _ rfl w.heap.size g1 0 [] l rfl HO1.out (some ⟨b, off, none⟩) c rfl HR1.out (by simp; omega) s1 ?_)
  intro g2 cap2 w2 ho2 hk2 hat2 m2
  have HO2 := Lib.hid (show OwnB w2 w.heap.size g2 cap2 l from by simpa using ho2)
  have HK2 := Lib.hid (HK1.out.new hk2 (by rintro x rfl; exact n1))
  clear ho2 hk2 hat2
  go_wp2
  go_ret
  refine ⟨g2, cap2, ?_, HO2.out, HK2.out⟩
  first | rfl | (simp; done) | (congr 2; omega)
end Go.Proofs.YtnbfhdgojmflhaaGreat
namespace Go.Proofs.YtnbfhdgojmflhaaGreat
open Go.RowKit
theorem step_append {P : Program} {w : World} {ops : Array Oper} {o : Oper} {a : Act} {K : Act → World → Prop} {Q : Exit → Act → World → Prop} {E : Prop} (hgd : o.guard = none) (s x : Operand) (t : TypeId)
    (ho : o.op = .call { callee := .builtin .append, args := #[s, x], argTypes := #[t, t] })
    (base : Nat) (e : TypeId) {z : Value} {size bytes : Nat} (ht : P.underlying t = some (.slice e)) (hinf : (P.info? e).map (fun i => (i.zero, i.size, i.bytes)) = some (some z, size, bytes)) (hzs : z.cells.size = size) (hsz : 0 < size)
    (v : Value) (n : Nat) (xs : List Value) (hs : a.eval s = v) (hown : w.ownsRow base e size v n xs)
    (b off m c : Nat) (news : List Value) (hx : a.eval x = .slice (some ⟨b, off, none⟩) m c) (hl : news.length = m * size) (hnews : ∀ j u, news[j]? = some u → w.cell? ⟨b, off + j, none⟩ = some u) (h1 : ∀ u ∈ news, u.oneCell' = true)
    (hm : 0 < m) (h63 : n + m ≤ maxLen) (hbytes : (n + m) * bytes ≤ 140737488355328) (hbase : base ≤ w.heap.size)
    (k : ∀ g cap w', w'.ownsRow base e size (.slice (some ⟨g, 0, none⟩) (n + m) cap) (n + m) (xs ++ news) → Kept (fun x => v.ownBlock = some x) w w' → (v.ownBlock = some g ∨ w.heap.size ≤ g) → g < w'.heap.size →
      K (a.put o.dst (.slice (some ⟨g, 0, none⟩) (n + m) cap)) w') :
    if Region.wanted o (yielded ops a.tmps) = true then Oper.wp P o a w K Q else E := by
  obtain ⟨i, hi, h2, h3, h4⟩ := info_parts hinf
  refine step_append_lies w hgd s x t ho base e i z size bytes ht hi h2 h3 h4 hzs hsz v n xs hs hown ⟨b, off, none⟩ m c news hx hl (fun j u hu => by rw [Addr.add_mid]; exact hnews j u hu) h1 hm h63 hbytes hbase w.heap.size rfl ?_
  intro g cap w' hown' hgr hat hlt
  exact k g cap w' hown' ((Kept.refl _ w).grown hgr (fun x hx => .inr hx)) (hat.imp id (fun e => by omega)) hlt
structure SpD where
  f : Nat
  t : Nat
  g1 : Nat
  c1 : Nat
  g2 : Nat
  c2 : Nat
def spVals (s : SpD) : List Value := [.int .i64 0, .int .i64 s.f, .slice (some ⟨s.g1, 0, none⟩) (s.t - s.f) s.c1, .slice (some ⟨s.g2, 0, none⟩) (s.t - s.f) s.c2]
def rowSp (L : List SpD) : List Value := (L.map spVals).flatten
def OwnSp (w : World) (base : Nat) (v : Value) (L : List SpD) : Prop := w.ownsRow base 28 4 v L.length (rowSp L)
def SegsAt (w : World) (base : Nat) (a b : Bytes) (L : List SpD) : Prop := ∀ s ∈ L, OwnB w base s.g1 s.c1 (segB a (s.f, s.t)) ∧ OwnB w base s.g2 s.c2 (segB b (s.f, s.t))
theorem infoSpan : ((Tryz.prog).info? 28).map (fun i => (i.zero, i.size, i.bytes)) = some (some (.agg #[.int .i64 0, .int .i64 0, .slice none 0 0, .slice none 0 0]), 4, 64) := by kernel_rfl
def DC (w : World) (cf co ca ct cb : Nat) (A B : Option Addr) (ac bc : Nat) (f : Int) (t : Nat) (v : Value) : Prop :=
  w.cell? ⟨cf, 0, none⟩ = some (.int .i64 f) ∧ w.cell? ⟨co, 0, none⟩ = some v ∧ w.cell? ⟨ca, 0, none⟩ = some (.slice A 512 ac) ∧ w.cell? ⟨ct, 0, none⟩ = some (.int .i64 t) ∧ w.cell? ⟨cb, 0, none⟩ = some (.slice B 512 bc)
theorem DC.kept {S : Nat → Prop} {w w' : World} {cf co ca ct cb : Nat} {A B : Option Addr} {ac bc : Nat} {f : Int} {t : Nat} {v : Value} (h : DC w cf co ca ct cb A B ac bc f t v) (hk : Kept S w w') (h1 : ¬ S cf) (h2 : ¬ S co) (h3 : ¬ S ca) (h4 : ¬ S ct) (h5 : ¬ S cb) : DC w' cf co ca ct cb A B ac bc f t v := by
  obtain ⟨c1, c2, c3, c4, c5⟩ := h
  exact ⟨(World.cell?_of_block (hk.block _ (block_lt_of_cell c1) h1)).trans c1, (World.cell?_of_block (hk.block _ (block_lt_of_cell c2) h2)).trans c2, (World.cell?_of_block (hk.block _ (block_lt_of_cell c3) h3)).trans c3,
    (World.cell?_of_block (hk.block _ (block_lt_of_cell c4) h4)).trans c4, (World.cell?_of_block (hk.block _ (block_lt_of_cell c5) h5)).trans c5⟩
theorem clone_seg {x off ac : Nat} {a : Bytes} {w : World} (h : RdB w (some ⟨x, off, none⟩) a) (n t : Nat) (h1 : n < t) (h2 : t ≤ a.length) (ha : a.length ≤ 1000000) :
    Calls Tryz.prog 120 #[.slice (some ⟨x, off + n, none⟩) (t - n) (ac - n)] w fun e w' => ∃ g cap, e = .returned (.slice (some ⟨g, 0, none⟩) (t - n) cap) ∧ OwnB w' w.heap.size g cap (segB a (n, t)) ∧ Kept (fun _ => False) w w' := by
  have hl : (segB a (n, t)).length = t - n := segB_len (s := (n, t)) h2
  have := bclone_any x (off + n) (ac - n) (segB a (n, t)) w ((h.take t).drop n) (by omega)
  rw [hl] at this
  exact this
set_option maxRecDepth 100000 in
set_option maxHeartbeats 1000000 in
theorem put_no (cf co ca ct cb : Nat) (A B : Option Addr) (ac bc : Nat) (t : Nat) (v : Value) (w : World) (h : DC w cf co ca ct cb A B ac bc (-1) t v) :
    Calls Tryz.prog 119 #[.pointer (some ⟨cf, 0, none⟩), .pointer (some ⟨co, 0, none⟩), .pointer (some ⟨ca, 0, none⟩), .pointer (some ⟨ct, 0, none⟩), .pointer (some ⟨cb, 0, none⟩)] w fun e w' => e = .returned (.tuple #[]) ∧ w' = w := by
  obtain ⟨c1, -⟩ := h
  go_enter Tryz.func119, Tryz.ntmps119
  go_wp2
  go_end0
  exact ⟨rfl, rfl⟩
theorem OwnSp.blk {w : World} {base x : Nat} {v : Value} {L : List SpD} (h : OwnSp w base v L) (hx : v.ownBlock = some x) : base ≤ x ∧ ∃ cur, w.heap[x]? = some (.cells cur 28 (0, 0)) := by
  rcases h.2 with ⟨rfl, -⟩ | ⟨g, cap, cur, rfl, hb, hh, -⟩
  · simp [Value.ownBlock] at hx
  · have e : g = x := by simpa [Value.ownBlock] using hx
    subst e
    exact ⟨hb, cur, hh⟩
theorem OwnSp.kept {S : Nat → Prop} {w w' : World} {base : Nat} {v : Value} {L : List SpD} (h : OwnSp w base v L) (hk : Kept S w w') (hS : ∀ x, S x → x < base) : OwnSp w' base v L := by
  rcases h with ⟨h0, h | ⟨g, cap, cur, hv, hb, hh, r⟩⟩
  · exact ⟨h0, .inl h⟩
  · exact ⟨h0, .inr ⟨g, cap, cur, hv, hb, hk.heap hh (fun e => by have := hS g e; omega), r⟩⟩
theorem SegsAt.keep {S : Nat → Prop} {w w' : World} {base : Nat} {a b : Bytes} {L : List SpD} (h : SegsAt w base a b L) (hk : Kept S w w') (hS : ∀ x cur, w.heap[x]? = some (.cells cur 5 (0, 0)) → base ≤ x → ¬ S x) : SegsAt w' base a b L := by
  intro s hs
  obtain ⟨h1, h2⟩ := h s hs
  have e1 := h1.form
  have e2 := h2.form
  obtain ⟨u1, b1, k1, -⟩ := e1
  obtain ⟨u2, b2, k2, -⟩ := e2
  exact ⟨h1.keep hk (hS _ u1 k1 b1), h2.keep hk (hS _ u2 k2 b2)⟩
theorem rowSp_snoc (L : List SpD) (s : SpD) : rowSp (L ++ [s]) = rowSp L ++ spVals s := by simp [rowSp]
theorem SegsAt.snoc {w : World} {base : Nat} {a b : Bytes} {L : List SpD} {s : SpD} (h : SegsAt w base a b L) (h1 : OwnB w base s.g1 s.c1 (segB a (s.f, s.t))) (h2 : OwnB w base s.g2 s.c2 (segB b (s.f, s.t))) : SegsAt w base a b (L ++ [s]) := by
  intro u hu
  rcases List.mem_append.1 hu with hu | hu
  · exact h u hu
  · simp at hu
    subst hu
    exact ⟨h1, h2⟩
theorem OwnB.low {w : World} {base base' g cap : Nat} {l : Bytes} (h : OwnB w base g cap l) (hb : base' ≤ base) : OwnB w base' g cap l := by
  unfold OwnB at *
  obtain ⟨h0, h⟩ := h
  exact ⟨h0, h.elim .inl (fun ⟨g, cap, cur, hv, hg, r⟩ => .inr ⟨g, cap, cur, hv, Nat.le_trans hb hg, r⟩)⟩
set_option maxRecDepth 100000 in
set_option maxHeartbeats 4000000 in
theorem put_some (cf co ca ct cb xa oa xb ob : Nat) (ac bc n t base : Nat) (v : Value) (w : World) (a b : Bytes) (L : List SpD) (h : DC w cf co ca ct cb (some ⟨xa, oa, none⟩) (some ⟨xb, ob, none⟩) ac bc (n : Int) t v)
    (ho : w.heap[co]? = some (.cells #[v] 143 (0, 0))) (hb : cf < base ∧ co < base ∧ ca < base ∧ ct < base ∧ cb < base) (hd : cf ≠ co ∧ ca ≠ co ∧ ct ≠ co ∧ cb ≠ co) (hbs : base ≤ w.heap.size) (hL : OwnSp w base v L) (hS : SegsAt w base a b L)
    (ha : RdB w (some ⟨xa, oa, none⟩) a) (hb' : RdB w (some ⟨xb, ob, none⟩) b) (la : a.length = 512) (lb : b.length = 512) (hac : 512 ≤ ac) (hac2 : ac ≤ 9223372036854775807) (hbc : 512 ≤ bc) (hbc2 : bc ≤ 9223372036854775807) (h1 : n < t) (h2 : t ≤ 512) (hlen : L.length ≤ 600) :
    Calls Tryz.prog 119 #[.pointer (some ⟨cf, 0, none⟩), .pointer (some ⟨co, 0, none⟩), .pointer (some ⟨ca, 0, none⟩), .pointer (some ⟨ct, 0, none⟩), .pointer (some ⟨cb, 0, none⟩)] w fun e w' => e = .returned (.tuple #[]) ∧
      ∃ v' L', DC w' cf co ca ct cb (some ⟨xa, oa, none⟩) (some ⟨xb, ob, none⟩) ac bc (n : Int) t v' ∧ w'.heap[co]? = some (.cells #[v'] 143 (0, 0)) ∧ OwnSp w' base v' L' ∧ SegsAt w' base a b L' ∧ L'.map (fun s => (s.f, s.t)) = L.map (fun s => (s.f, s.t)) ++ [(n, t)] ∧ Kept (fun x => x = co ∨ base ≤ x) w w' := by
  have H := Lib.hid h
  have HO := Lib.hid ho
  have HL := Lib.hid hL
  have HS := Lib.hid hS
  have HA := Lib.hid ha
  have HB := Lib.hid hb'
  have LA := Lib.hid la
  have LB := Lib.hid lb
  have HD := Lib.hid hd
  obtain ⟨c1, c2, c3, c4, c5⟩ := h
  have i0 : ((n : Int) < 0) = False := by simp
  have i1 : (0 : Int) ≤ (n : Int) := by omega
  have i2 : (n : Int) ≤ (t : Int) := by omega
  have i3 : (t : Int) ≤ (ac : Int) := by omega
  have i4 : (t : Int) ≤ (bc : Int) := by omega
  have i5 : ¬ ac = n := by omega
  have i6 : ¬ bc = n := by omega
  have i7 : n ≤ t := by omega
  have i8 : t ≤ ac := by omega
  have i9 : t ≤ bc := by omega
  clear ho hL hS ha hb' la lb hd
  have H1 := Lib.hid ((show DC w cf co ca ct cb _ _ ac bc (n : Int) t v from ⟨c1, c2, c3, c4, c5⟩).kept ((Kept.refl (fun _ => False) w).drew) id id id id id)
  have HA1 := Lib.hid (HA.out.kept ((Kept.refl (fun _ => False) w).drew) (fun _ _ _ _ => id))
  have HB1 := Lib.hid (HB.out.kept ((Kept.refl (fun _ => False) w).drew) (fun _ _ _ _ => id))
  go_enter Tryz.func119, Tryz.ntmps119
  go_wp2
  refine startL 15 (fun w' => DC w' cf co ca ct cb (some ⟨xa, oa, none⟩) (some ⟨xb, ob, none⟩) ac bc (n : Int) t v) (by kernel_rfl) H1.out (fun hH => ?_)
  simp only [List.length_cons, List.length_nil, List.replicate]
  refine takeL 0 v rfl (by kernel_rfl) (fun _ _ _ h => h) (by rfl) (fun w' hw' => ?_) hH ?_
  · obtain ⟨r1, r2, r3, r4, r5⟩ := hw'
    go_simp
  simp only [Act.put, oZa, oZb, oZc]
  refine takeL 1 (.int .i64 (n : Int)) rfl (by kernel_rfl) (fun _ _ _ h => h) (by rfl) (fun w' hw' => ?_) hH ?_
  · obtain ⟨r1, r2, r3, r4, r5⟩ := hw'
    go_simp
  simp only [Act.put, oZa, oZb, oZc]
  refine takeL 2 (.slice (some ⟨xa, oa, none⟩) 512 ac) rfl (by kernel_rfl) (fun _ _ _ h => h) (by rfl) (fun w' hw' => ?_) hH ?_
  · obtain ⟨r1, r2, r3, r4, r5⟩ := hw'
    go_simp
  simp only [Act.put, oZa, oZb, oZc]
  refine takeL 3 (.int .i64 (n : Int)) rfl (by kernel_rfl) (fun _ _ _ h => h) (by rfl) (fun w' hw' => ?_) hH ?_
  · obtain ⟨r1, r2, r3, r4, r5⟩ := hw'
    go_simp
  simp only [Act.put, oZa, oZb, oZc]
  refine takeL 4 (.int .i64 (t : Int)) rfl (by kernel_rfl) (fun _ _ _ h => h) (by rfl) (fun w' hw' => ?_) hH ?_
  · obtain ⟨r1, r2, r3, r4, r5⟩ := hw'
    go_simp
  simp only [Act.put, oZa, oZb, oZc]
  refine takeL 7 (.slice (some ⟨xb, ob, none⟩) 512 bc) rfl (by kernel_rfl) (fun _ _ _ h => h) (by rfl) (fun w' hw' => ?_) hH ?_
  · obtain ⟨r1, r2, r3, r4, r5⟩ := hw'
    go_simp
  simp only [Act.put, oZa, oZb, oZc]
  refine takeL 8 (.int .i64 (n : Int)) rfl (by kernel_rfl) (fun _ _ _ h => h) (by rfl) (fun w' hw' => ?_) hH ?_
  · obtain ⟨r1, r2, r3, r4, r5⟩ := hw'
    go_simp
  simp only [Act.put, oZa, oZb, oZc]
  refine takeL 9 (.int .i64 (t : Int)) rfl (by kernel_rfl) (fun _ _ _ h => h) (by rfl) (fun w' hw' => ?_) hH ?_
  · obtain ⟨r1, r2, r3, r4, r5⟩ := hw'
    go_simp
  simp only [Act.put, oZa, oZb, oZc]
  refine takeL 5 ?_ rfl (by kernel_rfl) (fun _ _ _ h => h) (by rfl) (fun w' hw' => ?_) hH ?_
  rotate_left
  · clear hw'
    go_simp
    with_reducible rfl
  simp only [Act.put, oZa, oZb, oZc]
  refine takeL 10 ?_ rfl (by kernel_rfl) (fun _ _ _ h => h) (by rfl) (fun w' hw' => ?_) hH ?_
  rotate_left
  · clear hw'
    go_simp
    with_reducible rfl
  simp only [Act.put, oZa, oZb, oZc]
  refine stepL 6 rfl (by kernel_rfl) (fun K hK => ?_)
  go_simp
  go_at_call 120
  refine (clone_seg HA1.out n t h1 (by rw [LA.out]; exact h2) (by rw [LA.out]; decide)).mono ?_
  rintro e w2 ⟨g1, k1, rfl, hx1, hk2⟩
  have hS2 := H1.out.kept hk2 id id id id id
  have K2 := Lib.hid hk2
  have X1 := Lib.hid hx1
  have HB2 := Lib.hid (HB1.out.kept hk2 (fun _ _ _ _ => id))
  clear hx1 hk2
  go_simp
  refine hK.out _ _ (fun _ => hS2) (fun _ => ?_)
  simp only [Act.put, oZa, oZb, oZc]
  clear hK K
  refine stepL 11 rfl (by kernel_rfl) (fun K hK => ?_)
  go_simp
  go_at_call 120
  refine (clone_seg HB2.out n t h1 (by rw [LB.out]; exact h2) (by rw [LB.out]; decide)).mono ?_
  rintro e w3 ⟨g2, k2, rfl, hx2, hk3⟩
  have hS3 := hS2.kept hk3 id id id id id
  have K3 := Lib.hid (K2.out.trans0 hk3)
  have X2 := Lib.hid hx2
  have X1' := Lib.hid (X1.out.kept hk3)
  clear hx2 hk3
  go_simp
  refine hK.out _ _ (fun _ => hS3) (fun _ => ?_)
  simp only [Act.put, oZa, oZb, oZc]
  clear hK K
  refine takeL 12 (.agg #[.int .i64 0, .int .i64 (n : Int), .slice (some ⟨g1, 0, none⟩) (t - n) k1, .slice (some ⟨g2, 0, none⟩) (t - n) k2]) rfl (by kernel_rfl) (fun _ _ _ h => h) (by rfl) (fun w' hw' => ?_) hS3 ?_
  · clear hw'
    go_simp
  simp only [Act.put, oZa, oZb, oZc]
  refine stepL 13 rfl (by kernel_rfl) (fun K hK => ?_)
  go_simp
  have ka3 : Kept (fun _ => False) w (w3.alloc (.cells #[.int .i64 0, .int .i64 (n : Int), .slice (some ⟨g1, 0, none⟩) (t - n) k1, .slice (some ⟨g2, 0, none⟩) (t - n) k2] 28)) := (((Kept.refl (fun _ => False) w).drew).trans0 K3.out).alloc _
  have kb3 : Kept (fun _ => False) w3 (w3.alloc (.cells #[.int .i64 0, .int .i64 (n : Int), .slice (some ⟨g1, 0, none⟩) (t - n) k1, .slice (some ⟨g2, 0, none⟩) (t - n) k2] 28)) := (Kept.refl (fun _ => False) w3).alloc _
  have hS4 := hS3.kept kb3 id id id id id
  refine hK.out _ _ (fun _ => hS4) (fun _ => ?_)
  simp only [Act.put, oZa, oZb, oZc]
  clear hK K
  refine stepL 14 rfl (by kernel_rfl) (fun K hK => ?_)
  have HL3 := Lib.hid (HL.out.kept ka3 (fun _ h => h.elim))
  have KA3 := Lib.hid ka3
  have KB3 := Lib.hid kb3
  have sz3 := ka3.size
  have HX := Lib.hid (fun x (e : v.ownBlock = some x) => HL3.out.blk e)
  clear ka3 kb3
  refine step_append rfl _ _ _ (by rfl) base 28 Tryz.underlying143 infoSpan rfl (by omega) v L.length (rowSp L) (by rfl) HL3.out w3.heap.size 0 1 1 [.int .i64 0, .int .i64 (n : Int), .slice (some ⟨g1, 0, none⟩) (t - n) k1, .slice (some ⟨g2, 0, none⟩) (t - n) k2] (by rfl) rfl (fun j u hu => cell_blk (heap_alloc_new w3 _) (by simpa using hu)) (by simp [Value.oneCell']) (by omega) (by have : maxLen = 9223372036854775807 := rfl; omega) (by omega) (by omega) ?_
  intro g4 k4 w4 ho4 hk4 hat4 m4
  have hS5 := hS4.kept hk4 (fun e => by have := (HX.out _ e).1; omega) (fun e => by have := (HX.out _ e).1; omega) (fun e => by have := (HX.out _ e).1; omega) (fun e => by have := (HX.out _ e).1; omega) (fun e => by have := (HX.out _ e).1; omega)
  refine hK.out _ _ (fun _ => hS5) (fun _ => ?_)
  simp only [Act.put, oZa, oZb, oZc]
  clear hK K
  have hco4 : w4.heap[co]? = some (.cells #[v] 143 (0, 0)) := hk4.heap (KA3.out.heap HO.out id) (fun e => by have := (HX.out _ e).1; omega)
  have c24 := hS5.2.1
  have f4 := free_blk hco4 0
  have HK4 := Lib.hid hk4
  have HO4 := Lib.hid ho4
  have HC4 := Lib.hid hco4
  have HS5 := Lib.hid hS5
  clear hk4 ho4 hco4 hS5 hS4 hS3 hS2
  refine stepL 15 rfl (by kernel_rfl) (fun K hK => ?_)
  go_simp
  refine hK.out _ _ (fun h => absurd rfl h) (fun _ => ?_)
  simp only [Act.put, oZa, oZb, oZc]
  clear hK K
  refine doneL (by kernel_rfl) ?_ _
  go_wp2
  go_end0
  have hl4 : Kept (fun x => x = co ∨ base ≤ x) w w4 := (KA3.out.mono (fun _ _ h => h.elim)).trans HK4.out (fun x _ e => .inr (HX.out _ e).1)
  have kc : Kept (fun x => x = co) w4 (w4.setCell ⟨co, 0, none⟩ (.slice (some ⟨g4, 0, none⟩) (L.length + 1) k4)) := Kept.cell _ _ _ _
  refine ⟨rfl, .slice (some ⟨g4, 0, none⟩) (L.length + 1) k4, L ++ [⟨n, t, g1, k1, g2, k2⟩], ?_, ?_, ?_, ?_, ?_, ?_⟩
  · obtain ⟨c1, -, c3, c4, c5⟩ := HS5.out
    obtain ⟨d1, d3, d4, d5⟩ := HD.out
    exact ⟨(World.cell?_of_block (kc.block _ (block_lt_of_cell c1) d1)).trans c1, cell_blk (set_blk HC4.out 0 _) (by simp), (World.cell?_of_block (kc.block _ (block_lt_of_cell c3) d3)).trans c3,
      (World.cell?_of_block (kc.block _ (block_lt_of_cell c4) d4)).trans c4, (World.cell?_of_block (kc.block _ (block_lt_of_cell c5) d5)).trans c5⟩
  · simpa using set_blk HC4.out 0 (.slice (some ⟨g4, 0, none⟩) (L.length + 1) k4)
  · refine OwnSp.kept (w := w4) ?_ kc (fun x e => by omega)
    unfold OwnSp
    rw [rowSp_snoc, List.length_append]
    exact HO4.out
  · refine SegsAt.keep (w := w4) ?_ kc (fun x cur _ hx e => by omega)
    have hx4 : ∀ (x : Nat) (cur : Array Value), (w3.alloc _).heap[x]? = some (.cells cur 5 (0, 0)) → base ≤ x → ¬ v.ownBlock = some x := fun x cur hx _ e => by
      obtain ⟨-, cur', h'⟩ := HX.out _ e
      rw [hx] at h'
      cases h'
    refine SegsAt.keep (w := w3.alloc _) ?_ HK4.out hx4
    refine SegsAt.snoc (HS.out.keep KA3.out (fun _ _ _ _ h => h.elim)) ?_ ?_
    · exact ((X1'.out.kept KB3.out).low (by simpa using hbs))
    · exact ((X2.out.kept KB3.out).low (by have := K2.out.size; simp at this; omega))
  · simp
  · exact hl4.trans kc (fun x _ e => .inl e)
end Go.Proofs.YtnbfhdgojmflhaaGreat
