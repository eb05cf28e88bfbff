/-
  No statement is proved here: the contract of the document's device: Copy; and TurnBytes.
-/
import Derived.Test.YtjhbkamgmldkmaaLives
import Derived.Test.YtjhbkamgmldkmaaApp
namespace Go.Proofs.Ytjhbkamgmldkmaa
open Go.RowKit

theorem infoRDev : (Try.prog.info? 70).map (fun i => (i.zero, i.size)) = some (some (.agg #[.int .i64 0, .slice none 0 0, .int .i64 0, .bool false]), 4) := by kernel_rfl
section
variable {w w' : World} {q : Nat} {M I : Nat → Prop} {R : RefM} {v : Value} {cs : List RowC}
theorem BytesV.one {w : World} {I : Nat → Prop} {v : Value} {l : Bytes} (h : BytesV w I v l) : v.oneCell' = true := by
  obtain ⟨_, g, cap, rfl, _⟩ := h; rfl
theorem rowCells_one (h : RefP w q M I R v cs) : ∀ u ∈ rowCells cs, u.oneCell' = true := by
  intro u hu
  unfold rowCells at hu
  rw [List.mem_flatMap] at hu
  obtain ⟨c, hc, hu⟩ := hu
  obtain ⟨i, hi, rfl⟩ := List.getElem_of_mem hc
  have hr : i < R.rows.length := by rw [← h.len]; exact hi
  obtain ⟨_, _, h3, h4⟩ := h.rows i cs[i] R.rows[i] (List.getElem?_eq_getElem hi) (List.getElem?_eq_getElem hr)
  simp [RowC.cells] at hu
  rcases hu with rfl | rfl | rfl | rfl
  · rfl
  · exact h3.one
  · exact h4.one
  · rfl
theorem ownsRow_base {base base' : Nat} {e : TypeId} {size n : Nat} {xs : List Value} (h : w.ownsRow base e size v n xs) (hb : base' ≤ base) : w.ownsRow base' e size v n xs := by
  obtain ⟨h0, h⟩ := h
  refine ⟨h0, ?_⟩
  rcases h with h | ⟨g, cap, cur, hv, hb2, r⟩
  · exact .inl h
  · exact .inr ⟨g, cap, cur, hv, Nat.le_trans hb hb2, r⟩
theorem rcopy_post {q' g4 cap4 : Nat} {w4 : World} {x : Value} (h : RefP w q M I R v cs) (hk : Kept (fun _ => False) w w4) (hb : w4.heap[q']? = some (.cells #[.int .i64 R.n, x, .int .i64 R.armed, .bool R.off] 70 (0, 0)))
    (ho : w4.ownsRow w.heap.size 77 4 (.slice (some ⟨g4, 0, none⟩) cs.length cap4) cs.length (rowCells cs)) (hq : w.heap.size ≤ q') (hg : w.heap.size ≤ g4) (hne : q' ≠ g4) (m4 : g4 < w4.heap.size) :
    RefAt (w4.setCell ⟨q', 1, none⟩ (.slice (some ⟨g4, 0, none⟩) cs.length cap4)) q' (fun x => x = q' ∨ x = g4) I R := by
  have kc := Kept.cell w4 q' 1 (.slice (some ⟨g4, 0, none⟩) cs.length cap4)
  have lq := heap_lt hb
  refine ⟨.slice (some ⟨g4, 0, none⟩) cs.length cap4, cs, set_blk hb 1 _, ownsRow_kept (ownsRow_base ho (Nat.zero_le _)) kc (fun x hx e => by cases hx; exact hne e.symm), fun x hx => by cases hx; exact ⟨.inr rfl, fun e => hne e.symm⟩, .inl rfl, h.len,
    fun i c r h1 h2 => ((h.rows i c r h1 h2).kept hk (fun _ _ => id)).kept kc (fun y hy e => by have := h.ilt y hy; omega), ?_, ?_, ?_, h.n0, h.n1, h.a0, h.a1⟩
  · rintro y hy (rfl | rfl)
    · have := h.ilt _ hy; omega
    · have := h.ilt _ hy; omega
  · rintro y (rfl | rfl)
    · simpa using lq
    · simpa using m4
  · intro y hy
    have := h.ilt y hy
    have := hk.size
    simp
    omega
set_option maxHeartbeats 1000000 in
theorem rcopy_any (h : RefAt w q M I R) (hrl : R.rows.length ≤ 1000000) :
    Calls Try.prog 28 #[.pointer (some ⟨q, 0, none⟩)] w fun e w' => ∃ q' M', e = .returned (.pointer (some ⟨q', 0, none⟩)) ∧ RefAt w' q' M' I R ∧ Kept (fun _ => False) w w' ∧ (∀ x, M' x → w.heap.size ≤ x) := by
  obtain ⟨v, cs, h⟩ := h
  have H := Lib.hid h
  have hq := h.hq
  have c1 : w.cell? ⟨q, 1, none⟩ = some v := cell_blk h.hq rfl
  have hcl : cs.length ≤ 1000000 := by rw [h.len]; exact hrl
  have HQ := Lib.hid hq
  have lq := heap_lt hq
  obtain ⟨A, cap, rfl, hA⟩ := row_form h.own
  clear h hrl hq
  go_enter Try.func28, Try.ntmps28
  go_wp2_with (first
    | refine wl_load_row rfl 70 _ rfl q rfl _ HQ.out Try.underlying70 rfl (zero_of_info infoRDev).2 ?_
    | refine wl_alloc' rfl 70 rfl #[.int .i64 0, .slice none 0 0, .int .i64 0, .bool false] (fun w => (zero_of_info infoRDev).1 w) ?_)
  intro q' w1 n1 m1 hb1 hk1
  go_wp2_with (first
    | refine wl_store_row rfl 70 _ _ rfl q' #[.int .i64 R.n, .slice A cs.length cap, .int .i64 R.armed, .bool R.off] _ rfl rfl hb1 (zero_of_info infoRDev).2 rfl (by simp [Value.oneCell']) ?_)
  intro w2 hb2 hk2
  have hk02 : Kept (fun _ => False) w w2 := hk1.new hk2 (by rintro x rfl; exact n1)
  have HB2 := Lib.hid hb2
  have HK2 := Lib.hid hk2
  have e1 := (World.cell?_of_block (hk02.block q lq id)).trans c1
  have HK02 := Lib.hid hk02
  have s2 := hk02.size
  have m2 := heap_lt hb2
  clear hb1 hk1 hb2 hk2 hk02
  go_wp2_with (refine wl_buildSlice0 rfl 68 77 rfl Try.underlying68 (by kernel_rfl) ?_)
  intro g3 w3 n3 m3 hb3 hk3
  have d1 := (World.cell?_of_block (hk3.block q (by omega) id)).trans e1
  have ho3 : w3.ownsRow w.heap.size 77 4 (.slice (some ⟨g3, 0, none⟩) 0 0) 0 [] := ⟨rfl, .inr ⟨g3, 0, #[], rfl, by omega, hb3, Nat.le_refl _, by decide, rfl, rfl⟩⟩
  have HO3 := Lib.hid ho3
  have HB3 := Lib.hid (hk3.heap HB2.out id)
  have HK3 := Lib.hid (HK02.out.trans0 hk3)
  have s3 := hk3.size
  have HNW := Lib.hid (show 0 < cs.length → ∃ g, A = some ⟨g, 0, none⟩ ∧ ∀ (j : Nat) (u : Value), (rowCells cs)[j]? = some u → w3.cell? ⟨g, 0 + j, none⟩ = some u from fun h0 => by
    obtain ⟨g, rfl⟩ := hA h0
    refine ⟨g, rfl, fun j u hu => ?_⟩
    have hj := (List.getElem?_eq_some_iff.1 hu).1
    rw [len_rowCells] at hj
    have := (H.out.own.cellAt j hj).trans hu
    rw [Nat.zero_add]
    exact (World.cell?_of_block (HK3.out.block g (block_lt_of_cell this) id)).trans this)
  clear hb3 hk3 ho3 HK2 e1 c1
  by_cases h0 : 0 < cs.length
  · obtain ⟨g, rfl, hnews⟩ := HNW.out h0
    have HNEWS := Lib.hid hnews
    clear hnews HNW hA
    go_wp2_with (at_builtin; refine wl_append rfl _ _ 68 rfl w.heap.size 77 Try.underlying68 infoBlock rfl (by omega) (.slice (some ⟨g3, 0, none⟩) 0 0) 0 [] rfl HO3.out g 0 cs.length cap (rowCells cs) rfl (len_rowCells cs) HNEWS.out (rowCells_one H.out) h0 (by have : maxLen = 9223372036854775807 := rfl; omega) (by omega) HK3.out.size ?_)
    intro g4 cap4 w4 ho4 hk4 hat4 m4
    have hob : ∀ x, (Value.slice (some ⟨g3, 0, none⟩) 0 0).ownBlock = some x → g3 = x := fun x e => by simpa [Value.ownBlock] using e
    have hg4 : w.heap.size ≤ g4 := by
      rcases hat4 with e | e
      · have e' : g3 = g4 := by simpa [Value.ownBlock] using e
        omega
      · omega
    have hne4 : q' ≠ g4 := by
      rcases hat4 with e | e
      · have e' : g3 = g4 := by simpa [Value.ownBlock] using e
        omega
      · omega
    have hB4 := hk4.heap HB3.out (fun e => by have := hob _ e; omega)
    have e14 := cell_blk hB4 (i := 1) rfl
    have f14 := free_blk hB4 1
    have HK4 := Lib.hid (HK3.out.new hk4 (by intro x e; have := hob _ e; omega))
    have HO4 := Lib.hid (show w4.ownsRow w.heap.size 77 4 (.slice (some ⟨g4, 0, none⟩) cs.length cap4) cs.length (rowCells cs) from by simpa using ho4)
    have HB4 := Lib.hid hB4
    clear ho4 hk4 hat4 hB4 HNEWS HO3 hob
    go_wp2
    go_ret
    exact ⟨q', fun x => x = q' ∨ x = g4, rfl, rcopy_post H.out HK4.out HB4.out HO4.out n1 hg4 hne4 m4, HK4.out.setCell (p := ⟨q', 1, none⟩) (.inl n1) _, fun x e => e.elim (fun e => e ▸ n1) (fun e => e ▸ hg4)⟩
  · obtain rfl : cs = [] := List.eq_nil_of_length_eq_zero (by omega)
    have e14 := cell_blk HB3.out (i := 1) rfl
    have f14 := free_blk HB3.out 1
    clear HNW hA
    go_wp2_with (at_builtin; refine wl_append0 rfl _ _ 68 rfl w.heap.size 77 Try.underlying68 infoBlock (.slice (some ⟨g3, 0, none⟩) 0 0) 0 [] rfl HO3.out A cap rfl ?_)
    go_ret
    exact ⟨q', fun x => x = q' ∨ x = g3, rfl, rcopy_post H.out HK3.out HB3.out HO3.out n1 (by omega) (by omega) m3, HK3.out.setCell (p := ⟨q', 1, none⟩) (.inl n1) _, fun x e => e.elim (fun e => e ▸ n1) (fun e => by omega)⟩
end
end Go.Proofs.Ytjhbkamgmldkmaa
