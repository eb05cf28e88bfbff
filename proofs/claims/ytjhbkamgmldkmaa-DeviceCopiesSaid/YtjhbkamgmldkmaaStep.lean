/-
  No statement is proved here: a step of a device's life, by the program and by the document: 'step' returns true.
-/
import Derived.Test.YtjhbkamgmldkmaaStepa
namespace Go.Proofs.Ytjhbkamgmldkmaa
open Go.RowKit

theorem RefAt.lt {w : World} {q : Nat} {M I : Nat → Prop} {R : RefM} (h : RefAt w q M I R) : (∀ x, M x → x < w.heap.size) ∧ (∀ x, I x → x < w.heap.size) ∧ M q ∧ 1 ≤ R.n ∧ (∀ x, I x → ¬ M x) := by
  obtain ⟨v, cs, h⟩ := h
  exact ⟨h.mlt, h.ilt, h.mq, h.n0, h.apart⟩
/-- The two devices stand in memory, alike, apart. -/
structure Both (B : Nat) (w : World) (p ms mo q : Nat) (M I : Nat → Prop) (D : DevM) (R : RefM) (k : Nat) : Prop where
  hd : DevAt w p ms mo D
  hr : RefAt w q M I R
  sim : Sim D R
  dm : ∀ x, (x = p ∨ x = ms ∨ x = mo) → ¬ M x ∧ ¬ I x ∧ B ≤ x
  nm : ∀ x, M x ∨ I x → B ≤ x
  len : R.rows.length ≤ k
/-- The blocks that a step may write. -/
def footB (p ms mo : Nat) (M : Nat → Prop) (x : Nat) : Prop := x = p ∨ x = ms ∨ x = mo ∨ M x
section
variable {B : Nat} {w w' : World} {p ms mo q : Nat} {M I : Nat → Prop} {D : DevM} {R : RefM} {k : Nat}
theorem Both.keep {S : Nat → Prop} (h : Both B w p ms mo q M I D R k) (hk : Kept S w w') (hS : ∀ x, S x → ¬ footB p ms mo M x ∧ ¬ I x) : Both B w' p ms mo q M I D R k :=
  ⟨h.hd.keep hk (fun e => (hS p e).1 (.inl rfl)) (fun e => (hS ms e).1 (.inr (.inl rfl))) (fun e => (hS mo e).1 (.inr (.inr (.inl rfl)))),
    h.hr.kept hk (fun x hx e => (hS x e).1 (.inr (.inr (.inr hx)))) (fun x hx e => (hS x e).2 hx), h.sim, h.dm, h.nm, h.len⟩
theorem Both.kept0 (h : Both B w p ms mo q M I D R k) (hk : Kept (fun _ => False) w w') : Both B w' p ms mo q M I D R k := h.keep hk (fun _ e => e.elim)
theorem Both.lt (h : Both B w p ms mo q M I D R k) : ∀ x, footB p ms mo M x ∨ I x → x < w.heap.size := by
  rintro x ((rfl | rfl | rfl | h1) | h1)
  · exact heap_lt h.hd.hp
  · exact h.hd.hs.lt
  · exact h.hd.ho.lt
  · exact h.hr.lt.1 x h1
  · exact h.hr.lt.2.1 x h1
theorem Both.more (h : Both B w p ms mo q M I D R k) : Both B w p ms mo q M I D R (k + 1) := ⟨h.hd, h.hr, h.sim, h.dm, h.nm, Nat.le_succ_of_le h.len⟩
/-- What a step leaves. -/
def StepPost (B : Nat) (w : World) (p ms mo q : Nat) (M I : Nat → Prop) (k : Nat) (e : Ending) (w' : World) : Prop :=
  ∃ M' I' D' R', e = .returned (.bool true) ∧ Both B w' p ms mo q M' I' D' R' k ∧ Kept (footB p ms mo M) w w' ∧ (∀ y, M' y → M y ∨ w.heap.size ≤ y) ∧ (∀ y, I' y → I y ∨ w.heap.size ≤ y)
theorem foot_ne {N x : Nat} (h : ∀ x, footB p ms mo M x ∨ I x → x < N) (hx : N ≤ x) : ¬ (x = p ∨ x = mo) := by
  rintro (rfl | rfl)
  · have := h x (.inl (.inl rfl)); omega
  · have := h x (.inl (.inr (.inr (.inl rfl)))); omega
theorem lentL_rd {base g cap : Nat} {l : Bytes} {w : World} (h : OwnB w base g cap (lentL l 12)) : RdB w (some ⟨g, 0, none⟩) l := fun _ => ⟨g, 0, rfl, fun j u hu => by
  have hj := (Array.getElem?_eq_some_iff.1 hu).1
  rw [size_cellsOf] at hj
  rw [cellsOf_at hj] at hu
  cases hu
  have := h.cellAt (i := j) (by rw [len_lentL]; omega)
  rw [bAt_lent1 hj] at this
  rw [Nat.zero_add]
  exact this⟩
theorem infoDo : (Try.prog.info? 31).map (·.size) = some 5 := by kernel_rfl

set_option maxHeartbeats 2000000 in
theorem step_write (h : Both B w p ms mo q M I D R k) (x : DoM) (FA : Option Addr) (c : Nat) (hB : B ≤ w.heap.size) (hk : k ≤ 1000) (hop : pickM x.op 8 = 0 ∨ pickM x.op 8 = 1 ∨ pickM x.op 8 = 2) :
    Calls Try.prog 18 #[.pointer (some ⟨p, 0, none⟩), .pointer (some ⟨q, 0, none⟩), x.val FA c] w (StepPost B w p ms mo q M I (k + 1)) := by
  have HP := Lib.hid (fun w => pick_any x.op 8 (by omega) w)
  have H := Lib.hid h
  have HB := Lib.hid hB
  unfold DoM.val
  clear h hB
  rcases hop with ho | ho | ho
  all_goals (
    rw [ho] at HP
    clear ho
    go_enter Try.func18, Try.ntmps18
    go_wp2_with (refine wl_box rfl _ _ rfl (.agg #[.int .i64 x.op, .int .i64 x.blk, .int .i64 x.n, .int .u8 x.byte.toNat, .slice FA x.fates.length c]) rfl ?_)
    intro g1 w1 n1 m1 hb1 hk1
    have c0 : w1.cell? ⟨g1, 0, none⟩ = some (.int .i64 x.op) := cell_blk hb1 rfl
    go_wp2_with fail
    refine (HP.out _).mono ?_
    rintro e wx ⟨rfl, rfl⟩
    go_wp2_with (refine wl_load_row rfl 31 _ rfl g1 rfl #[.int .i64 x.op, .int .i64 x.blk, .int .i64 x.n, .int .u8 x.byte.toNat, .slice FA x.fates.length c] hb1 Try.underlying31 rfl infoDo ?_)
    refine (bytes_any x FA c _).mono ?_
    rintro e w2 ⟨g2, cap2, rfl, n2, hb2, hk2⟩
    go_wp2_with fail
    refine (lentB_any (some ⟨g2, 0, none⟩) cap2 x.bytesM _ hb2 (by have := bytesM_len x; omega)).mono ?_
    rintro e w3 ⟨g3, cap3, rfl, ho3, hk3⟩
    have kw3 := (hk1.trans0 hk2).trans0 hk3
    have e1 : w3.cell? ⟨g1, 1, none⟩ = some (.int .i64 x.blk) := cell_blk (hk3.heap (hk2.heap hb1 id) id) rfl
    have kd : Kept (fun _ => False) w3 w3.drew := (Kept.refl _ _).drew
    have H3 := Lib.hid ((H.out.kept0 kw3).kept0 kd)
    have HR2 := Lib.hid ((hb2.kept hk3 (fun _ _ _ _ => id)).kept kd (fun _ _ _ _ => id))
    have HO3 := Lib.hid (ho3.keep kd id)
    have ng3 := ho3.base_le
    have HLT := Lib.hid H.out.lt
    have s1 := hk1.size
    have s2 := hk2.size
    have s3 := hk3.size
    have HK3 := Lib.hid (kw3.trans0 kd)
    have l3 : g3 < w3.heap.size := by obtain ⟨cur, _, hh, _⟩ := ho3.form; exact heap_lt hh
    have l2 : x.bytesM.length ≤ 512 := bytesM_len x
    have lb2 := Lib.hid (show ∀ b off, (some ⟨g2, 0, none⟩ : Option Addr) = some ⟨b, off, none⟩ → b = g2 from fun b off e => by injection e with e; injection e with e; exact e.symm)
    clear kw3 kd hb1 hk1 hk2 hk3 hb2 ho3 c0
    go_wp2
    go_region_held3 (fun w' => w'.cell? ⟨g1, 1, none⟩ = some (.int .i64 x.blk))
      (first
        | exact e1
        | exact hS4
        | exact hS5
        | exact hS6)
      (first
        | (go_at_call 13; refine (write_any H3.out.hd x.blk (some ⟨g3, 0, none⟩) cap3 x.bytesM (lentL_rd HO3.out)).mono ?_
           rintro e w4 ⟨rfl, hD4, hk4⟩
           have hS4 : w4.cell? ⟨g1, 1, none⟩ = some (.int .i64 x.blk) := (World.cell?_of_block (hk4.block g1 (block_lt_of_cell e1) (foot_ne HLT.out (by omega)))).trans e1
           have HD4 := Lib.hid hD4
           have HK4 := Lib.hid hk4
           have HR24 := Lib.hid (HR2.out.kept hk4 (fun b off e _ => by rw [lb2.out b off e]; exact foot_ne HLT.out (by omega)))
           have HO4 := Lib.hid (HO3.out.keep hk4 (foot_ne HLT.out (by omega)))
           have HRA4 := Lib.hid (H3.out.hr.kept hk4 (fun y hy e => (H3.out.dm y (e.elim .inl (fun e => .inr (.inr e)))).1 hy) (fun y hy e => (H3.out.dm y (e.elim .inl (fun e => .inr (.inr e)))).2.1 hy))
           have s4 := hk4.size
           clear hD4 hk4)
        | (go_at_call 37; refine (rwrite_any HRA4.out x.blk (by have := H3.out.len; omega) (some ⟨g2, 0, none⟩) cap2 x.bytesM HR24.out (fun b off e hb => by have := HLT.out b (.inl (.inr (.inr (.inr hb)))); rw [lb2.out b off e] at this; omega)).mono ?_
           rintro e w5 ⟨R5, M5, I5, x5, hRW, rfl, hRA5, hk5, hM5, hI5⟩
           obtain ⟨he5, hs5⟩ := H3.out.sim.write hRW
           subst he5
           have hS5 : w5.cell? ⟨g1, 1, none⟩ = some (.int .i64 x.blk) := (World.cell?_of_block (hk5.block g1 (block_lt_of_cell hS4) (fun e => by have := HLT.out g1 (.inl (.inr (.inr (.inr e)))); omega))).trans hS4
           have HRA5 := Lib.hid hRA5
           have HS5 := Lib.hid hs5
           have HL5 := Lib.hid (PutR.rlen hRW)
           have HK5 := Lib.hid hk5
           have HM5 := Lib.hid hM5
           have HI5 := Lib.hid hI5
           have HR25 := Lib.hid (HR24.out.kept hk5 (fun b off e _ hb => by have := HLT.out b (.inl (.inr (.inr (.inr hb)))); rw [lb2.out b off e] at this; omega))
           have HO5 := Lib.hid (HO4.out.keep hk5 (fun e => by have := HLT.out g3 (.inl (.inr (.inr (.inr e)))); omega))
           have HD5 := Lib.hid (HD4.out.keep hk5 (fun e => (H3.out.dm p (.inl rfl)).1 e) (fun e => (H3.out.dm ms (.inr (.inl rfl))).1 e) (fun e => (H3.out.dm mo (.inr (.inr rfl))).1 e))
           have s5 := hk5.size
           clear hRW hRA5 hs5 hk5 hM5 hI5)
        | (go_at_call 38; refine (keptB_any (some ⟨g2, 0, none⟩) g3 w2.heap.size cap3 cap2 x.bytesM _ HR25.out HO5.out (by omega)).mono ?_
           rintro e w6 ⟨rfl, hs6⟩
           have hS6 : w6.cell? ⟨g1, 1, none⟩ = some (.int .i64 x.blk) := (World.cell?_of_block ((hs6.kept (fun _ => False)).block g1 (block_lt_of_cell hS5) id)).trans hS5
           have HK6 := Lib.hid (hs6.kept (fun _ => False))
           have s6 := HK6.out.size
           clear hs6))
    have HO6 := Lib.hid (HO5.out.keep HK6.out id)
    clear hS4 hS5 hS6 e1
    go_wp2_with fail
    refine (overB_any g3 w2.heap.size cap3 (lentL x.bytesM 12) w6 x.bytesM.length HO6.out (len_lentL _ _) (by omega)).mono ?_
    rintro e w7 ⟨rfl, hk7⟩
    have HK7 := Lib.hid hk7
    clear hk7
    go_wp2
    go_ret
    have s3' := HK3.out.size
    have hg3 : ¬ (footB p ms mo M g3 ∨ I g3) := fun e => by have := HLT.out g3 e; omega
    have g3M : ¬ M5 g3 := fun e => by
      rcases HM5.out g3 e with e | e
      · exact hg3 (.inl (.inr (.inr (.inr e))))
      · simp at s4; omega
    have g3I : ¬ I5 g3 := fun e => by
      rcases HI5.out g3 e with e | e
      · exact hg3 (.inr e)
      · simp at s4; omega
    have hdm := H.out.dm
    refine ⟨M5, I5, _, R5, rfl, ⟨(HD5.out.keep HK6.out id id id).keep HK7.out (fun e => hg3 (.inl (.inl e.symm))) (fun e => hg3 (.inl (.inr (.inl e.symm)))) (fun e => hg3 (.inl (.inr (.inr (.inl e.symm))))),
      (HRA5.out.kept HK6.out (fun _ _ => id) (fun _ _ => id)).kept HK7.out (fun y hy e => g3M (e ▸ hy)) (fun y hy e => g3I (e ▸ hy)), HS5.out, ?_, ?_, by have := HL5.out; have := H.out.len; omega⟩, ?_, ?_, ?_⟩
    · intro y hy
      have hy2 := hdm y hy
      have hlt := HLT.out y (.inl (hy.elim .inl (fun h => .inr (h.elim .inl (fun h => .inr (.inl h))))))
      refine ⟨fun e => ?_, fun e => ?_, hy2.2.2⟩
      · rcases HM5.out y e with e | e
        · exact hy2.1 e
        · simp at s4; omega
      · rcases HI5.out y e with e | e
        · exact hy2.2.1 e
        · simp at s4; omega
    · have hnm := H.out.nm
      have hBB := HB.out
      rintro y (e | e)
      · rcases HM5.out y e with e | e
        · exact hnm y (.inl e)
        · simp at s4; omega
      · rcases HI5.out y e with e | e
        · exact hnm y (.inr e)
        · simp at s4; omega
    · exact ((((HK3.out.mono (T := footB p ms mo M) (fun _ _ e => e.elim)).trans HK4.out (fun y _ e => e.elim .inl (fun e => .inr (.inr (.inl e))))).trans HK5.out (fun y _ e => .inr (.inr (.inr e)))).trans0 HK6.out).trans HK7.out (fun y hy e => by exfalso; omega)
    · intro y e
      rcases HM5.out y e with e | e
      · exact .inl e
      · right; simp at s4; omega
    · intro y e
      rcases HI5.out y e with e | e
      · exact .inl e
      · right; simp at s4; omega)
end
end Go.Proofs.Ytjhbkamgmldkmaa
