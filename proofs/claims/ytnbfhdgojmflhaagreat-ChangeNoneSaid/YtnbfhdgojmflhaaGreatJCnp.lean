/-
  PROVED: parchmentlaw12.ChangeNone returns true for every place, bytes and master, and its arguments read behind the call as they read before. No condition.
-/
import Derived.Test.YtnbfhdgojmflhaaGreatJCba
import Derived.Test.YtnbfhdgojmflhaaGreatJSmb
import Derived.Test.YtnbfhdgojmflhaaGreatJBka
import Derived.Test.YtnbfhdgojmflhaaGreatRows
import Derived.Test.YtnbfhdgojmflhaaGreatJCnw
import Derived.Test.YtnbfhdgojmflhaaGreatJKept
import Derived.ChangeOld
import Derived.Carry
namespace Go.Proofs.YtnbfhdgojmflhaaGreat
open Go.RowKit
def sevB : Bytes := (zeros 512).set 5 7
set_option maxRecDepth 100000 in
theorem sev_len : sevB.length = 512 := by unfold sevB; rw [List.length_set, lenL_zeros]
set_option maxRecDepth 100000 in
theorem sev_back : zeros 512 = sevB.set 5 0 := by unfold sevB; rw [List.set_set]; rfl
theorem cost_one (a : Bytes) (k : Nat) (x : UInt8) (h : a.length = 512) : cstD a (a.set k x) + owsD a (a.set k x) ≤ 97 := by
  have h1 := put_cost a (a.set k x) (by rw [List.length_set]; exact h)
  have h2 := difN_one a k x 512
  split at h2 <;> omega
theorem aw12_states : ∃ S1 S2 S3 S4 S5 S6 : BkA, (freshA 24).begin = (S1, 0) ∧ S1.now 0 = zeros 512 ∧ S1.pages = 10 ∧ S1.put 0 sevB = (S2, 0) ∧ S2.commit = (S3, 0) ∧ S3.begin = (S4, 0) ∧ S4.put 0 (zeros 512) = (S5, 0) ∧ S5.now 0 = zeros 512 ∧ S5.pages = 10 ∧
    S5.abort = (S6, 0) ∧ S6.now 0 = sevB ∧ S6.pages = 10 ∧ S6.inT = false := by
  obtain ⟨S1, e1, a1, a2, a3, a4⟩ : ∃ S1, (freshA 24).begin = (S1, 0) ∧ S1.now 0 = zeros 512 ∧ S1.n = 24 ∧ S1.inT = true ∧ S1.slack = 4453 := ⟨_, rfl, rfl, rfl, rfl, rfl⟩
  have p1 : S1.pages = 10 := by unfold BkA.pages; rw [a2]; rfl
  have c1 := cost_one (zeros 512) 5 7 (lenL_zeros 512)
  have e2 : S1.put 0 sevB = (S1.aft 0 sevB, 0) := by
    rcases put_cases a3 (Int.le_refl 0) (by rw [p1]; decide) sev_len with h | h
    · rw [a1] at h; unfold sevB at h; omega
    · exact h.2
  obtain ⟨S2, hS2⟩ : ∃ S2, S2 = S1.aft 0 sevB := ⟨_, rfl⟩
  have b1 : S2.now 0 = sevB := by rw [hS2]; rfl
  have b2 : S2.n = 24 := by rw [hS2]; exact a2
  have b3 : S2.inT = true := by rw [hS2]; exact a3
  rw [← hS2] at e2
  obtain ⟨S3, e3, d1, d2, d3⟩ : ∃ S3, S2.commit = (S3, 0) ∧ S3.now 0 = sevB ∧ S3.n = 24 ∧ S3.inT = false := by
    unfold BkA.commit
    rw [if_neg (by rw [b3]; decide)]
    exact ⟨_, rfl, b1, b2, rfl⟩
  obtain ⟨S4, e4, f1, f2, f3, f4, f5⟩ : ∃ S4, S3.begin = (S4, 0) ∧ S4.now 0 = sevB ∧ S4.n = 24 ∧ S4.inT = true ∧ S4.was 0 = sevB ∧ 2413 ≤ S4.slack := by
    unfold BkA.begin
    rw [if_neg (by rw [d3]; decide)]
    refine ⟨_, rfl, d1, d2, rfl, d1, ?_⟩
    unfold BkA.slack
    dsimp only
    rw [d2]
    split <;> omega
  have p4 : S4.pages = 10 := by unfold BkA.pages; rw [f2]; rfl
  have c4 := cost_one sevB 5 0 sev_len
  have e5 : S4.put 0 (zeros 512) = (S4.aft 0 (zeros 512), 0) := by
    rcases put_cases f3 (Int.le_refl 0) (by rw [p4]; decide) (lenL_zeros 512) with h | h
    · rw [f1] at h; rw [← sev_back] at c4; omega
    · exact h.2
  obtain ⟨S6, e6, g1, g2, g3⟩ : ∃ S6, (S4.aft 0 (zeros 512)).abort = (S6, 0) ∧ S6.now 0 = sevB ∧ S6.pages = 10 ∧ S6.inT = false := by
    unfold BkA.abort
    rw [if_neg (by show ¬ S4.inT = false; rw [f3]; decide)]
    exact ⟨_, rfl, f4, p4, rfl⟩
  exact ⟨S1, S2, S3, S4, S4.aft 0 (zeros 512), S6, e1, a1, p1, e2, e3, e4, e5, rfl, p4, e6, g1, g2, g3⟩
structure Aw (w0 w : World) (rg : Nat) (x : BAdr) (S : BkA) (g : Nat) : Prop where
  r : Rg12 w rg x S g
  k : Kept (fun _ => False) w0 w
  lr : w0.heap.size ≤ rg
  lk : ∀ z, x.K z → w0.heap.size ≤ z
section
variable {w0 w w' : World} {rg : Nat} {x x' : BAdr} {S S' : BkA} {g g' : Nat}
theorem Aw.to (h : Aw w0 w rg x S g) (ht : BTo w x w' x') (hb : BkW w' x' S' g') : Aw w0 w' rg x' S' g' :=
  ⟨h.r.to ht hb, h.k.new ht.k h.lk, h.lr, fun z hz => by rcases ht.g z hz with h1 | h1; exact h.lk z h1; exact Nat.le_trans h.k.size h1⟩
theorem Aw.keep0 (h : Aw w0 w rg x S g) (hk : Kept (fun _ => False) w w') : Aw w0 w' rg x S g := ⟨h.r.keep0 hk, h.k.trans0 hk, h.lr, h.lk⟩
theorem Aw.keep {T : Nat → Prop} (h : Aw w0 w rg x S g) (hk : Kept T w w') (hT : ∀ z, T z → w0.heap.size ≤ z) (h1 : ¬ T rg) (h2 : ∀ z, x.K z → ¬ T z) : Aw w0 w' rg x S g :=
  ⟨⟨BkW.keep h.r.b hk h2, hk.heap h.r.h h1⟩, h.k.new hk hT, h.lr, h.lk⟩
theorem Aw.nt (h : Aw w0 w rg x S g) {y B c : Nat} {l : Bytes} (ho : OwnB w B y c l) : y ≠ rg := by
  rintro rfl
  obtain ⟨cur, -, hh, -⟩ := ho.form
  have := h.r.h
  rw [hh] at this
  injection this with this
  injection this with _ h2 _
  exact absurd h2 (by decide)
theorem OwnB.ltF {w : World} {B y c : Nat} {l : Bytes} (h : OwnB w B y c l) : y < w.heap.size ∧ l.length ≤ c ∧ c ≤ 9223372036854775807 := by
  obtain ⟨cur, -, hh, h1, h2, -⟩ := h.form
  exact ⟨heap_lt hh, h1, Nat.le_trans h2 (by decide)⟩
end
theorem step_makeW {Q : Exit → Act → World → Prop} {E : Prop} {K : Act → World → Prop} {ops : Array Oper} {a : Act} {w : World} {o : Oper} (hw : Region.wanted o (yielded ops a.tmps) = true) (l c : Operand) (ho : o.op = .makeSlice 26 l c)
    (kl kc : IntKind) (n m : Nat) (hl : a.eval l = .int kl n) (hc : a.eval c = .int kc m) (hnm : n ≤ m) (hm : m ≤ 281474976710656)
    (k : ∀ g w', w.heap.size ≤ g → g < w'.heap.size → w'.heap[g]? = some (.cells (cellsOf (zeros m)) 5 (0, 0)) → Kept (fun _ => False) w w' → K (a.put o.dst (.slice (some ⟨g, 0, none⟩) n m)) w') : if Region.wanted o (yielded ops a.tmps) = true then Oper.wp Tryz.prog o a w K Q else E := by
  rw [if_pos hw]
  obtain ⟨i, hi, h2, h3, h4⟩ := info_parts info5
  have hr := run_make (P := Tryz.prog) w 26 5 i _ Tryz.underlying26 hi h2 kl kc (n : Int) (m : Int) (by omega) (by omega) (by rw [h4]; omega) (by omega)
  simp only [Int.toNat_natCast, h3, Nat.mul_one] at hr
  rw [show (Value.int IntKind.u8 0).cells = #[Value.int .u8 0] from rfl, madeCells_zeros] at hr
  have hk := k w.heap.size (w.alloc (.cells (cellsOf (zeros m)) 5)) (Nat.le_refl _) (by simp) (heap_alloc_new w _) ((Kept.refl _ w).alloc _)
  unfold Oper.wp
  simp only [execOp, ho, hl, hc, Sem.run_bind, hr, Result.andThen_ok]
  exact hk
theorem OwnB.zerosW {w : World} {g B : Nat} (h : w.heap[g]? = some (.cells (cellsOf (zeros 512)) 5 (0, 0))) (hb : B ≤ g) : OwnB w B g 512 (zeros 512) :=
  ⟨by rw [cellsOf_len, Nat.mul_one], .inr ⟨g, 512, _, by rw [lenL_zeros], hb, h, by rw [lenL_zeros]; exact Nat.le_refl _, by decide, by rw [← Array.length_toList, cellsOf_len, lenL_zeros], by rw [lenL_zeros]; exact List.take_of_length_le (by rw [cellsOf_len, lenL_zeros]; exact Nat.le_refl _)⟩⟩
section
variable {w0 w w' : World} {rg : Nat} {x x' : BAdr} {S S' : BkA} {g g' : Nat}
set_option maxRecDepth 100000 in
set_option maxHeartbeats 3200000 in
theorem awake12_any (w : World) : Calls Tryz.prog 18 #[] w fun e w' => e = .returned (.bool true) ∧ Kept (fun _ => False) w w' := by
  obtain ⟨S1, S2, S3, S4, S5, S6, e1, a1, p1, e2, e3, e4, e5, a5, p5, e6, a6, p6, t6⟩ := aw12_states
  have E1 := Lib.hid e1
  have A1 := Lib.hid (⟨a1, p1⟩ : S1.now 0 = zeros 512 ∧ S1.pages = 10)
  have E2 := Lib.hid e2
  have E3 := Lib.hid e3
  have E4 := Lib.hid e4
  have E5 := Lib.hid e5
  have A5 := Lib.hid (⟨a5, p5⟩ : S5.now 0 = zeros 512 ∧ S5.pages = 10)
  have E6 := Lib.hid e6
  have A6 := Lib.hid (⟨a6, p6, t6⟩ : S6.now 0 = sevB ∧ S6.pages = 10 ∧ S6.inT = false)
  clear e1 a1 p1 e2 e3 e4 e5 a5 p5 e6 a6 p6 t6
  go_enter Tryz.func18, Tryz.ntmps18
  go_wp2_with fail
  refine (begin12_any w 24 8 (by decide) (by decide) (by decide) (by decide)).mono ?_
  rintro e w1 ⟨rg, x, rfl, h1, h2, h3, h4⟩
  have H1 := Lib.hid (⟨h1, h2, h3, h4⟩ : Aw w w1 rg x (freshA 24) 0)
  have c3 := h1.cell
  clear h1 h2 h3 h4
  unfold ptrV
  go_wp2_with fail
  have hb := abegin_any H1.out.r.b (by decide)
  rw [E1.out] at hb
  refine hb.mono ?_
  rintro e w2 ⟨rfl, x2, h1, h2⟩
  have H2 := Lib.hid (H1.out.to h1 h2)
  have HBK := Lib.hid (show x2.bk = x.bk from h1.fix.bk)
  have c3 := H2.out.r.cell
  rw [HBK.out] at c3
  clear h1 h2 hb H1 E1
  go_wp2_with fail
  have hb := apage_any H2.out.r.b 0
  unfold ptrV at hb
  rw [HBK.out] at hb
  refine hb.mono ?_
  rintro e w3 ⟨x3, h1, h2, ⟨h3, -⟩ | ⟨-, y, c, hl, rfl, ho, hn⟩⟩
  · rw [A1.out.2] at h3; omega
  have H3 := Lib.hid (H2.out.to h1 h2)
  have HBK3 := Lib.hid (show x3.bk = x.bk from h1.fix.bk.trans HBK.out)
  rw [A1.out.1] at ho hl
  have HO := Lib.hid ho
  have HNY := Lib.hid hn
  have HLY := Lib.hid (Nat.le_trans H2.out.k.size ho.base_le)
  have hc := ho.ltF.2.1
  rw [hl] at hc
  have ic : (5 : Int) < 512 := by decide
  clear h1 h2 hb ho hn H2 hl
  go_wp2_with (refine wl_setY rfl _ _ _ rfl (by kernel_rfl) _ y c (zeros 512) 5 7 7 rfl rfl rfl HO.out (by rw [lenL_zeros]; decide) ?_)
  intro w4 ho4 hk4
  have HO4 := Lib.hid (show OwnB w4 w2.heap.size y c sevB from ho4)
  have H4 := Lib.hid (H3.out.keep hk4 (fun z hz => by subst hz; exact HLY.out) (fun e => H3.out.nt HO.out e.symm) (fun z hz e => HNY.out (by rw [← e]; exact hz)))
  clear ho4 hk4 H3 HO c3
  have HPA := Lib.hid (show Calls Tryz.prog 23 #[.pointer (some ⟨x.bk, 0, none⟩), .int .i64 0, .slice (some ⟨y, 0, none⟩) 512 c] w4.drew (APost w4.drew x3 (S2, 0) 2) from by
    have := aput_any (H4.out.r.b.keep0 ((Kept.refl (fun _ => False) w4).drew)) (by decide) 0 (some ⟨y, 0, none⟩) c sevB (HO4.out.kept ((Kept.refl (fun _ => False) w4).drew)).v.rd (fun b o e hb hK => by cases e; exact HNY.out hK) HO4.out.ltF.2.1 HO4.out.ltF.2.2 (by rw [sev_len]; decide) (by unfold isI; decide)
    rw [sev_len, E2.out] at this
    unfold ptrV at this
    rw [HBK3.out] at this
    exact this)
  have HKD := Lib.hid (H4.out.keep0 ((Kept.refl (fun _ => False) w4).drew))
  obtain ⟨SS, hSS⟩ : ∃ SS : World → Prop, SS = fun w' => w'.cell? ⟨rg, 3, none⟩ = some (.pointer (some ⟨x.bk, 0, none⟩)) := ⟨_, rfl⟩
  have HSS := Lib.hid (fun (w' : World) => show SS w' = (w'.cell? ⟨rg, 3, none⟩ = some (.pointer (some ⟨x.bk, 0, none⟩))) from by rw [hSS])
  have HG0 := Lib.hid (show SS w4.drew from by rw [HSS.out, ← HBK3.out]; exact HKD.out.r.cell)
  clear hSS H4 HO4
  go_wp2_with fail
  refine startL 31 SS (by kernel_rfl) HG0.out (fun hH => ?_)
  simp only [List.length_cons, List.length_nil, List.replicate]
  refine takeL 0 ?_ rfl (by kernel_rfl) (fun _ _ _ h => h) (by rfl) (fun w' hw' => ?_) hH ?_
  rotate_left
  · have c3 := (HSS.out w').mp hw'
    go_simp <;> with_reducible rfl
  simp only [Act.put, oZa, oZb, oZc]
  refine takeL 1 ?_ rfl (by kernel_rfl) (fun _ _ _ h => h) (by rfl) (fun w' hw' => ?_) hH ?_
  rotate_left
  · have c3 := (HSS.out w').mp hw'
    go_simp <;> with_reducible rfl
  simp only [Act.put, oZa, oZb, oZc]
  refine takeL 2 ?_ rfl (by kernel_rfl) (fun _ _ _ h => h) (by rfl) (fun w' hw' => ?_) hH ?_
  rotate_left
  · have c3 := (HSS.out w').mp hw'
    go_simp <;> with_reducible rfl
  simp only [Act.put, oZa, oZb, oZc]
  refine takeL 3 ?_ rfl (by kernel_rfl) (fun _ _ _ h => h) (by rfl) (fun w' hw' => ?_) hH ?_
  rotate_left
  · have c3 := (HSS.out w').mp hw'
    go_simp <;> with_reducible rfl
  simp only [Act.put, oZa, oZb, oZc]
  refine takeL 4 ?_ rfl (by kernel_rfl) (fun _ _ _ h => h) (by rfl) (fun w' hw' => ?_) hH ?_
  rotate_left
  · have c3 := (HSS.out w').mp hw'
    go_simp <;> with_reducible rfl
  simp only [Act.put, oZa, oZb, oZc]
  refine stepL 5 rfl (by kernel_rfl) (fun K hK => ?_)
  go_simp
  refine HPA.out.mono ?_
  rintro e w5 ⟨rfl, x5, h1, h2⟩
  have H5 := Lib.hid (HKD.out.to h1 h2)
  have HBK5 := Lib.hid (show x5.bk = x.bk from h1.fix.bk.trans HBK3.out)
  have HS5 := Lib.hid (show SS w5 from by rw [HSS.out, ← HBK5.out]; exact H5.out.r.cell)
  clear h1 h2 HPA HKD hH
  go_simp
  refine hK.out _ _ (fun _ => HS5.out) (fun _ => ?_)
  simp only [oZa, oZb, oZc]
  clear hK K
  refine takeL 6 ?_ rfl (by kernel_rfl) (fun _ _ _ h => h) (by rfl) (fun w' hw' => ?_) HS5.out ?_
  rotate_left
  · have c3 := (HSS.out w').mp hw'
    go_simp <;> with_reducible rfl
  simp only [Act.put, oZa, oZb, oZc]
  refine takeL 7 ?_ rfl (by kernel_rfl) (fun _ _ _ h => h) (by rfl) (fun w' hw' => ?_) HS5.out ?_
  rotate_left
  · have c3 := (HSS.out w').mp hw'
    go_simp <;> with_reducible rfl
  simp only [Act.put, oZa, oZb, oZc]
  refine takeL 8 ?_ rfl (by kernel_rfl) (fun _ _ _ h => h) (by rfl) (fun w' hw' => ?_) HS5.out ?_
  rotate_left
  · have c3 := (HSS.out w').mp hw'
    go_simp <;> with_reducible rfl
  simp only [Act.put, oZa, oZb, oZc]
  refine takeL 9 ?_ rfl (by kernel_rfl) (fun _ _ _ h => h) (by rfl) (fun w' hw' => ?_) HS5.out ?_
  rotate_left
  · have c3 := (HSS.out w').mp hw'
    go_simp <;> with_reducible rfl
  simp only [Act.put, oZa, oZb, oZc]
  refine takeL 10 ?_ rfl (by kernel_rfl) (fun _ _ _ h => h) (by rfl) (fun w' hw' => ?_) HS5.out ?_
  rotate_left
  · have c3 := (HSS.out w').mp hw'
    go_simp <;> with_reducible rfl
  simp only [Act.put, oZa, oZb, oZc]
  refine takeL 11 ?_ rfl (by kernel_rfl) (fun _ _ _ h => h) (by rfl) (fun w' hw' => ?_) HS5.out ?_
  rotate_left
  · have c3 := (HSS.out w').mp hw'
    go_simp <;> with_reducible rfl
  simp only [Act.put, oZa, oZb, oZc]
  have HC12 := Lib.hid (show Calls Tryz.prog 25 #[.pointer (some ⟨x.bk, 0, none⟩)] w5 (APost w5 x5 (S3, 0) 3) from by
    have := acommit_any H5.out.r.b (by decide)
    rw [show S2.commit = (S3, 0) from E3.out] at this
    unfold ptrV at this
    rw [HBK5.out] at this
    exact this)
  refine stepL 12 rfl (by kernel_rfl) (fun K hK => ?_)
  go_simp
  refine HC12.out.mono ?_
  rintro e w6 ⟨rfl, x6, h1, h2⟩
  have H6 := Lib.hid (H5.out.to h1 h2)
  have HBK6 := Lib.hid (show x6.bk = x.bk from h1.fix.bk.trans HBK5.out)
  have HS6 := Lib.hid (show SS w6 from by rw [HSS.out, ← HBK6.out]; exact H6.out.r.cell)
  clear h1 h2 HC12
  go_simp
  refine hK.out _ _ (fun _ => HS6.out) (fun _ => ?_)
  simp only [oZa, oZb, oZc]
  clear hK K
  refine takeL 13 ?_ rfl (by kernel_rfl) (fun _ _ _ h => h) (by rfl) (fun w' hw' => ?_) HS6.out ?_
  rotate_left
  · have c3 := (HSS.out w').mp hw'
    go_simp <;> with_reducible rfl
  simp only [Act.put, oZa, oZb, oZc]
  refine takeL 14 ?_ rfl (by kernel_rfl) (fun _ _ _ h => h) (by rfl) (fun w' hw' => ?_) HS6.out ?_
  rotate_left
  · have c3 := (HSS.out w').mp hw'
    go_simp <;> with_reducible rfl
  simp only [Act.put, oZa, oZb, oZc]
  refine takeL 15 ?_ rfl (by kernel_rfl) (fun _ _ _ h => h) (by rfl) (fun w' hw' => ?_) HS6.out ?_
  rotate_left
  · have c3 := (HSS.out w').mp hw'
    go_simp <;> with_reducible rfl
  simp only [Act.put, oZa, oZb, oZc]
  refine takeL 16 ?_ rfl (by kernel_rfl) (fun _ _ _ h => h) (by rfl) (fun w' hw' => ?_) HS6.out ?_
  rotate_left
  · have c3 := (HSS.out w').mp hw'
    go_simp <;> with_reducible rfl
  simp only [Act.put, oZa, oZb, oZc]
  refine takeL 17 ?_ rfl (by kernel_rfl) (fun _ _ _ h => h) (by rfl) (fun w' hw' => ?_) HS6.out ?_
  rotate_left
  · have c3 := (HSS.out w').mp hw'
    go_simp <;> with_reducible rfl
  simp only [Act.put, oZa, oZb, oZc]
  refine takeL 18 ?_ rfl (by kernel_rfl) (fun _ _ _ h => h) (by rfl) (fun w' hw' => ?_) HS6.out ?_
  rotate_left
  · have c3 := (HSS.out w').mp hw'
    go_simp <;> with_reducible rfl
  simp only [Act.put, oZa, oZb, oZc]
  refine takeL 19 ?_ rfl (by kernel_rfl) (fun _ _ _ h => h) (by rfl) (fun w' hw' => ?_) HS6.out ?_
  rotate_left
  · have c3 := (HSS.out w').mp hw'
    go_simp <;> with_reducible rfl
  simp only [Act.put, oZa, oZb, oZc]
  have HC20 := Lib.hid (show Calls Tryz.prog 20 #[.pointer (some ⟨x.bk, 0, none⟩)] w6 (APost w6 x6 (S4, 0) 4) from by
    have := abegin_any H6.out.r.b (by decide)
    rw [show S3.begin = (S4, 0) from E4.out] at this
    unfold ptrV at this
    rw [HBK6.out] at this
    exact this)
  refine stepL 20 rfl (by kernel_rfl) (fun K hK => ?_)
  go_simp
  refine HC20.out.mono ?_
  rintro e w7 ⟨rfl, x7, h1, h2⟩
  have H7 := Lib.hid (H6.out.to h1 h2)
  have HBK7 := Lib.hid (show x7.bk = x.bk from h1.fix.bk.trans HBK6.out)
  have HS7 := Lib.hid (show SS w7 from by rw [HSS.out, ← HBK7.out]; exact H7.out.r.cell)
  clear h1 h2 HC20
  go_simp
  refine hK.out _ _ (fun _ => HS7.out) (fun _ => ?_)
  simp only [oZa, oZb, oZc]
  clear hK K
  refine takeL 21 ?_ rfl (by kernel_rfl) (fun _ _ _ h => h) (by rfl) (fun w' hw' => ?_) HS7.out ?_
  rotate_left
  · have c3 := (HSS.out w').mp hw'
    go_simp <;> with_reducible rfl
  simp only [Act.put, oZa, oZb, oZc]
  refine takeL 22 ?_ rfl (by kernel_rfl) (fun _ _ _ h => h) (by rfl) (fun w' hw' => ?_) HS7.out ?_
  rotate_left
  · have c3 := (HSS.out w').mp hw'
    go_simp <;> with_reducible rfl
  simp only [Act.put, oZa, oZb, oZc]
  refine takeL 23 ?_ rfl (by kernel_rfl) (fun _ _ _ h => h) (by rfl) (fun w' hw' => ?_) HS7.out ?_
  rotate_left
  · have c3 := (HSS.out w').mp hw'
    go_simp <;> with_reducible rfl
  simp only [Act.put, oZa, oZb, oZc]
  refine takeL 24 ?_ rfl (by kernel_rfl) (fun _ _ _ h => h) (by rfl) (fun w' hw' => ?_) HS7.out ?_
  rotate_left
  · have c3 := (HSS.out w').mp hw'
    go_simp <;> with_reducible rfl
  simp only [Act.put, oZa, oZb, oZc]
  refine takeL 25 ?_ rfl (by kernel_rfl) (fun _ _ _ h => h) (by rfl) (fun w' hw' => ?_) HS7.out ?_
  rotate_left
  · have c3 := (HSS.out w').mp hw'
    go_simp <;> with_reducible rfl
  simp only [Act.put, oZa, oZb, oZc]
  refine takeL 26 ?_ rfl (by kernel_rfl) (fun _ _ _ h => h) (by rfl) (fun w' hw' => ?_) HS7.out ?_
  rotate_left
  · have c3 := (HSS.out w').mp hw'
    go_simp <;> with_reducible rfl
  simp only [Act.put, oZa, oZb, oZc]
  refine takeL 27 ?_ rfl (by kernel_rfl) (fun _ _ _ h => h) (by rfl) (fun w' hw' => ?_) HS7.out ?_
  rotate_left
  · have c3 := (HSS.out w').mp hw'
    go_simp <;> with_reducible rfl
  simp only [Act.put, oZa, oZb, oZc]
  refine stepL 28 rfl (by kernel_rfl) (fun K hK => ?_)
  refine step_makeW (by rfl) _ _ rfl .i64 .i64 512 512 rfl rfl (Nat.le_refl 512) (by decide) ?_
  intro gz w8 l8 m8 hb8 hk8
  have HZ8 := Lib.hid (OwnB.zerosW hb8 l8)
  have HNZ := Lib.hid (show ¬ x7.K gz from fun hK => by have := H7.out.r.b.lt hK; omega)
  have H8 := Lib.hid (H7.out.keep0 hk8)
  have HS8 := Lib.hid (show SS w8 from by rw [HSS.out, ← HBK7.out]; exact H8.out.r.cell)
  clear l8 m8 hb8 hk8
  refine hK.out _ _ (fun _ => HS8.out) (fun _ => ?_)
  simp only [Act.put, oZa, oZb, oZc]
  clear hK K
  have HPZ := Lib.hid (show Calls Tryz.prog 23 #[.pointer (some ⟨x.bk, 0, none⟩), .int .i64 0, .slice (some ⟨gz, 0, none⟩) 512 512] w8 (APost w8 x7 (S5, 0) 5) from by
    have := aput_any H8.out.r.b (by decide) 0 (some ⟨gz, 0, none⟩) 512 (zeros 512) HZ8.out.v.rd (fun b o e hb hK => by cases e; exact HNZ.out hK) (by rw [lenL_zeros]; decide) (by decide) (by rw [lenL_zeros]; decide) (by unfold isI; decide)
    rw [lenL_zeros, show S4.put 0 (zeros 512) = (S5, 0) from E5.out] at this
    unfold ptrV at this
    rw [HBK7.out] at this
    exact this)
  refine stepL 29 rfl (by kernel_rfl) (fun K hK => ?_)
  go_simp
  refine HPZ.out.mono ?_
  rintro e w9 ⟨rfl, x9, h1, h2⟩
  have H9 := Lib.hid (H8.out.to h1 h2)
  have HBK9 := Lib.hid (show x9.bk = x.bk from h1.fix.bk.trans HBK7.out)
  have HS9 := Lib.hid (show SS w9 from by rw [HSS.out, ← HBK9.out]; exact H9.out.r.cell)
  clear h1 h2 HPZ H5 H6 H7 HG0 HS5 HS6 HS7 HS8 HZ8
  go_simp
  refine hK.out _ _ (fun _ => HS9.out) (fun _ => ?_)
  simp only [oZa, oZb, oZc]
  clear hK K
  refine takeL 30 ?_ rfl (by kernel_rfl) (fun _ _ _ h => h) (by rfl) (fun w' hw' => ?_) HS9.out ?_
  rotate_left
  · have c3 := (HSS.out w').mp hw'
    go_simp <;> with_reducible rfl
  simp only [Act.put, oZa, oZb, oZc]
  refine stepL 31 rfl (by kernel_rfl) (fun K hK => ?_)
  go_simp
  refine hK.out _ _ (fun h => absurd rfl h) (fun _ => ?_)
  simp only [Act.put, oZa, oZb, oZc]
  clear hK K
  refine doneL (by kernel_rfl) ?_ _
  have c3 := (HSS.out w9).mp HS9.out
  go_wp2_with fail
  have hb := apage_any H9.out.r.b 0
  unfold ptrV at hb
  rw [HBK9.out] at hb
  refine hb.mono ?_
  rintro e w10 ⟨x10, h1, h2, ⟨h3, -⟩ | ⟨-, y2, c2, hl, rfl, ho, hn⟩⟩
  · have := A5.out.2
    try dsimp only at h3
    omega
  have H10 := Lib.hid (H9.out.to h1 h2)
  have HBK10 := Lib.hid (show x10.bk = x.bk from h1.fix.bk.trans HBK9.out)
  try dsimp only at ho
  rw [A5.out.1] at ho
  have d5 : w10.cell? ⟨y2, 5, none⟩ = some (.int .u8 0) := ho.cellAt (by rw [lenL_zeros]; decide)
  have c3 : w10.cell? ⟨rg, 3, none⟩ = some (.pointer (some ⟨x.bk, 0, none⟩)) := by rw [← HBK10.out]; exact H10.out.r.cell
  clear h1 h2 hb ho hn hl H9
  go_wp2_with fail
  have hb := aabort_any H10.out.r.b (by decide)
  try dsimp only at hb
  rw [E6.out] at hb
  unfold ptrV at hb
  rw [HBK10.out] at hb
  refine hb.mono ?_
  rintro e w11 ⟨rfl, x11, h1, h2⟩
  have H11 := Lib.hid (H10.out.to h1 h2)
  have HBK11 := Lib.hid (show x11.bk = x.bk from h1.fix.bk.trans HBK10.out)
  have c3 : w11.cell? ⟨rg, 3, none⟩ = some (.pointer (some ⟨x.bk, 0, none⟩)) := by rw [← HBK11.out]; exact H11.out.r.cell
  clear h1 h2 hb H10 d5
  go_wp2_with fail
  have hb := apage_any H11.out.r.b 0
  unfold ptrV at hb
  rw [HBK11.out] at hb
  refine hb.mono ?_
  rintro e w12 ⟨x12, h1, h2, ⟨h3, -⟩ | ⟨-, y3, c4, hl, rfl, ho, hn⟩⟩
  · have := A6.out.2.1
    try dsimp only at h3
    omega
  have H12 := Lib.hid (H11.out.to h1 h2)
  have HBK12 := Lib.hid (show x12.bk = x.bk from h1.fix.bk.trans HBK11.out)
  try dsimp only at ho
  rw [A6.out.1] at ho
  have d5 : w12.cell? ⟨y3, 5, none⟩ = some (.int .u8 7) := ho.cellAt (by rw [sev_len]; decide)
  have c3 : w12.cell? ⟨rg, 3, none⟩ = some (.pointer (some ⟨x.bk, 0, none⟩)) := by rw [← HBK12.out]; exact H12.out.r.cell
  clear h1 h2 hb ho hn hl H11
  go_wp2_with fail
  have hb := ain_any H12.out.r.b
  try dsimp only at hb
  rw [A6.out.2.2] at hb
  unfold ptrV at hb
  rw [HBK12.out] at hb
  refine hb.mono ?_
  rintro e wx ⟨rfl, rfl⟩
  go_wp2_with fail
  have hb := apages_any H12.out.r.b
  try dsimp only at hb
  rw [A6.out.2.1] at hb
  unfold ptrV at hb
  rw [HBK12.out] at hb
  refine hb.mono ?_
  rintro e wx ⟨rfl, rfl⟩
  go_wp2
  go_ret
  exact ⟨rfl, H12.out.k⟩
end
end Go.Proofs.YtnbfhdgojmflhaaGreat
namespace Go.Proofs.YtnbfhdgojmflhaaGreat.changeNone
open Go.ChangeShapes Go.WideShapes Go.ChangeAt Go.RowKit
theorem own : ownKnob (Tryz.prog).godebug = none := by kernel_rfl
theorem laidOut : laidOutB Tryz.prog = true := by kernel_rfl
theorem cellsMas : (Tryz.prog).cellsOf 62 = 3 := by kernel_rfl
theorem list3 {l : List Value} (h : l.length = 3) : ∃ a b c, l = [a, b, c] := by
  match l, h with | [a, b, c], _ => exact ⟨a, b, c, rfl⟩
theorem open_mas {H : Type} {enc : TypeId × Value → H} {w : World} {base : Nat} {spare : Nat → Bool} {held : Bool} {fuel : Nat} {cs : List Value} {x : DataW H × List MemPlace} (h : DataW.trod enc Tryz.prog w base spare held fuel 62 cs = some x) : ∃ m : MasM, cs = (masC m).toList := by
  obtain ⟨xs, n, _, _, hl, hxl, hf⟩ := DataW.trod_struct Tryz.underlying62 h
  obtain ⟨c0, c1, c2, rfl⟩ := list3 (hl.trans cellsMas)
  obtain ⟨_, f0⟩ := fld hf 0 _ rfl (by simp [hxl]) 2 rfl 0 rfl 1 cellsI64
  obtain ⟨_, f1⟩ := fld hf 1 _ rfl (by simp [hxl]) 2 rfl 1 rfl 1 cellsI64
  obtain ⟨_, f2⟩ := fld hf 2 _ rfl (by simp [hxl]) 2 rfl 2 rfl 1 cellsI64
  obtain ⟨n0, e0, _, w0⟩ := DataW.trod_int Tryz.underlying2 f0
  obtain ⟨n1, e1, _, w1⟩ := DataW.trod_int Tryz.underlying2 f1
  obtain ⟨n2, e2, _, w2⟩ := DataW.trod_int Tryz.underlying2 f2
  cases e0; cases e1; cases e2
  exact ⟨⟨n0, n1, n2⟩, rfl⟩
set_option maxRecDepth 100000 in
theorem lifted (os : Os) (started : os.Started) (H : Type) (enc : TypeId × Value → H) :
    ReturnsInHanded {} Tryz.checked os 5 .any (Rows.changeNoneSpec.pre6 enc Tryz.prog Tryz.f5 Rows.changeNoneRow.domain false) (Rows.changeNoneSpec.post enc Tryz.prog Tryz.f5 false true false false) := by
  refine returnsInHanded_of_change (C := Tryz.checked) own started (by kernel_rfl) Tryz.func5
    (ChangeSpec.witness6 (enc := enc) (C := Tryz.checked) false ⟨#[], #[.int .i64 0, .slice none 0 0, .agg (masC zM)], []⟩ 8 (by kernel_rfl) (by kernel_rfl) (by kernel_rfl) (by kernel_rfl)) ?_
  intro W base args ds gs before hval0 hW hcnd _
  have hW' := hW
  obtain ⟨p, q, hA0, hV, rfl, hfz, hnd⟩ := hW
  have hA : DataW.TrodAll enc Tryz.prog W 0 (fun _ => true) true Tryz.f5.params.toList args.toList ds p := hA0
  have hval : ∀ (j : Nat) t v, Tryz.f5.params[j]? = some t → args[j]? = some v → Value.okWide Tryz.prog W .any base t v := hval0
  rw [Tryz.params5] at hA hval
  obtain ⟨v0, vs0, d0, ds0, p0, q0, hargs, rfl, rfl, h0, r0⟩ := trodAll_cons hA
  obtain ⟨v1, vs1, d1, ds1, p1, q1, rfl, rfl, rfl, h1, r1⟩ := trodAll_cons r0
  obtain ⟨v2, vs2, d2, ds2, p2, q2, rfl, rfl, rfl, h2, r2⟩ := trodAll_cons r1
  obtain ⟨rfl, rfl, rfl⟩ := trodAll_nil r2
  obtain rfl : args = #[v0, v1, v2] := by cases args; simp_all
  obtain ⟨rfl, rfl⟩ := trodVars_none hV
  have k0 := h0
  have lt0 : ∀ x ∈ p0, x.block < W.heap.size := by obtain ⟨m, hm⟩ := k0; exact DataW.trod_lt m _ _ _ hm
  have k1 := h1
  have lt1 : ∀ x ∈ p1, x.block < W.heap.size := by obtain ⟨m, hm⟩ := k1; exact DataW.trod_lt m _ _ _ hm
  have k2 := h2
  have lt2 : ∀ x ∈ p2, x.block < W.heap.size := by obtain ⟨m, hm⟩ := k2; exact DataW.trod_lt m _ _ _ hm
  obtain ⟨n0, rfl⟩ := okWide_int Tryz.underlying3 (hval 0 3 v0 rfl rfl)
  obtain ⟨a1, len1, cap1, rfl⟩ := okWide_slice Tryz.underlying26 (hval 1 26 v1 rfl rfl)
  obtain ⟨cs, rfl, -⟩ := okWide_struct Tryz.underlying62 (hval 2 62 v2 rfl rfl)
  obtain ⟨m, e0⟩ : ∃ m, cs = masC m := by
    obtain ⟨fuel, hf⟩ := h2
    obtain ⟨m, hcs⟩ := open_mas hf
    exact ⟨m, Array.toList_inj.1 hcs⟩
  subst e0
  clear hA0 hval0
  refine (changeNone_any awake12_any W n0 a1 len1 cap1 m).mono fun e W' ⟨he, hk⟩ => ?_
  have bel : Below W.heap.size W W' := hk.below (Nat.le_refl _) (fun _ _ h => h)
  subst he
  exact ⟨_, rfl, _, _, _, [], _, [], hW', trodAll_mk1 (shut_bool Tryz.underlying4 _), (trodAll_cons_mk (Below.trod laidOut (by kernel_rfl) (of_decide_eq_true (by kernel_rfl)) k0 bel lt0) (trodAll_cons_mk (Below.trod laidOut (by kernel_rfl) (of_decide_eq_true (by kernel_rfl)) k1 bel lt1) (trodAll_cons_mk (Below.trod laidOut (by kernel_rfl) (of_decide_eq_true (by kernel_rfl)) k2 bel lt2) trodAll_mk0))), rfl, bel.frame _, fun h => by cases h⟩
theorem over : Rows.changeNoneRow.holds Tryz.pinned (OpenSpec.ofChange Rows.changeNoneSpec) :=
  OpenClaim.holds_of_wide 5 Tryz.f5 rfl rfl rfl rfl rfl rfl rfl ⟨rfl, rfl, rfl, rfl, rfl⟩ rfl rfl rfl rfl rfl (by kernel_rfl) Tryz.func5 (by kernel_rfl)
    (of_decide_eq_true (by kernel_rfl)) (by unfold Func.isWrapper; first | (rw [if_pos (by decide +kernel)]; kernel_rfl) | (rw [if_neg (by decide +kernel)]; exact ⟨rfl, rfl⟩))
    (fun os started H enc _ => lifted os started H enc)
theorem proved : Rows.ChangeNoneSaid := over
#print axioms proved
end Go.Proofs.YtnbfhdgojmflhaaGreat.changeNone
