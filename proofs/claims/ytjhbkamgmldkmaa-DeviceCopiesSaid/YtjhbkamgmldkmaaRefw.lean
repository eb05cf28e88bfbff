/-
  No statement is proved here: the contract of the document's device: Write.
-/
import Derived.Test.YtjhbkamgmldkmaaRefx
import Derived.Deep.RegionHeld3
import Derived.Deep.RegionLaw
namespace Go.Proofs.Ytjhbkamgmldkmaa
open Go.RowKit

/-- 'append', something appended, at a step of a region that draws its order; the world behind it a letter. -/
theorem step_append {P : Program} {w : World} {ops : Array Oper} {o : Oper} {a : Act} {K : Act → World → Prop} {Q : Exit → Act → World → Prop} {E : Prop} (hgd : o.guard = none) (s x : Operand) (t : TypeId)
    (ho : o.op = .call { callee := .builtin .append, args := #[s, x], argTypes := #[t, t] })
    (base : Nat) (e : TypeId) {z : Value} {size bytes : Nat} (ht : P.underlying t = some (.slice e)) (hinf : (P.info? e).map (fun i => (i.zero, i.size, i.bytes)) = some (some z, size, bytes)) (hzs : z.cells.size = size) (hsz : 0 < size)
    (v : Value) (n : Nat) (xs : List Value) (hs : a.eval s = v) (hown : w.ownsRow base e size v n xs)
    (b off m c : Nat) (news : List Value) (hx : a.eval x = .slice (some ⟨b, off, none⟩) m c) (hl : news.length = m * size) (hnews : ∀ j u, news[j]? = some u → w.cell? ⟨b, off + j, none⟩ = some u) (h1 : ∀ u ∈ news, u.oneCell' = true)
    (hm : 0 < m) (h63 : n + m ≤ maxLen) (hbytes : (n + m) * bytes ≤ 140737488355328) (hbase : base ≤ w.heap.size)
    (k : ∀ g cap w', w'.ownsRow base e size (.slice (some ⟨g, 0, none⟩) (n + m) cap) (n + m) (xs ++ news) → Kept (fun x => v.ownBlock = some x) w w' → (v.ownBlock = some g ∨ w.heap.size ≤ g) → g < w'.heap.size →
      K (a.put o.dst (.slice (some ⟨g, 0, none⟩) (n + m) cap)) w') :
    if Region.wanted o (yielded ops a.tmps) = true then Oper.wp P o a w K Q else E := by
  obtain ⟨i, hi, h2, h3, h4⟩ := info_parts hinf
  refine step_append_lies w hgd s x t ho base e i z size bytes ht hi h2 h3 h4 hzs hsz v n xs hs hown ⟨b, off, none⟩ m c news hx hl (fun j u hu => by rw [Addr.add_mid]; exact hnews j u hu) h1 hm h63 hbytes hbase w.heap.size rfl ?_
  intro g cap w' hown' hgr hat hlt
  exact k g cap w' hown' ((Kept.refl _ w).grown hgr (fun x hx => .inr hx)) (hat.imp id (fun e => by omega)) hlt

theorem run_makeBytes (w : World) (n m : Nat) (ni mi : Int) (hn : ni = (n : Int)) (hm : mi = (m : Int)) (hnm : n ≤ m) (hmm : m ≤ 281474976710656) :
    ∃ g w', (Instr.makeSlice 35 (.int .i64 ni) (.int .i64 mi)).run Try.prog w = .ok (.slice (some ⟨g, 0, none⟩) n m) w' ∧ w.heap.size ≤ g ∧ g < w'.heap.size ∧ w'.heap[g]? = some (.cells (cellsOf (zeros m)) 5 (0, 0)) ∧ Kept (fun _ => False) w w' := by
  subst hn; subst hm
  obtain ⟨i, hi, h2, h3, h4⟩ := info_parts info5
  have hr := run_make (P := Try.prog) w 35 5 i _ Try.underlying35 hi h2 .i64 .i64 (n : Int) (m : Int) (by omega) (by omega) (by rw [h4]; omega) (by omega)
  simp only [Int.toNat_natCast, h3, Nat.mul_one] at hr
  rw [show (Value.int IntKind.u8 0).cells = #[Value.int .u8 0] from rfl, madeCells_zeros] at hr
  exact ⟨w.heap.size, _, hr, Nat.le_refl _, by simp, heap_alloc_new w _, (Kept.refl _ w).alloc _⟩

section
variable {w w' : World} {q : Nat} {M I : Nat → Prop} {R : RefM} {v : Value} {cs : List RowC}
theorem infoBlock : (Try.prog.info? 77).map (fun i => (i.zero, i.size, i.bytes)) = some (some (.agg #[.int .i64 0, .slice none 0 0, .slice none 0 0, .bool false]), 4, 64) := by kernel_rfl

theorem RefX.cell {g n cap k : Nat} (h : RefX w q M I R (.slice (some ⟨g, 0, none⟩) n cap) cs k) {i f : Nat} {c : RowC} (hc : cs[i]? = some c) (hf : f < 4) {u : Value} (hu : c.cells[f]? = some u) : w.cell? ⟨g, i * 4 + f, none⟩ = some u := by
  have ho := h.own
  have hi : i < cs.length := (List.getElem?_eq_some_iff.1 hc).1
  obtain ⟨A, cap', hv, _⟩ := row_form ho
  injection hv with _ e2 _
  subst e2
  rw [ho.cellAt (i * 4 + f) (by omega), rowCells_get cs i f hf, hc]
  exact hu
theorem RefX.free {g n cap k : Nat} (h : RefX w q M I R (.slice (some ⟨g, 0, none⟩) n cap) cs k) (i : Nat) : w.frozen? ⟨g, i, none⟩ = false := by
  have ho := h.own
  obtain ⟨A, cap', hv, _⟩ := row_form ho
  injection hv with _ e2 _
  rw [← e2] at ho
  exact ho.frozenAt i
theorem RefP.free {g n cap : Nat} (h : RefP w q M I R (.slice (some ⟨g, 0, none⟩) n cap) cs) (i : Nat) : w.frozen? ⟨g, i, none⟩ = false := by
  have ho := h.own
  obtain ⟨A, cap', hv, _⟩ := row_form ho
  injection hv with _ e2 _
  rw [← e2] at ho
  exact ho.frozenAt i
theorem appended_pack {w4 : World} {A : Option Addr} {g g0 cap cap2 : Nat} {n : Int} {l : Bytes} (h : RefP w q M I R (.slice A cs.length cap) cs)
    (hap : RefX w4 q (fun x => M x ∨ x = g) (fun x => I x ∨ x = g0) (R.push n) (.slice (some ⟨g, 0, none⟩) (cs.length + 1) cap2) (cs ++ [⟨n, .slice none 0 0, .slice (some ⟨g0, 0, none⟩) 512 512, false⟩]) cs.length ∧ Kept M w w4 ∧ (M g ∨ w.heap.size ≤ g)) (hg0 : w.heap.size ≤ g0)
    (hE : PutR R n l { R with rows := ((R.push n).rows.set R.rows.length ⟨n, l, zeros 512, false⟩).set R.rows.length ⟨n, l, zeros 512, true⟩ }) :
    ∃ (M4 I4 : Nat → Prop) (R4 : RefM) (cs4 : List RowC) (cc : RowC) (r4 : RowM), RefX w4 q M4 I4 R4 (.slice (some ⟨g, 0, none⟩) (cs.length + 1) cap2) cs4 cs.length ∧ cs4[cs.length]? = some cc ∧ R4.rows[cs.length]? = some r4 ∧
        PutR R n l { R4 with rows := (R4.rows.set cs.length { r4 with latest := l }).set cs.length { r4 with latest := l, opn := true } } ∧ cs4.length = cs.length + 1 ∧ Kept M w w4 ∧ (∀ x, x < w.heap.size → M4 x → M x) ∧ (∀ x, M4 x → M x ∨ w.heap.size ≤ x) ∧ (∀ x, I4 x → I x ∨ w.heap.size ≤ x) := by
  refine ⟨_, _, R.push n, _, ⟨n, .slice none 0 0, .slice (some ⟨g0, 0, none⟩) 512 512, false⟩, ⟨n, [], zeros 512, false⟩, hap.1, by simp, by simp [RefM.push, h.len], ?_, by simp, hap.2.1, ?_, ?_, ?_⟩
  · rw [h.len]; exact hE
  · rintro x hx (h1 | rfl)
    · exact h1
    · rcases hap.2.2 with h1 | h1
      · exact h1
      · omega
  · rintro x (h1 | rfl)
    · exact .inl h1
    · exact hap.2.2
  · rintro x (h1 | rfl)
    · exact .inl h1
    · exact .inr hg0
set_option maxHeartbeats 2000000 in
theorem rwrite_ok (h : RefP w q M I R v cs) (n : Int) (hm : R.mayE n = 0) (hrl : cs.length ≤ 1000000) (b off c : Nat) (l : Bytes) (hl : l.length = 512) (hb : ∀ j u, (cellsOf l)[j]? = some u → w.cell? ⟨b, off + j, none⟩ = some u) (hbM : ¬ M b) :
    Calls Try.prog 37 #[.pointer (some ⟨q, 0, none⟩), .int .i64 n, .slice (some ⟨b, off, none⟩) 512 c] w fun e w' =>
      ∃ R' M' I', PutR R n l R' ∧ e = .returned (.int .i64 (if R'.crashes then 8 else 0)) ∧ RefAt w' q M' I' R'.crash ∧ Kept M w w' ∧ (∀ x, M' x → M x ∨ w.heap.size ≤ x) ∧ (∀ x, I' x → I x ∨ w.heap.size ≤ x) := by
  have c0 : w.cell? ⟨q, 0, none⟩ = some (.int .i64 R.n) := cell_blk h.hq rfl
  have c3 : w.cell? ⟨q, 3, none⟩ = some (.bool R.off) := cell_blk h.hq rfl
  have c1 : w.cell? ⟨q, 1, none⟩ = some v := cell_blk h.hq rfl
  have f1 := free_blk h.hq 1
  have HF := Lib.hid (rfind_any h n)
  have H := Lib.hid h
  have HB := Lib.hid hb
  have HL := Lib.hid hl
  clear h hb hl
  unfold RefM.mayE at hm
  have hd : R.off = false := by
    cases hd : R.off
    · rfl
    · rw [hd] at hm; simp at hm
  have HD := Lib.hid hd
  rw [hd] at hm c3
  simp only [Bool.false_eq_true, if_false] at hm
  have h6 : ¬ (n < 0 ∨ R.n ≤ n) := by intro h; rw [if_pos h] at hm; cases hm
  have h7 : ¬ n < 0 := by omega
  have h8 : ¬ R.n ≤ n := by omega
  clear hm hd h6
  rcases findM_cases R.rows n with ⟨e1, e2⟩ | ⟨k, r, e1, hr, hn, e2⟩
  · rw [e1] at HF
    obtain ⟨A, cap, rfl, hA⟩ := row_form H.out.own
    have HE2 := Lib.hid (PutR.new (l := l) (show lkR R.rows n = none from e2))
    obtain ⟨g0, w2, hr2, n2, m2, hb2, hk2⟩ := run_makeBytes w.drew 512 512 512 512 rfl rfl (Nat.le_refl _) (by decide)
    have lq := block_lt_of_cell c1
    simp only at lq
    have kw2 : Kept (fun _ => False) w w2 := (Kept.refl (fun _ => False) w).drew.trans0 hk2
    have kwa : Kept (fun _ => False) w (w2.alloc (.cells #[.int .i64 n, .slice none 0 0, .slice (some ⟨g0, 0, none⟩) 512 512, .bool false] 77)) := kw2.alloc _
    have d1 : w2.cell? ⟨q, 1, none⟩ = some (.slice A cs.length cap) := (World.cell?_of_block (hk2.block q lq id)).trans c1
    have HO2 := Lib.hid (ownsRow_kept H.out.own kwa (fun _ _ h => h))
    have HQ2 := Lib.hid (kwa.heap H.out.hq id)
    have HKa := Lib.hid kwa
    have HB0 := Lib.hid (heap_alloc_keep hb2 (.cells #[.int .i64 n, .slice none 0 0, .slice (some ⟨g0, 0, none⟩) 512 512, .bool false] 77))
    have d2 := cell_blk HQ2.out (i := 1) rfl
    have n2' : w.heap.size ≤ g0 := n2
    have HCL := Lib.hid (row_len H.out.own)
    clear n2 hb2 hk2 kw2 kwa e1 e2
    go_enter Try.func37, Try.ntmps37
    go_wp2_with (go_at_call 49; refine HF.out.mono ?_; rintro e w' ⟨rfl, rfl⟩)
    go_region_law
      ((refine step_append rfl _ _ _ (by rfl) 0 77 Try.underlying68 infoBlock rfl (by omega) (.slice A cs.length cap) cs.length (rowCells cs) (by rfl) HO2.out w2.heap.size 0 1 1 [.int .i64 n, .slice none 0 0, .slice (some ⟨g0, 0, none⟩) 512 512, .bool false] (by rfl) rfl (fun j u hu => cell_blk (heap_alloc_new w2 _) (by simpa using hu)) (by simp [Value.oneCell']) (by omega) (by have : maxLen = 9223372036854775807 := rfl; omega) (by omega) (by omega) ?_
        intro g cap2 w3 ho3 hk3 hat3 m3
        have hq3 := hk3.heap HQ2.out (fun e => (H.out.mv q e).2 rfl)
        have d3 := cell_blk hq3 (i := 1) rfl
        have f3 := free_blk hq3 1
        have HAP := Lib.hid (H.out.append HKa.out hk3 ho3 hat3 m3 HB0.out n2')
        clear hq3 ho3 hk3 hat3))
    all_goals (
      have lq3 := lq
      have HPK := Lib.hid (appended_pack (l := l) H.out HAP.out n2' HE2.out)
      have HBW0 := HAP.out.2.1
      clear HAP d1 d2 d3 f3 hr2 HO2 HQ2 HKa HB0 m3 m2
      generalize (w3.setCell { block := q, off := 1 } (Value.slice (some { block := g, off := 0 }) (cs.length + 1) cap2)) = w4 at HPK HBW0 ⊢
      obtain ⟨M4, I4, R4, cs4, cc, r4, hX, hC, hR, hE, hN4, hk4, hM4, hMN, hIN⟩ := HPK.out
      have HBW := Lib.hid (show ∀ (j : Nat) (u : Value), (cellsOf l)[j]? = some u → w4.cell? ⟨b, off + j, none⟩ = some u from fun j u hu => by
        have h1 := HB.out j u hu
        exact (World.cell?_of_block (hk4.block b (block_lt_of_cell h1) hbM)).trans h1)
      have HX := Lib.hid hX
      have HC := Lib.hid hC
      have HR := Lib.hid hR
      have HE := Lib.hid hE
      have HK4 := Lib.hid hk4
      have hlt4 : cs.length < cs4.length := by rw [hN4]; omega
      have c14 : w4.cell? ⟨q, 1, none⟩ = some (.slice (some ⟨g, 0, none⟩) (cs.length + 1) cap2) := cell_blk HX.out.hq rfl
      have kk0 : (0 : Int) ≤ (cs.length : Int) := by omega
      have kk1 : (cs.length : Int) < (cs.length : Int) + 1 := by omega
      have HM4 := Lib.hid hM4
      have HMN := Lib.hid hMN
      have HIN := Lib.hid hIN
      clear hM4 hMN hIN hN4 hX hC hR hE hk4 HPK HBW0 HE2 c0 c3 c1 f1 HB
      have hq4 := HX.out.hq
      have lq4 := heap_lt hq4
      have d1 := cell_blk hq4 (i := 1) rfl
      have ka := (Kept.refl (fun _ => False) w4).drew.alloc (.cells #[] 5)
      have hqa := ka.heap hq4 id
      have da := cell_blk hqa (i := 1) rfl
      have Hqa := Lib.hid hqa
      have Hka := Lib.hid ka
      have HO5 := Lib.hid (show (w4.drew.alloc (.cells #[] 5)).ownsRow w4.heap.size 5 1 (.slice (some ⟨w4.heap.size, 0, none⟩) 0 0) 0 [] from ⟨rfl, .inr ⟨w4.heap.size, 0, #[], rfl, Nat.le_refl _, heap_alloc_new w4.drew _, by omega, by decide, rfl, rfl⟩⟩)
      have HBa := Lib.hid (show ∀ (j : Nat) (u : Value), (cellsOf l)[j]? = some u → (w4.drew.alloc (.cells #[] 5)).cell? ⟨b, off + j, none⟩ = some u from fun j u hu => by
        have h1 := HBW.out j u hu
        exact (World.cell?_of_block (ka.block b (block_lt_of_cell h1) id)).trans h1)
      have hgc := HX.out.mv g rfl
      have hown := HX.out.own
      have Hown := Lib.hid hown
      clear hq4 hqa ka hown
      go_wp2_with fail
      go_region_held3 (fun w' => w'.cell? ⟨q, 1, none⟩ = some (.slice (some ⟨g, 0, none⟩) (cs.length + 1) cap2))
        (first
          | exact d1
          | exact da
          | exact d6
          | exact d7)
        ((refine step_append rfl _ _ _ (by rfl) w4.heap.size 5 Try.underlying35 info5 rfl (by omega) (.slice (some ⟨w4.heap.size, 0, none⟩) 0 0) 0 [] (by rfl) HO5.out b off 512 c (cellsOf l).toList (by rfl) (by rw [cellsOf_len, HL.out]) (fun j u hu => HBa.out j u (by simpa using hu)) (fun u hu => (Array.all_eq_true_iff_forall_mem.1 (one_cellsOf l)) u (by simpa using hu)) (by omega) (by decide) (by decide) (by simp) ?_
          intro g5 cap5 w6 ho6 hk6 hat6 m6
          have K6 : Kept (fun _ => False) w4 w6 := Hka.out.trans hk6 (fun x hx e => by simp [Value.ownBlock] at e; omega)
          have n5 : w4.heap.size ≤ g5 := by
            rcases hat6 with e | e
            · simp [Value.ownBlock] at e; omega
            · simp at e; omega
          have hB6 : OwnB w6 w4.heap.size g5 cap5 l := by
            unfold OwnB
            rw [show l.length = 0 + 512 from by rw [HL.out]]
            simpa using ho6
          have hL := HX.out.lv HC.out HR.out K6 (BytesV.own hB6 HL.out) n5 m6
          have hq6 := K6.heap HX.out.hq id
          have d6 := cell_blk hq6 (i := 1) rfl
          have hq7 := hL.1.hq
          have d7 := cell_blk hq7 (i := 1) rfl
          have X6 := HX.out.kept K6 (fun _ _ h => h) (fun _ _ h => h)
          have e6 := X6.cell (f := 1) HC.out (by omega) rfl
          have f6 := X6.free (cs.length * 4 + 1)
          have HL7 := Lib.hid hL
          have HK6 := Lib.hid K6
          clear K6 hB6 hL hq6 hq7 X6 ho6 hk6 hat6))
      have HP7 := Lib.hid HL7.out.1
      have HK7 := Lib.hid ((HK4.out.trans0 HK6.out).trans HL7.out.2 (fun x hx e => HM4.out x hx (e ▸ hgc.1)))
      clear d1 da d6 d7 e6 f6 HL7 HK6 m6 Hqa Hka HO5 HBa Hown
      generalize (w6.setCell { block := g, off := cs.length * 4 + 1 } (Value.slice (some { block := g5, off := 0 }) 512 cap5)) = w7 at HP7 HK7 ⊢
      have hc7 : (cs4.set cs.length { n := cc.n, lv := Value.slice (some { block := g5, off := 0 }) 512 cap5, sv := cc.sv, opn := cc.opn })[cs.length]? = some { n := cc.n, lv := Value.slice (some { block := g5, off := 0 }) 512 cap5, sv := cc.sv, opn := cc.opn } := by rw [List.getElem?_set_self hlt4]
      have hr7 : (R4.rows.set cs.length { r4 with latest := l })[cs.length]? = some { r4 with latest := l } := by rw [List.getElem?_set_self (List.getElem?_eq_some_iff.1 HR.out).1]
      have HT := Lib.hid (HP7.out.opn true hc7 hr7)
      have c7 := HP7.out.cell (f := 3) hc7 (by omega) rfl
      have f7 := HP7.out.free (cs.length * 4 + 3)
      have q7 : w7.cell? ⟨q, 1, none⟩ = some (.slice (some ⟨g, 0, none⟩) (cs.length + 1) cap2) := cell_blk HP7.out.hq rfl
      have HK8 := Lib.hid (HK7.out.trans HT.out.2 (fun x hx e => HM4.out x hx (e ▸ hgc.1)))
      obtain ⟨R', hE, hT⟩ : ∃ R', PutR R n l R' ∧ RefP (w7.setCell ⟨g, cs.length * 4 + 3, none⟩ (.bool true)) q M4 (fun x => I4 x ∨ x = g5) R' (.slice (some ⟨g, 0, none⟩) (cs.length + 1) cap2) _ := ⟨_, HE.out, HT.out.1⟩
      have HCR := Lib.hid (rcrash_any hT)
      have HE := Lib.hid hE
      have hqM := hT.mq
      clear hc7 hr7 HT hE hT
      have HCR' : ∀ b, R'.crashes = b → Hid _ := fun b hb => by rw [hb] at HCR; exact HCR
      cases hcr : R'.crashes
      all_goals (
        have HC := HCR' _ hcr
        have HCQ := Lib.hid hcr
        clear HCR' HCR hcr
        go_wp2_with (go_at_call 50; refine HC.out.mono ?_; rintro e w9 ⟨rfl, hP9, hk9⟩)
        go_ret
        refine ⟨R', M4, fun x => I4 x ∨ x = g5, HE.out, by rw [HCQ.out]; rfl, ⟨_, _, hP9⟩, HK8.out.trans hk9 (fun x hx e => HM4.out x hx (e ▸ hqM)), HMN.out, ?_⟩
        rintro x (h | rfl)
        · exact HIN.out x h
        · exact .inr (by have := HK4.out.size; omega)))
  · rw [e1] at HF
    obtain ⟨A, cap4, rfl, hA⟩ := row_form H.out.own
    have hlt : k < cs.length := by rw [H.out.len]; exact (List.getElem?_eq_some_iff.1 hr).1
    obtain ⟨g, rfl⟩ := hA (by omega)
    have hck : cs[k]? = some cs[k] := by simp [hlt]
    generalize cs[k] = cc at hck
    obtain ⟨M4, I4, R4, cs4, r4, hX, hC, hR, hE, hN4, hk4, hM4, hMN, hIN⟩ : ∃ (M4 I4 : Nat → Prop) (R4 : RefM) (cs4 : List RowC) (r4 : RowM), RefX w q M4 I4 R4 (.slice (some ⟨g, 0, none⟩) cs.length cap4) cs4 k ∧ cs4[k]? = some cc ∧ R4.rows[k]? = some r4 ∧
        PutR R n l { R4 with rows := (R4.rows.set k { r4 with latest := l }).set k { r4 with latest := l, opn := true } } ∧ cs4.length = cs.length ∧ Kept M w w ∧ (∀ x, x < w.heap.size → M4 x → M x) ∧ (∀ x, M4 x → M x ∨ w.heap.size ≤ x) ∧ (∀ x, I4 x → I x ∨ w.heap.size ≤ x) :=
      ⟨M, I, R, cs, r, H.out.toX k, hck, hr, PutR.at hr hn e1 e2, rfl, Kept.refl _ _, fun _ _ h => h, fun _ h => .inl h, fun _ h => .inl h⟩
    have HX := Lib.hid hX
    have HC := Lib.hid hC
    have HR := Lib.hid hR
    have HE := Lib.hid hE
    have HK4 := Lib.hid hk4
    have hlt4 : k < cs4.length := by rw [hN4]; exact hlt
    have HM4 := Lib.hid hM4
    have HMN := Lib.hid hMN
    have HIN := Lib.hid hIN
    clear hX hC hR hE hk4 hM4 hMN hIN hN4
    have HBW := HB
    have ki0 : (0 : Int) ≤ (k : Int) := by omega
    have ki1 : (k : Int) < (cs.length : Int) := by omega
    clear hA hck hr hn e1 e2 c1 f1
    go_enter Try.func37, Try.ntmps37
    go_wp2_with (go_at_call 49; refine HF.out.mono ?_; rintro e w' ⟨rfl, rfl⟩)
    have hq4 := HX.out.hq
    have lq4 := heap_lt hq4
    have d1 := cell_blk hq4 (i := 1) rfl
    have ka := (Kept.refl (fun _ => False) w).drew.alloc (.cells #[] 5)
    have hqa := ka.heap hq4 id
    have da := cell_blk hqa (i := 1) rfl
    have Hqa := Lib.hid hqa
    have Hka := Lib.hid ka
    have HO5 := Lib.hid (show (w.drew.alloc (.cells #[] 5)).ownsRow w.heap.size 5 1 (.slice (some ⟨w.heap.size, 0, none⟩) 0 0) 0 [] from ⟨rfl, .inr ⟨w.heap.size, 0, #[], rfl, Nat.le_refl _, heap_alloc_new w.drew _, by omega, by decide, rfl, rfl⟩⟩)
    have HBa := Lib.hid (show ∀ (j : Nat) (u : Value), (cellsOf l)[j]? = some u → (w.drew.alloc (.cells #[] 5)).cell? ⟨b, off + j, none⟩ = some u from fun j u hu => by
      have h1 := HBW.out j u hu
      exact (World.cell?_of_block (ka.block b (block_lt_of_cell h1) id)).trans h1)
    have hgc := HX.out.mv g rfl
    have hown := HX.out.own
    have Hown := Lib.hid hown
    clear hq4 hqa ka hown
    go_wp2_with fail
    go_region_held3 (fun w' => w'.cell? ⟨q, 1, none⟩ = some (.slice (some ⟨g, 0, none⟩) cs.length cap4))
      (first
        | exact d1
        | exact da
        | exact d6
        | exact d7)
      ((refine step_append rfl _ _ _ (by rfl) w.heap.size 5 Try.underlying35 info5 rfl (by omega) (.slice (some ⟨w.heap.size, 0, none⟩) 0 0) 0 [] (by rfl) HO5.out b off 512 c (cellsOf l).toList (by rfl) (by rw [cellsOf_len, HL.out]) (fun j u hu => HBa.out j u (by simpa using hu)) (fun u hu => (Array.all_eq_true_iff_forall_mem.1 (one_cellsOf l)) u (by simpa using hu)) (by omega) (by decide) (by decide) (by simp) ?_
        intro g5 cap5 w6 ho6 hk6 hat6 m6
        have K6 : Kept (fun _ => False) w w6 := Hka.out.trans hk6 (fun x hx e => by simp [Value.ownBlock] at e; omega)
        have n5 : w.heap.size ≤ g5 := by
          rcases hat6 with e | e
          · simp [Value.ownBlock] at e; omega
          · simp at e; omega
        have hB6 : OwnB w6 w.heap.size g5 cap5 l := by
          unfold OwnB
          rw [show l.length = 0 + 512 from by rw [HL.out]]
          simpa using ho6
        have hL := HX.out.lv HC.out HR.out K6 (BytesV.own hB6 HL.out) n5 m6
        have hq6 := K6.heap HX.out.hq id
        have d6 := cell_blk hq6 (i := 1) rfl
        have hq7 := hL.1.hq
        have d7 := cell_blk hq7 (i := 1) rfl
        have X6 := HX.out.kept K6 (fun _ _ h => h) (fun _ _ h => h)
        have e6 := X6.cell (f := 1) HC.out (by omega) rfl
        have f6 := X6.free (k * 4 + 1)
        have HL7 := Lib.hid hL
        have HK6 := Lib.hid K6
        clear K6 hB6 hL hq6 hq7 X6 ho6 hk6 hat6))
    have HP7 := Lib.hid HL7.out.1
    have HK7 := Lib.hid ((HK4.out.trans0 HK6.out).trans HL7.out.2 (fun x hx e => HM4.out x hx (e ▸ hgc.1)))
    clear d1 da d6 d7 e6 f6 HL7 HK6 m6 Hqa Hka HO5 HBa Hown
    generalize (w6.setCell { block := g, off := k * 4 + 1 } (Value.slice (some { block := g5, off := 0 }) 512 cap5)) = w7 at HP7 HK7 ⊢
    have hc7 : (cs4.set k { n := cc.n, lv := Value.slice (some { block := g5, off := 0 }) 512 cap5, sv := cc.sv, opn := cc.opn })[k]? = some { n := cc.n, lv := Value.slice (some { block := g5, off := 0 }) 512 cap5, sv := cc.sv, opn := cc.opn } := by rw [List.getElem?_set_self hlt4]
    have hr7 : (R4.rows.set k { r4 with latest := l })[k]? = some { r4 with latest := l } := by rw [List.getElem?_set_self (List.getElem?_eq_some_iff.1 HR.out).1]
    have HT := Lib.hid (HP7.out.opn true hc7 hr7)
    have c7 := HP7.out.cell (f := 3) hc7 (by omega) rfl
    have f7 := HP7.out.free (k * 4 + 3)
    have q7 : w7.cell? ⟨q, 1, none⟩ = some (.slice (some ⟨g, 0, none⟩) cs.length cap4) := cell_blk HP7.out.hq rfl
    have HK8 := Lib.hid (HK7.out.trans HT.out.2 (fun x hx e => HM4.out x hx (e ▸ hgc.1)))
    obtain ⟨R', hE, hT⟩ : ∃ R', PutR R n l R' ∧ RefP (w7.setCell ⟨g, k * 4 + 3, none⟩ (.bool true)) q M4 (fun x => I4 x ∨ x = g5) R' (.slice (some ⟨g, 0, none⟩) cs.length cap4) _ := ⟨_, HE.out, HT.out.1⟩
    have HCR := Lib.hid (rcrash_any hT)
    have HE := Lib.hid hE
    have hqM := hT.mq
    clear hc7 hr7 HT hE hT
    have HCR' : ∀ b, R'.crashes = b → Hid _ := fun b hb => by rw [hb] at HCR; exact HCR
    cases hcr : R'.crashes
    all_goals (
      have HC := HCR' _ hcr
      have HCQ := Lib.hid hcr
      clear HCR' HCR hcr
      go_wp2_with (go_at_call 50; refine HC.out.mono ?_; rintro e w9 ⟨rfl, hP9, hk9⟩)
      go_ret
      refine ⟨R', M4, fun x => I4 x ∨ x = g5, HE.out, by rw [HCQ.out]; rfl, ⟨_, _, hP9⟩, HK8.out.trans hk9 (fun x hx e => HM4.out x hx (e ▸ hqM)), HMN.out, ?_⟩
      rintro x (h | rfl)
      · exact HIN.out x h
      · exact .inr (by have := HK4.out.size; omega))
end
end Go.Proofs.Ytjhbkamgmldkmaa
