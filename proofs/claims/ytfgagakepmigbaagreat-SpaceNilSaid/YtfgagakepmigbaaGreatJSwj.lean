/-
  No statement is proved here.
-/
import Derived.Test.YtfgagakepmigbaaGreatJSwf
import Derived.WalkMore
namespace Go.Proofs.YtfgagakepmigbaaGreat
open Go.RowKit
theorem freeQ_of {f : Int → Bytes} {n q : Nat} (hq : q < n) (h : ∀ r, r < q → takB f r = true) (h0 : takB f q = false) : freeQ f n = some q := by
  unfold freeQ
  rw [List.find?_range_eq_some]
  exact ⟨by simp [h0], List.mem_range.2 hq, fun r hr => by simp [h r hr]⟩
theorem freeQ_none {f : Int → Bytes} {n : Nat} (h : ∀ r, r < n → takB f r = true) : freeQ f n = none := by
  unfold freeQ
  rw [List.find?_range_eq_none]
  intro r hr
  simp [h r hr]
section
variable {w w' w1 w2 : World} {x x1 : BAdr} {S : BkA} {g : Nat}
def TakePost (w : World) (x : BAdr) (S : BkA) (g : Nat) (e : Ending) (w' : World) : Prop := e = .returned (.tuple #[.int .i64 S.take.2.1, .int .i64 S.take.2.2]) ∧ ∃ x', BTo w x w' x' ∧ BkW w' x' S.take.1 (g + 2)
set_option maxRecDepth 100000 in
set_option maxHeartbeats 3200000 in
theorem stake_any (h : BkW w x S g) (hg : g ≤ 1000000000 - 1) : Calls Tryz.prog 12 #[ptrV x.bk] w (TakePost w x S g) := by
  obtain ⟨p0, p1⟩ := h.pg
  obtain ⟨POST, hPOST⟩ : ∃ POST, POST = TakePost w x S g := ⟨_, rfl⟩
  rw [← hPOST]
  have HPO := qh (show ∀ S' q n w' x', S.take = (S', q, n) → BTo w x w' x' → BkW w' x' S' (g + 2) → POST (.returned (.tuple #[.int .i64 q, .int .i64 n])) w' from fun S' q n w' x' h1 h2 h3 => by rw [hPOST]; unfold TakePost; rw [h1]; exact ⟨rfl, x', h2, h3⟩)
  have HPG := qh (show 10 ≤ S.pages ∧ S.pages ≤ 32766 from ⟨p0, p1⟩)
  have hmf : ∀ (fn : Fn) (first cap : Array Value) (w : World), (Instr.makeFunc fn first cap).run Tryz.prog w = .ok (.func fn first cap) w := fun _ _ _ _ => rfl
  have H := qh h
  clear h hPOST p0 p1
  unfold ptrV
  go_enter Tryz.func12, Tryz.ntmps12
  go_wp2_with (refine wl_box rfl 24 _ rfl (.pointer (some ⟨x.bk, 0, none⟩)) rfl ?_)
  intro gb w1 l1 m1 hb1 hk1
  have HB1 := qh (show w1.heap[gb]? = some (.cells #[ptrV x.bk] 24 (0, 0)) from hb1)
  have HK1 := qh hk1
  have HL1 := Lib.hid l1
  clear hb1 hk1 l1 m1
  have H1 := qh (H.out.keep0 HK1.out)
  have d0 : w1.cell? ⟨gb, 0, none⟩ = some (.pointer (some ⟨x.bk, 0, none⟩)) := cell_blk HB1.out rfl
  have HST := qh (sstate_any H1.out)
  unfold ptrV at HST
  go_wp2_with fail
  go_step3
  go_wp2_with fail
  refine HST.out.mono ?_
  rintro e wx ⟨rfl, rfl⟩
  clear HST
  by_cases hT : S.inT = true
  · rw [if_pos hT]
    have HT := qh hT
    have HH := qh (shead_any H1.out)
    unfold ptrV at HH
    clear hT
    go_wp2_with fail
    refine HH.out.mono ?_
    rintro e w2 ⟨x2, h1, h2, ⟨h3, rfl⟩ | ⟨h3, y, c, hl, rfl, ho, hn⟩⟩
    · have HTO := qh (BTo.early HK1.out h1)
      have H2 := qh h2
      have HG := qh (show S.take = (S, 0, 4) from by unfold BkA.take; rw [if_neg (by rw [HT.out]; decide), if_pos h3])
      clear h1 h2 h3 HH
      go_wp2
      exact HPO.out _ _ _ _ x2 HG.out HTO.out (H2.out.up (by omega))
    · have HTO := qh (BTo.early HK1.out h1)
      have H2 := qh h2
      have hnb : ∀ z, x.K z → z ≠ gb := fun z hz e => by have := H.out.lt hz; have := HL1.out; omega
      have HB2 := qh (h1.k.heap HB1.out (fun hK => hnb gb hK rfl))
      have HG := qh (show S.take = match freeQ S.now S.N with | none => (S, 0, 5) | some q => ((S.takeAt q).1, if (S.takeAt q).2 = 0 then ((q : Nat) : Int) else 0, (S.takeAt q).2) from by
        unfold BkA.take; rw [if_neg (by rw [HT.out]; decide), if_neg (by rw [h3]; decide)]
        rfl)
      obtain ⟨N, hNN⟩ : ∃ N : Nat, S.pages = N := ⟨S.pages.toNat, by have := HPG.out; omega⟩
      have HNN := qh hNN
      have hSN : S.N = N := by unfold BkA.N; omega
      rw [hSN] at HG
      have hN : 10 ≤ N ∧ N ≤ 32766 := by have := HPG.out; omega
      clear h1 h2 h3 HH hl ho hn hnb d0 hNN hSN
      go_wp2_with (refine wl_alloc1 rfl 3 rfl (.int .i64 0) rfl (fun _ => rfl) ?_)
      intro fc w3 l3 m3 hb3 hk3
      have HF3 := qh hb3
      have HTO3 := qh (HTO.out.keep0 hk3)
      have H3 := qh (H2.out.keep0 hk3)
      have HB3 := qh (hk3.heap HB2.out id)
      have HLF := qh (show w.heap.size ≤ fc ∧ gb ≠ fc from ⟨by have := HTO.out.k.size; omega, fun e => by have := heap_lt HB2.out; omega⟩)
      clear hb3 hk3 l3 m3
      go_wp2_with (refine wl_store1 rfl _ _ _ rfl fc 0 (.int .i64 (-1)) #[.int .i64 0] rfl rfl HF3.out (by kernel_rfl) (by show 0 < 1; decide) rfl ?_)
      intro w4 hb4 hk4
      have HF4 := qh (show w4.heap[fc]? = some (.cells #[.int .i64 (-1)] 3 (0, 0)) from hb4)
      have HB4 := qh (hk4.heap HB3.out HLF.out.2)
      have HTO4 := qh (HTO3.out.newK hk4 (fun z hz => by subst hz; exact HLF.out.1))
      have H4 := qh (BkW.keep H3.out hk4 (fun z hz e => by
        subst e
        exact H3.out.notK ⟨_, _, HF3.out⟩ (by decide) (by decide) (by decide) (by decide) (by decide) (by decide) (by decide) (by decide) hz))
      clear hb4 hk4 HF3 HTO3 H3 HB3 HTO H2 HB2 H1 HB1
      go_wp2_with fail
      go_step3
      go_wp2_with fail
      go_loopw [8] (fun i wr => ∃ (m : Nat) (xr : BAdr), i = .int .i64 m ∧ m * 4096 < N + 4096 ∧ (∀ r, r < m * 4096 → r < N → takB S.now r = true) ∧ BTo w x wr xr ∧ BkW wr xr S g ∧ wr.heap[gb]? = some (.cells #[ptrV x.bk] 24 (0, 0)) ∧ wr.heap[fc]? = some (.cells #[.int .i64 (-1)] 3 (0, 0))) (fun i _ => 100 - (intOf i).toNat)
      case atStart => exact ⟨0, x2, rfl, by omega, fun r h => by omega, HTO4.out, H4.out, HB4.out, HF4.out⟩
      case round =>
        clear HTO4 H4 HB4 HF4
        obtain ⟨m, xr, rfl, hm, htk, hto, hbw, hb, hf⟩ := hrel
        have HTO := qh hto
        have HW := qh hbw
        have HB := qh hb
        have HF := qh hf
        have HTK := qh htk
        have HBK := qh (show xr.bk = x.bk from hto.fix.bk)
        clear hto hbw hb hf htk
        have d0 : wr.cell? ⟨gb, 0, none⟩ = some (.pointer (some ⟨x.bk, 0, none⟩)) := cell_blk HB.out rfl
        have HPN := qh (show Calls Tryz.prog 29 #[.pointer (some ⟨x.bk, 0, none⟩)] wr fun e w' => e = .returned (.int .i64 (N : Int)) ∧ wr = w' from by
          have := apages_any HW.out
          unfold ptrV at this
          rw [HBK.out, HNN.out] at this
          exact this)
        go_wp2_with fail
        refine HPN.out.mono ?_
        rintro e wx ⟨rfl, rfl⟩
        by_cases hlt : m * 4096 < N
        · have i1 : (m : Int) * 4096 < (N : Int) := by omega
          have HPP := qh (show Calls Tryz.prog 23 #[.pointer (some ⟨x.bk, 0, none⟩), .int .i64 (1 + (m : Int))] wr (APagePost wr xr S g (1 + (m : Int))) from by
            have := apage_any HW.out (1 + (m : Int))
            unfold ptrV at this
            rw [HBK.out] at this
            exact this)
          go_wp2_with fail
          refine HPP.out.mono ?_
          rintro e w5 ⟨x5, h1, h2, ⟨h3, rfl⟩ | ⟨h3, y5, c5, hl5, rfl, ho5, hn5⟩⟩
          · have := HNN.out; omega
          · have HTO5 := qh (HTO.out.trans h1)
            have H5 := qh h2
            have hnb : ¬ xr.K gb ∧ ¬ xr.K fc := ⟨fun hK => HW.out.notK ⟨_, _, HB.out⟩ (by decide) (by decide) (by decide) (by decide) (by decide) (by decide) (by decide) (by decide) hK, fun hK => HW.out.notK ⟨_, _, HF.out⟩ (by decide) (by decide) (by decide) (by decide) (by decide) (by decide) (by decide) (by decide) hK⟩
            have HB5 := qh (h1.k.heap HB.out hnb.1)
            have HF5 := qh (h1.k.heap HF.out hnb.2)
            have HBK5 := qh (show x5.bk = x.bk from h1.fix.bk.trans HBK.out)
            obtain ⟨l, hll⟩ : ∃ l, l = S.now (1 + (m : Int)) := ⟨_, rfl⟩
            rw [← hll] at ho5 hl5
            have HO5 := qh ho5
            have HL5 := qh hl5
            have HLL := qh (show l = S.now (mapP (m * 4096)) from by rw [hll]; unfold mapP; congr 1; omega)
            have HPN5 := qh (show Calls Tryz.prog 29 #[.pointer (some ⟨x.bk, 0, none⟩)] w5 fun e w' => e = .returned (.int .i64 (N : Int)) ∧ w5 = w' from by
              have := apages_any H5.out
              unfold ptrV at this
              rw [HBK5.out, HNN.out] at this
              exact this)
            clear h1 h2 h3 ho5 hl5 hn5 hnb hll HTO HW HB HF HPP HPN d0 i1
            go_wp2_with fail
            go_loopw [11] (fun i wr => ∃ k : Nat, i = .int .i64 k ∧ wr = w5 ∧ k ≤ 4096 ∧ (∀ r, r < m * 4096 + k → r < N → takB S.now r = true)) (fun i _ => 5000 - (intOf i).toNat)
            case atStart => exact ⟨0, rfl, rfl, by omega, fun r h1 h2 => HTK.out r (by omega) h2⟩
            case round =>
              obtain ⟨k, rfl, rfl, hk, htk⟩ := hrel
              have HTK2 := qh htk
              clear htk
              have d0 : wr.cell? ⟨gb, 0, none⟩ = some (.pointer (some ⟨x.bk, 0, none⟩)) := cell_blk HB5.out rfl
              by_cases hk4 : k < 4096
              · have j1 : (k : Int) < 4096 := by omega
                go_wp2_with fail
                refine HPN5.out.mono ?_
                rintro e wx ⟨rfl, rfl⟩
                by_cases hq : m * 4096 + k < N
                · have j2 : (m : Int) * 4096 + k < N := by omega
                  have hk8 : k / 8 < 512 := by omega
                  have j3 : (k : Int) / 8 < 512 := by omega
                  have c0 := HO5.out.cellAt (i := k / 8) (by rw [HL5.out]; exact hk8)
                  have hb := bit_shr (bAt l (k / 8)) (j := k % 8) (by omega)
                  have ht : takB S.now (m * 4096 + k) = bitB (bAt l (k / 8)) (k % 8) := by
                    unfold takB bitP
                    rw [show mapP (m * 4096 + k) = mapP (m * 4096) from by unfold mapP; omega, ← HLL.out, show (m * 4096 + k) % 4096 = k by omega]
                  obtain ⟨bb, hbb⟩ : ∃ bb, bb = bitB (bAt l (k / 8)) (k % 8) := ⟨_, rfl⟩
                  rw [← hbb] at ht hb
                  have HTQ := qh ht
                  clear ht hbb
                  cases bb with
                  | true =>
                    rw [if_pos rfl] at hb
                    go_wp2
                    go_roundw
                    case rel =>
                      refine ⟨k + 1, by go_num, by first | rfl | trivial, by omega, fun r h1 h2 => ?_⟩
                      by_cases e : r = m * 4096 + k
                      · rw [e]; exact HTQ.out
                      · exact HTK2.out r (by omega) h2
                    case measure => simp [intOf]; omega
                  | false =>
                    rw [if_neg (by decide)] at hb
                    have HFQ := qh (freeQ_of hq (fun r h => HTK2.out r h (by omega)) HTQ.out)
                    obtain ⟨q, hqq⟩ : ∃ q, q = m * 4096 + k := ⟨_, rfl⟩
                    rw [← hqq] at HFQ hq
                    have HQ := qh hqq
                    have jq : (m : Int) * 4096 + k = (q : Int) := by omega
                    have jq0 : ¬ (q : Int) < 0 := by omega
                    clear hqq
                    go_wp2_with (refine wl_store1 rfl _ _ _ rfl fc 0 (.int .i64 q) #[.int .i64 (-1)] rfl (by first | rfl | exact congrArg (Value.int .i64) jq) HF5.out (by kernel_rfl) (by show 0 < 1; decide) rfl ?_)
                    intro w6 hb6 hk6
                    have HF6 := qh (show w6.heap[fc]? = some (.cells #[.int .i64 q] 3 (0, 0)) from hb6)
                    have HB6 := qh (hk6.heap HB5.out HLF.out.2)
                    have HTO6 := qh (HTO5.out.newK hk6 (fun z hz => by subst hz; exact HLF.out.1))
                    have H6 := qh (BkW.keep H5.out hk6 (fun z hz e => by
                      subst e
                      exact H5.out.notK ⟨_, _, HF5.out⟩ (by decide) (by decide) (by decide) (by decide) (by decide) (by decide) (by decide) (by decide) hz))
                    have HG2 := qh (show S.take = ((S.takeAt q).1, if (S.takeAt q).2 = 0 then ((q : Nat) : Int) else 0, (S.takeAt q).2) from by rw [HG.out, HFQ.out])
                    have d0 : w6.cell? ⟨gb, 0, none⟩ = some (.pointer (some ⟨x.bk, 0, none⟩)) := cell_blk HB6.out rfl
                    have d1 : w6.cell? ⟨fc, 0, none⟩ = some (.int .i64 q) := cell_blk HF6.out rfl
                    have HQP := qh (show (q : Int) < S.pages from by rw [HNN.out]; omega)
                    have hnb : ∀ z, x5.K z → z ≠ gb ∧ z ≠ fc := fun z hz => ⟨fun e => by
                      subst e
                      exact H6.out.notK ⟨_, _, HB6.out⟩ (by decide) (by decide) (by decide) (by decide) (by decide) (by decide) (by decide) (by decide) hz, fun e => by
                      subst e
                      exact H6.out.notK ⟨_, _, HF6.out⟩ (by decide) (by decide) (by decide) (by decide) (by decide) (by decide) (by decide) (by decide) hz⟩
                    have HBI := qh (sbit_any H6.out q HQP.out 34 #[.pointer (some ⟨gb, 0, none⟩), .pointer (some ⟨fc, 0, none⟩)] (fun n w' => n = (S.takeAt q).2 ∧ w'.heap[fc]? = some (.cells #[.int .i64 q] 3 (0, 0)) ∧ ∃ x', BTo w x w' x' ∧ BkW w' x' (S.takeAt q).1 (g + 2))
                      (fun a b c wz => rfl) (fun w' x' y c t1 t2 t3 t4 t5 => by
                        have hb := t1.k.heap HB6.out (fun hK => (hnb gb hK).1 rfl)
                        have hp := t1.k.heap HF6.out (fun hK => (hnb fc hK).2 rfl)
                        have hbk : x'.bk = x.bk := t1.fix.bk.trans HBK5.out
                        have hnf : ¬ x'.K fc := fun hK => t2.notK ⟨_, _, hp⟩ (by decide) (by decide) (by decide) (by decide) (by decide) (by decide) (by decide) (by decide) hK
                        rw [← hbk] at hb
                        refine (take1_any t2 hg y c q w6.heap.size t3 t4 t5 gb fc hb hp (by omega)).mono ?_
                        rintro e w'' ⟨rfl, x'', r1, r2, r3, r4⟩
                        have hy : w6.heap.size ≤ y := t3.base_le
                        have hsz := HTO6.out.k.size
                        have hfl := heap_lt HF6.out
                        refine ⟨_, rfl, rfl, r3.heap hp (fun h => by rcases h with h | h; exact hnf h; omega), x'', ⟨(HTO6.out.fix.trans t1.fix).trans r2, (HTO6.out.trans t1).k.trans r3 (fun z hz h' => ?_), fun z hz => ?_⟩, r1⟩
                        · rcases h' with h' | h'
                          · rcases (HTO6.out.trans t1).g z h' with r | r
                            · exact r
                            · omega
                          · omega
                        · rcases r4 z hz with r | r
                          · exact (HTO6.out.trans t1).g z r
                          · have := t1.k.size; exact .inr (by omega)))
                    unfold ptrV at HBI
                    rw [HBK5.out] at HBI
                    clear hb6 hk6 hnb HTO5 H5 HB5 HF5 HPN5 HO5 HL5 HLL HTK HTK2 HTQ c0 hb
                    go_wp2_with fail
                    refine HBI.out.mono ?_
                    rintro e w7 ⟨n, rfl, hn, hf7, x7, h7, h8⟩
                    have HX := qh (⟨h7, h8⟩ : BTo w x w7 x7 ∧ BkW w7 x7 (S.takeAt q).1 (g + 2))
                    have HN := qh hn
                    have d2 : w7.cell? ⟨fc, 0, none⟩ = some (.int .i64 q) := cell_blk hf7 rfl
                    clear hn h7 h8 hf7 HBI d0 d1
                    by_cases hn0 : n = 0
                    · subst hn0
                      go_wp2
                      try rw [Exit.noGoto_ret]
                      exact HPO.out _ _ _ _ x7 (by rw [HG2.out, ← HN.out, if_pos rfl]) HX.out.1 HX.out.2
                    · have hnb2 : (n != 0) = true := by rw [bne_iff_ne]; exact hn0
                      have HN0 := qh hn0
                      clear hn0
                      go_wp2
                      try rw [Exit.noGoto_ret]
                      exact HPO.out _ _ _ _ x7 (by rw [HG2.out, ← HN.out, if_neg HN0.out]) HX.out.1 HX.out.2
                · have j2 : ¬ (m : Int) * 4096 + k < N := by omega
                  go_wp2
                  go_roundw
                  case rel => exact ⟨m + 1, x5, by go_num, by omega, fun r h1 h2 => HTK2.out r (by omega) h2, HTO5.out, H5.out, HB5.out, HF5.out⟩
                  case measure => simp [intOf]; omega
              · have j1 : ¬ (k : Int) < 4096 := by omega
                go_wp2
                go_roundw
                case rel => exact ⟨m + 1, x5, by go_num, by omega, fun r h1 h2 => HTK2.out r (by omega) h2, HTO5.out, H5.out, HB5.out, HF5.out⟩
                case measure => simp [intOf]; omega
        · have i1 : ¬ (m : Int) * 4096 < (N : Int) := by omega
          have HG2 := qh (show S.take = (S, 0, 5) from by
            have hz : freeQ S.now N = none := freeQ_none fun r hr => HTK.out r (by omega) hr
            rw [HG.out, hz])
          have d1 : wr.cell? ⟨fc, 0, none⟩ = some (.int .i64 (-1)) := cell_blk HF.out rfl
          go_wp2
          try rw [Exit.noGoto_ret]
          exact HPO.out _ _ _ _ xr HG2.out HTO.out (HW.out.up (by omega))
  · have hT0 : S.inT = false := by simpa using hT
    have HG := qh (show S.take = (S, 0, 7) from by unfold BkA.take; rw [if_pos hT0])
    rw [if_neg hT]
    clear hT hT0
    go_wp2
    exact HPO.out _ _ _ _ x HG.out ⟨.refl x, HK1.out.mono (fun _ _ h => h.elim), fun z hz => .inl hz⟩ (H1.out.up (by omega))
end
end Go.Proofs.YtfgagakepmigbaaGreat
namespace Go.Proofs.YtfgagakepmigbaaGreat
open Go.RowKit
theorem freeN_succ (f : Int → Bytes) (q : Nat) : freeN f (q + 1) = freeN f q + if takB f q = true then 0 else 1 := by
  unfold freeN
  rw [List.range_succ, List.filter_append, List.length_append]
  cases h : takB f q <;> simp [h]
theorem freeN_le (f : Int → Bytes) (q : Nat) : freeN f q ≤ q := by
  unfold freeN
  have := List.length_filter_le (fun q => !takB f q) (List.range q)
  rw [List.length_range] at this
  exact this
section
variable {w w' w1 w2 : World} {x x1 : BAdr} {S : BkA} {g : Nat}
def FreePost (w : World) (x : BAdr) (S : BkA) (g : Nat) (e : Ending) (w' : World) : Prop := e = .returned (.tuple #[.int .i64 S.free.1, .int .i64 S.free.2]) ∧ ∃ x', BTo w x w' x' ∧ BkW w' x' S g
set_option maxRecDepth 100000 in
set_option maxHeartbeats 3200000 in
theorem sfree_any (h : BkW w x S g) : Calls Tryz.prog 11 #[ptrV x.bk] w (FreePost w x S g) := by
  obtain ⟨p0, p1⟩ := h.pg
  obtain ⟨POST, hPOST⟩ : ∃ POST, POST = FreePost w x S g := ⟨_, rfl⟩
  rw [← hPOST]
  have HPO := qh (show ∀ q n w' x', S.free = (q, n) → BTo w x w' x' → BkW w' x' S g → POST (.returned (.tuple #[.int .i64 q, .int .i64 n])) w' from fun q n w' x' h1 h2 h3 => by rw [hPOST]; unfold FreePost; rw [h1]; exact ⟨rfl, x', h2, h3⟩)
  have HPG := qh (show 10 ≤ S.pages ∧ S.pages ≤ 32766 from ⟨p0, p1⟩)
  have HH := qh (shead_any h)
  unfold ptrV at HH ⊢
  clear h hPOST p0 p1
  go_enter Tryz.func11, Tryz.ntmps11
  go_wp2_with fail
  refine HH.out.mono ?_
  rintro e w2 ⟨x2, h1, h2, ⟨h3, rfl⟩ | ⟨h3, y, c, hl, rfl, ho, hn⟩⟩
  · have HTO := qh h1
    have H2 := qh h2
    have HG := qh (show S.free = (0, 4) from by unfold BkA.free; rw [if_pos h3])
    clear h1 h2 h3 HH
    go_wp2
    exact HPO.out _ _ _ x2 HG.out HTO.out H2.out
  · have HTO := qh h1
    have H2 := qh h2
    obtain ⟨N, hNN⟩ : ∃ N : Nat, S.pages = N := ⟨S.pages.toNat, by have := HPG.out; omega⟩
    have HNN := qh hNN
    have HG := qh (show S.free = (((freeN S.now N : Nat) : Int), 0) from by
      unfold BkA.free BkA.N; rw [if_neg (by rw [h3]; decide), hNN, Int.toNat_natCast])
    have hN : 10 ≤ N ∧ N ≤ 32766 := by have := HPG.out; omega
    clear h1 h2 h3 HH hl ho hn hNN
    go_wp2_with fail
    go_loopw [7, 6] (fun i n wr => ∃ (m : Nat) (xr : BAdr), i = .int .i64 m ∧ n = .int .i64 ((freeN S.now (min (m * 4096) N) : Nat) : Int) ∧ m * 4096 < N + 4096 ∧ BTo w x wr xr ∧ BkW wr xr S g) (fun i _ _ => 100 - (intOf i).toNat)
    case atStart => exact ⟨0, x2, rfl, by simp [freeN], by omega, HTO.out, H2.out⟩
    case round =>
      clear HTO H2
      obtain ⟨m, xr, rfl, rfl, hm, hto, hbw⟩ := hrel
      have HTO := qh hto
      have HW := qh hbw
      have HBK := qh (show xr.bk = x.bk from hto.fix.bk)
      clear hto hbw
      have HPN := qh (show Calls Tryz.prog 29 #[.pointer (some ⟨x.bk, 0, none⟩)] wr fun e w' => e = .returned (.int .i64 (N : Int)) ∧ wr = w' from by
        have := apages_any HW.out
        unfold ptrV at this
        rw [HBK.out, HNN.out] at this
        exact this)
      obtain ⟨F0, hF0⟩ : ∃ F0 : Nat, F0 = freeN S.now (min (m * 4096) N) := ⟨_, rfl⟩
      rw [← hF0]
      have HF0 := qh hF0
      clear hF0
      go_wp2_with fail
      refine HPN.out.mono ?_
      rintro e wx ⟨rfl, rfl⟩
      by_cases hlt : m * 4096 < N
      · have i1 : (m : Int) * 4096 < (N : Int) := by omega
        have HPP := qh (show Calls Tryz.prog 23 #[.pointer (some ⟨x.bk, 0, none⟩), .int .i64 (1 + (m : Int))] wr (APagePost wr xr S g (1 + (m : Int))) from by
          have := apage_any HW.out (1 + (m : Int))
          unfold ptrV at this
          rw [HBK.out] at this
          exact this)
        have HFM := qh (show F0 = freeN S.now (m * 4096) from by rw [HF0.out, Nat.min_eq_left (by omega)])
        go_wp2_with fail
        refine HPP.out.mono ?_
        rintro e w5 ⟨x5, h1, h2, ⟨h3, rfl⟩ | ⟨h3, y5, c5, hl5, rfl, ho5, hn5⟩⟩
        · have := HNN.out; omega
        · have HTO5 := qh (HTO.out.trans h1)
          have H5 := qh h2
          have HBK5 := qh (show x5.bk = x.bk from h1.fix.bk.trans HBK.out)
          obtain ⟨l, hll⟩ : ∃ l, l = S.now (1 + (m : Int)) := ⟨_, rfl⟩
          rw [← hll] at ho5 hl5
          have HO5 := qh ho5
          have HL5 := qh hl5
          have HLL := qh (show l = S.now (mapP (m * 4096)) from by rw [hll]; unfold mapP; congr 1; omega)
          have HPN5 := qh (show Calls Tryz.prog 29 #[.pointer (some ⟨x.bk, 0, none⟩)] w5 fun e w' => e = .returned (.int .i64 (N : Int)) ∧ w5 = w' from by
            have := apages_any H5.out
            unfold ptrV at this
            rw [HBK5.out, HNN.out] at this
            exact this)
          clear h1 h2 h3 ho5 hl5 hn5 hll HTO HW HPP HPN i1
          go_wp2_with fail
          go_loopw [10, 6] (fun i n wr => ∃ (k F : Nat), i = .int .i64 k ∧ n = .int .i64 (F : Int) ∧ wr = w5 ∧ k ≤ 4096 ∧ m * 4096 + k ≤ N ∧ F = freeN S.now (m * 4096 + k) ∧ F ≤ 100000) (fun i _ _ => 5000 - (intOf i).toNat)
          case atStart => exact ⟨0, F0, rfl, rfl, rfl, by omega, by omega, HFM.out, by rw [HFM.out]; have := freeN_le S.now (m * 4096); omega⟩
          case round =>
            obtain ⟨k, F, rfl, rfl, rfl, hk, hkN, hF, hFl⟩ := hrel
            have HF := qh hF
            clear hF
            by_cases hk4 : k < 4096
            · have j1 : (k : Int) < 4096 := by omega
              go_wp2_with fail
              refine HPN5.out.mono ?_
              rintro e wx ⟨rfl, rfl⟩
              by_cases hq : m * 4096 + k < N
              · have j2 : (m : Int) * 4096 + k < N := by omega
                have hk8 : k / 8 < 512 := by omega
                have j3 : (k : Int) / 8 < 512 := by omega
                have c0 := HO5.out.cellAt (i := k / 8) (by rw [HL5.out]; exact hk8)
                have hb := bit_shr (bAt l (k / 8)) (j := k % 8) (by omega)
                have ht : takB S.now (m * 4096 + k) = bitB (bAt l (k / 8)) (k % 8) := by
                  unfold takB bitP
                  rw [show mapP (m * 4096 + k) = mapP (m * 4096) from by unfold mapP; omega, ← HLL.out, show (m * 4096 + k) % 4096 = k by omega]
                obtain ⟨bb, hbb⟩ : ∃ bb, bb = bitB (bAt l (k / 8)) (k % 8) := ⟨_, rfl⟩
                rw [← hbb] at ht hb
                have HTQ := qh ht
                have HF1 := qh (show freeN S.now (m * 4096 + (k + 1)) = F + if bb = true then 0 else 1 from by
                  rw [show m * 4096 + (k + 1) = m * 4096 + k + 1 by omega, freeN_succ, HF.out, ht])
                clear ht hbb
                cases bb with
                | true =>
                  rw [if_pos rfl] at hb
                  rw [if_pos rfl] at HF1
                  go_wp2
                  go_roundw
                  case rel => exact ⟨k + 1, F, by go_num, by go_num, by first | rfl | trivial, by omega, by omega, HF1.out.symm, hFl⟩
                  case measure => simp [intOf]; omega
                | false =>
                  rw [if_neg (by decide)] at hb
                  rw [if_neg (by decide)] at HF1
                  have j4 : (F : Int) + 1 ≤ 100001 := by omega
                  go_wp2
                  go_roundw
                  case rel => exact ⟨k + 1, F + 1, by go_num, by go_num, by first | rfl | trivial, by omega, by omega, HF1.out.symm, by rw [← HF1.out]; have := freeN_le S.now (m * 4096 + (k + 1)); omega⟩
                  case measure => simp [intOf]; omega
              · have j2 : ¬ (m : Int) * 4096 + k < N := by omega
                go_wp2
                go_roundw
                case rel => exact ⟨m + 1, x5, by go_num, by rw [HF.out, Nat.min_eq_right (by omega), show m * 4096 + k = N by omega], by omega, HTO5.out, H5.out⟩
                case measure => simp [intOf]; omega
            · have j1 : ¬ (k : Int) < 4096 := by omega
              go_wp2
              go_roundw
              case rel => exact ⟨m + 1, x5, by go_num, by rw [HF.out, show k = 4096 by omega, show (m + 1) * 4096 = m * 4096 + 4096 by omega, Nat.min_eq_left (by omega)], by omega, HTO5.out, H5.out⟩
              case measure => simp [intOf]; omega
      · have i1 : ¬ (m : Int) * 4096 < (N : Int) := by omega
        have HG2 := qh (show S.free = ((F0 : Int), 0) from by rw [HG.out, HF0.out, Nat.min_eq_right (by omega)])
        go_wp2
        exact HPO.out _ _ _ xr HG2.out HTO.out HW.out
end
end Go.Proofs.YtfgagakepmigbaaGreat
namespace Go.Proofs.YtfgagakepmigbaaGreat
open Go.RowKit
section
variable {w w' w1 w2 : World} {x x1 : BAdr} {S : BkA} {g : Nat}
end
end Go.Proofs.YtfgagakepmigbaaGreat
namespace Go.Proofs.YtfgagakepmigbaaGreat
open Go.RowKit
section
variable {w w' w1 w2 : World} {x x1 : BAdr} {S : BkA} {g : Nat}
end
end Go.Proofs.YtfgagakepmigbaaGreat
