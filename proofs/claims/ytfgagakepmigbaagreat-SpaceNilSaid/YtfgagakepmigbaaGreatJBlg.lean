/-
  No statement is proved here.
-/
import Derived.Test.YtfgagakepmigbaaGreatJBld
import Derived.Test.YtfgagakepmigbaaGreatJBkx
namespace Go.Proofs.YtfgagakepmigbaaGreat
open Go.RowKit
section
variable {w w' : World} {x : BAdr} {P P' P0 : PoolM} {L L' L0 : LogM} {D D' D0 : DevM} {R R' T : List RecM} {b b0 : BkM} {cur was : Int → Bytes} {N : Int}
theorem recs_len (p : Int) (a d : Bytes) : (recsM p a d).length = (diffM a d).length := by unfold recsM; rw [List.length_map]
theorem PutS.num {page : Int} {a d : Bytes} {nT k : Nat} (h : PutS P0 L0 D0 b0 page a d was nT k b P L D R T) (hr : b.owed ≤ L.room) : NumB b := by
  have h1 := h.tx
  have h2 := h.c.room
  have h3 := h.ow
  have h4 := owesM_nn T
  have h5 := h1.len
  obtain ⟨B, hL⟩ := h.c.li
  have h6 := hL.fm
  exact ⟨isI_fin h1.tx0 h1.tx1 h6, isI_fin h1.l0 h1.l1 h6, by omega, by omega, by omega⟩
theorem put_well {g : Nat} {S : BkA} (h : BookI g S b P L D) (hg : g ≤ 1000000000) (page : Int) (d : Bytes) :
    (∃ b' P' L' D', putM b P L D page d = (b', P', L', D', (S.put page d).2) ∧ BookI (g + 1) (S.put page d).1 b' P' L' D') ∧
    ((frameM P L D page).2.2.2.2 = 0 → LogOk (frameM P L D page).2.1 ∧ -1000000000 ≤ (frameM P L D page).2.1.room ∧ (frameM P L D page).2.1.room ≤ 1000000000) ∧
    (b.inT = true → d.length = 512 → (frameM P L D page).2.2.2.2 = 0 → ¬ (frameM P L D page).2.1.room < costM (recsM page (frameB (frameM P L D page)) d) + (b.owed + owesM (recsM page (frameB (frameM P L D page)) d)) → ∃ J, PutJ (recsM page (frameB (frameM P L D page)) d) J ∧ J 0 b (frameM P L D page).1 (frameM P L D page).2.1 (frameM P L D page).2.2.1) := by
  have hp := h.pages
  by_cases hpg : page < 0 ∨ S.pages ≤ page
  · have hf : frameM P L D page = (P, L, D, 0, 6) := by unfold frameM; rw [if_pos (by rw [hp]; exact hpg)]
    refine ⟨?_, fun hc => by rw [hf] at hc; exact absurd (show (6 : Int) = 0 from hc) (by decide), fun _ _ hc => by rw [hf] at hc; exact absurd (show (6 : Int) = 0 from hc) (by decide)⟩
    unfold putM BkA.put
    rw [h.bt]
    by_cases c : S.inT = false
    · rw [if_pos c, if_pos c]; exact ⟨b, P, L, D, rfl, h.up (by omega)⟩
    · rw [if_neg c, if_neg c, if_pos (by rw [hp]; exact hpg), if_pos hpg]; exact ⟨b, P, L, D, rfl, h.up (by omega)⟩
  · have p0 : 0 ≤ page := by omega
    have p1 : page < S.pages := by omega
    obtain ⟨P1, L1, D1, i, f, hf, h1, h2, h3⟩ := h.frame p0 p1
    have hfb : frameB (P1, L1, D1, i, (0 : Int)) = S.now page := by unfold frameB; dsimp only; rw [h1]; exact h2
    obtain ⟨R, hc, ht⟩ := h3.rest
    have hro := hc.room
    have hnum := h.num
    have hfin := h3.fin
    rw [hf, hfb]
    dsimp only
    have hla := h.len p0 p1
    obtain ⟨q1, q2⟩ := cst_page page (S.now page) d
    have hpg3 := h3.pages
    have hgo : S.inT = true → d.length = 512 → ¬ S.room < cstD (S.now page) d + (S.owed + owsD (S.now page) d) → ∃ J : Nat → BkM → PoolM → LogM → DevM → Prop, PutJ (recsM page (S.now page) d) J ∧ J 0 b P1 L1 D1 ∧ ∃ b' P' L' D', putAll (recsM page (S.now page) d) b P1 L1 D1 = (b', P', L', D', 0) ∧
        BookI (g + 1) ({ S with now := updP S.now page d, room := S.room - cstD (S.now page) d, owed := S.owed + owsD (S.now page) d, chg := S.chg + (diffM (S.now page) d).length }) b' P' L' D' := by
      intro hT hd hrm
      obtain ⟨T, t1, t2, t3, t4, t5⟩ := ht hT
      have hTn := owesM_nn T
      have hr1 : L1.room = S.room := h3.room
      have hcost : costM (recsM page (S.now page) d) + (b.owed + owesM (recsM page (S.now page) d)) ≤ L1.room := by rw [q1, q2, t2, hr1]; omega
      have hfin2 : L1.fin ≤ 2000000000000000000 := by omega
      have hstep := fun (k : Nat) (b' : BkM) (P' : PoolM) (L' : LogM) (D' : DevM) (r : RecM) (R' T' : List RecM) (hS : PutS P1 L1 D1 b page (S.now page) d S.was S.chg k b' P' L' D' R' T') (hr : (recsM page (S.now page) d)[k]? = some r) =>
        put_step (b0 := b) p0 (by rw [hpg3]; exact p1) hla hd hfin2 ⟨hro.2.2.1, hro.2.2.2.2⟩ hcost hnum.o0 hS hr
      have h0 : PutS P1 L1 D1 b page (S.now page) d S.was S.chg 0 b P1 L1 D1 R T := by
        refine ⟨hc, .refl _ _ _, rfl, t1, by rw [h.bt]; exact hT, rfl, fun p z0 z1 => ?_, by simp [costM], by simp [owesM], by simpa using t5, by rw [t2, t3]⟩
        rw [List.take_zero, mix_nil d hla]
        by_cases c : p = page
        · rw [if_pos c, c]; exact h3.cur page p0 p1
        · rw [if_neg c]
      have hroomk : ∀ (k : Nat) (b' : BkM) (P' : PoolM) (L' : LogM) (D' : DevM) (R' T' : List RecM), PutS P1 L1 D1 b page (S.now page) d S.was S.chg k b' P' L' D' R' T' → b'.owed ≤ L'.room := by
        intro k b' P' L' D' R' T' hS
        have app : ∀ x y : List RecM, costM (x ++ y) = costM x + costM y ∧ owesM (x ++ y) = owesM x + owesM y := by
          intro x y
          induction x with
          | nil => simp [costM, owesM]
          | cons z x ih => simp only [List.cons_append, costM, owesM, ih.1, ih.2]; omega
        have hnn : ∀ l : List RecM, 0 ≤ costM l ∧ 0 ≤ owesM l := by
          intro l
          induction l with
          | nil => simp [costM, owesM]
          | cons z l ih => simp only [costM, owesM]; omega
        have e := app ((recsM page (S.now page) d).take k) ((recsM page (S.now page) d).drop k)
        rw [List.take_append_drop] at e
        have e1 := hnn ((recsM page (S.now page) d).drop k)
        have e2 := hS.room
        have e3 := hS.owed
        omega
      obtain ⟨J, hJ⟩ : ∃ J : Nat → BkM → PoolM → LogM → DevM → Prop, J = fun k b' P' L' D' => ∃ R' T', PutS P1 L1 D1 b page (S.now page) d S.was S.chg k b' P' L' D' R' T' := ⟨_, rfl⟩
      refine ⟨J, ⟨fun k b' P' L' D' r hS hr => ?_, fun k b' P' L' D' r hS hr _ => ?_⟩, by rw [hJ]; exact ⟨R, T, h0⟩, ?_⟩
      · rw [hJ] at hS
        obtain ⟨R', T', hS⟩ := hS
        have hn := hS.num (hroomk k b' P' L' D' R' T' hS)
        exact ⟨hS.c.bkg, ⟨hn.tx, hn.last⟩, hn.dl, ⟨hn.o0, hn.o1⟩, (hstep k b' P' L' D' r R' T' hS hr).2.2⟩
      · rw [hJ] at hS ⊢
        obtain ⟨R', T', hS⟩ := hS
        exact (hstep k b' P' L' D' r R' T' hS hr).2.1
      · obtain ⟨b', P', L', D', e1, R', T', e2⟩ := putAll_end (rs := recsM page (S.now page) d) (J := fun k b' P' L' D' => ∃ R' T', PutS P1 L1 D1 b page (S.now page) d S.was S.chg k b' P' L' D' R' T') (fun k b' P' L' D' r hS hr => by
          obtain ⟨R', T', hS⟩ := hS
          have hst := hstep k b' P' L' D' r R' T' hS hr
          exact ⟨hst.1, hst.2.1⟩) (recsM page (S.now page) d).length 0 b P1 L1 D1 (by omega) ⟨R, T, h0⟩
        rw [List.drop_zero] at e1
        refine ⟨b', P', L', D', e1, ?_⟩
        have hrm2 := hroomk _ _ _ _ _ _ _ e2
        have hro2 := e2.room
        have how2 := e2.owed
        rw [List.take_length, q1] at hro2
        rw [List.take_length, q2] at how2
        have hk := e2.kp
        have hbl := e2.bl
        have hR2 := e2.c.room
        have hko := hk.o
        have hkn := hk.n
        refine ⟨hk.n.trans h3.n, e2.inT.trans hT.symm, e2.cnt.trans h.cnt, e2.num hrm2, fun p z0 z1 => ?_, by rw [hro2, hr1], ?_, ?_, R', e2.c, fun _ => ⟨T', ?_, ?_, ?_, ?_, ?_⟩⟩
        · rw [e2.cur p z0 (by rw [hpg3]; exact z1), recs_len, List.take_length, mix_all hd (diffM_good _ _)]
          show (if p = page then d else P1.cur D1 p) = if p = page then d else S.now p
          by_cases c : p = page
          · rw [if_pos c, if_pos c]
          · rw [if_neg c, if_neg c]; exact h3.cur p z0 z1
        · omega
        · obtain ⟨m, m1, m2, m3⟩ := h3.mas
          exact ⟨m, by rw [readMas_congr (e2.c.calm.d.trans hc.calm.d.symm) hk.b0 hk.b1]; exact m1, m2, by omega⟩
        · rw [hbl]; exact e2.tx
        · rw [how2, t2]
        · show S.owed + owsD (S.now page) d = _
          rw [← e2.ow, how2, t2]
        · show S.owed + owsD (S.now page) d ≤ S.room - cstD (S.now page) d
          omega
        · rw [e2.nT, recs_len]
    have hTb : b.inT = S.inT := h.bt
    refine ⟨?_, fun _ => ⟨hc.g.ok, by omega, by omega⟩, fun hT hd _ hrm => ?_⟩
    · unfold putM BkA.put
      rw [hTb]
      by_cases c : S.inT = false
      · rw [if_pos c, if_pos c]; exact ⟨b, P, L, D, rfl, h.up (by omega)⟩
      · rw [if_neg c, if_neg c, if_neg (by rw [hp]; exact hpg), if_neg hpg]
        have hT : S.inT = true := by simpa using c
        by_cases c2 : d.length ≠ 512
        · rw [if_pos c2, if_pos c2]; exact ⟨b, P, L, D, rfl, h.up (by omega)⟩
        · rw [if_neg c2, if_neg c2, hf]
          dsimp only
          rw [if_neg (fun hz => hz rfl), hfb, q1, q2, h3.room]
          obtain ⟨T, t1, t2, -⟩ := ht hT
          rw [t2]
          by_cases c3 : S.room < cstD (S.now page) d + (S.owed + owsD (S.now page) d)
          · rw [if_pos c3, if_pos c3]
            exact ⟨b, P1, L1, D1, rfl, h3.up (by omega)⟩
          · rw [if_neg c3, if_neg c3]
            obtain ⟨J, _, _, b', P', L', D', e1, e2⟩ := hgo hT (by omega) c3
            exact ⟨b', P', L', D', e1, e2⟩
    · have hT' : S.inT = true := by rw [← hTb]; exact hT
      obtain ⟨T, t1, t2, -⟩ := ht hT'
      rw [q1, q2, t2, h3.room] at hrm
      obtain ⟨J, j1, j2, -⟩ := hgo hT' hd hrm
      exact ⟨J, j1, j2⟩
def BkW (w : World) (x : BAdr) (S : BkA) (g : Nat) : Prop := ∃ b P L D, BookS w x b P L D ∧ BookI g S b P L D
theorem BkW.keep0 {S : BkA} {g : Nat} (h : BkW w x S g) (hk : Kept (fun _ => False) w w') : BkW w' x S g := by
  obtain ⟨b, P, L, D, h1, h2⟩ := h
  exact ⟨b, P, L, D, h1.keep0 hk, h2⟩
theorem BkW.keep {S : BkA} {g : Nat} {K : Nat → Prop} (h : BkW w x S g) (hk : Kept K w w') (hn : ∀ z, x.K z → ¬ K z) : BkW w' x S g := by
  obtain ⟨b, P, L, D, h1, h2⟩ := h
  exact ⟨b, P, L, D, h1.keep hk hn, h2⟩
theorem BkW.up {S : BkA} {g g' : Nat} (h : BkW w x S g) (hg : g ≤ g') : BkW w x S g' := by
  obtain ⟨b, P, L, D, h1, h2⟩ := h
  exact ⟨b, P, L, D, h1, h2.up hg⟩
theorem BookI.bkg {g : Nat} {S : BkA} (h : BookI g S b P L D) : BkG P L D := by obtain ⟨R, hc, -⟩ := h.rest; exact hc.bkg
def APost (w : World) (x : BAdr) (V : BkA × Int) (g : Nat) (e : Ending) (w' : World) : Prop := e = .returned (.int .i64 V.2) ∧ ∃ x', BTo w x w' x' ∧ BkW w' x' V.1 g
theorem aput_any {S : BkA} {g : Nat} (h : BkW w x S g) (hg : g ≤ 1000000000) (page : Int) (A : Option Addr) (c : Nat) (data : Bytes) (hrd : RdB w A data) (hmK : ∀ b o, A = some ⟨b, o, none⟩ → b < w.heap.size → ¬ x.K b) (hc : data.length ≤ c) (hc2 : c ≤ 9223372036854775807) (hdl : data.length ≤ 1000000) (hpg : isI page) :
    Calls Tryz.prog 25 #[ptrV x.bk, .int .i64 page, .slice A data.length c] w (APost w x (S.put page data) (g + 1)) := by
  obtain ⟨b, P, L, D, h1, h2⟩ := h
  obtain ⟨⟨b', P', L', D', v1, v2⟩, v3, v4⟩ := put_well h2 hg page data
  have hn := h2.num
  refine (bput_any h1 h2.bkg page A c data hrd hmK hc hc2 hdl hpg ⟨hn.o0, hn.o1⟩ v3 v4).mono ?_
  rintro e w' ⟨e1, x', e2, e3⟩
  rw [v1] at e1 e3
  exact ⟨e1, x', e2, b', P', L', D', e3, v2⟩
def APagePost (w : World) (x : BAdr) (S : BkA) (g : Nat) (page : Int) (e : Ending) (w' : World) : Prop := ∃ x', BTo w x w' x' ∧ BkW w' x' S g ∧
  ((page < 0 ∨ S.pages ≤ page) ∧ e = .returned (.tuple #[.slice none 0 0, .int .i64 6]) ∨
    (0 ≤ page ∧ page < S.pages) ∧ ∃ y c, (S.now page).length = 512 ∧ e = .returned (.tuple #[.slice (some ⟨y, 0, none⟩) 512 c, .int .i64 0]) ∧ OwnB w' w.heap.size y c (S.now page) ∧ ¬ x'.K y)
theorem apage_any {S : BkA} {g : Nat} (h : BkW w x S g) (page : Int) : Calls Tryz.prog 23 #[ptrV x.bk, .int .i64 page] w (APagePost w x S g page) := by
  obtain ⟨b, P, L, D, h1, h2⟩ := h
  refine (bpage_any h1 h2.bkg page).mono ?_
  rintro e w' ⟨e1, e2⟩
  have hp := h2.pages
  by_cases hpg : page < 0 ∨ S.pages ≤ page
  · have hf : frameM P L D page = (P, L, D, 0, 6) := by unfold frameM; rw [if_pos (by rw [hp]; exact hpg)]
    rw [hf] at e1
    obtain ⟨r1, x', r2, r3⟩ := e1 (show (6 : Int) ≠ 0 by decide)
    exact ⟨x', r2, ⟨b, P, L, D, r3, h2⟩, .inl ⟨hpg, r1⟩⟩
  · have p0 : 0 ≤ page := by omega
    have p1 : page < S.pages := by omega
    obtain ⟨P1, L1, D1, i, f, hf, q1, q2, q3⟩ := h2.frame p0 p1
    rw [hf] at e2
    obtain ⟨x', f', y, c, r1, r2, r3, r4, r5, r6, r7⟩ := e2 rfl
    dsimp only at r3
    rw [q1] at r3
    have ef : f' = f := (Option.some.inj r3).symm
    rw [ef, q2] at r6
    exact ⟨x', r1, ⟨b, P1, L1, D1, r2, q3⟩, .inr ⟨⟨p0, p1⟩, y, c, h2.len p0 p1, r5, r6, r7⟩⟩
theorem apages_any {S : BkA} {g : Nat} (h : BkW w x S g) : Calls Tryz.prog 29 #[ptrV x.bk] w fun e w' => e = .returned (.int .i64 S.pages) ∧ w = w' := by
  obtain ⟨b, P, L, D, h1, h2⟩ := h
  rw [← h2.pages]
  exact bpages_any h1
theorem ain_any {S : BkA} {g : Nat} (h : BkW w x S g) : Calls Tryz.prog 65 #[ptrV x.bk] w fun e w' => e = .returned (.bool S.inT) ∧ w = w' := by
  obtain ⟨b, P, L, D, h1, h2⟩ := h
  rw [← h2.bt]
  exact bin_any h1
end
end Go.Proofs.YtfgagakepmigbaaGreat
namespace Go.Proofs.YtfgagakepmigbaaGreat
open Go.RowKit
section
variable {w w' : World} {x : BAdr} {P P' P0 : PoolM} {L L' L0 : LogM} {D D' D0 : DevM} {R R' T : List RecM} {b b0 : BkM} {cur was : Int → Bytes} {N : Int}
theorem point_well {g : Nat} {S : BkA} (h : BookI g S b P L D) (hg : g ≤ 1000000000) (hT : S.inT = false) :
    PointG b P L D ∧ ∃ P' L' D', pointM b P L D = (b, P', L', D', 0) ∧ BookI (g + 1) { S with room := S.n / 2 * 408 - 408 } b P' L' D' ∧ L'.fin = L.fin := by
  obtain ⟨R, hc, -⟩ := h.rest
  obtain ⟨D1, f1, f2, f3, f4⟩ := core_force hc
  obtain ⟨m1, m2, m3, m4, m5, m6, m7⟩ := madeSafe_fld L
  obtain ⟨P2, L2, D2, e1, e2, e3, e4, e5, -, -, -⟩ := core_flush f2
  obtain ⟨m, q1, q2, q3⟩ := h.mas
  have hfin := h.fin
  have hl2 : L2.fin = L.fin := e4.fin.trans m5
  have hsafe : L2.safe = L2.fin := by
    have s1 := e4.safe
    obtain ⟨B, hL⟩ := e2.li
    have s2 := hL.sf
    omega
  have hmas : readMas D2 = (m, 0) := by
    rw [readMas_congr (e2.calm.d.trans hc.calm.d.symm) (e3.b0.trans f3.b0) (e3.b1.trans f3.b1)]; exact q1
  have hro := hc.room
  obtain ⟨y1, y2, y3, y4, y5, y6⟩ := q2
  have hmay : MasM.may ⟨m.seq + 1, m.turn, L2.fin⟩ := by
    refine ⟨by show 1 ≤ m.seq + 1; omega, by show m.seq + 1 ≤ _; omega, y3, y4, by show 1 ≤ L2.fin; omega, by show L2.fin ≤ _; omega⟩
  obtain ⟨D3, w1, w2, w3, w4, w5, w6, w7, w8⟩ := writeMas_calm e2.calm e2.n24 hmay (fun m' hm' => by rw [readMas_best hmas] at hm'; rw [← hm']; show m.seq < m.seq + 1; omega)
  obtain ⟨c1, c2⟩ := core_dev e2 w2 w3 w5 (w8 e2.len) w6
  obtain ⟨L4, t1, t2, t3, t4, t5, t6⟩ := core_trim c1 hsafe
  have hn : D3.n = D.n := w3.trans (e3.n.trans f3.n)
  have hpd : pointD L2 D2 = (D3, 0) := by
    unfold pointD
    rw [hmas, if_neg (fun c => c rfl), if_neg (by show ¬ _ < m.seq + 1; omega)]
    exact w1
  refine ⟨⟨hc.g, hc.pi.n, by rw [f1]; dsimp only; rw [e1]; exact e2.g, by rw [f1]; dsimp only; rw [e1]; show 2 ≤ D2.n; have := e2.n24; omega⟩, P2, L4, D3, ?_, ?_, t3.trans hl2⟩
  · unfold pointM
    rw [h.bt, hT, if_neg (by decide), f1]
    dsimp only
    rw [if_neg (fun c => c rfl), e1]
    dsimp only
    rw [if_neg (fun c => c rfl), hpd]
    dsimp only
    rw [if_neg (fun c => c rfl), t1]
  · have hp := h.pages
    have hpb := e4.pb
    refine ⟨hn.trans h.n, h.bt, h.cnt, h.num, fun p z0 z1 => ?_, by rw [t4, hn, h.n], by rw [t3, hl2]; omega, ⟨_, w4, hmay, by show m.seq + 1 ≤ _; omega⟩, [], t2, fun hc2 => ?_⟩
    · rw [c2 p z0, e5 p z0 (by rw [hp]; exact z1), f4 p z0 (by rw [hp]; exact z1)]
      exact h.cur p z0 z1
    · rw [show ({ S with room := S.n / 2 * 408 - 408 } : BkA).inT = S.inT from rfl, hT] at hc2; cases hc2
theorem begin_well {g : Nat} {S : BkA} (h : BookI g S b P L D) (hg : g ≤ 1000000000) :
    (∃ b' P' L' D', beginM b P L D = (b', P', L', D', S.begin.2) ∧ BookI (g + 1) S.begin.1 b' P' L' D') ∧ (b.inT = false → L.room < b.count * 204 → PointG b P L D) := by
  refine ⟨?_, fun hT _ => (point_well h hg (by rw [← h.bt]; exact hT)).1⟩
  unfold beginM BkA.begin
  rw [h.bt]
  by_cases hT : S.inT = true
  · rw [if_pos hT, if_pos hT]; exact ⟨b, P, L, D, rfl, h.up (by omega)⟩
  · rw [if_neg hT, if_neg hT]
    have hT0 : S.inT = false := by simpa using hT
    obtain ⟨P', L', D', e1, e2⟩ : ∃ P' L' D', readyM b P L D = (b, P', L', D', 0) ∧ BookI (g + 1) { S with room := if S.room < S.n / 2 * 204 then S.n / 2 * 408 - 408 else S.room } b P' L' D' := by
      unfold readyM
      rw [h.room, h.cnt]
      by_cases c : S.room < S.n / 2 * 204
      · rw [if_pos c, if_pos c]
        obtain ⟨-, P', L', D', e1, e2, -⟩ := point_well h hg hT0
        exact ⟨P', L', D', e1, e2⟩
      · rw [if_neg c, if_neg c]
        exact ⟨P, L, D, rfl, h.up (by omega)⟩
    rw [e1]
    dsimp only
    rw [if_neg (fun c => c rfl)]
    obtain ⟨R, hc, -⟩ := e2.rest
    have hro := hc.room
    have hn := h.num
    have hrm := e2.room
    have hpg := e2.pages
    obtain ⟨B, hL⟩ := hc.li
    have hfm := hL.fm
    have hnS : L'.room = if S.room < S.n / 2 * 204 then S.n / 2 * 408 - 408 else S.room := hrm
    have hrS : 35 ≤ (if S.room < S.n / 2 * 204 then S.n / 2 * 408 - 408 else S.room) := by
      have h24 := hc.n24
      have : D'.n = S.n := e2.n
      rw [this] at h24
      split <;> omega
    refine ⟨_, P', L', D', rfl, e2.n, rfl, e2.cnt, ⟨isI_fin (n := L'.fin) (f := L'.fin) (by omega) (Int.le_refl _) hfm, by show isI 0; unfold isI; decide, by show (0 : Int) ≤ 35; decide, by show (35 : Int) ≤ _; decide, by show ([] : List Int).length ≤ _; simp⟩, e2.cur, e2.room, e2.fin, e2.mas, R, hc, fun _ => ⟨[], ⟨by show 0 ≤ L'.fin; omega, by show L'.fin ≤ L'.fin; omega, by show (0 : Int) ≤ 0; omega, by show 0 ≤ L'.fin; omega, rfl, (fun r hr => by cases hr), (fun r hr => by cases hr), fun p z0 z1 => ?_⟩, rfl, rfl, hrS, rfl⟩⟩
    show P'.cur D' p = S.now p
    exact e2.cur p z0 (by rw [hpg] at z1; exact z1)
theorem abegin_any {S : BkA} {g : Nat} (h : BkW w x S g) (hg : g ≤ 1000000000) : Calls Tryz.prog 18 #[ptrV x.bk] w (APost w x S.begin (g + 1)) := by
  obtain ⟨b, P, L, D, h1, h2⟩ := h
  obtain ⟨⟨b', P', L', D', v1, v2⟩, v3⟩ := begin_well h2 hg
  obtain ⟨R, hc, -⟩ := h2.rest
  have hro := hc.room
  have hcn := h2.cnt
  have hn := h2.n
  have h24 := hc.n24
  have h64 := hc.n64
  refine (bbegin_any h1 hc.g.ok (by rw [hcn]; omega) (by omega) v3).mono ?_
  rintro e w' ⟨e1, x', e2, e3⟩
  rw [v1] at e1 e3
  exact ⟨e1, x', e2, b', P', L', D', e3, v2⟩
theorem apoint_any {S : BkA} {g : Nat} (h : BkW w x S g) (hg : g ≤ 1000000000) (hT : S.inT = false) : Calls Tryz.prog 42 #[ptrV x.bk] w (APost w x ({ S with room := S.n / 2 * 408 - 408 }, 0) (g + 1)) := by
  obtain ⟨b, P, L, D, h1, h2⟩ := h
  obtain ⟨v0, P', L', D', v1, v2, -⟩ := point_well h2 hg hT
  refine (v0.any h1).mono ?_
  rintro e w' ⟨e1, x', e2, e3⟩
  rw [v1] at e1 e3
  exact ⟨e1, x', e2, b, P', L', D', e3, v2⟩
end
end Go.Proofs.YtfgagakepmigbaaGreat
namespace Go.Proofs.YtfgagakepmigbaaGreat
open Go.RowKit
def newL (F C T : Int) : LogM := ⟨F, C, T, 1, 1, 1, [], [], 1⟩
theorem fresh_open {D : DevM} (hc : Calm D) {F C T : Int} (hb : ¬ badM D.n F C 1 T) (hf : F ≤ 65536) (hC : C ≤ 65536) (hz : ∀ k, F ≤ k → k < F + C → D.latest k = zeros 512) (ho : ∀ k, F ≤ k → k < F + C → D.opn k = none) (hl : ∀ k, (D.latest k).length = 512) (hs : ∀ k, (D.safeG k).length = 512) :
    openM D F C 1 T = (some (newL F C T), D, 0) ∧ (chainM D F C T (C * 408 - 408).toNat ((C * 408 - 408).toNat + 1) 1 0 []).1.length ≤ 1000000 ∧ LogI D (newL F C T) [] (fun _ => 0) := by
  unfold badM at hb
  have hC4 : 4 ≤ C := by omega
  have hsx : ∀ n, sx D.latest F C n = zeros 64 := fun n => by
    have := mod_in n (C := C) (by omega)
    unfold sx
    rw [hz _ (by omega) (by omega), zeros_cut (by omega)]
  have hup : ∀ a, D.mayE (secB F C a) = 0 := fun a => by
    have := mod_in ((a - 1) / 51) (C := C) (by omega)
    exact DevM.mayE_ok hc.d (by unfold secB; omega) (by unfold secB; omega)
  have hA : AreaS D.latest F C T := ⟨fun n => by rw [hsx]; exact lenL_zeros 64, fun n => by rw [hsx, zeros_fld]; exact .inl (Int.le_refl 0), fun n => by rw [hsx, zeros_trn]; omega⟩
  have hR : RestS D.latest F C T 1 1 (fun _ => 0) := by
    refine ⟨hA, ⟨fun n a b => by omega, fun n a b => by omega, fun n a b c => absurd (by decide) c, fun a => absurd a (by decide), ?_⟩, ?_, fun n a b => ?_⟩
    · left; rw [hsx, zeros_fld]; decide
    · left; rw [hsx, zeros_fld]; decide
    · rw [hsx, zeros_fld] at b; omega
  have hp1 : secP D F C 1 = zeros 64 := by rw [secP_sx, hsx]
  have hch : chainM D F C T (C * 408 - 408).toNat ((C * 408 - 408).toNat + 1) 1 0 [] = ([], 0) := by
    rw [chain_stop (hup 1) (by rw [hp1, chStop_iff, zeros_fld]; exact .inl (by decide))]
    simp
  refine ⟨?_, by rw [hch]; decide, ?_⟩
  · unfold openM
    rw [if_neg (by omega), if_neg (by omega)]
    dsimp only
    rw [hch]
    dsimp only
    rw [if_neg (by decide)]
    have hsc : scanM T [] (([] : Bytes).length + 1) 0 1 0 [] = ([], 1, 0) := by
      unfold scanM
      rw [show getL (([] : Bytes).drop 0) = none from by decide +kernel]
    rw [hsc]
    dsimp only
    have hbg : (LogM.begin ⟨F, C, T, 1, 1, 1, [], [], 0⟩ D) = (newL F C T, 0) := by
      unfold LogM.begin
      dsimp only
      rw [show ((1 : Int) - secF 1).toNat = 0 from by decide, stretch_out (by simp)]
      rfl
    rw [hbg]
    dsimp only
    rw [if_neg (by decide)]
    have hst : (newL F C T).stale D = (false, 0) := by
      unfold LogM.stale newL
      dsimp only
      rw [if_neg (by decide), if_neg (by rw [hup 1]; decide), hp1, show sgn (valN (cut (zeros 64) 0 8) 0) = 0 from zeros_fld]
      rfl
    rw [hst]
    dsimp only
    rw [if_neg (by decide), if_neg (by simp)]
  · exact { up := hup, nop := ho, len := hl, slen := hs, f0 := by show 0 ≤ F; omega, f1 := hf, c4 := hC4, c1 := hC, t1 := by show 1 ≤ T; omega, t2 := by show T < _; omega, o1 := by show (1 : Int) ≤ 1; omega, so := by show (1 : Int) ≤ 1; omega, sf := by show (1 : Int) ≤ 1; omega, fm := by show (1 : Int) ≤ _; omega,
            room := by show (1 : Int) - 1 ≤ 408 * (C - 1); omega, rest := hR, beg := rfl, tail := ⟨rfl, fun i hi => by simp [newL] at hi⟩, recs := trivial, lsns := rfl, flat := rfl, sb := ⟨0, Nat.le_refl _, rfl⟩ }
def freshA (n : Int) : BkA := ⟨n, fun _ => zeros 512, fun _ => zeros 512, false, n / 2 * 408 - 408, 0, 0⟩
theorem fresh_book {D : DevM} (hc : Calm D) {n T frames : Int} (hn : D.n = n) (n0 : 24 ≤ n) (n1 : n ≤ 65536) (hl : LogI D (newL (n - n / 2) (n / 2) T) [] (fun _ => 0)) (hz : ∀ k, 2 ≤ k → k < n → D.latest k = zeros 512) {m : MasM} (hm : readMas D = (m, 0)) (h1 : m.may) (h2 : m.seq ≤ 10) (f0 : 8 ≤ frames) (f1 : frames ≤ 1024) :
    BookI 0 (freshA n) (bkNew (n / 2)) (newPool 2 (n - 2 - n / 2) frames) (newL (n - n / 2) (n / 2) T) D := by
  have z0 : isI 0 := by unfold isI; decide
  refine ⟨hn, rfl, rfl, ⟨z0, z0, by show (0 : Int) ≤ 0; decide, by show (0 : Int) ≤ _; decide, by show ([] : List Int).length ≤ _; simp⟩, fun p p0 p1 => ?_, ?_, by show (1 : Int) ≤ _; omega, ⟨m, hm, h1, by omega⟩, [], ⟨⟨_, hl⟩, ?_, hc, fun p => held_out (fun f hf => by cases hf), rfl, ?_, ?_, ?_, by omega, by omega⟩, fun h => by cases h⟩
  · show D.latest (2 + p) = zeros 512
    have p1 : p < n - 2 - n / 2 := p1
    exact hz _ (by omega) (by omega)
  · show n / 2 * 408 - 408 - ((1 : Int) - 1) = n / 2 * 408 - 408
    omega
  · exact ⟨by show (0 : Int) ≤ 2; decide, by show 1 ≤ n - 2 - n / 2; omega, by show 2 + (n - 2 - n / 2) ≤ D.n; omega, by omega, .inl (by show 2 + (n - 2 - n / 2) ≤ n - n / 2; omega), f0, f1, by show ((0 : Nat) : Int) ≤ frames; omega, Int.le_refl _, Int.le_refl _, List.nodup_nil, fun f hf => by cases hf⟩
  · show n - 2 - n / 2 = D.n - 2 - D.n / 2; rw [hn]
  · show n - n / 2 = D.n - D.n / 2; rw [hn]
  · show n / 2 = D.n / 2; rw [hn]
structure FmtD (D : DevM) (N : Int) (m : MasM) : Prop where
  c : Calm D
  n : D.n = N
  mas : readMas D = (m, 0)
  z : ∀ k, 2 ≤ k → k < N → D.latest k = zeros 512
  o : ∀ k, D.opn k = none
  l : ∀ k, (D.latest k).length = 512
theorem fmt_is {n : Int} (n0 : 24 ≤ n) : ∃ D, formatM (newM n) = (0, D) ∧ FmtD D n ⟨1, 1, 1⟩ := by
  have hc : Calm (newM n) := ⟨rfl, rfl, by show 1 ≤ n; omega⟩
  obtain ⟨D, e1, e2, e3, e4, e5, e6, e7⟩ := formatM_calm hc (by show 24 ≤ n; exact n0)
  exact ⟨D, e1, e2, e3, e4, e5, e6, e7 fun k => lenL_zeros 512⟩
theorem FmtD.opened {D : DevM} {n : Int} {m : MasM} (h : FmtD D n m) (n0 : 24 ≤ n) (n1 : n ≤ 65536) {T : Int} (t0 : 1 ≤ T) (t1 : T < 2147483648) :
    ¬ badM D.n (n - n / 2) (n / 2) 1 T ∧ openM D (n - n / 2) (n / 2) 1 T = (some (newL (n - n / 2) (n / 2) T), D, 0) ∧ (chainM D (n - n / 2) (n / 2) T ((n / 2) * 408 - 408).toNat (((n / 2) * 408 - 408).toNat + 1) 1 0 []).1.length ≤ 1000000 ∧ LogI D (newL (n - n / 2) (n / 2) T) [] (fun _ => 0) := by
  have hb : ¬ badM D.n (n - n / 2) (n / 2) 1 T := by unfold badM; rw [h.n]; omega
  exact ⟨hb, fresh_open h.c hb (by omega) (by omega) (fun k h0 h1 => h.z k (by omega) (by omega)) (fun k _ _ => h.o k) h.l (fun k => by rw [safeG_none (h.o k)]; exact h.l k)⟩
theorem placeQ_is {n : Int} (n0 : 24 ≤ n) (n1 : n ≤ 65536) : placeQ n = (2, n - 2 - n / 2, n - n / 2, n / 2) := by unfold placeQ; rw [if_neg (by omega)]
end Go.Proofs.YtfgagakepmigbaaGreat
