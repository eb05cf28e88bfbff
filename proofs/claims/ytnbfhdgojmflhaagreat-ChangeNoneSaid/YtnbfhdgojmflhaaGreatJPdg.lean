/-
  No statement is proved here: a part of what the claim's last text rests on.
-/
import Derived.Test.YtnbfhdgojmflhaaGreatJPdo
namespace Go.Proofs.YtnbfhdgojmflhaaGreat
open Go.RowKit
def stD (a b : Bytes) : Nat → Sp × Int × Nat
  | 0 => ([], -1, 0)
  | i + 1 => nextD a b i (stD a b i).1 (stD a b i).2.1 (stD a b i).2.2
theorem stD_inv (a b : Bytes) : ∀ i, DInv a b i (stD a b i).1 (stD a b i).2.1 (stD a b i).2.2
  | 0 => DInv.zero a b
  | i + 1 => (stD_inv a b i).step
def diffM (a b : Bytes) : Sp := putD (stD a b 512).1 (stD a b 512).2.1 (stD a b 512).2.2
theorem diffM_good (a b : Bytes) : DGood a b 512 (diffM a b) := (stD_inv a b 512).done
theorem stD_len (a b : Bytes) : ∀ i, (stD a b i).1.length ≤ i
  | 0 => Nat.le_refl _
  | i + 1 => by
    have ih := stD_len a b i
    show (nextD a b i (stD a b i).1 (stD a b i).2.1 (stD a b i).2.2).1.length ≤ i + 1
    unfold nextD putD
    split
    · exact Nat.le_succ_of_le ih
    · split
      · split
        · simp; exact ih
        · exact Nat.le_succ_of_le ih
      · exact Nat.le_succ_of_le ih
def DSt (w : World) (base cf co ca ct cb : Nat) (A B : Option Addr) (ac bc : Nat) (a b : Bytes) (o : Sp) (f : Int) (t : Nat) : Prop :=
  ∃ v L, w.heap[ca]? = some (.cells #[.slice A 512 ac] 26 (0, 0)) ∧ w.heap[cb]? = some (.cells #[.slice B 512 bc] 26 (0, 0)) ∧ w.heap[co]? = some (.cells #[v] 143 (0, 0)) ∧
    w.heap[cf]? = some (.cells #[.int .i64 f] 3 (0, 0)) ∧ w.heap[ct]? = some (.cells #[.int .i64 t] 3 (0, 0)) ∧ OwnSp w base v L ∧ SegsAt w base a b L ∧ L.map (fun s => (s.f, s.t)) = o
theorem cell_of_one' {w : World} {x : Nat} {v : Value} {t : TypeId} {fr : Nat × Nat} (h : w.heap[x]? = some (.cells #[v] t fr)) : w.cell? ⟨x, 0, none⟩ = some v := cell_blk h (by simp)
set_option maxRecDepth 100000 in
set_option maxHeartbeats 1000000 in
theorem dput_any (base cf co ca ct cb xa oa xb ob : Nat) (ac bc : Nat) (w : World) (a b : Bytes) (o : Sp) (f : Int) (t : Nat) (h : DSt w base cf co ca ct cb (some ⟨xa, oa, none⟩) (some ⟨xb, ob, none⟩) ac bc a b o f t)
    (hord : ca < cb ∧ cb < co ∧ co < cf ∧ cf < ct ∧ ct < base) (hbs : base ≤ w.heap.size)
    (ha : RdB w (some ⟨xa, oa, none⟩) a) (hb' : RdB w (some ⟨xb, ob, none⟩) b) (la : a.length = 512) (lb : b.length = 512) (hac : 512 ≤ ac) (hac2 : ac ≤ 9223372036854775807) (hbc : 512 ≤ bc) (hbc2 : bc ≤ 9223372036854775807)
    (hf : f = -1 ∨ ∃ n : Nat, f = n ∧ n < t ∧ t ≤ 512) (ho : o.length ≤ 600) :
    Calls Tryz.prog 119 #[.pointer (some ⟨cf, 0, none⟩), .pointer (some ⟨co, 0, none⟩), .pointer (some ⟨ca, 0, none⟩), .pointer (some ⟨ct, 0, none⟩), .pointer (some ⟨cb, 0, none⟩)] w fun e w' => e = .returned (.tuple #[]) ∧
      DSt w' base cf co ca ct cb (some ⟨xa, oa, none⟩) (some ⟨xb, ob, none⟩) ac bc a b (putD o f t) f t ∧ Kept (fun x => x = co ∨ base ≤ x) w w' := by
  obtain ⟨v, L, h1, h2, h3, h4, h5, h6, h7, h8⟩ := h
  rcases hf with rfl | ⟨n, rfl, hn, ht⟩
  · refine (put_no cf co ca ct cb (some ⟨xa, oa, none⟩) (some ⟨xb, ob, none⟩) ac bc t v w ⟨cell_of_one' h4, cell_of_one' h3, cell_of_one' h1, cell_of_one' h5, cell_of_one' h2⟩).mono ?_
    rintro e w' ⟨rfl, rfl⟩
    exact ⟨rfl, ⟨v, L, h1, h2, h3, h4, h5, h6, h7, h8⟩, Kept.refl _ _⟩
  · have hlen : L.length = o.length := by rw [← h8]; simp
    refine (put_some cf co ca ct cb xa oa xb ob ac bc n t base v w a b L ⟨cell_of_one' h4, cell_of_one' h3, cell_of_one' h1, cell_of_one' h5, cell_of_one' h2⟩ h3 (by omega) (by omega) hbs h6 h7 ha hb' la lb hac hac2 hbc hbc2 hn ht (by omega)).mono ?_
    rintro e w' ⟨rfl, v', L', -, g3, g6, g7, g8, hk⟩
    refine ⟨rfl, ⟨v', L', hk.heap h1 (by omega), hk.heap h2 (by omega), g3, hk.heap h4 (by omega), hk.heap h5 (by omega), g6, g7, ?_⟩, hk⟩
    rw [g8, h8]
    unfold putD
    rw [if_pos (by omega)]
    simp
theorem DSt.kept {S : Nat → Prop} {w w' : World} {base cf co ca ct cb : Nat} {A B : Option Addr} {ac bc : Nat} {a b : Bytes} {o : Sp} {f : Int} {t : Nat} (h : DSt w base cf co ca ct cb A B ac bc a b o f t) (hk : Kept S w w') (hS : ∀ x, ¬ S x) : DSt w' base cf co ca ct cb A B ac bc a b o f t := by
  obtain ⟨v, L, h1, h2, h3, h4, h5, h6, h7, h8⟩ := h
  exact ⟨v, L, hk.heap h1 (hS _), hk.heap h2 (hS _), hk.heap h3 (hS _), hk.heap h4 (hS _), hk.heap h5 (hS _), h6.kept hk (fun x h => (hS x h).elim), h7.keep hk (fun x _ _ _ => hS x), h8⟩
theorem DSt.setF {w : World} {base cf co ca ct cb : Nat} {A B : Option Addr} {ac bc : Nat} {a b : Bytes} {o : Sp} {f : Int} {t : Nat} (h : DSt w base cf co ca ct cb A B ac bc a b o f t) (hord : ca < cb ∧ cb < co ∧ co < cf ∧ cf < ct ∧ ct < base) (f' : Int) :
    DSt (w.setCell ⟨cf, 0, none⟩ (.int .i64 f')) base cf co ca ct cb A B ac bc a b o f' t := by
  have kc : Kept (fun x => x = cf) w (w.setCell ⟨cf, 0, none⟩ (.int .i64 f')) := Kept.cell _ _ _ _
  obtain ⟨v, L, h1, h2, h3, h4, h5, h6, h7, h8⟩ := h
  exact ⟨v, L, kc.heap h1 (by omega), kc.heap h2 (by omega), kc.heap h3 (by omega), by simpa using set_blk h4 0 (.int .i64 f'), kc.heap h5 (by omega), h6.kept kc (fun x h => by omega), h7.keep kc (fun x _ _ hx => by omega), h8⟩
theorem DSt.setT {w : World} {base cf co ca ct cb : Nat} {A B : Option Addr} {ac bc : Nat} {a b : Bytes} {o : Sp} {f : Int} {t : Nat} (h : DSt w base cf co ca ct cb A B ac bc a b o f t) (hord : ca < cb ∧ cb < co ∧ co < cf ∧ cf < ct ∧ ct < base) (t' : Nat) (u : Int) (hu : u = t') :
    DSt (w.setCell ⟨ct, 0, none⟩ (.int .i64 u)) base cf co ca ct cb A B ac bc a b o f t' := by
  subst hu
  have kc : Kept (fun x => x = ct) w (w.setCell ⟨ct, 0, none⟩ (.int .i64 t')) := Kept.cell _ _ _ _
  obtain ⟨v, L, h1, h2, h3, h4, h5, h6, h7, h8⟩ := h
  exact ⟨v, L, kc.heap h1 (by omega), kc.heap h2 (by omega), kc.heap h3 (by omega), kc.heap h4 (by omega), by simpa using set_blk h5 0 (.int .i64 t'), h6.kept kc (fun x h => by omega), h7.keep kc (fun x _ _ hx => by omega), h8⟩
end Go.Proofs.YtnbfhdgojmflhaaGreat
namespace Go.Proofs.YtnbfhdgojmflhaaGreat
open Go.RowKit
theorem SegsAt.low {w : World} {base base' : Nat} {a b : Bytes} {L : List SpD} (h : SegsAt w base a b L) (hb : base' ≤ base) : SegsAt w base' a b L := fun s hs => ⟨(h s hs).1.low hb, (h s hs).2.low hb⟩
theorem OwnSp.low {w : World} {base base' : Nat} {v : Value} {L : List SpD} (h : OwnSp w base v L) (hb : base' ≤ base) : OwnSp w base' v L := by
  unfold OwnSp at *
  obtain ⟨h0, h⟩ := h
  exact ⟨h0, h.elim .inl (fun ⟨g, cap, cur, hv, hg, r⟩ => .inr ⟨g, cap, cur, hv, Nat.le_trans hb hg, r⟩)⟩
theorem DSt.facts {w : World} {base cf co ca ct cb : Nat} {A B : Option Addr} {ac bc : Nat} {a b : Bytes} {o : Sp} {f : Int} {t : Nat} (h : DSt w base cf co ca ct cb A B ac bc a b o f t) :
    w.cell? ⟨ca, 0, none⟩ = some (.slice A 512 ac) ∧ w.cell? ⟨cb, 0, none⟩ = some (.slice B 512 bc) ∧ w.cell? ⟨cf, 0, none⟩ = some (.int .i64 f) ∧ w.cell? ⟨ct, 0, none⟩ = some (.int .i64 t) ∧ w.frozen? ⟨cf, 0, none⟩ = false ∧ w.frozen? ⟨ct, 0, none⟩ = false := by
  obtain ⟨v, L, h1, h2, h3, h4, h5, h6, h7, h8⟩ := h
  exact ⟨cell_of_one' h1, cell_of_one' h2, cell_of_one' h4, cell_of_one' h5, free_blk h4 0, free_blk h5 0⟩
theorem RdB.some {w : World} {A : Option Addr} {l : Bytes} (h : RdB w A l) (hl : l.length = 512) : ∃ b off, A = some ⟨b, off, none⟩ := by
  obtain ⟨b, off, e, -⟩ := h (by rintro rfl; simp at hl)
  exact ⟨b, off, e⟩
set_option maxRecDepth 100000 in
set_option maxHeartbeats 2000000 in
theorem diff_any (A B : Option Addr) (ac bc : Nat) (a b : Bytes) (w : World) (ha : RdB w A a) (hb : RdB w B b) (la : a.length = 512) (lb : b.length = 512) (hac : 512 ≤ ac) (hac2 : ac ≤ 9223372036854775807) (hbc : 512 ≤ bc) (hbc2 : bc ≤ 9223372036854775807) :
    Calls Tryz.prog 65 #[.slice A 512 ac, .slice B 512 bc] w fun e w' => ∃ v L, e = .returned v ∧ OwnSp w' w.heap.size v L ∧ SegsAt w' w.heap.size a b L ∧ L.map (fun s => (s.f, s.t)) = diffM a b ∧ Kept (fun _ => False) w w' := by
  obtain ⟨xa, oa, rfl⟩ := ha.some la
  obtain ⟨xb, ob, rfl⟩ := hb.some lb
  have HA := Lib.hid ha
  have HB := Lib.hid hb
  have LA := Lib.hid la
  have LB := Lib.hid lb
  clear ha hb la lb
  have hmf : ∀ (fn : Fn) (first cap : Array Value) (w : World), (Instr.makeFunc fn first cap).run Tryz.prog w = .ok (.func fn first cap) w := fun _ _ _ _ => rfl
  go_enter Tryz.func65, Tryz.ntmps65
  go_wp2_with (refine wl_box rfl 26 _ rfl (.slice (some ⟨xa, oa, none⟩) 512 ac) rfl ?_)
  intro ca w1 nca mca hca kca
  have kca' := Lib.hid kca
  clear kca
  go_wp2_with (refine wl_box rfl 26 _ rfl (.slice (some ⟨xb, ob, none⟩) 512 bc) rfl ?_)
  intro cb w2 ncb mcb hcb kcb
  have hca2 := kcb.heap hca id
  have cca2 := cell_of_one' hca2
  have ccb2 := cell_of_one' hcb
  have K2 := Lib.hid (kca'.out.trans0 kcb)
  have H1 := Lib.hid hca2
  have H2 := Lib.hid hcb
  have kcb' := Lib.hid (kcb.size)
  clear hca kcb hca2 hcb kca'
  go_wp2_with (refine wl_alloc1 rfl 143 rfl (.slice none 0 0) rfl (fun _ => rfl) ?_)
  intro co w3 nco mco hco kco
  have K3 := Lib.hid (K2.out.trans0 kco)
  have H13 := Lib.hid (kco.heap H1.out id)
  have H23 := Lib.hid (kco.heap H2.out id)
  have H33 := Lib.hid hco
  have o1 : ca < cb := by omega
  have o2 : cb < co := by omega
  clear kco hco H1 H2
  go_wp2_with (refine wl_alloc1 rfl 3 rfl (.int .i64 0) rfl (fun _ => rfl) ?_)
  intro cf w4 ncf mcf hcf kcf
  have K4 := Lib.hid (K3.out.trans0 kcf)
  have H14 := Lib.hid (kcf.heap H13.out id)
  have H24 := Lib.hid (kcf.heap H23.out id)
  have H34 := Lib.hid (kcf.heap H33.out id)
  have H44 := Lib.hid hcf
  have o3 : co < cf := by omega
  clear kcf hcf H13 H23 H33
  refine wl_alloc1 rfl 3 rfl (.int .i64 0) rfl (fun _ => rfl) ?_
  intro ct w5 nct mct hct kct
  have K5 := Lib.hid (K4.out.trans0 kct)
  have H15 := Lib.hid (kct.heap H14.out id)
  have H25 := Lib.hid (kct.heap H24.out id)
  have H35 := Lib.hid (kct.heap H34.out id)
  have H45 := Lib.hid (kct.heap H44.out id)
  have H55 := Lib.hid hct
  have o4 : cf < ct := by omega
  have hord := Lib.hid (show ca < cb ∧ cb < co ∧ co < cf ∧ cf < ct ∧ ct < w5.heap.size from ⟨o1, o2, o3, o4, mct⟩)
  have f4 := free_blk H45.out 0
  have f5 := free_blk hct 0
  have c4 := cell_of_one' H45.out
  have c5 := cell_of_one' hct
  have sz5 := K5.out.size
  clear kct hct H14 H24 H34 H44
  have D0 := Lib.hid ((show DSt w5 w5.heap.size cf co ca ct cb (some ⟨xa, oa, none⟩) (some ⟨xb, ob, none⟩) ac bc a b [] 0 0 from ⟨.slice none 0 0, [], H15.out, H25.out, H35.out, H45.out, H55.out, ⟨by simp [rowSp], .inl ⟨rfl, rfl⟩⟩, (fun _ h => by simp at h), rfl⟩).setF hord.out (-1))
  clear H15 H25 H35 H45 H55
  obtain ⟨c1', c2', c4', c5', f4', f5'⟩ := D0.out.facts
  have K6 := Lib.hid (K5.out.setCell (p := ⟨cf, 0, none⟩) (.inl (by show w.heap.size ≤ cf; omega)) (.int .i64 (-1)))
  have D1 := Lib.hid (D0.out.setT hord.out 0 0 rfl)
  have K7 := Lib.hid (K6.out.setCell (p := ⟨ct, 0, none⟩) (.inl (by show w.heap.size ≤ ct; omega)) (.int .i64 0))
  obtain ⟨d1, d2, d4, d5, e4, e5⟩ := D1.out.facts
  clear D0 K6 K5 K4 K3 K2
  go_wp2
  go_loopw [21] (fun i wr => ∃ k : Nat, k ≤ 512 ∧ i = .int .i64 k ∧ DSt wr w5.heap.size cf co ca ct cb (some ⟨xa, oa, none⟩) (some ⟨xb, ob, none⟩) ac bc a b (stD a b k).1 (stD a b k).2.1 (stD a b k).2.2 ∧ Kept (fun _ => False) w wr ∧ w5.heap.size ≤ wr.heap.size) (fun i _ => 512 - (intOf i).toNat)
  case atStart => exact ⟨0, by omega, rfl, D1.out, K7.out, by simp⟩
  case round =>
    obtain ⟨k, hk, rfl, hD, hK, hsz⟩ := hrel
    clear D1 K7 d1 d2 d4 d5 e4 e5 c1' c2' c4' c5' f4' f5'
    obtain ⟨d1, d2, d4, d5, e4, e5⟩ := hD.facts
    by_cases hlt : k < 512
    · obtain ⟨y1, y2, hy, ya⟩ := (HA.out.kept hK (fun _ _ _ _ => id)).cell (k := k) (by rw [LA.out]; exact hlt)
      cases hy
      obtain ⟨y1, y2, hy, yb⟩ := (HB.out.kept hK (fun _ _ _ _ => id)).cell (k := k) (by rw [LB.out]; exact hlt)
      cases hy
      have i0 : (0 : Int) ≤ (k : Int) := by omega
      have i1 : (k : Int) < 512 := by omega
      have hinv := stD_inv a b k
      have hol := stD_len a b k
      obtain ⟨o, f, t, hst⟩ : ∃ o f t, stD a b k = (o, f, t) := ⟨_, _, _, rfl⟩
      have hsucc : stD a b (k + 1) = nextD a b k o f t := by show nextD _ _ _ _ _ _ = _; rw [hst]
      rw [hst] at hD hinv d4 d5 hol
      have HSU := Lib.hid hsucc
      have HI := Lib.hid hinv
      have HD := Lib.hid hD
      have HK := Lib.hid hK
      have HOL := Lib.hid hol
      clear hst hsucc hinv hD hK hol
      by_cases he : bAt a k = bAt b k
      · have hq : (((bAt a k).toNat : Int) == ((bAt b k).toNat : Int)) = true := by simp [he]
        have HE := Lib.hid he
        clear he
        go_wp2
        go_quiet (fail)
        go_wp2
        go_roundw
        case rel =>
          refine ⟨k + 1, by omega, by go_num, ?_, HK.out.drewN _, by simpa using hsz⟩
          rw [HSU.out]
          unfold nextD
          rw [if_pos HE.out]
          exact HD.out.kept ((Kept.refl (fun _ => False) _).drewN _) (fun _ => id)
        case measure => simp [intOf]; omega
      · have hq : (((bAt a k).toNat : Int) == ((bAt b k).toNat : Int)) = false := by
          rw [beq_eq_false_iff_ne]; intro e; exact he (UInt8.toNat_inj.1 (by omega))
        have HE := Lib.hid he
        clear he
        go_wp2
        go_quiet (fail)
        have HD2 := Lib.hid (HD.out.kept ((Kept.refl (fun _ => False) wr).drewN nq) (fun _ => id))
        have HK2 := Lib.hid (HK.out.drewN nq)
        have hz2 : w5.heap.size ≤ (wr.drewN nq).heap.size := by simpa using hsz
        clear d1 d2 d4 d5 e4 e5 ya yb hq HD HK hsz
        generalize wr.drewN nq = W at *
        obtain ⟨d1, d2, d4, d5, e4, e5⟩ := HD2.out.facts
        rcases HI.out.cur with ⟨rfl, rfl, rfl⟩ | ⟨n, rfl, hn, -⟩
        · skip
          have HP := Lib.hid (dput_any w5.heap.size cf co ca ct cb xa oa xb ob ac bc W a b _ _ _ HD2.out hord.out hz2 (HA.out.kept HK2.out (fun _ _ _ _ => id)) (HB.out.kept HK2.out (fun _ _ _ _ => id)) LA.out LB.out hac hac2 hbc hbc2 (.inl rfl) (Nat.le_trans HOL.out (by omega)))
          go_wp2_with (go_at_call 119; refine HP.out.mono ?_; rintro e w6 ⟨rfl, hD6, hK6⟩; obtain ⟨-, -, g4, g5, g6, g7⟩ := hD6.facts; have hD7 := hD6.setF hord.out (k : Int); obtain ⟨-, -, h4, h5, h6, h7⟩ := hD7.facts; have HK6 := Lib.hid hK6; have HD7 := Lib.hid hD7; clear hK6 hD6 hD7)
          have HD8 := HD7.out.setT hord.out (k + 1) ((k : Int) + 1) rfl
          have HK8 := ((HK2.out.new HK6.out (fun x h => by omega)).setCell (p := ⟨cf, 0, none⟩) (.inl (by show w.heap.size ≤ cf; omega)) (.int .i64 k)).setCell (p := ⟨ct, 0, none⟩) (.inl (by show w.heap.size ≤ ct; omega)) (.int .i64 ((k : Int) + 1))
          have hz8 : w5.heap.size ≤ w6.heap.size := Nat.le_trans hz2 HK6.out.size
          have hs8 : nextD a b k [] (-1) 0 = (putD [] (-1) 0, (k : Int), k + 1) := by
            unfold nextD
            rw [if_neg HE.out, if_pos (by omega)]
          go_roundw
          case rel => exact ⟨k + 1, by omega, by go_num, by rw [HSU.out, hs8]; exact HD8, HK8, by simpa using hz8⟩
          case measure => simp [intOf]; omega
        · have q1 : n < t := hn.1
          have q2 : t ≤ k := hn.2.1
          have HN := Lib.hid hn
          have q3 : ((n : Int) < 0) = False := by simp
          have q4 : IntKind.i64.wrap ((k : Int) - (t : Int)) = (k : Int) - (t : Int) := by rw [IntKind.wrap_i64]; omega
          clear hn
          by_cases h8 : (8 : Int) ≤ (k : Int) - (t : Int)
          · skip
            have HP := Lib.hid (dput_any w5.heap.size cf co ca ct cb xa oa xb ob ac bc W a b _ _ _ HD2.out hord.out hz2 (HA.out.kept HK2.out (fun _ _ _ _ => id)) (HB.out.kept HK2.out (fun _ _ _ _ => id)) LA.out LB.out hac hac2 hbc hbc2 (.inr ⟨n, rfl, q1, by omega⟩) (Nat.le_trans HOL.out (by omega)))
            go_wp2_with (go_at_call 119; refine HP.out.mono ?_; rintro e w6 ⟨rfl, hD6, hK6⟩; obtain ⟨-, -, g4, g5, g6, g7⟩ := hD6.facts; have hD7 := hD6.setF hord.out (k : Int); obtain ⟨-, -, h4, h5, h6, h7⟩ := hD7.facts; have HK6 := Lib.hid hK6; have HD7 := Lib.hid hD7; clear hK6 hD6 hD7)
            have HD8 := HD7.out.setT hord.out (k + 1) ((k : Int) + 1) rfl
            have HK8 := ((HK2.out.new HK6.out (fun x h => by omega)).setCell (p := ⟨cf, 0, none⟩) (.inl (by show w.heap.size ≤ cf; omega)) (.int .i64 k)).setCell (p := ⟨ct, 0, none⟩) (.inl (by show w.heap.size ≤ ct; omega)) (.int .i64 ((k : Int) + 1))
            have hz8 : w5.heap.size ≤ w6.heap.size := Nat.le_trans hz2 HK6.out.size
            have hs8 : nextD a b k o n t = (putD o n t, (k : Int), k + 1) := by
              unfold nextD
              rw [if_neg HE.out, if_pos (by omega)]
            go_roundw
            case rel => exact ⟨k + 1, by omega, by go_num, by rw [HSU.out, hs8]; exact HD8, HK8, by simpa using hz8⟩
            case measure => simp [intOf]; omega
          · have HD8 := HD2.out.setT hord.out (k + 1) ((k : Int) + 1) rfl
            have HK8 := HK2.out.setCell (p := ⟨ct, 0, none⟩) (.inl (by show w.heap.size ≤ ct; omega)) (.int .i64 ((k : Int) + 1))
            have hs8 : nextD a b k o n t = (o, (n : Int), k + 1) := by
              unfold nextD
              rw [if_neg HE.out, if_neg (by omega)]
            go_wp2
            go_roundw
            case rel => exact ⟨k + 1, by omega, by go_num, by rw [HSU.out, hs8]; exact HD8, HK8, by simpa using hz2⟩
            case measure => simp [intOf]; omega
    · have hk512 : k = 512 := by omega
      subst hk512
      have hge : ¬ ((512 : Int) < 512) := by omega
      have hinv := stD_inv a b 512
      have hol := stD_len a b 512
      have hM : diffM a b = putD (stD a b 512).1 (stD a b 512).2.1 (stD a b 512).2.2 := rfl
      obtain ⟨o, f, t, hst⟩ : ∃ o f t, stD a b 512 = (o, f, t) := ⟨_, _, _, rfl⟩
      rw [hst] at hD hinv d4 d5 hol hM
      have HM := Lib.hid hM
      have HD := Lib.hid hD
      have HK := Lib.hid hK
      have hq : f = -1 ∨ ∃ n : Nat, f = n ∧ n < t ∧ t ≤ 512 := by
        rcases hinv.cur with ⟨e, -⟩ | ⟨n, e, hn, -⟩
        · exact .inl e
        · exact .inr ⟨n, e, hn.1, hn.2.1⟩
      have HP := Lib.hid (dput_any w5.heap.size cf co ca ct cb xa oa xb ob ac bc wr a b o f t HD.out hord.out hsz (HA.out.kept HK.out (fun _ _ _ _ => id)) (HB.out.kept HK.out (fun _ _ _ _ => id)) LA.out LB.out hac hac2 hbc hbc2 hq (Nat.le_trans hol (by omega)))
      clear hst hinv hM hD hK hq d1 d2 d4 d5 e4 e5 hol
      go_wp2_with (go_at_call 119; refine HP.out.mono ?_; rintro e w6 ⟨rfl, ⟨v, L, -, -, g3, -, -, g6, g7, g8⟩, hK6⟩; have c3 := cell_of_one' g3; have HK6 := Lib.hid hK6; have G6 := Lib.hid g6; have G7 := Lib.hid g7; have G8 := Lib.hid g8; clear hK6 g3 g6 g7 g8)
      go_ret
      exact ⟨v, L, rfl, G6.out.low (by omega), G7.out.low (by omega), by rw [G8.out, HM.out], HK.out.new HK6.out (fun x h => by omega)⟩
end Go.Proofs.YtnbfhdgojmflhaaGreat
