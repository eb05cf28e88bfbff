/-
  No statement is proved here.
-/
import Derived.Test.YtfgagakepmigbaaGreatJLgh
import Derived.Laws.ResultCell
namespace Go.Proofs.YtfgagakepmigbaaGreat
open Go.RowKit
theorem results_cell_r2 {P : Program} {fn : Func} {p u : Tmp} {ty : TypeId} (h : fn.results = #[.cell p ty, .tmp u]) (tmps : Array Value) (w : World) (g : Nat) (cs : Array Value) {t : TypeId} {fr : Nat × Nat} {d : TypeDesc} (hp : tmps.getD p undef = .pointer (some ⟨g, 0, none⟩)) (hg : w.heap[g]? = some (.cells cs t fr))
    (hu : P.underlying ty = some d) (hd : (match d with | .struct _ | .array _ _ => true | _ => false) = true) (hi : (P.info? ty).map (·.size) = some cs.size) : (results fn tmps).run P w = .ok (.tuple #[.agg cs, tmps.getD u undef]) w := by
  rw [results_cell_tmp h, hp]
  simp [asAddr, Result.andThen, run_loadVar_row w g t ty cs fr d hg hu hd hi]
structure LogR (L : LogM) : Prop where
  ri : Rises L.lsns
  n1 : ∀ k, k < L.lsns.length → 1 ≤ L.lsns.getD k 0
  nx : ∀ k, k + 1 < L.lsns.length → L.lsns.getD (k + 1) 0 - L.lsns.getD k 0 ≤ 10000 ∧ L.lsns.getD (k + 1) 0 ≤ L.fin
  nl : ∀ k, k + 1 = L.lsns.length → L.lsns.getD k 0 ≤ L.fin ∧ L.fin - L.lsns.getD k 0 ≤ 10000
  ll : L.lsns.length ≤ 1000000000
def ReadPost (w : World) (x : Option RecM × Int) (e : Ending) (w' : World) : Prop := Kept (fun _ => False) w w' ∧
  (x.1 = none → e = .returned (.tuple #[.agg zRecC, .int .i64 x.2])) ∧
  (∀ r, x.1 = some r → ∃ A1 c1 A2 c2, e = .returned (.tuple #[.agg (recC r A1 c1 A2 c2), .int .i64 x.2]) ∧
    OwnV w' w.heap.size (.slice A1 r.old.length c1) r.old ∧ OwnV w' w.heap.size (.slice A2 r.new.length c2) r.new ∧ (∀ x, (Value.slice A1 r.old.length c1).ownBlock = some x → (Value.slice A2 r.new.length c2).ownBlock = some x → False))
theorem ReadPost.no {w w' : World} {x : Option RecM × Int} {e : Ending} (hk : Kept (fun _ => False) w w') (h : x.1 = none) (he : e = .returned (.tuple #[.agg zRecC, .int .i64 x.2])) : ReadPost w x e w' :=
  ⟨hk, fun _ => he, fun r hr => by rw [h] at hr; cases hr⟩
theorem OwnV.capM {w : World} {base : Nat} {A : Option Addr} {n c : Nat} {l : Bytes} (h : OwnV w base (.slice A n c) l) : c ≤ 9223372036854775807 := by
  rcases h.form with ⟨h1, rfl⟩ | ⟨g, cap, h1, h2⟩
  · cases h1; decide
  · cases h1
    obtain ⟨cur, _, _, _, h6, _⟩ := h2.form
    exact h6
theorem bytes_len (L : LogM) (D : DevM) (a : Int) (n : Nat) (hc : 4 ≤ L.count) (hl : ∀ k, (D.latest k).length = 512) : (L.bytes D a n).1.length ≤ n := by
  obtain ⟨s, hs⟩ : ∃ s : Bytes × Int, s = if a < L.beg then stretchM D L.first L.count (min n (L.beg - a).toNat) (min n (L.beg - a).toNat + 1) a [] else ([], 0) := ⟨_, rfl⟩
  have hv : L.bytes D a n = if s.2 ≠ 0 then ([], s.2) else (s.1 ++ (L.tail.drop (a + s.1.length - L.beg).toNat).take (n - s.1.length), 0) := by rw [hs]; rfl
  rw [hv]
  by_cases h0 : s.2 = 0
  · rw [if_neg (by simp [h0])]
    have h1 : s.1.length ≤ n := by
      rw [hs] at h0 ⊢
      by_cases hlt : a < L.beg
      · rw [if_pos hlt] at h0 ⊢
        rw [stretch_len D L.first L.count _ hc hl _ _ _ (by simp) h0]
        omega
      · rw [if_neg hlt]; simp
    show (s.1 ++ _).length ≤ n
    rw [List.length_append, List.length_take]
    omega
  · rw [if_pos h0]; simp
set_option maxRecDepth 100000 in
set_option maxHeartbeats 1600000 in
theorem read_any' (w : World) (q p ms mo : Nat) (lv tv : Value) (L : LogM) (D : DevM) (h : LogS w q p ms mo lv tv L D) (hok : LogOk L) (hb : LogB L) (hr : LogR L) (lsn : Int) :
    Calls Tryz.prog 48 #[.pointer (some ⟨q, 0, none⟩), .int .i64 lsn] w (ReadPost w (L.read D lsn)) := by
  have H := qh h
  have HOK := qh hok
  have HBB := qh hb
  have HR := qh hr
  have ll := hr.ll
  obtain ⟨k, hk⟩ : ∃ k, k = findM L.lsns lsn := ⟨_, rfl⟩
  have hv : L.read D lsn = if L.lsns.getD k 0 ≠ lsn ∨ L.lsns.length ≤ k then (none, 6) else
      if (L.bytes D lsn ((if k + 1 < L.lsns.length then L.lsns.getD (k + 1) 0 else L.fin) - lsn).toNat).2 ≠ 0 then (none, (L.bytes D lsn ((if k + 1 < L.lsns.length then L.lsns.getD (k + 1) 0 else L.fin) - lsn).toNat).2) else
      match getL (L.bytes D lsn ((if k + 1 < L.lsns.length then L.lsns.getD (k + 1) 0 else L.fin) - lsn).toNat).1 with
      | some (r, _) => (some r, 0)
      | none => (none, 4) := by rw [hk]; rfl
  obtain ⟨X, hX⟩ : ∃ X, X = L.read D lsn := ⟨_, rfl⟩
  rw [← hX] at hv ⊢
  have HV := qh hv
  have HF := qh (show foundM L.lsns lsn = decide (k < L.lsns.length ∧ L.lsns.getD k 0 = lsn) from by rw [hk]; rfl)
  have HK := qh hk
  have B0 := bR0'
  clear h hok hb hr hk hv hX
  go_enter Tryz.func48, Tryz.ntmps48
  go_wp2_with (refine wl_alloc' rfl 86 rfl zRecC zeroRec ?_)
  intro y w1 y1 y2 hb1 hk1
  have HY1 := qh hb1
  have HK1 := qh hk1
  have HS1 := qh (H.out.keep hk1 (fun _ _ => id))
  clear hb1 hk1
  have HTH := qh (there_some w1 q p lv tv L HS1.out.hq)
  obtain ⟨Al, nl, cl, rfl, hnl⟩ := HS1.out.hl.form3
  have HBS := qh (show Calls Tryz.prog 90 #[.slice Al nl cl, .int .i64 lsn] w1 fun e w' => e = .returned (.tuple #[.int .i64 (k : Nat), .bool (foundM L.lsns lsn)]) ∧ w1 = w' from by
    obtain ⟨A, c, h1, h2, h3, h4⟩ := HS1.out.hl.slice
    cases h1
    rw [HK.out]
    exact bsearch_any _ _ _ _ _ HR.out.ri HR.out.ll h4)
  have c7 : w1.cell? ⟨q, 7, none⟩ = some (.slice Al nl cl) := cell_blk HS1.out.hq rfl
  have c5 : w1.cell? ⟨q, 5, none⟩ = some (.int .i64 L.fin) := cell_blk HS1.out.hq rfl
  have HNL := qh hnl
  clear hnl
  by_cases hf : k < L.lsns.length ∧ L.lsns.getD k 0 = lsn
  · rw [HF.out, decide_eq_true hf] at HBS
    obtain ⟨hf1, hf2⟩ := hf
    obtain ⟨EN, hEN⟩ : ∃ EN, EN = if k + 1 < L.lsns.length then L.lsns.getD (k + 1) 0 else L.fin := ⟨_, rfl⟩
    have hlsn : 1 ≤ lsn := by rw [← hf2]; exact HR.out.n1 k hf1
    have e1 := HOK.out.e1
    have hen : EN - lsn ≤ 10000 ∧ lsn ≤ EN ∧ EN ≤ L.fin := by
      rw [hEN]
      by_cases hk2 : k + 1 < L.lsns.length
      · rw [if_pos hk2]
        have h1 := HR.out.nx k hk2
        have h2 := HR.out.ri k (k + 1) (by omega) hk2
        omega
      · rw [if_neg hk2]
        have h1 := HR.out.nl k (by omega)
        omega
    obtain ⟨n, hn⟩ : ∃ n : Nat, EN - lsn = (n : Int) := ⟨(EN - lsn).toNat, by omega⟩
    obtain ⟨Y, hY⟩ : ∃ Y, Y = L.bytes D lsn n := ⟨_, rfl⟩
    have hv2 : X = if Y.2 ≠ 0 then (none, Y.2) else match getL Y.1 with | some (r, _) => (some r, 0) | none => (none, 4) := by
      rw [HV.out, if_neg (by rintro (h | h); exact h hf2; omega), ← hEN, hn, Int.toNat_natCast, ← hY]
    have HV2 := qh hv2
    have HBY := qh (bytes_any w1 q p ms mo _ tv L D HS1.out HOK.out HBB.out lsn n hlsn (by omega) (by omega))
    rw [← hY] at HBY
    have HEN := qh hEN
    have HN := qh hn
    have HYL := qh (show Y.1.length ≤ n from by rw [hY]; exact bytes_len L D lsn n HOK.out.c0 HS1.out.dev.len)
    have HNB : n ≤ 10000 := by omega
    clear hv2 hY hEN hn HV HF hf2 hen
    go_wp2_with fail
    refine HTH.out.mono ?_
    rintro e wx ⟨rfl, rfl⟩
    go_wp2_with fail
    refine HBS.out.mono ?_
    rintro e wx ⟨rfl, rfl⟩
    have hkb : (k : Int) ≤ 1000000000 := by omega
    go_upto_if 40 with fail
    go_cut [8, 40] from 41 to 48 (fun v _ wx => v = .int .i64 EN ∧ w1 = wx)
    case first =>
      by_cases hk2 : k + 1 < nl
      · have hki : (k : Int) + 1 < (nl : Int) := by omega
        have HEN2 := qh (show EN = L.lsns.getD (k + 1) 0 from by rw [HEN.out, if_pos (by rw [← HNL.out]; exact hk2)])
        obtain ⟨g0, o0, hA, cm⟩ : ∃ g off, Al = some ⟨g, off, none⟩ ∧ w1.cell? ⟨g, off + (k + 1), none⟩ = some (.int .i64 EN) := by
          obtain ⟨A, c, h1, h2, h3, h4⟩ := HS1.out.hl.slice
          cases h1
          refine h4 (k + 1) EN ?_
          rw [HEN2.out, List.getD_eq_getElem?_getD, List.getElem?_eq_getElem (by rw [← HNL.out]; exact hk2)]
          rfl
        subst hA
        clear HBS HTH
        go_wp2
        go_meet
        case rel => exact ⟨rfl, rfl⟩
      · have hki : ¬ (k : Int) + 1 < (nl : Int) := by omega
        have HEN2 := qh (show EN = L.fin from by rw [HEN.out, if_neg (by rw [← HNL.out]; exact hk2)])
        clear HBS HTH
        go_wp2
        go_meet
        case rel => exact ⟨by rw [HEN2.out], rfl⟩
    case rest =>
      obtain ⟨rfl, rfl⟩ := hcut
      have HBY2 := qh (show Calls Tryz.prog 91 #[.pointer (some ⟨q, 0, none⟩), .int .i64 lsn, .int .i64 (EN - lsn)] w1 (BytesPost w1 Y) from by rw [HN.out]; exact HBY.out)
      clear HBY
      have e2 := HOK.out.e1
      have hen1 : EN - lsn ≤ 10000 ∧ 0 ≤ EN - lsn := by have := HN.out; omega
      have hen2 : EN ≤ 4000000000000000000 := by
        rw [HEN.out]
        split
        · have := (HR.out.nx k (by assumption)).2; omega
        · omega
      go_wp2_with fail
      refine HBY2.out.mono ?_
      rintro e w2 ⟨hk2, Ab, nb, cb, rfl, hob⟩
      have HK2 := qh (HK1.out.trans0 hk2)
      have HY2 := qh (hk2.heap HY1.out id)
      have HOB := qh hob
      have hnb : nb = Y.1.length := by
        rcases hob.form with ⟨h1, h2⟩ | ⟨g, cap, h1, h2⟩
        · cases h1; rw [h2]; rfl
        · cases h1; rfl
      have HNB2 := qh hnb
      have hcap := hob.capM
      have hlen1 := (hob.len).2
      clear hob hk2
      obtain ⟨E, hE⟩ : ∃ E, E = Y.2 := ⟨_, rfl⟩
      rw [← hE] at HV2 ⊢
      by_cases h0 : E = 0
      · subst h0
        have HX := qh (show X = match getL Y.1 with | some (r, _) => (some r, 0) | none => (none, 4) from by rw [HV2.out, if_neg (by simp)])
        have HGT := qh (show Calls Tryz.prog 92 #[.slice Ab nb cb] w2 (GetPost Y.1 w2) from by
          rw [HNB2.out]
          exact get_any Ab cb Y.1 w2 HOB.out.rd hlen1 hcap (by have := HYL.out; omega))
        clear hE hnb HV2 HBY2 hcap hlen1
        go_wp2_with fail
        refine HGT.out.mono ?_
        intro e w3 hg
        obtain ⟨hk3, hg1, hg2⟩ := hg
        have HK3 := qh (HK2.out.trans0 hk3)
        have HY3 := qh (hk3.heap HY2.out id)
        have SZ3 := qh (Nat.le_trans HK2.out.size (Nat.le_refl _))
        clear hk3
        cases hgl : getL Y.1 with
        | none =>
          have he := hg1 hgl
          subst he
          rw [hgl] at HX
          clear hg1 hg2 hgl HGT
          have hx : X = (none, 4) := HX.out
          clear HX
          have HX := qh hx
          clear hx
          go_wp2_with (refine wl_alloc' rfl 86 rfl zRecC zeroRec ?_)
          intro z w4 z1 z2 hb4 hk4
          have HY4 := qh (hk4.heap HY3.out id)
          have HK4 := qh (HK3.out.trans0 hk4)
          have zy := heap_lt HY3.out
          refine wl_store_row rfl 86 _ _ rfl z zRecC _ rfl rfl hb4 sizeRec rfl (one_recC _ _ _ _ _) ?_
          intro w5 hb5 hk5
          have HZ5 := qh hb5
          have HY5 := qh (hk5.heap HY4.out (by omega))
          have HK5 := qh (HK4.out.new hk5 (by rintro x rfl; have := HK3.out.size; omega))
          clear hb4 hk4 hb5 hk5
          go_wp2_with (first | (refine wl_load_row rfl 86 _ rfl z rfl zRecC HZ5.out Tryz.underlying86 rfl sizeRec ?_) | (refine wl_store_row rfl 86 _ _ rfl y zRecC _ rfl rfl HY5.out sizeRec rfl (one_recC _ _ _ _ _) ?_))
          intro w6 hb6 hk6
          have HK6 := qh (HK5.out.new hk6 (by rintro x rfl; exact y1))
          have HY6 := qh hb6
          clear hb6 hk6
          go_wp2
          try simp only [Exit.inBlock, Exit.then]
          refine bodyPost_ret (results_cell_r2 rfl _ _ y _ rfl HY6.out Tryz.underlying86 rfl sizeRec) rfl ?_
          exact ReadPost.no HK6.out (by rw [HX.out]) (by rw [HX.out]; rfl)
        | some x =>
          obtain ⟨r, kk⟩ := x
          obtain ⟨A1, c1, A2, c2, he, h1, h2, h3⟩ := hg2 r kk hgl
          subst he
          rw [hgl] at HX
          have hx : X = (some r, 0) := HX.out
          clear HX
          have HX := qh hx
          have SZ := Lib.hid HK2.out.size
          have H1 := qh h1
          have H2 := qh h2
          have H3 := qh h3
          clear hg1 hg2 hgl HGT hx h1 h2 h3
          go_wp2_with (refine wl_alloc' rfl 86 rfl zRecC zeroRec ?_)
          intro z w4 z1 z2 hb4 hk4
          have HY4 := qh (hk4.heap HY3.out id)
          have HK4 := qh (HK3.out.trans0 hk4)
          have zy := heap_lt HY3.out
          refine wl_store_row rfl 86 _ _ rfl z (recC r A1 c1 A2 c2) _ rfl rfl hb4 sizeRec rfl (one_recC _ _ _ _ _) ?_
          intro w5 hb5 hk5
          have HZ5 := qh hb5
          have HY5 := qh (hk5.heap HY4.out (by omega))
          have HK5 := qh (HK4.out.new hk5 (by rintro x rfl; have := HK3.out.size; omega))
          have HA5 := qh ((H1.out.keep hk4 (fun _ _ => id)).keep hk5 (fun x hx e => by have := (H1.out.base_le hx).2; omega))
          have HB5 := qh ((H2.out.keep hk4 (fun _ _ => id)).keep hk5 (fun x hx e => by have := (H2.out.base_le hx).2; omega))
          clear hb4 hk4 hb5 hk5
          go_wp2_with (first | (refine wl_load_row rfl 86 _ rfl z rfl (recC r A1 c1 A2 c2) HZ5.out Tryz.underlying86 rfl sizeRec ?_) | (refine wl_store_row rfl 86 _ _ rfl y (recC r A1 c1 A2 c2) _ rfl rfl HY5.out sizeRec rfl (one_recC _ _ _ _ _) ?_))
          intro w6 hb6 hk6
          have HK6 := qh (HK5.out.new hk6 (by rintro x rfl; exact y1))
          have HY6 := qh hb6
          have yl := heap_lt HY2.out
          have HA6 := qh (HA5.out.keep hk6 (fun x hx e => by have := (H1.out.base_le hx).1; omega))
          have HB6 := qh (HB5.out.keep hk6 (fun x hx e => by have := (H2.out.base_le hx).1; omega))
          clear hb6 hk6
          go_wp2
          try simp only [Exit.inBlock, Exit.then]
          refine bodyPost_ret (results_cell_r2 rfl _ _ y _ rfl HY6.out Tryz.underlying86 rfl sizeRec) rfl ?_
          refine ⟨HK6.out, fun h => (by rw [HX.out] at h; cases h), fun r' hr' => ?_⟩
          rw [HX.out] at hr' ⊢
          cases hr'
          exact ⟨A1, c1, A2, c2, rfl, HA6.out.low SZ.out, HB6.out.low SZ.out, H3.out⟩
      · have hmb : (E != 0) = true := by simpa using h0
        have HX := qh (show X = (none, E) from by rw [HV2.out, if_pos h0])
        clear hE hnb HV2 HBY2 hcap hlen1
        go_wp2_with (refine wl_store_row rfl 86 _ _ rfl y zRecC _ rfl rfl HY2.out sizeRec rfl (one_recC _ _ _ _ _) ?_)
        intro w3 hb3 hk3
        have HK3 := qh (HK2.out.new hk3 (by rintro x rfl; exact y1))
        have HY3 := qh hb3
        clear hb3 hk3
        go_wp2
        try simp only [Exit.inBlock, Exit.then]
        refine bodyPost_ret (results_cell_r2 rfl _ _ y _ rfl HY3.out Tryz.underlying86 rfl sizeRec) rfl ?_
        exact ReadPost.no HK3.out (by rw [HX.out]) (by rw [HX.out]; rfl)
  · rw [HF.out, decide_eq_false hf] at HBS
    have hx : X = (none, 6) := by
      rw [HV.out, if_pos]
      by_cases h1 : L.lsns.length ≤ k
      · exact .inr h1
      · exact .inl (fun h => hf ⟨by omega, h⟩)
    have HX := qh hx
    clear hx hf HF HV
    go_wp2_with fail
    refine HTH.out.mono ?_
    rintro e wx ⟨rfl, rfl⟩
    go_wp2_with fail
    refine HBS.out.mono ?_
    rintro e wx ⟨rfl, rfl⟩
    go_wp2_with (refine wl_store_row rfl 86 _ _ rfl y zRecC _ rfl rfl HY1.out sizeRec rfl (one_recC _ _ _ _ _) ?_)
    intro w2 hb2 hk2
    have HK2 := qh (HK1.out.new hk2 (by rintro x rfl; exact y1))
    have HY2 := qh hb2
    clear hb2 hk2
    go_wp2
    try simp only [Exit.inBlock, Exit.then]
    refine bodyPost_ret (results_cell_r2 rfl _ _ y _ rfl HY2.out Tryz.underlying86 rfl sizeRec) rfl ?_
    exact ReadPost.no HK2.out (by rw [HX.out]) (by rw [HX.out]; rfl)
end Go.Proofs.YtfgagakepmigbaaGreat
namespace Go.Proofs.YtfgagakepmigbaaGreat
open Go.RowKit
def LogM.trim (L : LogM) (lsn : Int) : LogM × Int :=
  if (foundM L.lsns lsn = false ∧ lsn ≠ L.fin) ∨ L.safe < lsn then (L, 2) else ({ L with oldest := lsn, lsns := L.lsns.drop (findM L.lsns lsn) }, 0)
theorem sizeI64 (w : World) : (sizeOf ((Tryz.prog).elem 28)).run Tryz.prog w = .ok 1 w := by
  have h : ((Tryz.prog).info? ((Tryz.prog).elem 28)).map (·.size) = some 1 := by kernel_rfl
  cases hq : (Tryz.prog).info? ((Tryz.prog).elem 28) with
  | none => simp [hq] at h
  | some i =>
    have h1 : i.size = 1 := by simpa [hq] using h
    simp [sizeOf, typeInfo, hq, h1]
theorem underI64 : (Tryz.prog).underlying 28 = some (.slice ((Tryz.prog).elem 28)) := by kernel_rfl
theorem exec_slI {ev : Operand → Value} {o : Oper} (x z : Operand) (k : Nat) (ho : o.op = .slice 28 x (some z) none none) (A : Option Addr) (n c : Nat) (hI : Int) (hx : ev x = .slice A n c) (hz : ev z = .int .i64 hI) (e : hI = (k : Int)) (hk : k ≤ n) (w : World) :
    (execOp ev o).run Tryz.prog w = .ok (.value (.slice (slA A k c) (n - k) (c - k))) w := by
  subst e
  have h : (Instr.slice 28 (.slice A n c) (some (.int .i64 k)) none none).run Tryz.prog w = .ok (.slice (slA A k c) (n - k) (c - k)) w := by
    rw [run_slice_l w 28 A n c underI64 .i64 (k : Int) (by omega) (by omega), sizeI64]
    rfl
  simp only [execOp, ho, hx, hz, Option.map, Sem.run_bind, run_sliceAt_slice w 28 _ _ _ _ underI64, h, Result.andThen]
  rfl
theorem slA_block {A : Option Addr} {k c n m c' : Nat} : (Value.slice (slA A k c) n c').ownBlock = (Value.slice A m c).ownBlock := by
  unfold slA
  split
  · cases A <;> rfl
  · cases A with
    | none => rfl
    | some a =>
      show some (a.add (k * 1)).block = some a.block
      unfold Addr.add
      split <;> rfl
theorem LsV.drop {w : World} {base : Nat} {A : Option Addr} {n c : Nat} {l : List Int} (h : LsV w base (.slice A n c) l) (k : Nat) (hk : k ≤ n) : LsV w base (.slice (slA A k c) (n - k) (c - k)) (l.drop k) := by
  rcases h with ⟨h1, rfl⟩ | ⟨g, off, c', cur, h1, h2, h3, h4, h5, h6, h7⟩
  · cases h1
    have : k = 0 := by omega
    subst this
    exact .inl ⟨rfl, rfl⟩
  · cases h1
    unfold slA
    by_cases hck : c = k
    · rw [if_pos hck]
      refine .inr ⟨g, off, c - k, cur, by rw [List.length_drop], h2, h3, by rw [List.length_drop]; omega, by omega, by omega, fun j x hx => ?_⟩
      rw [List.getElem?_eq_none (by rw [List.length_drop]; omega)] at hx
      cases hx
    · rw [if_neg hck]
      refine .inr ⟨g, off + k, c - k, cur, ?_, h2, h3, by rw [List.length_drop]; omega, by omega, by omega, fun j x hx => ?_⟩
      · rw [List.length_drop, Nat.mul_one]
        show Value.slice (some ((⟨g, off, none⟩ : Addr).add k)) _ _ = _
        rw [Addr.add_mid]
      · rw [List.getElem?_drop] at hx
        rw [Nat.add_assoc]
        exact h7 _ x hx
def TrimPost (w : World) (q p ms mo : Nat) (lv tv : Value) (L : LogM) (D : DevM) (x : LogM × Int) (e : Ending) (w' : World) : Prop := e = .returned (.int .i64 x.2) ∧
  ∃ lv', LogS w' q p ms mo lv' tv x.1 D ∧ Kept (fun x => x = q) w w' ∧ lv'.ownBlock = lv.ownBlock
set_option maxRecDepth 100000 in
set_option maxHeartbeats 1600000 in
theorem trim_any (w : World) (q p ms mo : Nat) (lv tv : Value) (L : LogM) (D : DevM) (h : LogS w q p ms mo lv tv L D) (hri : Rises L.lsns) (hll : L.lsns.length ≤ 1000000000) (lsn : Int) :
    Calls Tryz.prog 84 #[.pointer (some ⟨q, 0, none⟩), .int .i64 lsn] w (TrimPost w q p ms mo lv tv L D (L.trim lsn)) := by
  obtain ⟨Al, nl, cl, hlv, hnl⟩ := h.hl.form3
  subst hlv
  obtain ⟨k, hk⟩ : ∃ k, k = findM L.lsns lsn := ⟨_, rfl⟩
  have HBS := qh (show Calls Tryz.prog 90 #[.slice Al nl cl, .int .i64 lsn] w fun e w' => e = .returned (.tuple #[.int .i64 (k : Nat), .bool (foundM L.lsns lsn)]) ∧ w = w' from by
    obtain ⟨A, c, h1, h2, h3, h4⟩ := h.hl.slice
    cases h1
    rw [hk]
    exact bsearch_any _ _ _ _ _ hri hll h4)
  have hkl : k ≤ nl := by
    rw [hk, hnl]
    unfold findM
    exact (List.takeWhile_sublist _).length_le
  obtain ⟨X, hX⟩ : ∃ X, X = L.trim lsn := ⟨_, rfl⟩
  have hv : X = if (foundM L.lsns lsn = false ∧ lsn ≠ L.fin) ∨ L.safe < lsn then (L, 2) else ({ L with oldest := lsn, lsns := L.lsns.drop k }, 0) := by rw [hX, hk]; rfl
  rw [← hX]
  have HV := qh hv
  have HTH := qh (there_some w q p _ tv L h.hq)
  have c7 : w.cell? ⟨q, 7, none⟩ = some (.slice Al nl cl) := cell_blk h.hq rfl
  have c5 : w.cell? ⟨q, 5, none⟩ = some (.int .i64 L.fin) := cell_blk h.hq rfl
  have c6 : w.cell? ⟨q, 6, none⟩ = some (.int .i64 L.safe) := cell_blk h.hq rfl
  have H := qh h
  obtain ⟨FI, hFI⟩ : ∃ FI, FI = L.fin := ⟨_, rfl⟩
  obtain ⟨SA, hSA⟩ : ∃ SA, SA = L.safe := ⟨_, rfl⟩
  obtain ⟨FO, hFO⟩ : ∃ FO, FO = foundM L.lsns lsn := ⟨_, rfl⟩
  rw [← hFI] at c5 HV
  rw [← hSA] at c6 HV
  rw [← hFO] at HBS HV
  have hk9 : k ≤ 1000000000 := by omega
  have HFI := qh hFI
  have HSA := qh hSA
  clear h hk hnl hX hv hri hll hFI hSA hFO
  by_cases hbad : (FO = false ∧ lsn ≠ FI) ∨ SA < lsn
  · have hx : X = (L, 2) := by rw [HV.out, if_pos hbad]
    have HX := qh hx
    clear hx HV
    go_enter Tryz.func84, Tryz.ntmps84
    go_wp2_with fail
    refine HTH.out.mono ?_
    rintro e wx ⟨rfl, rfl⟩
    go_wp2_with fail
    refine HBS.out.mono ?_
    rintro e wx ⟨rfl, rfl⟩
    by_cases h1 : FO = false
    · subst h1
      by_cases h2 : lsn = FI
      · have h2b : (lsn != FI) = false := by rw [h2]; simp
        have h3 : SA < lsn := by rcases hbad with ⟨_, h⟩ | h; exact absurd h2 h; exact h
        clear hbad h2
        go_wp2
        go_ret
        unfold TrimPost
        rw [HX.out]
        exact ⟨rfl, _, H.out, Kept.refl _ _, rfl⟩
      · have h2b : (lsn != FI) = true := by simpa using h2
        clear hbad h2
        go_wp2
        go_ret
        unfold TrimPost
        rw [HX.out]
        exact ⟨rfl, _, H.out, Kept.refl _ _, rfl⟩
    · have h1' : FO = true := by
        rcases Bool.eq_false_or_eq_true FO with h | h
        · exact h
        · exact absurd h h1
      subst h1'
      have h3 : SA < lsn := by rcases hbad with ⟨h, _⟩ | h; cases h; exact h
      clear hbad h1
      go_wp2
      go_ret
      unfold TrimPost
      rw [HX.out]
      exact ⟨rfl, _, H.out, Kept.refl _ _, rfl⟩
  · have hx : X = ({ L with oldest := lsn, lsns := L.lsns.drop k }, 0) := (HV.out.trans (if_neg hbad)).trans (by rw [HFI.out, HSA.out])
    have HX := qh hx
    have h3 : ¬ SA < lsn := fun h => hbad (.inr h)
    have h2 : FO = true ∨ (FO = false ∧ lsn = FI) := by
      rcases Bool.eq_false_or_eq_true FO with h | h
      · exact .inl h
      · exact .inr ⟨h, Decidable.byContradiction (fun hn => hbad (.inl ⟨h, hn⟩))⟩
    clear hx HV hbad
    have HFB := qh h2
    have hb1 : FO = false → (lsn != FI) = false := fun h => by
      rcases h2 with h2 | ⟨_, h2⟩
      · rw [h] at h2; cases h2
      · rw [h2]; simp
    clear h2
    go_enter Tryz.func84, Tryz.ntmps84
    go_wp2_with fail
    refine HTH.out.mono ?_
    rintro e wx ⟨rfl, rfl⟩
    go_wp2_with fail
    refine HBS.out.mono ?_
    rintro e wx ⟨rfl, rfl⟩
    go_upto_region 4 with fail
    go_cut [36] from 19 to 36 (fun v wx => v = .bool false ∧ w = wx)
    case first =>
      cases FO
      · have hb2 := hb1 rfl
        clear hb1
        go_wp2
        go_meet
        case rel => exact ⟨by rw [decide_eq_false (by omega : ¬ SA < lsn)], rfl⟩
      · clear hb1
        go_wp2
        go_meet
        case rel => exact ⟨by rw [decide_eq_false (by omega : ¬ SA < lsn)], rfl⟩
    case rest =>
      obtain ⟨rfl, rfl⟩ := hcut
      have HQ := Lib.hid H.out.hq
      have HQd := qh (show LogQ w.drew q p (.slice Al nl cl) tv L from H.out.hq)
      go_wp2_with fail
      refine startL 14 (fun w' => LogQ w' q p (.slice Al nl cl) tv L ∨ LogQ w' q p (.slice Al nl cl) tv { L with oldest := lsn }) (by kernel_rfl) (.inl HQd.out) (fun hH => ?_)
      simp only [List.length_cons, List.length_nil, List.replicate]
      refine tK 0 ?_ (fun w' hw' => ?_) hH ?_
      rotate_left
      · have c7 : w'.cell? ⟨q, 7, none⟩ = some (.slice Al nl cl) := (by rcases hw' with h | h; exact cell_blk h rfl; exact cell_blk h rfl)
        go_simp <;> with_reducible rfl
      simp only [Act.put, oZa, oZb, oZc]
      refine tK 1 ?_ (fun w' hw' => ?_) hH ?_
      rotate_left
      · have c7 : w'.cell? ⟨q, 7, none⟩ = some (.slice Al nl cl) := (by rcases hw' with h | h; exact cell_blk h rfl; exact cell_blk h rfl)
        go_simp <;> with_reducible rfl
      simp only [Act.put, oZa, oZb, oZc]
      refine tK 2 ?_ (fun w' hw' => ?_) hH ?_
      rotate_left
      · have c7 : w'.cell? ⟨q, 7, none⟩ = some (.slice Al nl cl) := (by rcases hw' with h | h; exact cell_blk h rfl; exact cell_blk h rfl)
        go_simp <;> with_reducible rfl
      simp only [Act.put, oZa, oZb, oZc]
      refine tK 3 ?_ (fun w' hw' => ?_) hH ?_
      rotate_left
      · have c7 : w'.cell? ⟨q, 7, none⟩ = some (.slice Al nl cl) := (by rcases hw' with h | h; exact cell_blk h rfl; exact cell_blk h rfl)
        go_simp <;> with_reducible rfl
      simp only [Act.put, oZa, oZb, oZc]
      refine tK 4 ?_ (fun w' hw' => ?_) hH ?_
      rotate_left
      · have c7 : w'.cell? ⟨q, 7, none⟩ = some (.slice Al nl cl) := (by rcases hw' with h | h; exact cell_blk h rfl; exact cell_blk h rfl)
        go_simp <;> with_reducible rfl
      simp only [Act.put, oZa, oZb, oZc]
      refine tK 5 ?_ (fun w' hw' => ?_) hH ?_
      rotate_left
      · have c7 : w'.cell? ⟨q, 7, none⟩ = some (.slice Al nl cl) := (by rcases hw' with h | h; exact cell_blk h rfl; exact cell_blk h rfl)
        go_simp <;> with_reducible rfl
      simp only [Act.put, oZa, oZb, oZc]
      refine tK 6 ?_ (fun w' hw' => ?_) hH ?_
      rotate_left
      · have c7 : w'.cell? ⟨q, 7, none⟩ = some (.slice Al nl cl) := (by rcases hw' with h | h; exact cell_blk h rfl; exact cell_blk h rfl)
        go_simp <;> with_reducible rfl
      simp only [Act.put, oZa, oZb, oZc]
      refine tK 7 ?_ (fun w' hw' => ?_) hH ?_
      rotate_left
      · have c7 : w'.cell? ⟨q, 7, none⟩ = some (.slice Al nl cl) := (by rcases hw' with h | h; exact cell_blk h rfl; exact cell_blk h rfl)
        go_simp <;> with_reducible rfl
      simp only [Act.put, oZa, oZb, oZc]
      refine takeL 8 (.slice (slA Al k cl) (nl - k) (cl - k)) rfl (by kernel_rfl) (fun _ _ _ h => h) (by rfl) (fun w' _ => exec_slI _ _ k rfl Al nl cl _ rfl rfl rfl hkl w') hH ?_
      simp only [Act.put, oZa, oZb, oZc]
      refine stepL 9 rfl (by kernel_rfl) (fun K hK => ?_)
      go_simp
      refine hK.out _ _ (fun _ => hH) (fun _ => ?_)
      simp only [oZa, oZb, oZc]
      clear hK K
      refine stepL 10 rfl (by kernel_rfl) (fun K hK => ?_)
      go_simp
      refine hK.out _ _ (fun _ => hH) (fun _ => ?_)
      simp only [oZa, oZb, oZc]
      clear hK K
      refine stepL 11 rfl (by kernel_rfl) (fun K hK => ?_)
      refine step_store1 rfl 2 _ _ (by rfl) q 4 (.int .i64 lsn) (logC p (.slice Al nl cl) tv L) (by rfl) (by rfl) HQd.out (by kernel_rfl) (by show 4 < 10; decide) rfl ?_
      intro w2 hb2 hk2
      have HQ2 := qh (show LogQ w2 q p (.slice Al nl cl) tv { L with oldest := lsn } from hb2)
      have HK2 := qh (((Kept.refl (fun x => x = q) w).drew).trans' hk2)
      clear hb2 hk2 hH
      refine hK.out _ _ (fun _ => .inr HQ2.out) (fun hH => ?_)
      simp only [Act.put, oZa, oZb, oZc]
      clear hK K
      refine stepL 12 rfl (by kernel_rfl) (fun K hK => ?_)
      go_simp
      refine hK.out _ _ (fun _ => .inr HQ2.out) (fun hH => ?_)
      simp only [oZa, oZb, oZc]
      clear hK K
      refine stepL 13 rfl (by kernel_rfl) (fun K hK => ?_)
      go_simp
      refine hK.out _ _ (fun _ => .inr HQ2.out) (fun hH => ?_)
      simp only [oZa, oZb, oZc]
      clear hK K
      refine stepL 14 rfl (by kernel_rfl) (fun K hK => ?_)
      refine step_store1 rfl 28 _ _ (by rfl) q 7 (.slice (slA Al k cl) (nl - k) (cl - k)) (logC p (.slice Al nl cl) tv { L with oldest := lsn }) (by rfl) (by rfl) HQ2.out (by kernel_rfl) (by show 7 < 10; decide) rfl ?_
      intro w3 hb3 hk3
      have HQ3 := qh (show LogQ w3 q p (.slice (slA Al k cl) (nl - k) (cl - k)) tv { L with oldest := lsn, lsns := L.lsns.drop k } from hb3)
      have HK3 := qh (HK2.out.trans' hk3)
      clear hb3 hk3
      refine hK.out _ _ (fun h => absurd rfl h) (fun _ => ?_)
      simp only [Act.put, oZa, oZb, oZc]
      clear hK K hH
      refine doneL (by kernel_rfl) ?_ _
      go_wp2
      go_ret
      unfold TrimPost
      rw [HX.out]
      have hob : (Value.slice (slA Al k cl) (nl - k) (cl - k)).ownBlock = (Value.slice Al nl cl).ownBlock := slA_block
      refine ⟨rfl, _, ⟨H.out.dev.keep HK3.out H.out.nq.1 H.out.nq.2.1 H.out.nq.2.2, HQ3.out, (H.out.hl.drop k hkl).keep HK3.out (fun x hx => (H.out.nl x (hob ▸ hx)).1), H.out.ht.keep HK3.out (fun x hx => (H.out.nt x hx).1), H.out.nq, fun x hx => H.out.nl x (hob ▸ hx), H.out.nt⟩, HK3.out, hob⟩
end Go.Proofs.YtfgagakepmigbaaGreat
