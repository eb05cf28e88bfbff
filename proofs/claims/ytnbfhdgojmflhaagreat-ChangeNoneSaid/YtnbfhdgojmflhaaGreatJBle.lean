/-
  No statement is proved here: a part of what the claim's last text rests on.
-/
import Derived.Test.YtnbfhdgojmflhaaGreatJQfl
import Derived.Test.YtnbfhdgojmflhaaGreatJBlc
namespace Go.Proofs.YtnbfhdgojmflhaaGreat
open Go.RowKit
section
variable {w w' w1 : World} {a : Adr} {P : PoolM} {L : LogM} {D : DevM}
def newPool (first blocks most : Int) : PoolM := ⟨first, blocks, most, 0, []⟩
theorem bPool (p q : Nat) (first blocks most : Int) (mb : Nat) (wz : World) : (Instr.build 107 #[(0, .pointer (some ⟨p, 0, none⟩)), (1, .pointer (some ⟨q, 0, none⟩)), (2, .int .i64 first), (3, .int .i64 blocks), (4, .int .i64 most), (6, .map (some mb))]).run Tryz.prog wz =
    .ok (.agg #[.pointer (some ⟨p, 0, none⟩), .pointer (some ⟨q, 0, none⟩), .int .i64 first, .int .i64 blocks, .int .i64 most, .slice none 0 0, .int .i64 0, .map (some mb)]) wz := run_build wz _ _ _ (by kernel_rfl)
set_option maxRecDepth 100000 in
set_option maxHeartbeats 1600000 in
theorem pnew_any {q p ms mo : Nat} {lv tv : Value} (h : LogS w q p ms mo lv tv L D) (hf : L.fin ≠ 0) {first blocks most : Int} (f0 : 0 ≤ first) (b0 : 1 ≤ blocks) (fb : first + blocks ≤ D.n) (m0 : 8 ≤ most) (m1 : most ≤ 1024) :
    Calls Tryz.prog 51 #[ptrV p, ptrV q, .int .i64 first, .int .i64 blocks, .int .i64 most] w fun e w' => ∃ a, e = .returned (ptrV a.pb) ∧ a.q = q ∧ a.p = p ∧ a.ms = ms ∧ a.mo = mo ∧ a.lv = lv ∧ a.tv = tv ∧ a.rv = .slice none 0 0 ∧ a.xs = [] ∧ w.heap.size ≤ a.pb ∧ w.heap.size ≤ a.mb ∧ PoolS w' a (newPool first blocks most) L D ∧ Kept (fun _ => False) w w' := by
  have H := Lib.hid h
  have HB := Lib.hid (blocks_any h.dev)
  have HE := Lib.hid (end_any w q p lv tv L h.hq)
  have n0 := h.dev.n0
  have n1 := h.dev.n1
  have c1 : ¬ D.n = 0 := by omega
  have c1b : (D.n == 0) = false := by rw [beq_eq_false_iff_ne]; exact c1
  have c2b : (L.fin == 0) = false := by rw [beq_eq_false_iff_ne]; exact hf
  have c3 : ¬ first < 0 := by omega
  have c4 : ¬ blocks < 1 := by omega
  have c5 : ¬ D.n < first := by omega
  have c6 : ¬ D.n - first < blocks := by omega
  have c7 : ¬ most < 8 := by omega
  have c8 : ¬ 1024 < most := by omega
  have e2 : IntKind.i64.wrap (D.n - first) = D.n - first := by rw [IntKind.wrap_i64]; omega
  have BP := fun mb => bPool p q first blocks most mb
  unfold ptrV
  clear h
  go_enter Tryz.func51, Tryz.ntmps51
  go_wp2_with fail
  refine HB.out.mono ?_
  rintro e wx ⟨rfl, rfl⟩
  go_wp2_with fail
  refine HE.out.mono ?_
  rintro e wx ⟨rfl, rfl⟩
  go_wp2_with (refine wl_makeMap rfl 105 rfl ?_)
  intro mb w1 hm0 hm1 hmm hmk
  have BP1 := BP mb
  go_wp2_with (refine wl_box rfl 107 _ rfl (.agg #[.pointer (some ⟨p, 0, none⟩), .pointer (some ⟨q, 0, none⟩), .int .i64 first, .int .i64 blocks, .int .i64 most, .slice none 0 0, .int .i64 0, .map (some mb)]) rfl ?_)
  intro pb w2 hp0 hp1 hpb hpk
  have HM := Lib.hid (hmm.kept (w' := w2) hpk id)
  have HPB := Lib.hid hpb
  have HK := Lib.hid (hmk.trans0 hpk)
  have s1 := hmk.size
  clear BP BP1 hmm hmk hpb hpk
  go_wp2
  go_ret
  have l1 := heap_lt H.out.dev.hp
  have l2 := H.out.dev.hs.lt
  have l3 := H.out.dev.ho.lt
  exact ⟨⟨pb, mb, q, p, ms, mo, lv, tv, .slice none 0 0, []⟩, rfl, rfl, rfl, rfl, rfl, rfl, rfl, rfl, rfl, by show w.heap.size ≤ pb; omega, hm0,
    ⟨H.out.keep HK.out (fun _ _ => id), HPB.out, HM.out.ext (fun n => rfl), World.ownsRow_nil _ _ _ _, (fun x hx => by cases hx), rfl, List.nodup_nil, List.nodup_nil, (fun x hx => by cases hx), ⟨by show mb ≠ ms; omega, by show mb ≠ mo; omega⟩⟩, HK.out⟩
end
end Go.Proofs.YtnbfhdgojmflhaaGreat
namespace Go.Proofs.YtnbfhdgojmflhaaGreat
open Go.RowKit
section
variable {D : DevM} {L : LogM} {R : List RecM} {B : Int → UInt8}
theorem trim_end (h : LogI D L R B) (hs : L.safe = L.fin) : L.trim L.fin = ({ L with oldest := L.fin, lsns := [] }, 0) ∧ LogI D { L with oldest := L.fin, lsns := [] } [] B := by
  have hl := h.llen
  have hfl := h.flen
  have hf : findM L.lsns L.fin = L.lsns.length := find_at _ _ _ (Nat.le_refl _) (fun t ht => by
    have hk : t < R.length := by omega
    have h1 := placesR_step h hk
    have h2 := flat_all h (k := t + 1) (by omega)
    rw [h1.1]; omega) (fun t h1 h2 => by omega)
  have hfo : foundM L.lsns L.fin = false := by unfold foundM; rw [hf]; simp
  refine ⟨?_, ?_⟩
  · unfold LogM.trim
    rw [hf, hfo, if_neg (by rintro (⟨_, h1⟩ | h1); exact h1 rfl; omega), List.drop_length]
  · refine { h with o1 := ?_, so := ?_, room := ?_, rest := ?_, tail := ?_, recs := trivial, lsns := rfl, flat := ?_, sb := ⟨0, Nat.le_refl _, ?_⟩ }
    · show 1 ≤ L.fin; have h1 := h.o1; have h2 := h.so; have h3 := h.sf; omega
    · show L.fin ≤ L.safe; omega
    · show L.fin - L.fin ≤ 408 * (L.count - 1); have := h.c4; omega
    · exact h.rest.trim (o' := L.fin) (by have h2 := h.so; have h3 := h.sf; omega) (by omega)
    · exact tail_weak (o' := L.fin) h.tail (by have h2 := h.so; have h3 := h.sf; omega)
    · show flatR [] = stB B L.fin (L.fin - L.fin).toNat
      rw [show (L.fin - L.fin).toNat = 0 by omega]
      exact (List.length_eq_zero_iff.1 (by rw [stB_len])).symm
    · show L.safe = L.fin + (flatR ([] : List RecM)).length
      rw [hs]; simp [flatR]
end
section
variable {D : DevM} {L : LogM} {R : List RecM} {B : Int → UInt8}
end
end Go.Proofs.YtnbfhdgojmflhaaGreat
namespace Go.Proofs.YtnbfhdgojmflhaaGreat
open Go.RowKit
section
variable {P P' P0 : PoolM} {L L' L0 : LogM} {D D' D0 : DevM} {R R' T : List RecM} {b b0 : BkM} {cur was : Int → Bytes} {N : Int}
theorem core_force (h : CoreI P L D R) : ∃ D', L.force D = (madeSafe L, D', 0) ∧ CoreI P (madeSafe L) D' R ∧ CoreK P L D P (madeSafe L) D' ∧ (∀ p, 0 ≤ p → p < P.blocks → P.cur D' p = P.cur D p) := by
  obtain ⟨B, hL⟩ := h.li
  obtain ⟨D', f1, f2, f3, f4, f5, f6⟩ := force_well hL h.calm
  obtain ⟨m1, m2, m3, m4, m5, m6, m7⟩ := madeSafe_fld L
  have hpi := h.pi
  have hn := h.n24
  have hlf := h.lf
  have hlc := h.lc
  have hpf := h.pf
  have hpb := h.pb
  have hlat : ∀ p, 0 ≤ p → p < P.blocks → D'.latest (P.first + p) = D.latest (P.first + p) := fun p h0 h1 => f5 _ (by omega)
  refine ⟨D', f1, ⟨⟨B, f4⟩, ⟨hpi.f0, hpi.b1, by rw [f3]; exact hpi.fn, by rw [f3]; exact hpi.dn, by rw [m1, m2]; exact hpi.ap, hpi.m8, hpi.m1, hpi.len, hpi.h0, hpi.h1, hpi.nd, fun f hf => ?_⟩, f2, h.free, h.pf, by rw [f3]; exact h.pb, by rw [f3, m1]; exact h.lf, by rw [f3, m2]; exact h.lc, by rw [f3]; exact h.n24, by rw [f3]; exact h.n64⟩, ⟨f3, m4, m3, f5 0 (by omega), f5 1 (by omega)⟩, fun p h0 h1 => ?_⟩
  · have hff := hpi.fr f hf
    exact ⟨hff.1, hff.2.1, hff.2.2.1, hff.2.2.2.1, hff.2.2.2.2.1, by rw [m5]; exact hff.2.2.2.2.2.1, fun hd => by rw [hlat _ hff.1 hff.2.1]; exact hff.2.2.2.2.2.2.1 hd, hff.2.2.2.2.2.2.2⟩
  · unfold PoolM.cur
    cases P.ring[P.at p]? with
    | none => exact hlat p h0 h1
    | some f => rfl
theorem room_safe (L : LogM) : (madeSafe L).room = L.room := by
  obtain ⟨m1, m2, m3, m4, m5, m6, m7⟩ := madeSafe_fld L
  unfold LogM.room; rw [m2, m4, m5]
theorem core_flush (h : CoreI P L D R) : ∃ P' L' D', flushM P L D = (P', L', D', 0) ∧ CoreI P' L' D' R ∧ CoreK P L D P' L' D' ∧ Like P L D P' L' D' ∧ (∀ p, 0 ≤ p → p < P.blocks → P'.cur D' p = P.cur D p) ∧ (∀ f ∈ P'.ring, f.dirty = false) ∧ (∀ k, D'.opn k = none) ∧ (∀ p, 0 ≤ p → p < P.blocks → D'.latest (P.first + p) = P.cur D p) := by
  obtain ⟨B, hL⟩ := h.li
  obtain ⟨P', L', D', e, h4, h5, h6, h7, h8, h9, h10⟩ := flush_well h.pi hL h.calm
  have hl := h7.like
  have hp := h.pf
  have hlf := h.lf
  have hn := h.n24
  exact ⟨P', L', D', e, ⟨⟨B, h5⟩, h4, h6, fun p => by rw [h7.held]; exact h.free p, hl.pf.trans h.pf, by rw [hl.pb, hl.n]; exact h.pb, by rw [hl.lf, hl.n]; exact h.lf, by rw [hl.lc, hl.n]; exact h.lc, by rw [hl.n]; exact h.n24, by rw [hl.n]; exact h.n64⟩, ⟨hl.n, hl.lo, hl.lt, h7.out 0 (by omega) (by omega), h7.out 1 (by omega) (by omega)⟩, hl, h7.cur, h8, h9, h10⟩
theorem core_dev (h : CoreI P L D R) (hc : Calm D') (hn : D'.n = D.n) (hl : ∀ k, 2 ≤ k → D'.latest k = D.latest k) (hlen : ∀ k, (D'.latest k).length = 512) (ho : ∀ k, D'.opn k = none) : CoreI P L D' R ∧ ∀ p, 0 ≤ p → P.cur D' p = P.cur D p := by
  obtain ⟨B, hL⟩ := h.li
  have hlf := h.lf
  have hpf := h.pf
  have h24 := h.n24
  have hsg : ∀ k, (D'.safeG k).length = 512 := fun k => by rw [safeG_none (ho k)]; exact hlen k
  have hpi := h.pi
  have hlat : ∀ p, 0 ≤ p → D'.latest (P.first + p) = D.latest (P.first + p) := fun p h0 => hl _ (by omega)
  refine ⟨⟨⟨B, hL.dev hn hc.d hlen hsg fun k h1 _ => ⟨hl k (by omega), ho k⟩⟩, ⟨hpi.f0, hpi.b1, by rw [hn]; exact hpi.fn, by rw [hn]; exact hpi.dn, hpi.ap, hpi.m8, hpi.m1, hpi.len, hpi.h0, hpi.h1, hpi.nd, fun f hf => ?_⟩, hc, h.free, h.pf, by rw [hn]; exact h.pb, by rw [hn]; exact h.lf, by rw [hn]; exact h.lc, by rw [hn]; exact h.n24, by rw [hn]; exact h.n64⟩, fun p h0 => ?_⟩
  · have hff := hpi.fr f hf
    exact ⟨hff.1, hff.2.1, hff.2.2.1, hff.2.2.2.1, hff.2.2.2.2.1, hff.2.2.2.2.2.1, fun hd => by rw [hlat _ hff.1]; exact hff.2.2.2.2.2.2.1 hd, hff.2.2.2.2.2.2.2⟩
  · unfold PoolM.cur
    cases P.ring[P.at p]? with
    | none => exact hlat p h0
    | some f => rfl
theorem core_trim (h : CoreI P L D R) (hs : L.safe = L.fin) : ∃ L', L.trim L.fin = (L', 0) ∧ CoreI P L' D [] ∧ L'.fin = L.fin ∧ L'.room = D.n / 2 * 408 - 408 ∧ L'.turn = L.turn ∧ L'.oldest = L.fin := by
  obtain ⟨B, hL⟩ := h.li
  obtain ⟨t1, t2⟩ := trim_end hL hs
  have hpi := h.pi
  refine ⟨_, t1, ⟨⟨B, t2⟩, ⟨hpi.f0, hpi.b1, hpi.fn, hpi.dn, hpi.ap, hpi.m8, hpi.m1, hpi.len, hpi.h0, hpi.h1, hpi.nd, hpi.fr⟩, h.calm, h.free, h.pf, h.pb, h.lf, h.lc, h.n24, h.n64⟩, rfl, ?_, rfl, rfl⟩
  show L.count * 408 - 408 - (L.fin - L.fin) = _
  rw [h.lc]; omega
structure NumB (b : BkM) : Prop where
  tx : isI b.tx
  last : isI b.last
  o0 : 0 ≤ b.owed
  o1 : b.owed ≤ 1000000000
  dl : b.done.length ≤ 1000000
structure BkA where
  n : Int
  now : Int → Bytes
  was : Int → Bytes
  inT : Bool
  room : Int
  owed : Int
  chg : Nat
def BkA.pages (S : BkA) : Int := S.n - 2 - S.n / 2
structure BookI (g : Nat) (S : BkA) (b : BkM) (P : PoolM) (L : LogM) (D : DevM) : Prop where
  n : D.n = S.n
  bt : b.inT = S.inT
  cnt : b.count = S.n / 2
  num : NumB b
  cur : ∀ p, 0 ≤ p → p < S.pages → P.cur D p = S.now p
  room : L.room = S.room
  fin : L.fin ≤ 100000000 * ((g : Int) + 1)
  mas : ∃ m, readMas D = (m, 0) ∧ m.may ∧ m.seq ≤ g + 10
  rest : ∃ R, CoreI P L D R ∧ (S.inT = true → ∃ T, TxI b P.blocks L R T (P.cur D) S.was ∧ b.owed = S.owed ∧ S.owed = 35 + owesM T ∧ S.owed ≤ S.room ∧ T.length = S.chg)
theorem BookI.pages {g : Nat} {S : BkA} (h : BookI g S b P L D) : P.blocks = S.pages := by
  obtain ⟨R, hc, -⟩ := h.rest
  have := h.n
  unfold BkA.pages
  rw [hc.pb, this]
theorem BookI.len {g : Nat} {S : BkA} (h : BookI g S b P L D) {p : Int} (h0 : 0 ≤ p) (h1 : p < S.pages) : (S.now p).length = 512 := by
  obtain ⟨R, hc, -⟩ := h.rest
  rw [← h.cur p h0 h1]; exact hc.curLen p
theorem BookI.up {g g' : Nat} {S : BkA} (h : BookI g S b P L D) (hg : g ≤ g') : BookI g' S b P L D := by
  have := h.fin
  obtain ⟨m, m1, m2, m3⟩ := h.mas
  exact { h with fin := by omega, mas := ⟨m, m1, m2, by omega⟩ }
def BkA.begin (S : BkA) : BkA × Int := if S.inT = true then (S, 7) else ({ S with inT := true, was := S.now, owed := 35, chg := 0, room := if S.room < S.n / 2 * 204 then S.n / 2 * 408 - 408 else S.room }, 0)
def cstD (a d : Bytes) : Int := costM (recsM 0 a d)
def owsD (a d : Bytes) : Int := owesM (recsM 0 a d)
theorem cst_page (p : Int) (a d : Bytes) : costM (recsM p a d) = cstD a d ∧ owesM (recsM p a d) = owsD a d := by
  unfold cstD owsD recsM
  induction diffM a d with
  | nil => exact ⟨rfl, rfl⟩
  | cons s l ih =>
    simp only [List.map_cons, costM, owesM]
    rw [ih.1, ih.2]
    exact ⟨rfl, rfl⟩
def updP (f : Int → Bytes) (p : Int) (d : Bytes) : Int → Bytes := fun q => if q = p then d else f q
def BkA.put (S : BkA) (p : Int) (d : Bytes) : BkA × Int :=
  if S.inT = false then (S, 7) else if p < 0 ∨ S.pages ≤ p then (S, 6) else if d.length ≠ 512 then (S, 2) else
  if S.room < cstD (S.now p) d + (S.owed + owsD (S.now p) d) then (S, 5) else
  ({ S with now := updP S.now p d, room := S.room - cstD (S.now p) d, owed := S.owed + owsD (S.now p) d, chg := S.chg + (diffM (S.now p) d).length }, 0)
def BkA.commit (S : BkA) : BkA × Int := if S.inT = false then (S, 7) else ({ S with inT := false, room := S.room - 35, chg := 0 }, 0)
def BkA.abort (S : BkA) : BkA × Int := if S.inT = false then (S, 7) else ({ S with inT := false, now := S.was, room := S.room - S.owed, chg := 0 }, 0)
theorem BookI.frame {g : Nat} {S : BkA} (h : BookI g S b P L D) {page : Int} (p0 : 0 ≤ page) (p1 : page < S.pages) :
    ∃ P' L' D' i f, frameM P L D page = (P', L', D', i, 0) ∧ P'.ring[i]? = some f ∧ f.b = S.now page ∧ BookI g S b P' L' D' := by
  obtain ⟨R, hc, ht⟩ := h.rest
  obtain ⟨P', L', D', i, f, e, h1, h2, h3, h4, h5, h6, h7⟩ := core_frame hc p0 (by rw [h.pages]; exact p1)
  have hpb := h6.pb
  have hcur : ∀ p, 0 ≤ p → p < S.pages → P'.cur D' p = S.now p := fun p q0 q1 => by rw [h7 p q0 (by rw [h.pages]; exact q1)]; exact h.cur p q0 q1
  have hroom : L'.room = L.room := by unfold LogM.room; rw [h6.lc, h6.fin, h6.lo]
  refine ⟨P', L', D', i, f, e, h1, by rw [h3]; exact h.cur page p0 p1, ⟨h5.n.trans h.n, h.bt, h.cnt, h.num, hcur, hroom.trans h.room, by rw [h6.fin]; exact h.fin, ?_, R, h4, fun hT => ?_⟩⟩
  · obtain ⟨m, m1, m2⟩ := h.mas
    exact ⟨m, by rw [readMas_congr (h4.calm.d.trans hc.calm.d.symm) h5.b0 h5.b1]; exact m1, m2⟩
  · obtain ⟨T, t1, t2⟩ := ht hT
    refine ⟨T, ⟨t1.tx0, by rw [h6.fin]; exact t1.tx1, t1.l0, by rw [h6.fin]; exact t1.l1, t1.done, fun r hr => (t1.has r hr).lsns h6.lsns, fun r hr => ?_, fun p q0 q1 => ?_⟩, t2⟩
    · rw [hpb, h6.fin]; exact t1.ok r hr
    · rw [hpb] at q1
      rw [← t1.und p q0 q1]
      exact undo_congr T (N := P.blocks) h7 p q0 q1
end
end Go.Proofs.YtnbfhdgojmflhaaGreat
namespace Go.Proofs.YtnbfhdgojmflhaaGreat
open Go.RowKit
section
variable {w w' : World} {x : BAdr} {P P' P0 : PoolM} {L L' L0 : LogM} {D D' D0 : DevM} {R R' T : List RecM} {b b0 : BkM} {cur was : Int → Bytes} {N : Int}
theorem recs_len (p : Int) (a d : Bytes) : (recsM p a d).length = (diffM a d).length := by unfold recsM; rw [List.length_map]
theorem PutS.num {page : Int} {a d : Bytes} {nT k : Nat} (h : PutS P0 L0 D0 b0 page a d was nT k b P L D R T) (hr : b.owed ≤ L.room) : NumB b := by
  have h1 := h.tx
  have h2 := h.c.room
  have h3 := h.ow
  have h4 := owesM_nn T
  have h5 := h1.len
  obtain ⟨B, hL⟩ := h.c.li
  have h6 := hL.fm
  exact ⟨isI_fin h1.tx0 h1.tx1 h6, isI_fin h1.l0 h1.l1 h6, by omega, by omega, by omega⟩
theorem put_well {g : Nat} {S : BkA} (h : BookI g S b P L D) (hg : g ≤ 1000000000) (page : Int) (d : Bytes) :
    (∃ b' P' L' D', putM b P L D page d = (b', P', L', D', (S.put page d).2) ∧ BookI (g + 1) (S.put page d).1 b' P' L' D') ∧
    ((frameM P L D page).2.2.2.2 = 0 → LogOk (frameM P L D page).2.1 ∧ -1000000000 ≤ (frameM P L D page).2.1.room ∧ (frameM P L D page).2.1.room ≤ 1000000000) ∧
    (b.inT = true → d.length = 512 → (frameM P L D page).2.2.2.2 = 0 → ¬ (frameM P L D page).2.1.room < costM (recsM page (frameB (frameM P L D page)) d) + (b.owed + owesM (recsM page (frameB (frameM P L D page)) d)) → ∃ J, PutJ (recsM page (frameB (frameM P L D page)) d) J ∧ J 0 b (frameM P L D page).1 (frameM P L D page).2.1 (frameM P L D page).2.2.1) := by
  have hp := h.pages
  by_cases hpg : page < 0 ∨ S.pages ≤ page
  · have hf : frameM P L D page = (P, L, D, 0, 6) := by unfold frameM; rw [if_pos (by rw [hp]; exact hpg)]
    refine ⟨?_, fun hc => by rw [hf] at hc; exact absurd (show (6 : Int) = 0 from hc) (by decide), fun _ _ hc => by rw [hf] at hc; exact absurd (show (6 : Int) = 0 from hc) (by decide)⟩
    unfold putM BkA.put
    rw [h.bt]
    by_cases c : S.inT = false
    · rw [if_pos c, if_pos c]; exact ⟨b, P, L, D, rfl, h.up (by omega)⟩
    · rw [if_neg c, if_neg c, if_pos (by rw [hp]; exact hpg), if_pos hpg]; exact ⟨b, P, L, D, rfl, h.up (by omega)⟩
  · have p0 : 0 ≤ page := by omega
    have p1 : page < S.pages := by omega
    obtain ⟨P1, L1, D1, i, f, hf, h1, h2, h3⟩ := h.frame p0 p1
    have hfb : frameB (P1, L1, D1, i, (0 : Int)) = S.now page := by unfold frameB; dsimp only; rw [h1]; exact h2
    obtain ⟨R, hc, ht⟩ := h3.rest
    have hro := hc.room
    have hnum := h.num
    have hfin := h3.fin
    rw [hf, hfb]
    dsimp only
    have hla := h.len p0 p1
    obtain ⟨q1, q2⟩ := cst_page page (S.now page) d
    have hpg3 := h3.pages
    have hgo : S.inT = true → d.length = 512 → ¬ S.room < cstD (S.now page) d + (S.owed + owsD (S.now page) d) → ∃ J : Nat → BkM → PoolM → LogM → DevM → Prop, PutJ (recsM page (S.now page) d) J ∧ J 0 b P1 L1 D1 ∧ ∃ b' P' L' D', putAll (recsM page (S.now page) d) b P1 L1 D1 = (b', P', L', D', 0) ∧
        BookI (g + 1) ({ S with now := updP S.now page d, room := S.room - cstD (S.now page) d, owed := S.owed + owsD (S.now page) d, chg := S.chg + (diffM (S.now page) d).length }) b' P' L' D' := by
      intro hT hd hrm
      obtain ⟨T, t1, t2, t3, t4, t5⟩ := ht hT
      have hTn := owesM_nn T
      have hr1 : L1.room = S.room := h3.room
      have hcost : costM (recsM page (S.now page) d) + (b.owed + owesM (recsM page (S.now page) d)) ≤ L1.room := by rw [q1, q2, t2, hr1]; omega
      have hfin2 : L1.fin ≤ 2000000000000000000 := by omega
      have hstep := fun (k : Nat) (b' : BkM) (P' : PoolM) (L' : LogM) (D' : DevM) (r : RecM) (R' T' : List RecM) (hS : PutS P1 L1 D1 b page (S.now page) d S.was S.chg k b' P' L' D' R' T') (hr : (recsM page (S.now page) d)[k]? = some r) =>
        put_step (b0 := b) p0 (by rw [hpg3]; exact p1) hla hd hfin2 ⟨hro.2.2.1, hro.2.2.2.2⟩ hcost hnum.o0 hS hr
      have h0 : PutS P1 L1 D1 b page (S.now page) d S.was S.chg 0 b P1 L1 D1 R T := by
        refine ⟨hc, .refl _ _ _, rfl, t1, by rw [h.bt]; exact hT, rfl, fun p z0 z1 => ?_, by simp [costM], by simp [owesM], by simpa using t5, by rw [t2, t3]⟩
        rw [List.take_zero, mix_nil d hla]
        by_cases c : p = page
        · rw [if_pos c, c]; exact h3.cur page p0 p1
        · rw [if_neg c]
      have hroomk : ∀ (k : Nat) (b' : BkM) (P' : PoolM) (L' : LogM) (D' : DevM) (R' T' : List RecM), PutS P1 L1 D1 b page (S.now page) d S.was S.chg k b' P' L' D' R' T' → b'.owed ≤ L'.room := by
        intro k b' P' L' D' R' T' hS
        have app : ∀ x y : List RecM, costM (x ++ y) = costM x + costM y ∧ owesM (x ++ y) = owesM x + owesM y := by
          intro x y
          induction x with
          | nil => simp [costM, owesM]
          | cons z x ih => simp only [List.cons_append, costM, owesM, ih.1, ih.2]; omega
        have hnn : ∀ l : List RecM, 0 ≤ costM l ∧ 0 ≤ owesM l := by
          intro l
          induction l with
          | nil => simp [costM, owesM]
          | cons z l ih => simp only [costM, owesM]; omega
        have e := app ((recsM page (S.now page) d).take k) ((recsM page (S.now page) d).drop k)
        rw [List.take_append_drop] at e
        have e1 := hnn ((recsM page (S.now page) d).drop k)
        have e2 := hS.room
        have e3 := hS.owed
        omega
      obtain ⟨J, hJ⟩ : ∃ J : Nat → BkM → PoolM → LogM → DevM → Prop, J = fun k b' P' L' D' => ∃ R' T', PutS P1 L1 D1 b page (S.now page) d S.was S.chg k b' P' L' D' R' T' := ⟨_, rfl⟩
      refine ⟨J, ⟨fun k b' P' L' D' r hS hr => ?_, fun k b' P' L' D' r hS hr _ => ?_⟩, by rw [hJ]; exact ⟨R, T, h0⟩, ?_⟩
      · rw [hJ] at hS
        obtain ⟨R', T', hS⟩ := hS
        have hn := hS.num (hroomk k b' P' L' D' R' T' hS)
        exact ⟨hS.c.bkg, ⟨hn.tx, hn.last⟩, hn.dl, ⟨hn.o0, hn.o1⟩, (hstep k b' P' L' D' r R' T' hS hr).2.2⟩
      · rw [hJ] at hS ⊢
        obtain ⟨R', T', hS⟩ := hS
        exact (hstep k b' P' L' D' r R' T' hS hr).2.1
      · obtain ⟨b', P', L', D', e1, R', T', e2⟩ := putAll_end (rs := recsM page (S.now page) d) (J := fun k b' P' L' D' => ∃ R' T', PutS P1 L1 D1 b page (S.now page) d S.was S.chg k b' P' L' D' R' T') (fun k b' P' L' D' r hS hr => by
          obtain ⟨R', T', hS⟩ := hS
          have hst := hstep k b' P' L' D' r R' T' hS hr
          exact ⟨hst.1, hst.2.1⟩) (recsM page (S.now page) d).length 0 b P1 L1 D1 (by omega) ⟨R, T, h0⟩
        rw [List.drop_zero] at e1
        refine ⟨b', P', L', D', e1, ?_⟩
        have hrm2 := hroomk _ _ _ _ _ _ _ e2
        have hro2 := e2.room
        have how2 := e2.owed
        rw [List.take_length, q1] at hro2
        rw [List.take_length, q2] at how2
        have hk := e2.kp
        have hbl := e2.bl
        have hR2 := e2.c.room
        have hko := hk.o
        have hkn := hk.n
        refine ⟨hk.n.trans h3.n, e2.inT.trans hT.symm, e2.cnt.trans h.cnt, e2.num hrm2, fun p z0 z1 => ?_, by rw [hro2, hr1], ?_, ?_, R', e2.c, fun _ => ⟨T', ?_, ?_, ?_, ?_, ?_⟩⟩
        · rw [e2.cur p z0 (by rw [hpg3]; exact z1), recs_len, List.take_length, mix_all hd (diffM_good _ _)]
          show (if p = page then d else P1.cur D1 p) = if p = page then d else S.now p
          by_cases c : p = page
          · rw [if_pos c, if_pos c]
          · rw [if_neg c, if_neg c]; exact h3.cur p z0 z1
        · omega
        · obtain ⟨m, m1, m2, m3⟩ := h3.mas
          exact ⟨m, by rw [readMas_congr (e2.c.calm.d.trans hc.calm.d.symm) hk.b0 hk.b1]; exact m1, m2, by omega⟩
        · rw [hbl]; exact e2.tx
        · rw [how2, t2]
        · show S.owed + owsD (S.now page) d = _
          rw [← e2.ow, how2, t2]
        · show S.owed + owsD (S.now page) d ≤ S.room - cstD (S.now page) d
          omega
        · rw [e2.nT, recs_len]
    have hTb : b.inT = S.inT := h.bt
    refine ⟨?_, fun _ => ⟨hc.g.ok, by omega, by omega⟩, fun hT hd _ hrm => ?_⟩
    · unfold putM BkA.put
      rw [hTb]
      by_cases c : S.inT = false
      · rw [if_pos c, if_pos c]; exact ⟨b, P, L, D, rfl, h.up (by omega)⟩
      · rw [if_neg c, if_neg c, if_neg (by rw [hp]; exact hpg), if_neg hpg]
        have hT : S.inT = true := by simpa using c
        by_cases c2 : d.length ≠ 512
        · rw [if_pos c2, if_pos c2]; exact ⟨b, P, L, D, rfl, h.up (by omega)⟩
        · rw [if_neg c2, if_neg c2, hf]
          dsimp only
          rw [if_neg (fun hz => hz rfl), hfb, q1, q2, h3.room]
          obtain ⟨T, t1, t2, -⟩ := ht hT
          rw [t2]
          by_cases c3 : S.room < cstD (S.now page) d + (S.owed + owsD (S.now page) d)
          · rw [if_pos c3, if_pos c3]
            exact ⟨b, P1, L1, D1, rfl, h3.up (by omega)⟩
          · rw [if_neg c3, if_neg c3]
            obtain ⟨J, _, _, b', P', L', D', e1, e2⟩ := hgo hT (by omega) c3
            exact ⟨b', P', L', D', e1, e2⟩
    · have hT' : S.inT = true := by rw [← hTb]; exact hT
      obtain ⟨T, t1, t2, -⟩ := ht hT'
      rw [q1, q2, t2, h3.room] at hrm
      obtain ⟨J, j1, j2, -⟩ := hgo hT' hd hrm
      exact ⟨J, j1, j2⟩
def BkW (w : World) (x : BAdr) (S : BkA) (g : Nat) : Prop := ∃ b P L D, BookS w x b P L D ∧ BookI g S b P L D
theorem BkW.keep0 {S : BkA} {g : Nat} (h : BkW w x S g) (hk : Kept (fun _ => False) w w') : BkW w' x S g := by
  obtain ⟨b, P, L, D, h1, h2⟩ := h
  exact ⟨b, P, L, D, h1.keep0 hk, h2⟩
theorem BkW.keep {S : BkA} {g : Nat} {K : Nat → Prop} (h : BkW w x S g) (hk : Kept K w w') (hn : ∀ z, x.K z → ¬ K z) : BkW w' x S g := by
  obtain ⟨b, P, L, D, h1, h2⟩ := h
  exact ⟨b, P, L, D, h1.keep hk hn, h2⟩
theorem BookI.bkg {g : Nat} {S : BkA} (h : BookI g S b P L D) : BkG P L D := by obtain ⟨R, hc, -⟩ := h.rest; exact hc.bkg
def APost (w : World) (x : BAdr) (V : BkA × Int) (g : Nat) (e : Ending) (w' : World) : Prop := e = .returned (.int .i64 V.2) ∧ ∃ x', BTo w x w' x' ∧ BkW w' x' V.1 g
theorem aput_any {S : BkA} {g : Nat} (h : BkW w x S g) (hg : g ≤ 1000000000) (page : Int) (A : Option Addr) (c : Nat) (data : Bytes) (hrd : RdB w A data) (hmK : ∀ b o, A = some ⟨b, o, none⟩ → b < w.heap.size → ¬ x.K b) (hc : data.length ≤ c) (hc2 : c ≤ 9223372036854775807) (hdl : data.length ≤ 1000000) (hpg : isI page) :
    Calls Tryz.prog 23 #[ptrV x.bk, .int .i64 page, .slice A data.length c] w (APost w x (S.put page data) (g + 1)) := by
  obtain ⟨b, P, L, D, h1, h2⟩ := h
  obtain ⟨⟨b', P', L', D', v1, v2⟩, v3, v4⟩ := put_well h2 hg page data
  have hn := h2.num
  refine (bput_any h1 h2.bkg page A c data hrd hmK hc hc2 hdl hpg ⟨hn.o0, hn.o1⟩ v3 v4).mono ?_
  rintro e w' ⟨e1, x', e2, e3⟩
  rw [v1] at e1 e3
  exact ⟨e1, x', e2, b', P', L', D', e3, v2⟩
def APagePost (w : World) (x : BAdr) (S : BkA) (g : Nat) (page : Int) (e : Ending) (w' : World) : Prop := ∃ x', BTo w x w' x' ∧ BkW w' x' S g ∧
  ((page < 0 ∨ S.pages ≤ page) ∧ e = .returned (.tuple #[.slice none 0 0, .int .i64 6]) ∨
    (0 ≤ page ∧ page < S.pages) ∧ ∃ y c, (S.now page).length = 512 ∧ e = .returned (.tuple #[.slice (some ⟨y, 0, none⟩) 512 c, .int .i64 0]) ∧ OwnB w' w.heap.size y c (S.now page) ∧ ¬ x'.K y)
theorem apage_any {S : BkA} {g : Nat} (h : BkW w x S g) (page : Int) : Calls Tryz.prog 22 #[ptrV x.bk, .int .i64 page] w (APagePost w x S g page) := by
  obtain ⟨b, P, L, D, h1, h2⟩ := h
  refine (bpage_any h1 h2.bkg page).mono ?_
  rintro e w' ⟨e1, e2⟩
  have hp := h2.pages
  by_cases hpg : page < 0 ∨ S.pages ≤ page
  · have hf : frameM P L D page = (P, L, D, 0, 6) := by unfold frameM; rw [if_pos (by rw [hp]; exact hpg)]
    rw [hf] at e1
    obtain ⟨r1, x', r2, r3⟩ := e1 (show (6 : Int) ≠ 0 by decide)
    exact ⟨x', r2, ⟨b, P, L, D, r3, h2⟩, .inl ⟨hpg, r1⟩⟩
  · have p0 : 0 ≤ page := by omega
    have p1 : page < S.pages := by omega
    obtain ⟨P1, L1, D1, i, f, hf, q1, q2, q3⟩ := h2.frame p0 p1
    rw [hf] at e2
    obtain ⟨x', f', y, c, r1, r2, r3, r4, r5, r6, r7⟩ := e2 rfl
    dsimp only at r3
    rw [q1] at r3
    have ef : f' = f := (Option.some.inj r3).symm
    rw [ef, q2] at r6
    exact ⟨x', r1, ⟨b, P1, L1, D1, r2, q3⟩, .inr ⟨⟨p0, p1⟩, y, c, h2.len p0 p1, r5, r6, r7⟩⟩
theorem apages_any {S : BkA} {g : Nat} (h : BkW w x S g) : Calls Tryz.prog 21 #[ptrV x.bk] w fun e w' => e = .returned (.int .i64 S.pages) ∧ w = w' := by
  obtain ⟨b, P, L, D, h1, h2⟩ := h
  rw [← h2.pages]
  exact bpages_any h1
theorem ain_any {S : BkA} {g : Nat} (h : BkW w x S g) : Calls Tryz.prog 30 #[ptrV x.bk] w fun e w' => e = .returned (.bool S.inT) ∧ w = w' := by
  obtain ⟨b, P, L, D, h1, h2⟩ := h
  rw [← h2.bt]
  exact bin_any h1
end
end Go.Proofs.YtnbfhdgojmflhaaGreat
