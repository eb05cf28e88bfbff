/-
  No statement is proved here.
-/
import Derived.Test.YtfgagakepmigbaaGreatJBlb
import Derived.Test.YtfgagakepmigbaaGreatJQfl
namespace Go.Proofs.YtfgagakepmigbaaGreat
open Go.RowKit
theorem enc_size (r : RecM) : (encM r).length = 35 + (if r.kind = 2 then 8 else 0) + (if r.new = [] then 0 else 8 + r.old.length + r.new.length) := by
  rw [encM_len]
  unfold bodyM
  by_cases h1 : r.kind = 2 <;> by_cases h2 : r.new = [] <;> simp [h1, h2, beN_len] <;> omega
theorem layO_over {b m : Bytes} {k : Nat} (h : k + m.length ≤ b.length) : layO b k m = over b k m := by
  unfold layO over
  rw [List.take_of_length_le (show m.length ≤ b.length - k by omega), List.append_assoc]
theorem bAt_layO {b m : Bytes} {k j : Nat} (h : k + m.length ≤ b.length) (hj : j < b.length) : bAt (layO b k m) j = if k ≤ j ∧ j < k + m.length then bAt m (j - k) else bAt b j := by
  rw [layO_over h]; exact bAt_over h hj
theorem layO_back {b m m' : Bytes} {k : Nat} (h : k + m.length ≤ b.length) (hl : m'.length = m.length) (hm : ∀ j, j < m'.length → bAt m' j = bAt b (k + j)) : layO (layO b k m) k m' = b := by
  have h1 := layO_len h
  have h2 : k + m'.length ≤ (layO b k m).length := by omega
  refine bytes_ext (by rw [layO_len h2, h1]) fun j hj => ?_
  rw [layO_len h2] at hj
  rw [bAt_layO h2 hj]
  by_cases c : k ≤ j ∧ j < k + m'.length
  · rw [if_pos c, hm _ (by omega)]
    congr 1; omega
  · rw [if_neg c, bAt_layO h (by omega), if_neg (by omega)]
def bwdR (r : RecM) (f : Int → Bytes) : Int → Bytes := fun p => if p = r.blk then layO (f p) r.off.toNat r.old else f p
def undoAll : List RecM → (Int → Bytes) → Int → Bytes
  | [], f => f
  | r :: rs, f => undoAll rs (bwdR r f)
theorem undo_congr {N : Int} : ∀ (T : List RecM) {f g : Int → Bytes}, (∀ p, 0 ≤ p → p < N → f p = g p) → ∀ p, 0 ≤ p → p < N → undoAll T f p = undoAll T g p
  | [], _, _, h => h
  | r :: rs, f, g, h => undo_congr rs (fun p h0 h1 => by unfold bwdR; rw [h p h0 h1])
theorem owesM_nn : ∀ T : List RecM, 0 ≤ owesM T ∧ 51 * (T.length : Int) ≤ owesM T
  | [] => by simp [owesM]
  | r :: rs => by
    have h := owesM_nn rs
    simp only [owesM, List.length_cons]
    omega
structure TxI (b : BkM) (N : Int) (L : LogM) (R T : List RecM) (cur was : Int → Bytes) : Prop where
  tx0 : 0 ≤ b.tx
  tx1 : b.tx ≤ L.fin
  l0 : 0 ≤ b.last
  l1 : b.last ≤ L.fin
  done : b.done = (T.map (·.lsn)).reverse
  has : ∀ r ∈ T, LogHas L R r
  ok : ∀ r ∈ T, fitsM r ∧ r.old.length = r.new.length ∧ r.blk < N ∧ 1 ≤ r.lsn ∧ r.lsn ≤ L.fin
  und : ∀ p, 0 ≤ p → p < N → undoAll T cur p = was p
theorem isI_fin {n f : Int} (h0 : 0 ≤ n) (h1 : n ≤ f) (h2 : f ≤ 3000000000000000000) : isI n := by unfold isI; omega
section
variable {P P' P0 : PoolM} {L L' L0 : LogM} {D D' D0 : DevM} {R R' T : List RecM} {b b0 : BkM} {cur was : Int → Bytes} {N : Int}
theorem TxI.len (h : TxI b N L R T cur was) : b.done.length = T.length := by rw [h.done]; simp
theorem TxI.push (h : TxI b N L R T cur was) {r r' : RecM} (hl : L.lsns.length = R.length) (hL : L'.lsns = L.lsns ++ [L.fin]) (he : r' = b.recL L r) (h1 : 1 ≤ L.fin) (hf : L.fin ≤ L'.fin) (hfit : fitsM r) (hon : r.old.length = r.new.length) (hb : r.blk < N) {cur' : Int → Bytes}
    (hcur : ∀ p, 0 ≤ p → p < N → cur' p = fwdR r cur p) (hlen : ∀ p, (cur p).length = 512) (hold : ∀ j, j < r.old.length → bAt r.old j = bAt (cur r.blk) (r.off.toNat + j)) (o : Int) :
    TxI ({ b with last := L.fin, done := b.done ++ [L.fin], owed := o } : BkM) N L' (R ++ [r']) (r' :: T) cur' was := by
  have hfin := h.tx1
  have hlast := h.l1
  have e : r'.lsn = L.fin := by rw [he]; rfl
  have eb : r'.blk = r.blk := by rw [he]; rfl
  have eo : r'.off = r.off := by rw [he]; rfl
  have eold : r'.old = r.old := by rw [he]; rfl
  have enew : r'.new = r.new := by rw [he]; rfl
  refine ⟨h.tx0, by show b.tx ≤ _; omega, by show 0 ≤ L.fin; omega, hf, ?_, fun x hx => ?_, fun x hx => ?_, fun p h0 h1 => ?_⟩
  · show b.done ++ [L.fin] = _
    rw [h.done, List.map_cons, List.reverse_cons, e]
  · rcases List.mem_cons.1 hx with rfl | hx
    · exact LogHas.new (L := L) hl (by rw [e]; exact hL)
    · exact (h.has x hx).snoc hl hL
  · rcases List.mem_cons.1 hx with rfl | hx
    · refine ⟨?_, by rw [eold, enew]; exact hon, by rw [eb]; exact hb, by rw [e]; exact h1, by rw [e]; exact hf⟩
      unfold fitsM at hfit ⊢
      rw [eb, eo, enew]; exact hfit
    · obtain ⟨x1, x2, x3, x4, x5⟩ := h.ok x hx
      exact ⟨x1, x2, x3, x4, by omega⟩
  · show undoAll T (bwdR r' cur') p = was p
    rw [← h.und p h0 h1]
    refine undo_congr T (N := N) (fun q q0 q1 => ?_) p h0 h1
    unfold bwdR
    rw [hcur q q0 q1, eb, eo, eold]
    unfold fwdR
    obtain ⟨f1, f2, f3, f4, f5, f6⟩ := hfit
    by_cases c : q = r.blk
    · rw [if_pos c, if_pos c]
      exact layO_back (by rw [hlen]; omega) hon (fun j hj => by rw [c]; exact hold j hj)
    · rw [if_neg c, if_neg c]
theorem putAll_end {rs : List RecM} {J : Nat → BkM → PoolM → LogM → DevM → Prop} (hJ : ∀ k b P L D r, J k b P L D → rs[k]? = some r → (b.chg P L D r).2.2.2.2 = 0 ∧ J (k + 1) ((b.chg P L D r).1.did r) (b.chg P L D r).2.1 (b.chg P L D r).2.2.1 (b.chg P L D r).2.2.2.1) :
    ∀ (n k : Nat) (b : BkM) (P : PoolM) (L : LogM) (D : DevM), k + n = rs.length → J k b P L D → ∃ b' P' L' D', putAll (rs.drop k) b P L D = (b', P', L', D', 0) ∧ J rs.length b' P' L' D'
  | 0, k, b, P, L, D, hk, h => ⟨b, P, L, D, by rw [List.drop_of_length_le (by omega)]; rfl, by rw [← hk]; exact h⟩
  | n + 1, k, b, P, L, D, hk, h => by
    have hr : rs[k]? = some (rs[k]'(by omega)) := List.getElem?_eq_getElem (by omega)
    obtain ⟨h1, h2⟩ := hJ k b P L D _ h hr
    rw [putAll_cons hr, if_neg (fun c => c h1)]
    exact putAll_end hJ n (k + 1) _ _ _ _ (by omega) h2
theorem take_getE {α : Type} {l : List α} {k : Nat} {x : α} (h : l[k]? = some x) : l.take (k + 1) = l.take k ++ [x] := by
  obtain ⟨hk, e⟩ := List.getElem?_eq_some_iff.1 h
  rw [List.take_succ_eq_append_getElem hk, e]
structure PutS (P0 : PoolM) (L0 : LogM) (D0 : DevM) (b0 : BkM) (page : Int) (a d : Bytes) (was : Int → Bytes) (nT : Nat) (k : Nat) (b : BkM) (P : PoolM) (L : LogM) (D : DevM) (R T : List RecM) : Prop where
  c : CoreI P L D R
  kp : CoreK P0 L0 D0 P L D
  bl : P.blocks = P0.blocks
  tx : TxI b P0.blocks L R T (P.cur D) was
  inT : b.inT = true
  cnt : b.count = b0.count
  cur : ∀ p, 0 ≤ p → p < P0.blocks → P.cur D p = if p = page then mixS a d ((diffM a d).take k) else P0.cur D0 p
  room : L.room = L0.room - costM ((recsM page a d).take k)
  owed : b.owed = b0.owed + owesM ((recsM page a d).take k)
  nT : T.length = nT + k
  ow : b.owed = 35 + owesM T
theorem mix_seg (a d : Bytes) (ha : a.length = 512) {k : Nat} {s : Nat × Nat} (hs : (diffM a d)[k]? = some s) (j : Nat) (hj : s.1 + j < s.2) : bAt (segB a s) j = bAt (mixS a d ((diffM a d).take k)) (s.1 + j) := by
  have hg := diffM_good a d
  obtain ⟨hk, e⟩ := List.getElem?_eq_some_iff.1 hs
  have hok := hg.ok s (e ▸ List.getElem_mem hk)
  have h2 := hok.2.1
  rw [bAt_segB hj, bAt_mixS _ _ _ (by omega), if_neg]
  intro hc
  obtain ⟨u, hu, hc⟩ := List.any_eq_true.1 hc
  have hc : u.1 ≤ s.1 + j ∧ s.1 + j < u.2 := by simpa using hc
  obtain ⟨i, hi, rfl⟩ := List.mem_iff_getElem.1 hu
  rw [List.getElem_take] at hc
  have hik : i < k := by rw [List.length_take] at hi; omega
  have := List.pairwise_iff_getElem.1 hg.far i k (by omega) hk hik
  rw [e] at this
  unfold Apart8 at this
  omega
theorem put_step {page : Int} {a d : Bytes} {nT k : Nat} {r : RecM} (hp0 : 0 ≤ page) (hp1 : page < P0.blocks) (ha : a.length = 512) (hd : d.length = 512) (hfin : L0.fin ≤ 2000000000000000000) (hL0 : L0.fin = L0.oldest + (408 * (D0.n / 2) - 408) - L0.room ∧ L0.oldest ≤ L0.fin)
    (hroom : costM (recsM page a d) + (b0.owed + owesM (recsM page a d)) ≤ L0.room) (ho0 : 0 ≤ b0.owed) (h : PutS P0 L0 D0 b0 page a d was nT k b P L D R T) (hr : (recsM page a d)[k]? = some r) :
    (b.chg P L D r).2.2.2.2 = 0 ∧ (∃ R' T', PutS P0 L0 D0 b0 page a d was nT (k + 1) ((b.chg P L D r).1.did r) (b.chg P L D r).2.1 (b.chg P L D r).2.2.1 (b.chg P L D r).2.2.2.1 R' T') ∧ ((b.app L r).2.2 = 0 → LogG (b.app L r).2.1) := by
  obtain ⟨s, hs, er⟩ : ∃ s, (diffM a d)[k]? = some s ∧ spR page a d s = r := by
    unfold recsM at hr
    rw [List.getElem?_map] at hr
    cases hx : (diffM a d)[k]? with
    | none => rw [hx] at hr; simp at hr
    | some s => rw [hx] at hr; exact ⟨s, rfl, by simpa using hr⟩
  obtain ⟨hk, e⟩ := List.getElem?_eq_some_iff.1 hs
  have hok := (diffM_good a d).ok s (e ▸ List.getElem_mem hk)
  have hs1 := hok.1
  have hs2 := hok.2.1
  have la : (segB a s).length = s.2 - s.1 := segB_len (by omega)
  have ld : (segB d s).length = s.2 - s.1 := segB_len (by omega)
  have r1 : r.kind = 1 := by rw [← er]; rfl
  have r2 : r.next = 0 := by rw [← er]; rfl
  have r3 : r.blk = page := by rw [← er]; rfl
  have r4 : r.off = s.1 := by rw [← er]; rfl
  have r5 : r.old = segB a s := by rw [← er]; rfl
  have r6 : r.new = segB d s := by rw [← er]; rfl
  have hc := h.c
  have hn64 := hc.n64
  have hpb := hc.pb
  have hbl := h.bl
  have hfit : fitsM r := by unfold fitsM; rw [r3, r4, r6, ld]; omega
  have hro := hc.room
  have hkn := h.kp.n
  have hko := h.kp.o
  have hct := costM_take hr
  have hcle := costM_le (recsM page a d) (fun x hx => by
    unfold recsM at hx
    obtain ⟨u, hu, rfl⟩ := List.mem_map.1 hx
    have := ((diffM_good a d).ok u hu).2.1
    show (segB d u).length ≤ 512
    rw [segB_len (by omega)]; omega)
  have hdr : costM (recsM page a d) = costM ((recsM page a d).take (k + 1)) + costM ((recsM page a d).drop (k + 1)) ∧ owesM (recsM page a d) = owesM ((recsM page a d).take (k + 1)) + owesM ((recsM page a d).drop (k + 1)) := by
    have app : ∀ x y : List RecM, costM (x ++ y) = costM x + costM y ∧ owesM (x ++ y) = owesM x + owesM y := by
      intro x y
      induction x with
      | nil => simp [costM, owesM]
      | cons z x ih => simp only [List.cons_append, costM, owesM, ih.1, ih.2]; omega
    have := app ((recsM page a d).take (k + 1)) ((recsM page a d).drop (k + 1))
    rw [List.take_append_drop] at this
    exact this
  have hnn : ∀ l : List RecM, 0 ≤ costM l ∧ 0 ≤ owesM l := by
    intro l
    induction l with
    | nil => simp [costM, owesM]
    | cons z l ih => simp only [costM, owesM]; omega
  have hnn1 := hnn ((recsM page a d).drop (k + 1))
  have hnn2 := hnn ((recsM page a d).take k)
  have hroomk := h.room
  have hrn : (r.new.length : Int) = s.2 - s.1 := by rw [r6, ld]; omega
  have hfl : L.fin ≤ 2000000000013369344 := by omega
  have htx := h.tx
  have ht0 := htx.tx0
  have ht1 := htx.tx1
  have hl0 := htx.l0
  have hl1 := htx.l1
  have hright : rightM (b.recL L r) := by
    obtain ⟨B, hL⟩ := hc.li
    have q1 := hL.t1
    have q2 := hL.t2
    refine ⟨by show 1 ≤ L.fin; omega, by show L.fin ≤ topM; unfold topM; omega, q1, q2, ⟨ht0, by show b.tx ≤ topM; unfold topM; omega⟩, ⟨hl0, by show b.last ≤ topM; unfold topM; omega⟩, ⟨by show 0 ≤ r.next; omega, by show r.next ≤ topM; unfold topM; omega⟩, .inl ⟨r1, r2, hfit, by show r.old.length = r.new.length; rw [r5, r6, la, ld]⟩⟩
  have hsz : ((encM (b.recL L r)).length : Int) = 43 + 2 * (r.new.length : Int) := by
    rw [enc_size, if_neg (by show ¬ r.kind = 2; rw [r1]; decide), if_neg (by show ¬ r.new = []; intro c; rw [c] at hrn; simp at hrn; omega)]
    show ((35 + 0 + (8 + r.old.length + r.new.length) : Nat) : Int) = _
    rw [r5, r6, la, ld]; omega
  obtain ⟨P', L', D', c1, c2, c3, c4, c5, c6, c7, c8⟩ := core_chg hc b r hright (.inl r1) (by rw [hsz]; omega) (by omega) (by rw [r3, hbl]; exact hp1)
  have hcl : (mixS a d ((diffM a d).take k)).length = 512 := mixS_len _ _ _
  have hcp : P.cur D page = mixS a d ((diffM a d).take k) := by rw [h.cur page hp0 hp1, if_pos rfl]
  have hlf : L.fin ≤ L'.fin := by
    have := c2.room
    have := c3.o
    have := c3.n
    omega
  refine ⟨by rw [c1], ⟨R ++ [b.recL L r], b.recL L r :: T, ?_⟩, c8⟩
  rw [c1]
  dsimp only
  refine ⟨c2, h.kp.trans c3, c4.trans hbl, ?_, h.inT, h.cnt, fun p q0 q1 => ?_, ?_, ?_, by rw [List.length_cons, h.nT]; omega, ?_⟩
  · exact htx.push hc.lsnsLen c7 rfl (by omega) hlf hfit (by rw [r5, r6, la, ld]) (by rw [r3]; exact hp1) (fun p q0 q1 => c5 p q0 (by rw [hbl]; exact q1)) (fun p => hc.curLen p) (fun j hj => by
      rw [r3, hcp, r4, r5]
      rw [r5, la] at hj
      exact mix_seg a d ha hs j (by omega)) _
  · rw [c5 p q0 (by rw [hbl]; exact q1)]
    unfold fwdR
    rw [r3]
    by_cases c : p = page
    · rw [if_pos c, if_pos c, c, hcp, r4, r6, take_getE hs, ← mixS_snoc a d _ hs1 hs2 hd, layO_over (by rw [ld, mixS_len]; show s.1 + (s.2 - s.1) ≤ 512; omega)]
      rfl
    · rw [if_neg c, if_neg c, h.cur p q0 q1, if_neg c]
  · rw [c6, hsz, hroomk]; omega
  · show b.owed + (51 + (r.new.length : Int)) = _
    rw [h.owed]; omega
  · show b.owed + (51 + (r.new.length : Int)) = 35 + ((51 + (r.new.length : Int)) + owesM T)
    rw [h.ow]; omega
end
end Go.Proofs.YtfgagakepmigbaaGreat
namespace Go.Proofs.YtfgagakepmigbaaGreat
open Go.RowKit
section
variable {w w' w1 : World} {a : Adr} {P : PoolM} {L : LogM} {D : DevM}
def newPool (first blocks most : Int) : PoolM := ⟨first, blocks, most, 0, []⟩
theorem bPool (p q : Nat) (first blocks most : Int) (mb : Nat) (wz : World) : (Instr.build 143 #[(0, .pointer (some ⟨p, 0, none⟩)), (1, .pointer (some ⟨q, 0, none⟩)), (2, .int .i64 first), (3, .int .i64 blocks), (4, .int .i64 most), (6, .map (some mb))]).run Tryz.prog wz =
    .ok (.agg #[.pointer (some ⟨p, 0, none⟩), .pointer (some ⟨q, 0, none⟩), .int .i64 first, .int .i64 blocks, .int .i64 most, .slice none 0 0, .int .i64 0, .map (some mb)]) wz := run_build wz _ _ _ (by kernel_rfl)
set_option maxRecDepth 100000 in
set_option maxHeartbeats 1600000 in
theorem pnew_any {q p ms mo : Nat} {lv tv : Value} (h : LogS w q p ms mo lv tv L D) (hf : L.fin ≠ 0) {first blocks most : Int} (f0 : 0 ≤ first) (b0 : 1 ≤ blocks) (fb : first + blocks ≤ D.n) (m0 : 8 ≤ most) (m1 : most ≤ 1024) :
    Calls Tryz.prog 74 #[ptrV p, ptrV q, .int .i64 first, .int .i64 blocks, .int .i64 most] w fun e w' => ∃ a, e = .returned (ptrV a.pb) ∧ a.q = q ∧ a.p = p ∧ a.ms = ms ∧ a.mo = mo ∧ a.lv = lv ∧ a.tv = tv ∧ a.rv = .slice none 0 0 ∧ a.xs = [] ∧ w.heap.size ≤ a.pb ∧ w.heap.size ≤ a.mb ∧ PoolS w' a (newPool first blocks most) L D ∧ Kept (fun _ => False) w w' := by
  have H := qh h
  have HB := qh (blocks_any h.dev)
  have HE := qh (end_any w q p lv tv L h.hq)
  have n0 := h.dev.n0
  have n1 := h.dev.n1
  have c1 : ¬ D.n = 0 := by omega
  have c1b : (D.n == 0) = false := by rw [beq_eq_false_iff_ne]; exact c1
  have c2b : (L.fin == 0) = false := by rw [beq_eq_false_iff_ne]; exact hf
  have c3 : ¬ first < 0 := by omega
  have c4 : ¬ blocks < 1 := by omega
  have c5 : ¬ D.n < first := by omega
  have c6 : ¬ D.n - first < blocks := by omega
  have c7 : ¬ most < 8 := by omega
  have c8 : ¬ 1024 < most := by omega
  have e2 : IntKind.i64.wrap (D.n - first) = D.n - first := by rw [IntKind.wrap_i64]; omega
  have BP := fun mb => bPool p q first blocks most mb
  unfold ptrV
  clear h
  go_enter Tryz.func74, Tryz.ntmps74
  go_wp2_with fail
  refine HB.out.mono ?_
  rintro e wx ⟨rfl, rfl⟩
  go_wp2_with fail
  refine HE.out.mono ?_
  rintro e wx ⟨rfl, rfl⟩
  go_wp2_with (refine wl_makeMap rfl 141 rfl ?_)
  intro mb w1 hm0 hm1 hmm hmk
  have BP1 := BP mb
  go_wp2_with (refine wl_box rfl 143 _ rfl (.agg #[.pointer (some ⟨p, 0, none⟩), .pointer (some ⟨q, 0, none⟩), .int .i64 first, .int .i64 blocks, .int .i64 most, .slice none 0 0, .int .i64 0, .map (some mb)]) rfl ?_)
  intro pb w2 hp0 hp1 hpb hpk
  have HM := qh (hmm.kept (w' := w2) hpk id)
  have HPB := qh hpb
  have HK := qh (hmk.trans0 hpk)
  have s1 := hmk.size
  clear BP BP1 hmm hmk hpb hpk
  go_wp2
  go_ret
  have l1 := heap_lt H.out.dev.hp
  have l2 := H.out.dev.hs.lt
  have l3 := H.out.dev.ho.lt
  exact ⟨⟨pb, mb, q, p, ms, mo, lv, tv, .slice none 0 0, []⟩, rfl, rfl, rfl, rfl, rfl, rfl, rfl, rfl, rfl, by show w.heap.size ≤ pb; omega, hm0,
    ⟨H.out.keep HK.out (fun _ _ => id), HPB.out, HM.out.ext (fun n => rfl), World.ownsRow_nil _ _ _ _, (fun x hx => by cases hx), rfl, List.nodup_nil, List.nodup_nil, (fun x hx => by cases hx), ⟨by show mb ≠ ms; omega, by show mb ≠ mo; omega⟩⟩, HK.out⟩
end
end Go.Proofs.YtfgagakepmigbaaGreat
namespace Go.Proofs.YtfgagakepmigbaaGreat
open Go.RowKit
section
variable {D : DevM} {L : LogM} {R : List RecM} {B : Int → UInt8}
theorem trim_end (h : LogI D L R B) (hs : L.safe = L.fin) : L.trim L.fin = ({ L with oldest := L.fin, lsns := [] }, 0) ∧ LogI D { L with oldest := L.fin, lsns := [] } [] B := by
  have hl := h.llen
  have hfl := h.flen
  have hf : findM L.lsns L.fin = L.lsns.length := find_at _ _ _ (Nat.le_refl _) (fun t ht => by
    have hk : t < R.length := by omega
    have h1 := placesR_step h hk
    have h2 := flat_all h (k := t + 1) (by omega)
    rw [h1.1]; omega) (fun t h1 h2 => by omega)
  have hfo : foundM L.lsns L.fin = false := by unfold foundM; rw [hf]; simp
  refine ⟨?_, ?_⟩
  · unfold LogM.trim
    rw [hf, hfo, if_neg (by rintro (⟨_, h1⟩ | h1); exact h1 rfl; omega), List.drop_length]
  · refine { h with o1 := ?_, so := ?_, room := ?_, rest := ?_, tail := ?_, recs := trivial, lsns := rfl, flat := ?_, sb := ⟨0, Nat.le_refl _, ?_⟩ }
    · show 1 ≤ L.fin; have h1 := h.o1; have h2 := h.so; have h3 := h.sf; omega
    · show L.fin ≤ L.safe; omega
    · show L.fin - L.fin ≤ 408 * (L.count - 1); have := h.c4; omega
    · exact h.rest.trim (o' := L.fin) (by have h2 := h.so; have h3 := h.sf; omega) (by omega)
    · exact tail_weak (o' := L.fin) h.tail (by have h2 := h.so; have h3 := h.sf; omega)
    · show flatR [] = stB B L.fin (L.fin - L.fin).toNat
      rw [show (L.fin - L.fin).toNat = 0 by omega]
      exact (List.length_eq_zero_iff.1 (by rw [stB_len])).symm
    · show L.safe = L.fin + (flatR ([] : List RecM)).length
      rw [hs]; simp [flatR]
end
section
variable {D : DevM} {L : LogM} {R : List RecM} {B : Int → UInt8}
end
end Go.Proofs.YtfgagakepmigbaaGreat
namespace Go.Proofs.YtfgagakepmigbaaGreat
open Go.RowKit
section
variable {P P' P0 : PoolM} {L L' L0 : LogM} {D D' D0 : DevM} {R R' T : List RecM} {b b0 : BkM} {cur was : Int → Bytes} {N : Int}
theorem core_force (h : CoreI P L D R) : ∃ D', L.force D = (madeSafe L, D', 0) ∧ CoreI P (madeSafe L) D' R ∧ CoreK P L D P (madeSafe L) D' ∧ (∀ p, 0 ≤ p → p < P.blocks → P.cur D' p = P.cur D p) := by
  obtain ⟨B, hL⟩ := h.li
  obtain ⟨D', f1, f2, f3, f4, f5, f6⟩ := force_well hL h.calm
  obtain ⟨m1, m2, m3, m4, m5, m6, m7⟩ := madeSafe_fld L
  have hpi := h.pi
  have hn := h.n24
  have hlf := h.lf
  have hlc := h.lc
  have hpf := h.pf
  have hpb := h.pb
  have hlat : ∀ p, 0 ≤ p → p < P.blocks → D'.latest (P.first + p) = D.latest (P.first + p) := fun p h0 h1 => f5 _ (by omega)
  refine ⟨D', f1, ⟨⟨B, f4⟩, ⟨hpi.f0, hpi.b1, by rw [f3]; exact hpi.fn, by rw [f3]; exact hpi.dn, by rw [m1, m2]; exact hpi.ap, hpi.m8, hpi.m1, hpi.len, hpi.h0, hpi.h1, hpi.nd, fun f hf => ?_⟩, f2, h.free, h.pf, by rw [f3]; exact h.pb, by rw [f3, m1]; exact h.lf, by rw [f3, m2]; exact h.lc, by rw [f3]; exact h.n24, by rw [f3]; exact h.n64⟩, ⟨f3, m4, m3, f5 0 (by omega), f5 1 (by omega)⟩, fun p h0 h1 => ?_⟩
  · have hff := hpi.fr f hf
    exact ⟨hff.1, hff.2.1, hff.2.2.1, hff.2.2.2.1, hff.2.2.2.2.1, by rw [m5]; exact hff.2.2.2.2.2.1, fun hd => by rw [hlat _ hff.1 hff.2.1]; exact hff.2.2.2.2.2.2.1 hd, hff.2.2.2.2.2.2.2⟩
  · unfold PoolM.cur
    cases P.ring[P.at p]? with
    | none => exact hlat p h0 h1
    | some f => rfl
theorem core_flush (h : CoreI P L D R) : ∃ P' L' D', flushM P L D = (P', L', D', 0) ∧ CoreI P' L' D' R ∧ CoreK P L D P' L' D' ∧ Like P L D P' L' D' ∧ (∀ p, 0 ≤ p → p < P.blocks → P'.cur D' p = P.cur D p) ∧ (∀ f ∈ P'.ring, f.dirty = false) ∧ (∀ k, D'.opn k = none) ∧ (∀ p, 0 ≤ p → p < P.blocks → D'.latest (P.first + p) = P.cur D p) := by
  obtain ⟨B, hL⟩ := h.li
  obtain ⟨P', L', D', e, h4, h5, h6, h7, h8, h9, h10⟩ := flush_well h.pi hL h.calm
  have hl := h7.like
  have hp := h.pf
  have hlf := h.lf
  have hn := h.n24
  exact ⟨P', L', D', e, ⟨⟨B, h5⟩, h4, h6, fun p => by rw [h7.held]; exact h.free p, hl.pf.trans h.pf, by rw [hl.pb, hl.n]; exact h.pb, by rw [hl.lf, hl.n]; exact h.lf, by rw [hl.lc, hl.n]; exact h.lc, by rw [hl.n]; exact h.n24, by rw [hl.n]; exact h.n64⟩, ⟨hl.n, hl.lo, hl.lt, h7.out 0 (by omega) (by omega), h7.out 1 (by omega) (by omega)⟩, hl, h7.cur, h8, h9, h10⟩
theorem core_dev (h : CoreI P L D R) (hc : Calm D') (hn : D'.n = D.n) (hl : ∀ k, 2 ≤ k → D'.latest k = D.latest k) (hlen : ∀ k, (D'.latest k).length = 512) (ho : ∀ k, D'.opn k = none) : CoreI P L D' R ∧ ∀ p, 0 ≤ p → P.cur D' p = P.cur D p := by
  obtain ⟨B, hL⟩ := h.li
  have hlf := h.lf
  have hpf := h.pf
  have h24 := h.n24
  have hsg : ∀ k, (D'.safeG k).length = 512 := fun k => by rw [safeG_none (ho k)]; exact hlen k
  have hpi := h.pi
  have hlat : ∀ p, 0 ≤ p → D'.latest (P.first + p) = D.latest (P.first + p) := fun p h0 => hl _ (by omega)
  refine ⟨⟨⟨B, hL.dev hn hc.d hlen hsg fun k h1 _ => ⟨hl k (by omega), ho k⟩⟩, ⟨hpi.f0, hpi.b1, by rw [hn]; exact hpi.fn, by rw [hn]; exact hpi.dn, hpi.ap, hpi.m8, hpi.m1, hpi.len, hpi.h0, hpi.h1, hpi.nd, fun f hf => ?_⟩, hc, h.free, h.pf, by rw [hn]; exact h.pb, by rw [hn]; exact h.lf, by rw [hn]; exact h.lc, by rw [hn]; exact h.n24, by rw [hn]; exact h.n64⟩, fun p h0 => ?_⟩
  · have hff := hpi.fr f hf
    exact ⟨hff.1, hff.2.1, hff.2.2.1, hff.2.2.2.1, hff.2.2.2.2.1, hff.2.2.2.2.2.1, fun hd => by rw [hlat _ hff.1]; exact hff.2.2.2.2.2.2.1 hd, hff.2.2.2.2.2.2.2⟩
  · unfold PoolM.cur
    cases P.ring[P.at p]? with
    | none => exact hlat p h0
    | some f => rfl
theorem core_trim (h : CoreI P L D R) (hs : L.safe = L.fin) : ∃ L', L.trim L.fin = (L', 0) ∧ CoreI P L' D [] ∧ L'.fin = L.fin ∧ L'.room = D.n / 2 * 408 - 408 ∧ L'.turn = L.turn ∧ L'.oldest = L.fin := by
  obtain ⟨B, hL⟩ := h.li
  obtain ⟨t1, t2⟩ := trim_end hL hs
  have hpi := h.pi
  refine ⟨_, t1, ⟨⟨B, t2⟩, ⟨hpi.f0, hpi.b1, hpi.fn, hpi.dn, hpi.ap, hpi.m8, hpi.m1, hpi.len, hpi.h0, hpi.h1, hpi.nd, hpi.fr⟩, h.calm, h.free, h.pf, h.pb, h.lf, h.lc, h.n24, h.n64⟩, rfl, ?_, rfl, rfl⟩
  show L.count * 408 - 408 - (L.fin - L.fin) = _
  rw [h.lc]; omega
structure NumB (b : BkM) : Prop where
  tx : isI b.tx
  last : isI b.last
  o0 : 0 ≤ b.owed
  o1 : b.owed ≤ 1000000000
  dl : b.done.length ≤ 1000000
structure BkA where
  n : Int
  now : Int → Bytes
  was : Int → Bytes
  inT : Bool
  room : Int
  owed : Int
  chg : Nat
def BkA.pages (S : BkA) : Int := S.n - 2 - S.n / 2
structure BookI (g : Nat) (S : BkA) (b : BkM) (P : PoolM) (L : LogM) (D : DevM) : Prop where
  n : D.n = S.n
  bt : b.inT = S.inT
  cnt : b.count = S.n / 2
  num : NumB b
  cur : ∀ p, 0 ≤ p → p < S.pages → P.cur D p = S.now p
  room : L.room = S.room
  fin : L.fin ≤ 100000000 * ((g : Int) + 1)
  mas : ∃ m, readMas D = (m, 0) ∧ m.may ∧ m.seq ≤ g + 10
  rest : ∃ R, CoreI P L D R ∧ (S.inT = true → ∃ T, TxI b P.blocks L R T (P.cur D) S.was ∧ b.owed = S.owed ∧ S.owed = 35 + owesM T ∧ S.owed ≤ S.room ∧ T.length = S.chg)
theorem BookI.pages {g : Nat} {S : BkA} (h : BookI g S b P L D) : P.blocks = S.pages := by
  obtain ⟨R, hc, -⟩ := h.rest
  have := h.n
  unfold BkA.pages
  rw [hc.pb, this]
theorem BookI.len {g : Nat} {S : BkA} (h : BookI g S b P L D) {p : Int} (h0 : 0 ≤ p) (h1 : p < S.pages) : (S.now p).length = 512 := by
  obtain ⟨R, hc, -⟩ := h.rest
  rw [← h.cur p h0 h1]; exact hc.curLen p
theorem BookI.up {g g' : Nat} {S : BkA} (h : BookI g S b P L D) (hg : g ≤ g') : BookI g' S b P L D := by
  have := h.fin
  obtain ⟨m, m1, m2, m3⟩ := h.mas
  exact { h with fin := by omega, mas := ⟨m, m1, m2, by omega⟩ }
def BkA.begin (S : BkA) : BkA × Int := if S.inT = true then (S, 7) else ({ S with inT := true, was := S.now, owed := 35, chg := 0, room := if S.room < S.n / 2 * 204 then S.n / 2 * 408 - 408 else S.room }, 0)
def cstD (a d : Bytes) : Int := costM (recsM 0 a d)
def owsD (a d : Bytes) : Int := owesM (recsM 0 a d)
theorem cst_page (p : Int) (a d : Bytes) : costM (recsM p a d) = cstD a d ∧ owesM (recsM p a d) = owsD a d := by
  unfold cstD owsD recsM
  induction diffM a d with
  | nil => exact ⟨rfl, rfl⟩
  | cons s l ih =>
    simp only [List.map_cons, costM, owesM]
    rw [ih.1, ih.2]
    exact ⟨rfl, rfl⟩
def updP (f : Int → Bytes) (p : Int) (d : Bytes) : Int → Bytes := fun q => if q = p then d else f q
def BkA.put (S : BkA) (p : Int) (d : Bytes) : BkA × Int :=
  if S.inT = false then (S, 7) else if p < 0 ∨ S.pages ≤ p then (S, 6) else if d.length ≠ 512 then (S, 2) else
  if S.room < cstD (S.now p) d + (S.owed + owsD (S.now p) d) then (S, 5) else
  ({ S with now := updP S.now p d, room := S.room - cstD (S.now p) d, owed := S.owed + owsD (S.now p) d, chg := S.chg + (diffM (S.now p) d).length }, 0)
theorem BookI.frame {g : Nat} {S : BkA} (h : BookI g S b P L D) {page : Int} (p0 : 0 ≤ page) (p1 : page < S.pages) :
    ∃ P' L' D' i f, frameM P L D page = (P', L', D', i, 0) ∧ P'.ring[i]? = some f ∧ f.b = S.now page ∧ BookI g S b P' L' D' := by
  obtain ⟨R, hc, ht⟩ := h.rest
  obtain ⟨P', L', D', i, f, e, h1, h2, h3, h4, h5, h6, h7⟩ := core_frame hc p0 (by rw [h.pages]; exact p1)
  have hpb := h6.pb
  have hcur : ∀ p, 0 ≤ p → p < S.pages → P'.cur D' p = S.now p := fun p q0 q1 => by rw [h7 p q0 (by rw [h.pages]; exact q1)]; exact h.cur p q0 q1
  have hroom : L'.room = L.room := by unfold LogM.room; rw [h6.lc, h6.fin, h6.lo]
  refine ⟨P', L', D', i, f, e, h1, by rw [h3]; exact h.cur page p0 p1, ⟨h5.n.trans h.n, h.bt, h.cnt, h.num, hcur, hroom.trans h.room, by rw [h6.fin]; exact h.fin, ?_, R, h4, fun hT => ?_⟩⟩
  · obtain ⟨m, m1, m2⟩ := h.mas
    exact ⟨m, by rw [readMas_congr (h4.calm.d.trans hc.calm.d.symm) h5.b0 h5.b1]; exact m1, m2⟩
  · obtain ⟨T, t1, t2⟩ := ht hT
    refine ⟨T, ⟨t1.tx0, by rw [h6.fin]; exact t1.tx1, t1.l0, by rw [h6.fin]; exact t1.l1, t1.done, fun r hr => (t1.has r hr).lsns h6.lsns, fun r hr => ?_, fun p q0 q1 => ?_⟩, t2⟩
    · rw [hpb, h6.fin]; exact t1.ok r hr
    · rw [hpb] at q1
      rw [← t1.und p q0 q1]
      exact undo_congr T (N := P.blocks) h7 p q0 q1
end
end Go.Proofs.YtfgagakepmigbaaGreat
