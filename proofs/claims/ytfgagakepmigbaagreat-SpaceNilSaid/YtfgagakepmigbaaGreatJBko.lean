/-
  No statement is proved here.
-/
import Derived.Test.YtfgagakepmigbaaGreatJBki
import Derived.Test.YtfgagakepmigbaaGreatJPdg
namespace Go.Proofs.YtfgagakepmigbaaGreat
open Go.RowKit
def LenD (D : DevM) : Prop := (∀ k l, D.safe k = some l → l.length = 512) ∧ ∀ k l, D.opn k = some l → l.length = 512
theorem LenD.latest {D : DevM} (h : LenD D) (k : Int) : (D.latest k).length = 512 := by
  unfold DevM.latest
  cases ho : D.opn k with
  | some l => exact h.2 k l ho
  | none =>
    cases hs : D.safe k with
    | some l => exact h.1 k l hs
    | none => exact lenL_zeros 512
theorem DevAt.lenD {w : World} {p ms mo : Nat} {D : DevM} (h : DevAt w p ms mo D) : LenD D := ⟨h.ls, h.lo⟩
theorem LenD.crash {D : DevM} (h : LenD D) : LenD D.crash := by
  obtain ⟨_, h2, h3⟩ := crash_same D
  exact ⟨fun k l hl => h.1 k l (by rw [← h2]; exact hl), fun k l hl => h.2 k l (by rw [← h3]; exact hl)⟩
theorem LenD.put {D : DevM} (h : LenD D) (b : Int) {pg : Bytes} (hp : pg.length = 512) : LenD (D.put b pg) := by
  refine ⟨h.1, fun k l hl => ?_⟩
  have hl2 : updF D.opn b pg k = some l := hl
  unfold updF at hl2
  split at hl2
  · cases hl2; exact hp
  · exact h.2 k l hl2
theorem LenD.write {D : DevM} (h : LenD D) (b : Int) (pg : Bytes) : LenD (D.write b pg).2 := by
  unfold DevM.write
  split
  · exact h
  · split
    · exact h
    · rename_i hl
      exact (h.put b (by simpa using hl)).crash
theorem LenD.sync {D : DevM} (h : LenD D) : LenD D.sync := by
  refine ⟨fun k l hl => ?_, fun k l hl => by cases hl⟩
  have : orF D.opn D.safe k = some l := hl
  unfold orF at this
  cases ho : D.opn k with
  | some m => rw [ho] at this; cases this; exact h.2 k _ ho
  | none => rw [ho] at this; exact h.1 k l this
theorem LenD.syncR {D : DevM} (h : LenD D) : LenD D.syncR.2 := by
  unfold DevM.syncR
  split
  · exact h
  · split
    · exact h.crash
    · exact h.crash.sync
theorem LenD.pour (F C T : Int) : ∀ (f : Nat) {D : DevM} (rest : Bytes) (fst : Int), LenD D → LenD (pourM F C T f D rest fst).1
  | 0, _, _, _, h => h
  | f + 1, D, rest, fst, h => by
    unfold pourM
    split
    · exact h
    · split
      · exact h
      · dsimp only
        split
        · exact h.write _ _
        · exact LenD.pour F C T f _ _ (h.write _ _)
theorem LenD.force {D : DevM} (h : LenD D) (L : LogM) : LenD (L.force D).2.1 := by
  by_cases hs : L.safe = L.fin
  · rw [force_same hs]; exact h
  · have hv : L.force D = if (pourM L.first L.count L.turn (L.tail.length + 1) D L.tail L.beg).2 ≠ 0 then (L, (pourM L.first L.count L.turn (L.tail.length + 1) D L.tail L.beg).1, (pourM L.first L.count L.turn (L.tail.length + 1) D L.tail L.beg).2) else L.forceEnd (pourM L.first L.count L.turn (L.tail.length + 1) D L.tail L.beg).1 := by unfold LogM.force; rw [if_neg hs]; rfl
    have hp := LenD.pour L.first L.count L.turn (L.tail.length + 1) L.tail L.beg h
    generalize pourM L.first L.count L.turn (L.tail.length + 1) D L.tail L.beg = X at hv hp
    rw [hv]
    split
    · exact hp
    · unfold LogM.forceEnd
      dsimp only
      have hy : LenD (if secO L.count L.fin = 0 ∧ secF L.fin = L.fin then X.1.write (secB L.first L.count L.fin) (zeros 512) else ((0 : Int), X.1)).2 := by
        split
        · exact hp.write _ _
        · exact hp
      generalize (if secO L.count L.fin = 0 ∧ secF L.fin = L.fin then X.1.write (secB L.first L.count L.fin) (zeros 512) else ((0 : Int), X.1)) = Y at hy
      split
      · exact hy
      · split
        · exact hy.syncR
        · exact hy.syncR
theorem LenD.wrF {D : DevM} (h : LenD D) (pf : Int) (f : FrM) (L : LogM) : LenD (wrF pf f L D).2.2.1 := by
  obtain ⟨y, hy⟩ : ∃ y, y = (if L.safe ≤ f.last then L.force D else (L, D, 0)) := ⟨_, rfl⟩
  have e : Go.Proofs.YtfgagakepmigbaaGreat.wrF pf f L D = (if y.2.2 ≠ 0 then (f, y.1, y.2.1, y.2.2) else if (y.2.1.write (pf + f.page) f.b).1 ≠ 0 then (f, y.1, (y.2.1.write (pf + f.page) f.b).2, (y.2.1.write (pf + f.page) f.b).1) else ({ f with dirty := false, first := 0 }, y.1, (y.2.1.write (pf + f.page) f.b).2, 0)) := by rw [hy]; rfl
  have hl : LenD y.2.1 := by
    rw [hy]
    split
    · exact h.force L
    · exact h
  rw [e]
  split
  · exact hl
  · split
    · exact hl.write _ _
    · exact hl.write _ _
def LenP (P : PoolM) : Prop := ∀ f ∈ P.ring, f.b.length = 512
theorem wrF_b (pf : Int) (f : FrM) (L : LogM) (D : DevM) : (wrF pf f L D).1.b = f.b := by
  obtain ⟨y, hy⟩ : ∃ y, y = (if L.safe ≤ f.last then L.force D else (L, D, 0)) := ⟨_, rfl⟩
  have e : wrF pf f L D = (if y.2.2 ≠ 0 then (f, y.1, y.2.1, y.2.2) else if (y.2.1.write (pf + f.page) f.b).1 ≠ 0 then (f, y.1, (y.2.1.write (pf + f.page) f.b).2, (y.2.1.write (pf + f.page) f.b).1) else ({ f with dirty := false, first := 0 }, y.1, (y.2.1.write (pf + f.page) f.b).2, 0)) := by rw [hy]; rfl
  rw [e]
  split
  · rfl
  · split <;> rfl
theorem LenP.set {P : PoolM} (h : LenP P) {k : Nat} {g : FrM} (hg : g.b.length = 512) (n : Int) : LenP { P with hand := n, ring := P.ring.set k g } := fun f hf => by
  rcases mem_set hf with rfl | ⟨i, _, hi⟩
  · exact hg
  · exact h f (List.mem_of_getElem? hi)
theorem evict_len : ∀ (n : Nat) {P : PoolM} {L : LogM} {D : DevM}, LenP P → LenD D → LenP (evictM n P L D).1 ∧ LenD (evictM n P L D).2.2.1
  | 0, P, L, D, hp, hd => ⟨hp, hd⟩
  | n + 1, P, L, D, hp, hd => by
    cases hk : P.ring[(P.hand % P.ring.length).toNat]? with
    | none =>
      unfold evictM
      dsimp only
      rw [hk]
      exact ⟨hp, hd⟩
    | some f =>
      have hf := hp f (List.mem_of_getElem? hk)
      rw [evict_step rfl hk]
      split
      · exact evict_len n (P := { P with hand := _ }) hp hd
      · split
        · exact evict_len n (hp.set (g := { f with used := false }) hf _) hd
        · split
          · dsimp only
            split
            · exact ⟨hp, hd.wrF _ _ _⟩
            · exact ⟨hp.set (by rw [wrF_b]; exact hf) _, hd.wrF _ _ _⟩
          · exact ⟨hp, hd⟩
theorem frame_len {P : PoolM} {L : LogM} {D : DevM} (hp : LenP P) (hd : LenD D) (page : Int) : LenP (frameM P L D page).1 ∧ LenD (frameM P L D page).2.2.1 := by
  unfold frameM
  split
  · exact ⟨hp, hd⟩
  · dsimp only
    cases hx : P.ring[P.at page]? with
    | some f => exact ⟨hp.set (g := { f with used := true }) (hp f (List.mem_of_getElem? hx)) P.hand, hd⟩
    | none =>
      dsimp only
      split
      · refine ⟨fun f hf => ?_, hd⟩
        rcases List.mem_append.1 hf with hf | hf
        · exact hp f hf
        · rw [List.mem_singleton] at hf; subst hf; exact hd.latest _
      · obtain ⟨e1, e2⟩ := evict_len (2 * P.most + 1).toNat (L := L) hp hd
        generalize evictM (2 * P.most + 1).toNat P L D = X at e1 e2
        split
        · exact ⟨e1, e2⟩
        · exact ⟨e1.set (e2.latest _) X.1.hand, e2⟩
theorem frame_b {P : PoolM} {L : LogM} {D : DevM} (hp : LenP P) (hd : LenD D) (page : Int) {f : FrM} {i : Nat} (h : (frameM P L D page).1.ring[i]? = some f) : f.b.length = 512 := (frame_len hp hd page).1 f (List.mem_of_getElem? h)
end Go.Proofs.YtfgagakepmigbaaGreat
namespace Go.Proofs.YtfgagakepmigbaaGreat
open Go.RowKit
def BkM.chg (b : BkM) (P : PoolM) (L : LogM) (D : DevM) (r : RecM) : BkM × PoolM × LogM × DevM × Int :=
  if (b.app L r).2.2 ≠ 0 then ((b.app L r).1, P, (b.app L r).2.1, D, (b.app L r).2.2) else
  ((b.app L r).1, changeM P (b.app L r).2.1 D r.blk r.off r.new (b.app L r).1.last)
section
variable {w w' w1 : World} {x x' : BAdr} {b b' : BkM} {P P' : PoolM} {L L' : LogM} {D D' : DevM}
set_option maxRecDepth 100000 in
set_option maxHeartbeats 1600000 in
theorem changed1_any (h : BookS w x b P L D) (hg : LogG L) (r : RecM) (A1 : Option Addr) (c1 : Nat) (A2 : Option Addr) (c2 : Nat) (ho : RecOk r) (i1 : isI b.tx) (i2 : isI b.last) (h1 : r.old.length ≤ 1000000) (h2 : r.new.length ≤ 1000000) (hr1 : RdB w A1 r.old) (hr2 : RdB w A2 r.new) (gb gr : Nat)
    (hgb : w.heap[gb]? = some (.cells #[ptrV x.bk] 24 (0, 0))) (hgr : w.heap[gr]? = some (.cells (recC r A1 c1 A2 c2) 86 (0, 0))) :
    Calls Tryz.prog 93 #[.pointer (some ⟨gb, 0, none⟩), .pointer (some ⟨gr, 0, none⟩)] w fun e w' => e = .returned (.int .i64 (b.app L r).2.2) ∧ ∃ x', BTo w x w' x' ∧ BookS w' x' (b.app L r).1 P (b.app L r).2.1 D := by
  have HA := qh (bappend_any h hg r A1 c1 A2 c2 ho i1 i2 h1 h2 hr1 hr2)
  have d0 : w.cell? ⟨gb, 0, none⟩ = some (.pointer (some ⟨x.bk, 0, none⟩)) := cell_blk hgb rfl
  have HR := qh (recAt_of hgr)
  obtain ⟨V, hV⟩ : ∃ V, V = b.app L r := ⟨_, rfl⟩
  rw [← hV] at HA ⊢
  unfold ptrV at HA
  clear h hg ho hr1 hr2 hgb hgr hV h1 h2 i1 i2
  go_enter Tryz.func93, Tryz.ntmps93
  obtain ⟨r0, r1, r2, r3, r4, r5, r6, r7, r8, r9⟩ := HR.out
  go_wp2_with fail
  refine HA.out.mono ?_
  rintro e w1 ⟨rfl, hx⟩
  have HX := qh hx
  clear hx HA
  go_wp2
  go_ret
  exact ⟨rfl, HX.out⟩
set_option maxRecDepth 100000 in
set_option maxHeartbeats 1600000 in
theorem changed2_any (h : BookS w x b P L D) (hg : LogG L) (hn : PoolN P) (hd : D.down = false) (hD : P.first + P.blocks ≤ D.n) (hp : LenP P) (r : RecM) (A1 : Option Addr) (c1 : Nat) (A2 : Option Addr) (c2 : Nat) (hr2 : RdB w A2 r.new) (hmK : ∀ b o, A2 = some ⟨b, o, none⟩ → b < w.heap.size → ¬ x.K b) (gb gr : Nat)
    (hgb : w.heap[gb]? = some (.cells #[ptrV x.bk] 24 (0, 0))) (hgr : w.heap[gr]? = some (.cells (recC r A1 c1 A2 c2) 86 (0, 0))) :
    Calls Tryz.prog 94 #[.pointer (some ⟨gb, 0, none⟩), .pointer (some ⟨gr, 0, none⟩)] w fun e w' => e = .returned (.int .i64 (changeM P L D r.blk r.off r.new b.last).2.2.2) ∧ ∃ x', BTo w x w' x' ∧ BookS w' x' b (changeM P L D r.blk r.off r.new b.last).1 (changeM P L D r.blk r.off r.new b.last).2.1 (changeM P L D r.blk r.off r.new b.last).2.2.1 := by
  have HCH := qh (pchange_any (w := w.drew) (h.s.keep0 ((Kept.refl (fun _ => False) w).drew)) hg hn hd hD r.blk r.off A1 r.old.length c1 A2 r.new c2 b.last (hr2.kept ((Kept.refl (fun _ => False) w).drew) (fun _ _ _ _ => id)) (fun b o e hlt hK => hmK b o e hlt (.inl hK)) (fun f hf _ => frame_b hp h.s.log.dev.lenD r.blk hf))
  have H := qh h
  have HS0 := qh (show (w.drew).heap[gb]? = some (.cells #[.pointer (some ⟨x.bk, 0, none⟩)] 24 (0, 0)) ∧ (w.drew).heap[gr]? = some (.cells (recC r A1 c1 A2 c2) 86 (0, 0)) ∧ (w.drew).heap[x.bk]? = some (.cells (bookC x b) 30 (0, 0)) from ⟨hgb, hgr, h.hb⟩)
  have HC := qh (fun (w' : World) (h : w'.heap[gb]? = some (.cells #[.pointer (some ⟨x.bk, 0, none⟩)] 24 (0, 0)) ∧ w'.heap[gr]? = some (.cells (recC r A1 c1 A2 c2) 86 (0, 0)) ∧ w'.heap[x.bk]? = some (.cells (bookC x b) 30 (0, 0))) => show w'.cell? ⟨gb, 0, none⟩ = some (.pointer (some ⟨x.bk, 0, none⟩)) ∧ w'.cell? ⟨x.bk, 2, none⟩ = some (.pointer (some ⟨x.a.pb, 0, none⟩)) ∧ w'.cell? ⟨x.bk, 5, none⟩ = some (.int .i64 b.last) ∧ RecAt w' gr r A1 c1 A2 c2 from ⟨cell_blk h.1 rfl, cell_blk h.2.2 rfl, cell_blk h.2.2 rfl, recAt_of h.2.1⟩)
  unfold PChPost at HCH
  dsimp only at HCH
  obtain ⟨V, hV⟩ : ∃ V, V = changeM P L D r.blk r.off r.new b.last := ⟨_, rfl⟩
  rw [← hV] at HCH ⊢
  unfold ptrV at HCH
  obtain ⟨P1, L1, D1, c⟩ := V
  dsimp only at HCH ⊢
  obtain ⟨n1, hn1⟩ : ∃ n1, n1 = r.old.length := ⟨_, rfl⟩
  obtain ⟨n2, hn2⟩ : ∃ n2, n2 = r.new.length := ⟨_, rfl⟩
  clear h hg hn hr2 hmK hgb hgr hV hD hp hd hn1 hn2
  go_enter Tryz.func94, Tryz.ntmps94
  go_wp2_with fail
  refine startL 11 (fun w' => w'.heap[gb]? = some (.cells #[.pointer (some ⟨x.bk, 0, none⟩)] 24 (0, 0)) ∧ w'.heap[gr]? = some (.cells (recC r A1 c1 A2 c2) 86 (0, 0)) ∧ w'.heap[x.bk]? = some (.cells (bookC x b) 30 (0, 0))) (by kernel_rfl) HS0.out (fun hH => ?_)
  simp only [List.length_cons, List.length_nil, List.replicate]
  refine tK 0 ?_ (fun w' hw' => ?_) hH ?_
  rotate_left
  · obtain ⟨d0, d1, d2, -⟩ := HC.out w' hw'
    go_simp <;> with_reducible rfl
  simp only [Act.put, oZa, oZb, oZc]
  refine tK 1 ?_ (fun w' hw' => ?_) hH ?_
  rotate_left
  · obtain ⟨d0, d1, d2, -⟩ := HC.out w' hw'
    go_simp <;> with_reducible rfl
  simp only [Act.put, oZa, oZb, oZc]
  refine tK 2 ?_ (fun w' hw' => ?_) hH ?_
  rotate_left
  · obtain ⟨d0, d1, d2, -⟩ := HC.out w' hw'
    go_simp <;> with_reducible rfl
  simp only [Act.put, oZa, oZb, oZc]
  refine tK 3 ?_ (fun w' hw' => ?_) hH ?_
  rotate_left
  · obtain ⟨d0, d1, d2, -⟩ := HC.out w' hw'
    go_simp <;> with_reducible rfl
  simp only [Act.put, oZa, oZb, oZc]
  refine tK 4 ?_ (fun w' hw' => ?_) hH ?_
  rotate_left
  · obtain ⟨d0, d1, d2, -⟩ := HC.out w' hw'
    go_simp <;> with_reducible rfl
  simp only [Act.put, oZa, oZb, oZc]
  refine tK 5 ?_ (fun w' hw' => ?_) hH ?_
  rotate_left
  · obtain ⟨d0, d1, d2, r0, r1, r2, r3, r4, r5, r6, r7, r8, r9⟩ := HC.out w' hw'
    go_simp <;> with_reducible rfl
  simp only [Act.put, oZa, oZb, oZc]
  refine tK 6 ?_ (fun w' hw' => ?_) hH ?_
  rotate_left
  · obtain ⟨d0, d1, d2, -⟩ := HC.out w' hw'
    go_simp <;> with_reducible rfl
  simp only [Act.put, oZa, oZb, oZc]
  refine tK 7 ?_ (fun w' hw' => ?_) hH ?_
  rotate_left
  · obtain ⟨d0, d1, d2, -⟩ := HC.out w' hw'
    go_simp <;> with_reducible rfl
  simp only [Act.put, oZa, oZb, oZc]
  refine tK 8 ?_ (fun w' hw' => ?_) hH ?_
  rotate_left
  · obtain ⟨d0, d1, d2, -⟩ := HC.out w' hw'
    go_simp <;> with_reducible rfl
  simp only [Act.put, oZa, oZb, oZc]
  refine tK 9 ?_ (fun w' hw' => ?_) hH ?_
  rotate_left
  · obtain ⟨d0, d1, d2, -⟩ := HC.out w' hw'
    go_simp <;> with_reducible rfl
  simp only [Act.put, oZa, oZb, oZc]
  refine stepL 10 rfl (by kernel_rfl) (fun K hK => ?_)
  go_simp
  refine HCH.out.mono ?_
  rintro e wd ⟨rfl, a1, f1, s1, k1, g1⟩
  have hbp := (H.out.keep0 ((Kept.refl (fun _ => False) w).drew)).pool ⟨f1, k1, g1⟩ s1
  have HBS := qh hbp.1
  have HBT := qh ((BTo.refl w x).keep0 ((Kept.refl (fun _ => False) w).drew) |>.trans hbp.2)
  have HDD := qh (show wd.heap[gb]? = some (.cells #[.pointer (some ⟨x.bk, 0, none⟩)] 24 (0, 0)) ∧ wd.heap[gr]? = some (.cells (recC r A1 c1 A2 c2) 86 (0, 0)) ∧ wd.heap[x.bk]? = some (.cells (bookC x b) 30 (0, 0)) from
    ⟨k1.heap HS0.out.1 (fun hK => H.out.notT (y := gb) ⟨_, _, HS0.out.1⟩ (by decide) (by decide) (by decide) (by decide) (by decide) (by decide) (by decide) (by decide) (.inl hK)), k1.heap HS0.out.2.1 (fun hK => H.out.notT (y := gr) ⟨_, _, HS0.out.2.1⟩ (by decide) (by decide) (by decide) (by decide) (by decide) (by decide) (by decide) (by decide) (.inl hK)), k1.heap HS0.out.2.2 H.out.nbk⟩)
  clear f1 s1 k1 g1 hbp HCH
  go_simp
  refine hK.out _ _ (fun _ => HDD.out) (fun _ => ?_)
  simp only [oZa, oZb, oZc]
  clear hK K hH
  refine stepL 11 rfl (by kernel_rfl) (fun K hK => ?_)
  go_simp
  refine hK.out _ _ (fun h => absurd rfl h) (fun _ => ?_)
  simp only [oZa, oZb, oZc]
  clear hK K
  refine doneL (by kernel_rfl) ?_ _
  go_wp2
  go_ret
  exact ⟨rfl, _, HBT.out, HBS.out⟩
end
end Go.Proofs.YtfgagakepmigbaaGreat
namespace Go.Proofs.YtfgagakepmigbaaGreat
open Go.RowKit
section
variable {w w' w1 : World} {x x' : BAdr} {b b' : BkM} {P P' : PoolM} {L L' : LogM} {D D' : DevM}
theorem BTo.after {w2 : World} {x1 : BAdr} (h : BTo w x w1 x1) (k : Kept (fun _ => False) w' w) : BTo w' x w1 x1 := ⟨h.fix, (k.mono (fun _ _ h => False.elim h)).trans' h.k, fun z hz => by
  rcases h.g z hz with h1 | h1
  · exact .inl h1
  · have := k.size; exact .inr (by omega)⟩
theorem app_len (b : BkM) (L : LogM) (r : RecM) : (b.app L r).1.tx = b.tx ∧ (b.app L r).1.inT = b.inT ∧ (b.app L r).1.done = b.done ∧ (b.app L r).1.owed = b.owed ∧ (b.app L r).1.count = b.count := by
  unfold BkM.app
  dsimp only
  split <;> exact ⟨rfl, rfl, rfl, rfl, rfl⟩
set_option maxRecDepth 100000 in
set_option maxHeartbeats 1600000 in
theorem changed_any (h : BookS w x b P L D) (hg : LogG L) (r : RecM) (hg1 : (b.app L r).2.2 = 0 → LogG (b.app L r).2.1) (hn : PoolN P) (hd : D.down = false) (hD : P.first + P.blocks ≤ D.n) (hp : LenP P) (A1 : Option Addr) (c1 : Nat) (A2 : Option Addr) (c2 : Nat) (ho : RecOk r) (i1 : isI b.tx) (i2 : isI b.last) (h1 : r.old.length ≤ 1000000) (h2 : r.new.length ≤ 1000000) (hr1 : RdB w A1 r.old) (hr2 : RdB w A2 r.new) (hne : r.new ≠ [])
    (hmK : ∀ b o, A2 = some ⟨b, o, none⟩ → b < w.heap.size → ¬ x.K b) :
    Calls Tryz.prog 49 #[ptrV x.bk, .agg (recC r A1 c1 A2 c2)] w fun e w' => e = .returned (.int .i64 (b.chg P L D r).2.2.2.2) ∧ ∃ x', BTo w x w' x' ∧ BookS w' x' (b.chg P L D r).1 (b.chg P L D r).2.1 (b.chg P L D r).2.2.1 (b.chg P L D r).2.2.2.1 := by
  obtain ⟨V, hV⟩ : ∃ V, V = b.chg P L D r := ⟨_, rfl⟩
  rw [← hV]
  have HV := qh hV
  clear hV
  have H := qh h
  have HMK := qh hmK
  have HARG := qh (⟨hg, hn, hd, hD, hp, ho⟩ : LogG L ∧ PoolN P ∧ D.down = false ∧ P.first + P.blocks ≤ D.n ∧ LenP P ∧ RecOk r)
  have HG1 := qh hg1
  have HIS := qh (⟨i1, i2⟩ : isI b.tx ∧ isI b.last)
  have HLE := qh (⟨h1, h2⟩ : r.old.length ≤ 1000000 ∧ r.new.length ≤ 1000000)
  have HR1 := qh hr1
  have HR2 := qh hr2
  have hmf : ∀ (fn : Fn) (first cap : Array Value) (w : World), (Instr.makeFunc fn first cap).run Tryz.prog w = .ok (.func fn first cap) w := fun _ _ _ _ => rfl
  clear h hg hg1 hn hd hD hp ho i1 i2 h1 h2 hr1 hr2 hmK
  have HNE := qh hne
  clear hne
  unfold ptrV
  go_enter Tryz.func49, Tryz.ntmps49
  go_wp2_with (refine wl_box rfl 24 _ rfl (.pointer (some ⟨x.bk, 0, none⟩)) rfl ?_)
  intro gb wa l1 m1 hb1 hk1
  have HB := qh (show wa.heap[gb]? = some (.cells #[ptrV x.bk] 24 (0, 0)) from hb1)
  have HK1 := qh hk1
  clear hb1 hk1
  go_wp2_with (refine wl_box rfl 86 _ rfl (.agg (recC r A1 c1 A2 c2)) rfl ?_)
  intro gr wb l2 m2 hb2 hk2
  have HR := qh (show wb.heap[gr]? = some (.cells (recC r A1 c1 A2 c2) 86 (0, 0)) from hb2)
  have HB2 := qh (hk2.heap HB.out id)
  have HK2 := qh (HK1.out.trans0 hk2)
  clear hb2 hk2 HB HK1
  obtain ⟨F, hF⟩ : ∃ F : Array Value, F = #[FnV.v ⟨93, #[], #[.pointer (some ⟨gb, 0, none⟩), .pointer (some ⟨gr, 0, none⟩)]⟩, FnV.v ⟨94, #[], #[.pointer (some ⟨gb, 0, none⟩), .pointer (some ⟨gr, 0, none⟩)]⟩] := ⟨_, rfl⟩
  obtain ⟨wc, hwc⟩ : ∃ wc, wc = wb.alloc (.cells F 41) := ⟨_, rfl⟩
  have hk4 : Kept (fun _ => False) wb wc := by rw [hwc]; exact (Kept.refl _ wb).alloc _
  have hf4 : wc.heap[wb.heap.size]? = some (.cells F 41 (0, 0)) := by rw [hwc]; exact heap_alloc_new wb _
  obtain ⟨gf, hgf⟩ : ∃ gf, gf = wb.heap.size := ⟨_, rfl⟩
  rw [← hgf] at hf4
  have HB4 := qh (hk4.heap HB2.out id)
  have HR4 := qh (hk4.heap HR.out id)
  have HK4 := qh (HK2.out.trans0 hk4)
  have HS4 := qh (H.out.keep0 HK4.out)
  have HEA := qh (show Calls Tryz.prog 44 #[.slice (some ⟨gf, 0, none⟩) 2 2] wc fun e w' => ∃ n, e = .returned (.int .i64 n) ∧ n = V.2.2.2.2 ∧ ∃ x', BTo wc x w' x' ∧ BookS w' x' V.1 V.2.1 V.2.2.1 V.2.2.2.1 from by
    rw [HV.out]
    obtain ⟨hg, hn, hd, hD, hp, ho⟩ := HARG.out
    have hr1 := HR1.out.kept HK4.out (fun _ _ _ _ => id)
    have hr2 := HR2.out.kept HK4.out (fun _ _ _ _ => id)
    have hmK : ∀ b o, A2 = some ⟨b, o, none⟩ → b < wc.heap.size → ¬ x.K b := fun b o e hlt hK => HMK.out b o e (H.out.lt hK) hK
    have far : ∀ (y : Nat) (cs : Array Value) (t : TypeId), wc.heap[y]? = some (.cells cs t (0, 0)) → (t = 24 ∨ t = 86 ∨ t = 41) → ¬ x.K y := fun y cs t hy ht => by
      rcases ht with rfl | rfl | rfl <;> exact HS4.out.notT ⟨_, _, hy⟩ (by decide) (by decide) (by decide) (by decide) (by decide) (by decide) (by decide) (by decide)
    refine each2 wc gf _ _ _ (by rw [← hF]; exact hf4) ⟨fun wz => by kernel_rfl, (changed1_any HS4.out hg r A1 c1 A2 c2 ho HIS.out.1 HIS.out.2 HLE.out.1 HLE.out.2 hr1 hr2 gb gr HB4.out HR4.out).mono ?_⟩
    rintro e w5 ⟨rfl, x1, ht1, hs1⟩
    have hf5 : w5.heap[gf]? = some (.cells F 41 (0, 0)) := ht1.k.heap hf4 (far _ _ _ hf4 (.inr (.inr rfl)))
    refine ⟨_, rfl, by rw [← hF]; exact hf5, fun hne => ?_, fun h0 => ⟨fun wz => by kernel_rfl, ?_⟩⟩
    · unfold BkM.chg
      rw [if_pos hne]
      exact ⟨rfl, x1, ht1, hs1⟩
    · have hb5 : w5.heap[gb]? = some (.cells #[ptrV x1.bk] 24 (0, 0)) := by rw [ht1.fix.bk]; exact ht1.k.heap HB4.out (far _ _ _ HB4.out (.inl rfl))
      have hr5 := ht1.k.heap HR4.out (far _ _ _ HR4.out (.inr (.inl rfl)))
      have hrd5 := hr2.kept ht1.k hmK
      refine (changed2_any hs1 (HG1.out h0) hn hd hD hp r A1 c1 A2 c2 hrd5 (fun b o e hlt hK => ?_) gb gr hb5 hr5).mono ?_
      · rcases ht1.g b hK with h1 | h1
        · exact hmK b o e (HS4.out.lt h1) h1
        · obtain ⟨b2, o2, e2, hc2⟩ := hr2.cell (List.length_pos_iff.2 HNE.out)
          cases e.symm.trans e2
          have : b < wc.heap.size := block_lt_of_cell hc2
          omega
      · rintro e w6 ⟨rfl, x2, ht2, hs2⟩
        have hchg : b.chg P L D r = ((b.app L r).1, changeM P (b.app L r).2.1 D r.blk r.off r.new (b.app L r).1.last) := by unfold BkM.chg; rw [if_neg (fun h => h h0)]
        have hf6 : w6.heap[gf]? = some (.cells F 41 (0, 0)) := ht2.k.heap hf5 (hs1.notT ⟨_, _, hf5⟩ (by decide) (by decide) (by decide) (by decide) (by decide) (by decide) (by decide) (by decide))
        rw [hchg]
        have hfin : ∃ x', BTo wc x w6 x' ∧ BookS w6 x' (b.app L r).1 (changeM P (b.app L r).2.1 D r.blk r.off r.new (b.app L r).1.last).1 (changeM P (b.app L r).2.1 D r.blk r.off r.new (b.app L r).1.last).2.1 (changeM P (b.app L r).2.1 D r.blk r.off r.new (b.app L r).1.last).2.2.1 := ⟨x2, ht1.trans ht2, hs2⟩
        exact ⟨_, rfl, by rw [← hF]; exact hf6, fun _ => ⟨rfl, hfin⟩, fun h0 => ⟨h0.symm, hfin⟩⟩)
  have HW4 := qh (show wb.alloc (.cells #[Value.func (.func 93) #[] #[.pointer (some ⟨gb, 0, none⟩), .pointer (some ⟨gr, 0, none⟩)], .func (.func 94) #[] #[.pointer (some ⟨gb, 0, none⟩), .pointer (some ⟨gr, 0, none⟩)]] 41) = wc from by rw [hwc, hF]; rfl)
  have HGF := qh hgf
  clear hF hwc hk4 hf4 hgf
  go_wp2_with fail
  rw [HW4.out, ← HGF.out]
  refine HEA.out.mono ?_
  rintro e w5 ⟨n, rfl, rfl, x1, ht1, hs1⟩
  have HT := qh (ht1.after (w2 := w5) HK4.out)
  have HS := qh hs1
  clear ht1 hs1 HEA
  go_wp2
  go_ret
  exact ⟨rfl, x1, HT.out, HS.out⟩
end
end Go.Proofs.YtfgagakepmigbaaGreat
namespace Go.Proofs.YtfgagakepmigbaaGreat
open Go.RowKit
structure BkG (P : PoolM) (L : LogM) (D : DevM) : Prop where
  g : LogG L
  n : PoolN P
  up : D.down = false
  fit : P.first + P.blocks ≤ D.n
  lp : LenP P
section
variable {w w' w1 : World} {x x' : BAdr} {b b' : BkM} {P P' : PoolM} {L L' : LogM} {D D' : DevM}
theorem bthere_any (h : BookS w x b P L D) : Calls Tryz.prog 40 #[ptrV x.bk] w fun e w' => e = .returned (.bool true) ∧ w = w' := by
  obtain ⟨c0, -⟩ := h.cells
  unfold ptrV
  clear h
  go_enter Tryz.func40, Tryz.ntmps40
  go_wp2
  go_ret
  exact ⟨rfl, rfl⟩
theorem bpages_any (h : BookS w x b P L D) : Calls Tryz.prog 29 #[ptrV x.bk] w fun e w' => e = .returned (.int .i64 P.blocks) ∧ w = w' := by
  have HT := qh (bthere_any h)
  have HP := qh (ppages_any h.s)
  obtain ⟨-, -, c2, -⟩ := h.cells
  unfold ptrV at HT HP ⊢
  clear h
  go_enter Tryz.func29, Tryz.ntmps29
  go_wp2_with fail
  refine HT.out.mono ?_
  rintro e wx ⟨rfl, rfl⟩
  go_wp2_with fail
  refine HP.out.mono ?_
  rintro e wx ⟨rfl, rfl⟩
  go_wp2
  go_ret
  exact ⟨rfl, rfl⟩
theorem bin_any (h : BookS w x b P L D) : Calls Tryz.prog 65 #[ptrV x.bk] w fun e w' => e = .returned (.bool b.inT) ∧ w = w' := by
  have HT := qh (bthere_any h)
  obtain ⟨-, -, -, c3, -⟩ := h.cells
  obtain ⟨t, ht⟩ : ∃ t, t = b.inT := ⟨_, rfl⟩
  rw [← ht] at c3 ⊢
  unfold ptrV at HT ⊢
  clear h ht
  go_enter Tryz.func65, Tryz.ntmps65
  go_wp2_with fail
  refine HT.out.mono ?_
  rintro e wx ⟨rfl, rfl⟩
  go_wp2
  go_ret
  exact ⟨rfl, rfl⟩
def BPagePost (w : World) (x : BAdr) (b : BkM) (P : PoolM) (L : LogM) (D : DevM) (page : Int) (e : Ending) (w' : World) : Prop :=
  let X := frameM P L D page
  (X.2.2.2.2 ≠ 0 → e = .returned (.tuple #[.slice none 0 0, .int .i64 X.2.2.2.2]) ∧ ∃ x', BTo w x w' x' ∧ BookS w' x' b X.1 X.2.1 X.2.2.1) ∧
  (X.2.2.2.2 = 0 → ∃ x' f g c, BTo w x w' x' ∧ BookS w' x' b X.1 X.2.1 X.2.2.1 ∧ X.1.ring[X.2.2.2.1]? = some f ∧ f.b.length = 512 ∧ e = .returned (.tuple #[.slice (some ⟨g, 0, none⟩) 512 c, .int .i64 0]) ∧ OwnB w' w.heap.size g c f.b ∧ ¬ x'.K g)
theorem bread_any (h : BookS w x b P L D) (hg : BkG P L D) (page : Int) : Calls Tryz.prog 50 #[ptrV x.a.pb, .int .i64 page] w (BPagePost w x b P L D page) := by
  have hfb : ∀ f, (frameM P L D page).1.ring[(frameM P L D page).2.2.2.1]? = some f → f.b.length = 512 := fun f hf => frame_b hg.lp h.s.log.dev.lenD page hf
  refine (pread_any h.s hg.g hg.n hg.up hg.fit page (fun f hf _ => hfb f hf)).mono ?_
  intro e w' hh
  unfold PReadPost at hh
  unfold BPagePost
  dsimp only at hh ⊢
  generalize frameM P L D page = X at hh hfb
  refine ⟨fun hne => ?_, fun h0 => ?_⟩
  · obtain ⟨he, a1, f1, s1, k1, g1⟩ := hh.1 hne
    have := h.pool ⟨f1, k1, g1⟩ s1
    exact ⟨he, _, this.2, this.1⟩
  · obtain ⟨a1, f, A, c, t1, s1, q1, he, o1, n1⟩ := hh.2 h0
    have hl := hfb f q1
    have hp := h.pool t1 s1
    rcases o1.form with ⟨z1, z2⟩ | ⟨g, cap, z1, z2⟩
    · rw [z2] at hl; simp at hl
    · rw [hl] at z1
      injection z1 with z1 _ z3
      subst z1
      subst z3
      refine ⟨_, f, g, c, hp.2, hp.1, q1, hl, he, z2, fun hK => ?_⟩
      have hgb := z2.base_le
      rcases hK with hK | hK | hK
      · exact n1 g rfl hK
      · have := heap_lt h.hb
        have e2 : g = x.bk := hK
        omega
      · have := (h.row.base_le hK).2; omega
theorem bpage_any (h : BookS w x b P L D) (hg : BkG P L D) (page : Int) : Calls Tryz.prog 23 #[ptrV x.bk, .int .i64 page] w (BPagePost w x b P L D page) := by
  have HT := qh (bthere_any h)
  have HR := qh (bread_any h hg page)
  obtain ⟨-, -, c2, -⟩ := h.cells
  obtain ⟨POST, hPOST⟩ : ∃ POST, POST = BPagePost w x b P L D page := ⟨_, rfl⟩
  rw [← hPOST] at HR ⊢
  have HF := qh (show ∀ e w', POST e w' → ∃ v n, e = .returned (.tuple #[v, .int .i64 n]) from fun e w' hp => by
    rw [hPOST] at hp
    unfold BPagePost at hp
    dsimp only at hp
    by_cases h0 : (frameM P L D page).2.2.2.2 = 0
    · obtain ⟨_, _, _, _, _, _, _, _, he, _⟩ := hp.2 h0
      exact ⟨_, _, he⟩
    · exact ⟨_, _, (hp.1 h0).1⟩)
  unfold ptrV at HT HR ⊢
  clear h hPOST hg
  go_enter Tryz.func23, Tryz.ntmps23
  go_wp2_with fail
  refine HT.out.mono ?_
  rintro e wx ⟨rfl, rfl⟩
  go_wp2_with fail
  refine HR.out.mono ?_
  intro e w1 hp
  obtain ⟨v, n, rfl⟩ := HF.out e w1 hp
  have HP := qh hp
  clear hp
  go_wp2
  exact HP.out
end
end Go.Proofs.YtfgagakepmigbaaGreat
namespace Go.Proofs.YtfgagakepmigbaaGreat
open Go.RowKit
def spR (page : Int) (a d : Bytes) (s : Nat × Nat) : RecM := ⟨0, 0, 1, 0, 0, 0, page, s.1, segB a s, segB d s⟩
def recsM (page : Int) (a d : Bytes) : List RecM := (diffM a d).map (spR page a d)
def BkM.did (b : BkM) (r : RecM) : BkM := { b with done := b.done ++ [b.last], owed := b.owed + (51 + (r.new.length : Int)) }
def putAll : List RecM → BkM → PoolM → LogM → DevM → BkM × PoolM × LogM × DevM × Int
  | [], b, P, L, D => (b, P, L, D, 0)
  | r :: rs, b, P, L, D => if (b.chg P L D r).2.2.2.2 ≠ 0 then b.chg P L D r else putAll rs ((b.chg P L D r).1.did r) (b.chg P L D r).2.1 (b.chg P L D r).2.2.1 (b.chg P L D r).2.2.2.1
def costM : List RecM → Int
  | [] => 0
  | r :: rs => (43 + 2 * (r.new.length : Int)) + costM rs
def owesM : List RecM → Int
  | [] => 0
  | r :: rs => (51 + (r.new.length : Int)) + owesM rs
theorem costM_snoc (rs : List RecM) (r : RecM) : costM (rs ++ [r]) = costM rs + (43 + 2 * (r.new.length : Int)) := by
  induction rs with
  | nil => simp [costM]
  | cons a l ih => simp only [List.cons_append, costM, ih]; omega
theorem owesM_snoc (rs : List RecM) (r : RecM) : owesM (rs ++ [r]) = owesM rs + (51 + (r.new.length : Int)) := by
  induction rs with
  | nil => simp [owesM]
  | cons a l ih => simp only [List.cons_append, owesM, ih]; omega
def frameB (X : PoolM × LogM × DevM × Nat × Int) : Bytes := match X.1.ring[X.2.2.2.1]? with | some f => f.b | none => []
def putM (b : BkM) (P : PoolM) (L : LogM) (D : DevM) (page : Int) (data : Bytes) : BkM × PoolM × LogM × DevM × Int :=
  if b.inT = false then (b, P, L, D, 7) else
  if page < 0 ∨ P.blocks ≤ page then (b, P, L, D, 6) else
  if data.length ≠ 512 then (b, P, L, D, 2) else
  if (frameM P L D page).2.2.2.2 ≠ 0 then (b, (frameM P L D page).1, (frameM P L D page).2.1, (frameM P L D page).2.2.1, (frameM P L D page).2.2.2.2) else
  if (frameM P L D page).2.1.room < costM (recsM page (frameB (frameM P L D page)) data) + (b.owed + owesM (recsM page (frameB (frameM P L D page)) data)) then (b, (frameM P L D page).1, (frameM P L D page).2.1, (frameM P L D page).2.2.1, 5) else
  putAll (recsM page (frameB (frameM P L D page)) data) b (frameM P L D page).1 (frameM P L D page).2.1 (frameM P L D page).2.2.1
section
variable {w w' w1 : World} {x x' : BAdr} {b b' : BkM} {P P' : PoolM} {L L' : LogM} {D D' : DevM}
theorem undo_any (p o : Int) (A : Option Addr) (n c : Nat) (B : Option Addr) (m d : Nat) (hm : m ≤ 1000000) (w : World) :
    Calls Tryz.prog 53 #[.agg (spnC p o A n c B m d)] w fun e w' => e = .returned (.int .i64 (51 + (m : Int))) ∧ Kept (fun _ => False) w w' := by
  go_enter Tryz.func53, Tryz.ntmps53
  go_wp2_with (refine wl_box rfl 84 _ rfl (.agg (spnC p o A n c B m d)) rfl ?_)
  intro g w1 l1 l2 hb1 hk1
  have HK := qh hk1
  have c3 : w1.cell? ⟨g, 3, none⟩ = some (.slice B m d) := cell_blk hb1 rfl
  have e1 : wrap64 (51 + (m : Int)) = 51 + (m : Int) := by unfold wrap64; omega
  clear hb1 hk1
  go_wp2
  go_ret
  exact ⟨rfl, HK.out⟩
theorem bRcS (p o : Int) (A : Option Addr) (n c : Nat) (B : Option Addr) (m d : Nat) (wz : World) : (Instr.build 86 #[(2, .int .u8 1), (6, .agg #[.int .i64 p, .int .i64 o, .slice A n c, .slice B m d])]).run Tryz.prog wz =
    .ok (.agg #[.int .i64 0, .int .i64 0, .int .u8 1, .int .i64 0, .int .i64 0, .int .i64 0, .int .i64 p, .int .i64 o, .slice A n c, .slice B m d]) wz := run_build wz _ _ _ (by kernel_rfl)
end
end Go.Proofs.YtfgagakepmigbaaGreat
namespace Go.Proofs.YtfgagakepmigbaaGreat
open Go.RowKit
def SpAt (w : World) (B N : Nat) (G : Option Addr) (L : List SpD) (a d : Bytes) : Prop := ∀ k s, L[k]? = some s → (s.f < s.t ∧ s.t ≤ 512) ∧ ∃ g, G = some ⟨g, 0, none⟩ ∧ (B ≤ g ∧ g < N) ∧ (B ≤ s.g1 ∧ s.g1 < N) ∧ (B ≤ s.g2 ∧ s.g2 < N) ∧ (∀ j u, (spVals s)[j]? = some u → w.cell? ⟨g, k * 4 + j, none⟩ = some u) ∧
  RdB w (some ⟨s.g1, 0, none⟩) (segB a (s.f, s.t)) ∧ RdB w (some ⟨s.g2, 0, none⟩) (segB d (s.f, s.t))
theorem SpAt.keep {S : Nat → Prop} {w w' : World} {B N : Nat} {G : Option Addr} {L : List SpD} {a d : Bytes} (h : SpAt w B N G L a d) (hk : Kept S w w') (hN : N ≤ w.heap.size) (hS : ∀ z, B ≤ z → z < N → ¬ S z) : SpAt w' B N G L a d := by
  intro k s hs
  obtain ⟨h1, g, h2, h3, h4, h5, h6, h7, h8⟩ := h k s hs
  refine ⟨h1, g, h2, h3, h4, h5, fun j u hu => ?_, h7.kept hk (fun b o e _ => ?_), h8.kept hk (fun b o e _ => ?_)⟩
  · exact (World.cell?_of_block (hk.block g (by omega) (hS g h3.1 h3.2))).trans (h6 j u hu)
  · cases e; exact hS _ h4.1 h4.2
  · cases e; exact hS _ h5.1 h5.2
theorem rowSp_getB : ∀ (L : List SpD) (k j : Nat) (s : SpD), L[k]? = some s → j < 4 → (rowSp L)[k * 4 + j]? = (spVals s)[j]?
  | [], k, j, s, h, _ => by simp at h
  | t :: L, 0, j, s, h, hj => by
    have e : t = s := by simpa using h
    subst e
    show ((spVals t) ++ rowSp L)[0 * 4 + j]? = _
    rw [Nat.zero_mul, Nat.zero_add, List.getElem?_append_left (by simp [spVals]; omega)]
  | t :: L, k + 1, j, s, h, hj => by
    show ((spVals t) ++ rowSp L)[(k + 1) * 4 + j]? = _
    rw [List.getElem?_append_right (by simp [spVals]; omega)]
    have e : (k + 1) * 4 + j - (spVals t).length = k * 4 + j := by simp [spVals]; omega
    rw [e]
    exact rowSp_getB L k j s (by simpa using h) hj
theorem SpAt.of {w : World} {B : Nat} {v : Value} {L : List SpD} {a d : Bytes} (h : OwnSp w B v L) (hs : SegsAt w B a d L) (hd : L.map (fun s => (s.f, s.t)) = diffM a d) : ∃ G c, v = .slice G L.length c ∧ SpAt w B w.heap.size G L a d := by
  have hok : ∀ s ∈ L, s.f < s.t ∧ s.t ≤ 512 := fun s hsL => by
    have hm : (s.f, s.t) ∈ diffM a d := by rw [← hd]; exact List.mem_map_of_mem (f := fun s => (s.f, s.t)) hsL
    have := (diffM_good a d).ok _ hm
    exact ⟨this.1, this.2.1⟩
  have lt : ∀ (g c : Nat) (l : Bytes), OwnB w B g c l → B ≤ g ∧ g < w.heap.size := fun g c l ho => by
    obtain ⟨cur, h1, h2, _⟩ := ho.form
    exact ⟨h1, heap_lt h2⟩
  obtain ⟨h1, ⟨h2, h3⟩ | ⟨g, cap, cur, hv, hg, hh, hle, -, hc, ht⟩⟩ := h
  · refine ⟨none, 0, by rw [h2, h3], fun k s hk => ?_⟩
    have := (List.getElem?_eq_some_iff.1 hk).1
    omega
  · refine ⟨_, _, hv, fun k s hk => ?_⟩
    have hsL := List.mem_of_getElem? hk
    obtain ⟨o1, o2⟩ := hs s hsL
    refine ⟨hok s hsL, g, rfl, ⟨hg, heap_lt hh⟩, lt _ _ _ o1, lt _ _ _ o2, fun j u hu => cell_blk hh ?_, o1.v.rd, o2.v.rd⟩
    have hj : j < 4 := by
      have := (List.getElem?_eq_some_iff.1 hu).1
      simpa [spVals] using this
    have hkl := (List.getElem?_eq_some_iff.1 hk).1
    have e := rowSp_getB L k j s hk hj
    rw [hu, ← ht, List.getElem?_take, if_pos (by omega)] at e
    simpa using e
structure PutJ (rs : List RecM) (J : Nat → BkM → PoolM → LogM → DevM → Prop) : Prop where
  good : ∀ k b P L D r, J k b P L D → rs[k]? = some r → BkG P L D ∧ (isI b.tx ∧ isI b.last) ∧ b.done.length ≤ 1000000 ∧ (0 ≤ b.owed ∧ b.owed ≤ 1000000000) ∧ ((b.app L r).2.2 = 0 → LogG (b.app L r).2.1)
  next : ∀ k b P L D r, J k b P L D → rs[k]? = some r → (b.chg P L D r).2.2.2.2 = 0 → J (k + 1) ((b.chg P L D r).1.did r) (b.chg P L D r).2.1 (b.chg P L D r).2.2.1 (b.chg P L D r).2.2.2.1
theorem putAll_cons {rs : List RecM} {k : Nat} {r : RecM} (h : rs[k]? = some r) (b : BkM) (P : PoolM) (L : LogM) (D : DevM) : putAll (rs.drop k) b P L D = if (b.chg P L D r).2.2.2.2 ≠ 0 then b.chg P L D r else putAll (rs.drop (k + 1)) ((b.chg P L D r).1.did r) (b.chg P L D r).2.1 (b.chg P L D r).2.2.1 (b.chg P L D r).2.2.2.1 := by
  obtain ⟨hk, he⟩ := List.getElem?_eq_some_iff.1 h
  rw [List.drop_eq_getElem_cons hk, he]
  rfl
theorem costM_take {rs : List RecM} {k : Nat} {r : RecM} (h : rs[k]? = some r) : costM (rs.take (k + 1)) = costM (rs.take k) + (43 + 2 * (r.new.length : Int)) ∧ owesM (rs.take (k + 1)) = owesM (rs.take k) + (51 + (r.new.length : Int)) := by
  obtain ⟨hk, he⟩ := List.getElem?_eq_some_iff.1 h
  rw [List.take_succ_eq_append_getElem hk, he, costM_snoc, owesM_snoc]
  exact ⟨rfl, rfl⟩
theorem costM_le : ∀ (rs : List RecM), (∀ r ∈ rs, r.new.length ≤ 512) → 0 ≤ costM rs ∧ costM rs ≤ 1067 * (rs.length : Int) ∧ 0 ≤ owesM rs ∧ owesM rs ≤ 563 * (rs.length : Int)
  | [], _ => by simp [costM, owesM]
  | r :: rs, h => by
    have ih := costM_le rs (fun x hx => h x (by simp [hx]))
    have := h r (by simp)
    simp only [costM, owesM, List.length_cons]
    omega
end Go.Proofs.YtfgagakepmigbaaGreat
