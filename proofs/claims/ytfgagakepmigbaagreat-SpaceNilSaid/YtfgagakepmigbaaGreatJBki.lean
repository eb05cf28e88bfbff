/-
  No statement is proved here.
-/
import Derived.Test.YtfgagakepmigbaaGreatJQfl
import Derived.Test.YtfgagakepmigbaaGreatJBkg
import Derived.Test.YtfgagakepmigbaaGreatJQk
namespace Go.Proofs.YtfgagakepmigbaaGreat
open Go.RowKit
section
variable {w w' w1 : World} {a : Adr} {P : PoolM} {L : LogM} {D : DevM}
theorem PoolS.app (h : PoolS w a P L D) (hg : LogG L) (q : Nat) (hq : a.q = q) (r : RecM) (A1 : Option Addr) (c1 : Nat) (A2 : Option Addr) (c2 : Nat) (ho : RecOk r) (h1 : r.old.length ≤ 1000000) (h2 : r.new.length ≤ 1000000) (hr1 : RdB w A1 r.old) (hr2 : RdB w A2 r.new) :
    Calls Tryz.prog 85 #[.pointer (some ⟨q, 0, none⟩), .agg (recC r A1 c1 A2 c2)] w fun e w' => e = .returned (.tuple #[.int .i64 (L.append r).2.1, .int .i64 (L.append r).2.2]) ∧ ∃ a', PoolS w' a' P (L.append r).1 D ∧ AdrTo w a w' a' := by
  subst hq
  have hti : isI L.turn := by have := hg.t1; have := hg.t2; unfold isI; omega
  refine (append_any w a.q a.p a.ms a.mo a.lv a.tv L D h.log hg.ok hti hg.tl hg.r.ll r A1 c1 A2 c2 ho h1 h2 hr1 hr2).mono ?_
  rintro e w' ⟨he, lv', tv', hs, hk, hl, ht⟩
  have := h.turn hk (fun x hx => by
    rcases hx with hx | hx | hx
    · exact .inl hx
    · exact .inr (.inr (.inr (.inr (.inl hx))))
    · exact .inr (.inr (.inr (.inr (.inr hx))))) hs hl ht
  exact ⟨he, _, this.1, ⟨⟨rfl, rfl, rfl, rfl, rfl, rfl⟩, this.2.1, this.2.2⟩⟩
theorem PoolS.trim (h : PoolS w a P L D) (hg : LogG L) (q : Nat) (hq : a.q = q) (n : Int) :
    Calls Tryz.prog 84 #[.pointer (some ⟨q, 0, none⟩), .int .i64 n] w fun e w' => e = .returned (.int .i64 (L.trim n).2) ∧ ∃ a', PoolS w' a' P (L.trim n).1 D ∧ AdrTo w a w' a' := by
  subst hq
  refine (trim_any w a.q a.p a.ms a.mo a.lv a.tv L D h.log hg.r.ri hg.r.ll n).mono ?_
  rintro e w' ⟨he, lv', hs, hk, hl⟩
  have := h.turn hk (fun x hx => .inl hx) hs (.inl hl) (.inl rfl)
  exact ⟨he, _, this.1, ⟨⟨rfl, rfl, rfl, rfl, rfl, rfl⟩, this.2.1, this.2.2⟩⟩
theorem PoolS.forceA (h : PoolS w a P L D) (hg : LogG L) (q : Nat) (hq : a.q = q) :
    Calls Tryz.prog 47 #[.pointer (some ⟨q, 0, none⟩)] w fun e w' => e = .returned (.int .i64 (L.force D).2.2) ∧ ∃ a', PoolS w' a' P (L.force D).1 (L.force D).2.1 ∧ AdrTo w a w' a' := by
  subst hq
  refine (h.force hg).mono ?_
  rintro e w' ⟨he, tv', hs, hk, hgr⟩
  exact ⟨he, _, hs, ⟨⟨rfl, rfl, rfl, rfl, rfl, rfl⟩, hk, hgr⟩⟩
end
end Go.Proofs.YtfgagakepmigbaaGreat
namespace Go.Proofs.YtfgagakepmigbaaGreat
open Go.RowKit
structure BkM where
  inT : Bool
  tx : Int
  last : Int
  done : List Int
  owed : Int
  count : Int
structure BAdr where
  a : Adr
  bk : Nat
  dv : Value
def bookC (x : BAdr) (b : BkM) : Array Value := #[ptrV x.a.p, ptrV x.a.q, ptrV x.a.pb, .bool b.inT, .int .i64 b.tx, .int .i64 b.last, x.dv, .int .i64 b.owed, .int .i64 b.count]
def BAdr.K (x : BAdr) (z : Nat) : Prop := x.a.K z ∨ z = x.bk ∨ x.dv.ownBlock = some z
structure BookS (w : World) (x : BAdr) (b : BkM) (P : PoolM) (L : LogM) (D : DevM) : Prop where
  s : PoolS w x.a P L D
  hb : w.heap[x.bk]? = some (.cells (bookC x b) 30 (0, 0))
  row : LsV w 0 x.dv b.done
  nd : ∀ z, x.dv.ownBlock = some z → ¬ x.a.K z
structure BAdr.Fix (x x' : BAdr) : Prop where
  a : x.a.Fix x'.a
  bk : x'.bk = x.bk
theorem BAdr.Fix.refl (x : BAdr) : x.Fix x := ⟨.refl _, rfl⟩
theorem BAdr.Fix.trans {x y z : BAdr} (h : x.Fix y) (k : y.Fix z) : x.Fix z := ⟨h.a.trans k.a, k.bk.trans h.bk⟩
structure BTo (w : World) (x : BAdr) (w' : World) (x' : BAdr) : Prop where
  fix : x.Fix x'
  k : Kept x.K w w'
  g : ∀ z, x'.K z → x.K z ∨ w.heap.size ≤ z
theorem BTo.refl (w : World) (x : BAdr) : BTo w x w x := ⟨.refl x, Kept.refl _ _, fun _ h => .inl h⟩
theorem BTo.trans {w w1 w2 : World} {x x1 x2 : BAdr} (h : BTo w x w1 x1) (k : BTo w1 x1 w2 x2) : BTo w x w2 x2 := ⟨h.fix.trans k.fix, h.k.trans k.k (fun z hz h' => by
  rcases h.g z h' with h1 | h1
  · exact h1
  · omega), fun z hz => by
  rcases k.g z hz with h1 | h1
  · exact h.g z h1
  · have := h.k.size; exact .inr (by omega)⟩
theorem BTo.keep0 {w w1 w2 : World} {x x1 : BAdr} (h : BTo w x w1 x1) (k : Kept (fun _ => False) w1 w2) : BTo w x w2 x1 := ⟨h.fix, h.k.trans0 k, h.g⟩
theorem BTo.early {w w1 w2 : World} {x x1 : BAdr} (k : Kept (fun _ => False) w w1) (h : BTo w1 x w2 x1) : BTo w x w2 x1 := ⟨h.fix, (k.mono (fun _ _ h => False.elim h)).trans' h.k, fun z hz => by
  rcases h.g z hz with h1 | h1
  · exact .inl h1
  · have := k.size; exact .inr (by omega)⟩
section
variable {w w' w1 : World} {x x' : BAdr} {b b' : BkM} {P P' : PoolM} {L L' : LogM} {D D' : DevM}
theorem BookS.tbk (h : BookS w x b P L D) : IsT w x.bk 30 := ⟨_, _, h.hb⟩
theorem BookS.nbk (h : BookS w x b P L D) : ¬ x.a.K x.bk := fun hK => by
  have hx := h.tbk
  have h0 := h.s
  rcases hK with hK | e | e | hK | ⟨y, hy, e | e⟩
  · rcases hK with e | e | e | e | hK | hK
    · exact hx.ne h0.tq (by decide) e
    · exact hx.ne h0.tp (by decide) e
    · exact hx.nem h0.log.dev.hs e
    · exact hx.nem h0.log.dev.ho e
    · exact hx.ne (h0.tlv hK) (by decide) rfl
    · exact hx.ne (h0.ttv hK) (by decide) rfl
  · exact hx.ne h0.tpb (by decide) e
  · exact hx.nem h0.map e
  · exact hx.ne (h0.trv hK) (by decide) rfl
  · exact hx.ne (h0.tk hy) (by decide) e
  · exact hx.ne (h0.tg hy) (by decide) e
theorem LsV.T {w : World} {base : Nat} {v : Value} {l : List Int} (h : LsV w base v l) {z : Nat} (hz : v.ownBlock = some z) : IsT w z 2 := by
  rcases h with ⟨rfl, _⟩ | ⟨g, off, c, cur, rfl, h2, h3, _⟩
  · cases hz
  · cases hz; exact ⟨_, _, h3⟩
theorem BookS.lt (h : BookS w x b P L D) {z : Nat} (hz : x.K z) : z < w.heap.size := by
  rcases hz with hz | rfl | hz
  · exact h.s.lt hz
  · exact heap_lt h.hb
  · exact (h.row.base_le hz).2
theorem BookS.keep {S : Nat → Prop} (h : BookS w x b P L D) (hk : Kept S w w') (hn : ∀ z, x.K z → ¬ S z) : BookS w' x b P L D :=
  ⟨h.s.keep hk (fun z hz => hn z (.inl hz)), hk.heap h.hb (hn _ (.inr (.inl rfl))), h.row.keep hk (fun z hz => hn z (.inr (.inr hz))), h.nd⟩
theorem BookS.keep0 (h : BookS w x b P L D) (hk : Kept (fun _ => False) w w') : BookS w' x b P L D := h.keep hk (fun _ _ => id)
theorem bookC_fix {x x' : BAdr} (h : x.a.Fix x'.a) (hd : x'.dv = x.dv) (b : BkM) : bookC x' b = bookC x b := by unfold bookC; rw [h.p, h.q, h.pb, hd]
theorem BookS.pool {a' : Adr} (h : BookS w x b P L D) (ht : AdrTo w x.a w' a') (hs : PoolS w' a' P' L' D') : BookS w' { x with a := a' } b P' L' D' ∧ BTo w x w' { x with a := a' } := by
  have hd : ∀ z, x.dv.ownBlock = some z → ¬ a'.K z := fun z hz hK => by
    rcases ht.g z hK with h1 | h1
    · exact h.nd z hz h1
    · have := (h.row.base_le hz).2; omega
  refine ⟨⟨hs, ?_, h.row.keep ht.k h.nd, hd⟩, ⟨ht.fix, rfl⟩, ht.k.mono (fun z _ hz => .inl hz), fun z hz => ?_⟩
  · have e : bookC { x with a := a' } b = bookC x b := bookC_fix (x := x) (x' := { x with a := a' }) ht.fix rfl b
    show w'.heap[x.bk]? = _
    rw [e]
    exact ht.k.heap h.hb h.nbk
  · rcases hz with hz | hz | hz
    · rcases ht.g z hz with h1 | h1
      · exact .inl (.inl h1)
      · exact .inr h1
    · exact .inl (.inr (.inl hz))
    · exact .inl (.inr (.inr hz))
theorem BookS.set (h : BookS w x b P L D) (hd : b'.done = b.done) (hb : w'.heap[x.bk]? = some (.cells (bookC x b') 30 (0, 0))) (hk : Kept (fun z => z = x.bk) w w') : BookS w' x b' P L D ∧ BTo w x w' x := by
  have hn : ∀ z, x.dv.ownBlock = some z → z ≠ x.bk := fun z hz e => (h.row.T hz).ne h.tbk (by decide) e
  refine ⟨⟨h.s.keep hk (fun z hz e => h.nbk (by rw [← e]; exact hz)), hb, by rw [hd]; exact h.row.keep hk hn, h.nd⟩, .refl x, hk.mono (fun z _ e => .inr (.inl e)), fun z hz => .inl hz⟩
theorem BookS.setDone {v : Value} (h : BookS w x b P L D) (hr : LsV w' 0 v b'.done) (hb : w'.heap[x.bk]? = some (.cells (bookC { x with dv := v } b') 30 (0, 0))) (hk : Kept (fun z => z = x.bk ∨ x.dv.ownBlock = some z) w w') (hv : v.ownBlock = none ∨ v.ownBlock = x.dv.ownBlock ∨ ∀ z, v.ownBlock = some z → w.heap.size ≤ z) :
    BookS w' { x with dv := v } b' P L D ∧ BTo w x w' { x with dv := v } := by
  refine ⟨⟨h.s.keep hk (fun z hz e => ?_), hb, hr, fun z hz hK => ?_⟩, ⟨.refl _, rfl⟩, hk.mono (fun z _ e => by rcases e with e | e; exact .inr (.inl e); exact .inr (.inr e)), fun z hz => ?_⟩
  · rcases e with e | e
    · exact h.nbk (by rw [← e]; exact hz)
    · exact h.nd z e hz
  · rcases hv with hv | hv | hv
    · rw [hv] at hz; cases hz
    · exact h.nd z (by rw [← hv]; exact hz) hK
    · have := hv z hz; have := h.s.lt hK; omega
  · rcases hz with hz | hz | hz
    · exact .inl (.inl hz)
    · exact .inl (.inr (.inl hz))
    · rcases hv with hv | hv | hv
      · rw [hv] at hz; cases hz
      · exact .inl (.inr (.inr (by rw [← hv]; exact hz)))
      · exact .inr (hv z hz)
theorem BookS.notT (h : BookS w x b P L D) {y : Nat} {t : TypeId} (hx : IsT w y t) (t1 : t ≠ 118) (t2 : t ≠ 100) (t3 : t ≠ 143) (t4 : t ≠ 133) (t5 : t ≠ 137) (t6 : t ≠ 5) (t7 : t ≠ 2) (t8 : t ≠ 30) : ¬ x.K y := fun hK => by
  have h0 := h.s
  rcases hK with (hK | e | e | hK | ⟨y, hy, e | e⟩) | e | hK
  · rcases hK with e | e | e | e | hK | hK
    · exact hx.ne h0.tq t1 e
    · exact hx.ne h0.tp t2 e
    · exact hx.nem h0.log.dev.hs e
    · exact hx.nem h0.log.dev.ho e
    · exact hx.ne (h0.tlv hK) t7 rfl
    · exact hx.ne (h0.ttv hK) t6 rfl
  · exact hx.ne h0.tpb t3 e
  · exact hx.nem h0.map e
  · exact hx.ne (h0.trv hK) t4 rfl
  · exact hx.ne (h0.tk hy) t5 e
  · exact hx.ne (h0.tg hy) t6 e
  · exact hx.ne h.tbk t8 e
  · exact hx.ne (h.row.T hK) t7 rfl
end
end Go.Proofs.YtfgagakepmigbaaGreat
namespace Go.Proofs.YtfgagakepmigbaaGreat
open Go.RowKit
def BkM.recB (b : BkM) (r : RecM) : RecM := { r with tx := b.tx, prev := b.last }
def BkM.app (b : BkM) (L : LogM) (r : RecM) : BkM × LogM × Int := (if (L.append (b.recB r)).2.2 = 0 then { b with last := (L.append (b.recB r)).2.1 } else b, (L.append (b.recB r)).1, (L.append (b.recB r)).2.2)
section
variable {w w' w1 : World} {x x' : BAdr} {b b' : BkM} {P P' : PoolM} {L L' : LogM} {D D' : DevM}
theorem BookS.cells (h : BookS w x b P L D) : w.cell? ⟨x.bk, 0, none⟩ = some (.pointer (some ⟨x.a.p, 0, none⟩)) ∧ w.cell? ⟨x.bk, 1, none⟩ = some (.pointer (some ⟨x.a.q, 0, none⟩)) ∧ w.cell? ⟨x.bk, 2, none⟩ = some (.pointer (some ⟨x.a.pb, 0, none⟩)) ∧ w.cell? ⟨x.bk, 3, none⟩ = some (.bool b.inT) ∧
    w.cell? ⟨x.bk, 4, none⟩ = some (.int .i64 b.tx) ∧ w.cell? ⟨x.bk, 5, none⟩ = some (.int .i64 b.last) ∧ w.cell? ⟨x.bk, 6, none⟩ = some x.dv ∧ w.cell? ⟨x.bk, 7, none⟩ = some (.int .i64 b.owed) ∧ w.cell? ⟨x.bk, 8, none⟩ = some (.int .i64 b.count) :=
  ⟨cell_blk h.hb rfl, cell_blk h.hb rfl, cell_blk h.hb rfl, cell_blk h.hb rfl, cell_blk h.hb rfl, cell_blk h.hb rfl, cell_blk h.hb rfl, cell_blk h.hb rfl, cell_blk h.hb rfl⟩
theorem bookC_cells {x : BAdr} {b : BkM} (h : w'.heap[x.bk]? = some (.cells (bookC x b) 30 (0, 0))) : w'.cell? ⟨x.bk, 0, none⟩ = some (.pointer (some ⟨x.a.p, 0, none⟩)) ∧ w'.cell? ⟨x.bk, 1, none⟩ = some (.pointer (some ⟨x.a.q, 0, none⟩)) ∧ w'.cell? ⟨x.bk, 2, none⟩ = some (.pointer (some ⟨x.a.pb, 0, none⟩)) ∧ w'.cell? ⟨x.bk, 3, none⟩ = some (.bool b.inT) ∧
    w'.cell? ⟨x.bk, 4, none⟩ = some (.int .i64 b.tx) ∧ w'.cell? ⟨x.bk, 5, none⟩ = some (.int .i64 b.last) ∧ w'.cell? ⟨x.bk, 6, none⟩ = some x.dv ∧ w'.cell? ⟨x.bk, 7, none⟩ = some (.int .i64 b.owed) ∧ w'.cell? ⟨x.bk, 8, none⟩ = some (.int .i64 b.count) :=
  ⟨cell_blk h rfl, cell_blk h rfl, cell_blk h rfl, cell_blk h rfl, cell_blk h rfl, cell_blk h rfl, cell_blk h rfl, cell_blk h rfl, cell_blk h rfl⟩
set_option maxRecDepth 100000 in
set_option maxHeartbeats 1600000 in
theorem bappend_any (h : BookS w x b P L D) (hg : LogG L) (r : RecM) (A1 : Option Addr) (c1 : Nat) (A2 : Option Addr) (c2 : Nat) (ho : RecOk r) (i1 : isI b.tx) (i2 : isI b.last) (h1 : r.old.length ≤ 1000000) (h2 : r.new.length ≤ 1000000) (hr1 : RdB w A1 r.old) (hr2 : RdB w A2 r.new) :
    Calls Tryz.prog 46 #[ptrV x.bk, .agg (recC r A1 c1 A2 c2)] w fun e w' => e = .returned (.int .i64 (b.app L r).2.2) ∧ ∃ x', BTo w x w' x' ∧ BookS w' x' (b.app L r).1 P (b.app L r).2.1 D := by
  have H := qh h
  have HG := qh hg
  have HO := qh (show RecOk (b.recB r) from by obtain ⟨q1, q2, q3, q4, q5, q6, q7⟩ := ho; exact ⟨q1, q2, i1, i2, q5, q6, q7⟩)
  have HR1 := qh hr1
  have HR2 := qh hr2
  have H1 := qh h1
  have H2 := qh h2
  obtain ⟨n1, hn1⟩ : ∃ n1, n1 = r.old.length := ⟨_, rfl⟩
  obtain ⟨n2, hn2⟩ : ∃ n2, n2 = r.new.length := ⟨_, rfl⟩
  obtain ⟨POST, hPOST⟩ : ∃ POST : Int → World → Prop, POST = (fun n w' => n = (b.app L r).2.2 ∧ ∃ x', BTo w x w' x' ∧ BookS w' x' (b.app L r).1 P (b.app L r).2.1 D) := ⟨_, rfl⟩
  have HPO := qh (show ∀ n w', POST n w' → (Ending.returned (.int .i64 n) = .returned (.int .i64 (b.app L r).2.2) ∧ ∃ x', BTo w x w' x' ∧ BookS w' x' (b.app L r).1 P (b.app L r).2.1 D) from fun n w' h => by rw [hPOST] at h; exact ⟨by rw [h.1], h.2⟩)
  have HPI := qh (show ∀ n w', (n = (b.app L r).2.2 ∧ ∃ x', BTo w x w' x' ∧ BookS w' x' (b.app L r).1 P (b.app L r).2.1 D) → POST n w' from fun n w' h => by rw [hPOST]; exact h)
  have HAP := qh (show b.app L r = (if (L.append (b.recB r)).2.2 = 0 then { b with last := (L.append (b.recB r)).2.1 } else b, (L.append (b.recB r)).1, (L.append (b.recB r)).2.2) from rfl)
  clear h hg ho hr1 hr2 h1 h2 i1 i2 hPOST
  unfold ptrV
  go_enter Tryz.func46, Tryz.ntmps46
  go_wp2_with (refine wl_box rfl 86 _ rfl (.agg (recC r A1 c1 A2 c2)) rfl ?_)
  intro gr wa l1 m1 hb1 hka
  have HGR := qh (show wa.heap[gr]? = some (.cells (recC r A1 c1 A2 c2) 86 (0, 0)) from hb1)
  have HKA := qh hka
  have HS0 := qh (show (wa.drew).heap[x.bk]? = some (.cells (bookC x b) 30 (0, 0)) from hka.heap H.out.hb id)
  have HC := qh (fun (w' : World) (h : w'.heap[x.bk]? = some (.cells (bookC x b) 30 (0, 0))) => bookC_cells h)
  have hgk : ¬ gr = x.bk := by have := heap_lt H.out.hb; omega
  clear hb1 hka
  go_wp2_with fail
  refine startL 11 (fun w' => w'.heap[x.bk]? = some (.cells (bookC x b) 30 (0, 0))) (by kernel_rfl) HS0.out (fun hH => ?_)
  simp only [List.length_cons, List.length_nil, List.replicate]
  refine tK 0 ?_ (fun w' hw' => ?_) hH ?_
  rotate_left
  · obtain ⟨c0, c1, c2, c3, c4, c5, c6, c7, c8⟩ := HC.out w' hw'
    go_simp <;> with_reducible rfl
  simp only [Act.put, oZa, oZb, oZc]
  refine tK 1 ?_ (fun w' hw' => ?_) hH ?_
  rotate_left
  · obtain ⟨c0, c1, c2, c3, c4, c5, c6, c7, c8⟩ := HC.out w' hw'
    go_simp <;> with_reducible rfl
  simp only [Act.put, oZa, oZb, oZc]
  refine tK 2 ?_ (fun w' hw' => ?_) hH ?_
  rotate_left
  · obtain ⟨c0, c1, c2, c3, c4, c5, c6, c7, c8⟩ := HC.out w' hw'
    go_simp <;> with_reducible rfl
  simp only [Act.put, oZa, oZb, oZc]
  refine tK 3 ?_ (fun w' hw' => ?_) hH ?_
  rotate_left
  · obtain ⟨c0, c1, c2, c3, c4, c5, c6, c7, c8⟩ := HC.out w' hw'
    go_simp <;> with_reducible rfl
  simp only [Act.put, oZa, oZb, oZc]
  refine tK 4 ?_ (fun w' hw' => ?_) hH ?_
  rotate_left
  · obtain ⟨c0, c1, c2, c3, c4, c5, c6, c7, c8⟩ := HC.out w' hw'
    go_simp <;> with_reducible rfl
  simp only [Act.put, oZa, oZb, oZc]
  refine tK 5 ?_ (fun w' hw' => ?_) hH ?_
  rotate_left
  · obtain ⟨c0, c1, c2, c3, c4, c5, c6, c7, c8⟩ := HC.out w' hw'
    go_simp <;> with_reducible rfl
  simp only [Act.put, oZa, oZb, oZc]
  refine tK 6 ?_ (fun w' hw' => ?_) hH ?_
  rotate_left
  · obtain ⟨c0, c1, c2, c3, c4, c5, c6, c7, c8⟩ := HC.out w' hw'
    go_simp <;> with_reducible rfl
  simp only [Act.put, oZa, oZb, oZc]
  refine tK 7 ?_ (fun w' hw' => ?_) hH ?_
  rotate_left
  · obtain ⟨c0, c1, c2, c3, c4, c5, c6, c7, c8⟩ := HC.out w' hw'
    go_simp <;> with_reducible rfl
  simp only [Act.put, oZa, oZb, oZc]
  refine tK 8 ?_ (fun w' hw' => ?_) hH ?_
  rotate_left
  · obtain ⟨c0, c1, c2, c3, c4, c5, c6, c7, c8⟩ := HC.out w' hw'
    go_simp <;> with_reducible rfl
  simp only [Act.put, oZa, oZb, oZc]
  refine stepL 9 rfl (by kernel_rfl) (fun K hK => ?_)
  refine step_store1 rfl 2 _ _ rfl gr 3 (.int .i64 b.tx) (recC r A1 c1 A2 c2) rfl rfl HGR.out (by kernel_rfl) (by show 3 < 10; decide) rfl ?_
  intro wb hb2 hkb
  have HGR2 := qh (show wb.heap[gr]? = some (.cells (recC { r with tx := b.tx } A1 c1 A2 c2) 86 (0, 0)) from hb2)
  have HS2 := qh (hkb.heap HS0.out (fun e => hgk e.symm))
  have HKB := qh ((HKA.out.drew).new hkb (fun z hz => by subst hz; exact l1))
  clear hb2 hkb HGR
  refine hK.out _ _ (fun _ => HS2.out) (fun _ => ?_)
  simp only [oZa, oZb, oZc]
  clear hK K hH
  refine tK 10 ?_ (fun w' hw' => ?_) HS2.out ?_
  rotate_left
  · skip
    go_simp <;> with_reducible rfl
  simp only [Act.put, oZa, oZb, oZc]
  refine stepL 11 rfl (by kernel_rfl) (fun K hK => ?_)
  refine step_store1 rfl 2 _ _ rfl gr 4 (.int .i64 b.last) (recC { r with tx := b.tx } A1 c1 A2 c2) rfl rfl HGR2.out (by kernel_rfl) (by show 4 < 10; decide) rfl ?_
  intro wc hb3 hkc
  have HGR3 := qh (show wc.heap[gr]? = some (.cells (recC (b.recB r) A1 c1 A2 c2) 86 (0, 0)) from hb3)
  have HKC := qh (HKB.out.new hkc (fun z hz => by subst hz; exact l1))
  clear hb3 hkc HGR2 HS2 HS0
  refine hK.out _ _ (fun h => absurd rfl h) (fun _ => ?_)
  simp only [oZa, oZb, oZc]
  clear hK K
  refine doneL (by kernel_rfl) ?_ _
  have HSC := qh (H.out.keep0 (HKC.out.drew))
  have HSS := qh (show (wc.drew).heap[x.bk]? = some (.cells (bookC x b) 30 (0, 0)) ∧ (wc.drew).heap[gr]? = some (.cells (recC (b.recB r) A1 c1 A2 c2) 86 (0, 0)) from ⟨HSC.out.hb, HGR3.out⟩)
  have HCL := qh (HSC.out.s.app HG.out x.a.q rfl (b.recB r) A1 c1 A2 c2 HO.out H1.out H2.out (HR1.out.kept HKC.out.drew (fun _ _ _ _ => id)) (HR2.out.kept HKC.out.drew (fun _ _ _ _ => id)))
  obtain ⟨X, hX⟩ : ∃ X, X = L.append (b.recB r) := ⟨_, rfl⟩
  rw [← hX] at HCL HAP
  obtain ⟨R, hR⟩ : ∃ R, R = b.recB r := ⟨_, rfl⟩
  rw [← hR] at HSS HCL HGR3
  have HRL := qh (show R.old.length = n1 ∧ R.new.length = n2 from by rw [hR, hn1, hn2]; exact ⟨rfl, rfl⟩)
  clear hX hR hn1 hn2
  go_wp2_with fail
  refine startL 10 (fun w' => w'.heap[x.bk]? = some (.cells (bookC x b) 30 (0, 0)) ∧ w'.heap[gr]? = some (.cells (recC R A1 c1 A2 c2) 86 (0, 0))) (by kernel_rfl) HSS.out (fun hH => ?_)
  simp only [List.length_cons, List.length_nil, List.replicate]
  refine tK 0 ?_ (fun w' hw' => ?_) hH ?_
  rotate_left
  · obtain ⟨c0, c1, c2, c3, c4, c5, c6, c7, c8⟩ := HC.out w' hw'.1
    go_simp <;> with_reducible rfl
  simp only [Act.put, oZa, oZb, oZc]
  refine tK 1 ?_ (fun w' hw' => ?_) hH ?_
  rotate_left
  · obtain ⟨c0, c1, c2, c3, c4, c5, c6, c7, c8⟩ := HC.out w' hw'.1
    go_simp <;> with_reducible rfl
  simp only [Act.put, oZa, oZb, oZc]
  refine tK 2 ?_ (fun w' hw' => ?_) hH ?_
  rotate_left
  · obtain ⟨c0, c1, c2, c3, c4, c5, c6, c7, c8⟩ := HC.out w' hw'.1
    go_simp <;> with_reducible rfl
  simp only [Act.put, oZa, oZb, oZc]
  refine tK 3 ?_ (fun w' hw' => ?_) hH ?_
  rotate_left
  · obtain ⟨c0, c1, c2, c3, c4, c5, c6, c7, c8⟩ := HC.out w' hw'.1
    go_simp <;> with_reducible rfl
  simp only [Act.put, oZa, oZb, oZc]
  refine tK 4 ?_ (fun w' hw' => ?_) hH ?_
  rotate_left
  · obtain ⟨r0, r1, r2, r3, r4, r5, r6, r7, r8, r9⟩ := recAt_of hw'.2
    go_simp <;> with_reducible rfl
  simp only [Act.put, oZa, oZb, oZc]
  refine stepL 5 rfl (by kernel_rfl) (fun K hK => ?_)
  go_simp
  refine HCL.out.mono ?_
  rintro e wd ⟨rfl, a1, hs1, ht1⟩
  have hbp := HSC.out.pool ht1 hs1
  have HBS := qh hbp.1
  have HBT := qh ((BTo.refl w x).keep0 HKC.out.drew |>.trans hbp.2)
  have HDD := qh (show wd.heap[x.bk]? = some (.cells (bookC x b) 30 (0, 0)) ∧ wd.heap[gr]? = some (.cells (recC R A1 c1 A2 c2) 86 (0, 0)) from ⟨ht1.k.heap HSC.out.hb HSC.out.nbk, ht1.k.heap HSS.out.2 (fun hK => by have := H.out.s.lt hK; omega)⟩)
  obtain ⟨X1, n, c⟩ := X
  clear hs1 ht1 hbp HCL
  go_simp
  refine hK.out _ _ (fun _ => HDD.out) (fun _ => ?_)
  simp only [oZa, oZb, oZc]
  clear hK K hH
  refine tK 6 ?_ (fun w' hw' => ?_) HDD.out ?_
  rotate_left
  · skip
    go_simp <;> with_reducible rfl
  simp only [Act.put, oZa, oZb, oZc]
  refine tK 7 ?_ (fun w' hw' => ?_) HDD.out ?_
  rotate_left
  · skip
    go_simp <;> with_reducible rfl
  simp only [Act.put, oZa, oZb, oZc]
  refine tK 8 ?_ (fun w' hw' => ?_) HDD.out ?_
  rotate_left
  · skip
    go_simp <;> with_reducible rfl
  simp only [Act.put, oZa, oZb, oZc]
  refine stepL 9 rfl (by kernel_rfl) (fun K hK => ?_)
  go_simp
  refine hK.out _ _ (fun _ => HDD.out) (fun _ => ?_)
  simp only [oZa, oZb, oZc]
  clear hK K
  refine stepL 10 rfl (by kernel_rfl) (fun K hK => ?_)
  go_simp
  refine hK.out _ _ (fun h => absurd rfl h) (fun _ => ?_)
  simp only [oZa, oZb, oZc]
  clear hK K
  refine doneL (by kernel_rfl) ?_ _
  by_cases hc : c = 0
  · subst hc
    have HE := qh (show b.app L r = ({ b with last := n }, X1, 0) from by rw [HAP.out]; rfl)
    go_wp2_with (refine wl_store1 rfl _ _ _ rfl x.bk 5 (.int .i64 n) (bookC x b) rfl rfl HDD.out.1 (by kernel_rfl) (by show 5 < 9; decide) rfl ?_)
    intro we hb5 hke
    have hst := HBS.out.set (b' := { b with last := n }) rfl (by
      have e : bookC { x with a := a1 } { b with last := n } = (bookC x b).setIfInBounds 5 (.int .i64 n) := by
        rw [bookC_fix (x := x) (x' := { x with a := a1 }) HBT.out.fix.a rfl]; rfl
      rw [e]; exact hb5) hke
    have HST := qh hst
    clear hb5 hke hst
    go_wp2
    go_ret
    refine HPO.out 0 _ (HPI.out 0 _ ?_)
    rw [HE.out]
    exact ⟨rfl, _, HBT.out.trans HST.out.2, HST.out.1⟩
  · have hcb : (c == 0) = false := by rw [beq_eq_false_iff_ne]; exact hc
    have HE := qh (show b.app L r = (b, X1, c) from by rw [HAP.out]; dsimp only; rw [if_neg hc])
    clear hc
    go_wp2
    go_ret
    refine HPO.out c _ (HPI.out c _ ?_)
    rw [HE.out]
    exact ⟨rfl, _, HBT.out, HBS.out⟩
end
end Go.Proofs.YtfgagakepmigbaaGreat
