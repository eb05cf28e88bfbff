/-
  No statement is proved here.
-/
import Derived.Test.YtfgagakepmigbaaGreatJBkw
import Derived.Test.YtfgagakepmigbaaGreatJBkr
import Derived.Test.YtfgagakepmigbaaGreatJBkx
import Derived.Test.YtfgagakepmigbaaGreatJOrc
namespace Go.Proofs.YtfgagakepmigbaaGreat
open Go.RowKit
theorem decM_bytes {m : MasM} (h : m.may) : decM (mBytes m) = m := by
  obtain ⟨h1, h2, h3, h4, h5, h6⟩ := h
  have e : mBytes m = [80, 77, 48, 49] ++ (putI m.seq ++ (putI m.turn ++ (putI m.oldest ++ (mCrc m ++ zeros 480)))) := by
    unfold mBytes mHead; simp only [List.append_assoc]
  have p1 : (mBytes m).drop 4 = putI m.seq ++ (putI m.turn ++ (putI m.oldest ++ (mCrc m ++ zeros 480))) := by rw [e]; rfl
  have p2 : (mBytes m).drop 12 = putI m.turn ++ (putI m.oldest ++ (mCrc m ++ zeros 480)) := by
    have : (mBytes m).drop 12 = ((mBytes m).drop 4).drop 8 := by rw [List.drop_drop]
    rw [this, p1, List.drop_append_of_le_length (by rw [putI_len]; omega), List.drop_of_length_le (by rw [putI_len]; omega)]; rfl
  have p3 : (mBytes m).drop 20 = putI m.oldest ++ (mCrc m ++ zeros 480) := by
    have : (mBytes m).drop 20 = ((mBytes m).drop 12).drop 8 := by rw [List.drop_drop]
    rw [this, p2, List.drop_append_of_le_length (by rw [putI_len]; omega), List.drop_of_length_le (by rw [putI_len]; omega)]; rfl
  unfold decM
  rw [p1, p2, p3, get_put (by omega) (by omega), get_put (by omega) (by omega), get_put (by omega) (by omega)]
theorem mas_round {m : MasM} (h : m.may) {k : Int} (hk : m.seq.tmod 2 = k) : masterM (mBytes m) k = (m, true) := by
  unfold masterM
  rw [decM_bytes h, if_neg (by rintro (c | c); exact c h; exact c hk)]
  simp
theorem mas_good {l : Bytes} {k : Int} (h : (masterM l k).2 = true) : (masterM l k).1.may ∧ (masterM l k).1.seq.tmod 2 = k ∧ mBytes (masterM l k).1 = l := by
  unfold masterM at h ⊢
  split at h
  · cases h
  · rename_i hc
    rw [if_neg hc]
    refine ⟨Classical.byContradiction fun c => hc (.inl c), Classical.byContradiction fun c => hc (.inr c), by simpa using h⟩
theorem mas_zeros (k : Int) : (masterM (zeros 512) k).2 = false := by
  have h : decM (zeros 512) = ⟨-9223372036854775808, -9223372036854775808, -9223372036854775808⟩ := by decide +kernel
  unfold masterM
  rw [h, if_pos (.inl (by intro c; have := c.1; revert this; decide))]
theorem readMas_congr {D D' : DevM} (hd : D'.down = D.down) (h0 : D'.latest 0 = D.latest 0) (h1 : D'.latest 1 = D.latest 1) : readMas D' = readMas D := by
  have e : bestM D' 2 = bestM D 2 := by
    show bestM D' (1 + 1) = bestM D (1 + 1)
    unfold bestM
    unfold bestM
    rw [show ((1 : Nat) : Int) = 1 from rfl, h1, show ((0 : Nat) : Int) = 0 from rfl, h0]
    rfl
  unfold readMas
  rw [hd, e]
theorem zM_seq : zM.seq = 0 := rfl
theorem best_two (D : DevM) : bestM D 2 = if (masterM (D.latest 1) 1).2 = true ∧ (if (masterM (D.latest 0) 0).2 = true then (masterM (D.latest 0) 0).1 else zM).seq < (masterM (D.latest 1) 1).1.seq then (masterM (D.latest 1) 1).1 else (if (masterM (D.latest 0) 0).2 = true then (masterM (D.latest 0) 0).1 else zM) := by
  have e1 : bestM D 1 = if (masterM (D.latest 0) 0).2 = true then (masterM (D.latest 0) 0).1 else zM := by
    show (if (masterM (D.latest 0) 0).2 = true ∧ zM.seq < (masterM (D.latest 0) 0).1.seq then (masterM (D.latest 0) 0).1 else zM) = _
    by_cases c : (masterM (D.latest 0) 0).2 = true
    · have := (mas_good c).1.1
      rw [if_pos c, if_pos ⟨c, by rw [zM_seq]; omega⟩]
    · rw [if_neg c, if_neg (fun h => c h.1)]
  show (if (masterM (D.latest 1) 1).2 = true ∧ (bestM D 1).seq < (masterM (D.latest 1) 1).1.seq then (masterM (D.latest 1) 1).1 else bestM D 1) = _
  rw [e1]
theorem readMas_of {D : DevM} (hd : D.down = false) {m : MasM} (hm : m.may) (h : bestM D 2 = m) : readMas D = (m, 0) := by
  unfold readMas
  rw [hd, h, if_neg (by decide), if_neg (by intro e; rw [e] at hm; have := hm.1; revert this; decide)]
theorem best_write {D D' : DevM} {m m' : MasM} (h : bestM D 2 = m) (hm' : m'.may) (hs : m.seq < m'.seq) (hn : D'.latest (m'.seq.tmod 2) = mBytes m') (ho : ∀ k, (k = 0 ∨ k = 1) → k ≠ m'.seq.tmod 2 → D'.latest k = D.latest k) : bestM D' 2 = m' := by
  have h1 := hm'.1
  rw [best_two] at h ⊢
  have hk : m'.seq.tmod 2 = 0 ∨ m'.seq.tmod 2 = 1 := by
    have := Int.tmod_nonneg 2 (show 0 ≤ m'.seq by omega)
    have := Int.tmod_lt_of_pos m'.seq (show (0 : Int) < 2 by decide)
    omega
  rcases hk with hk | hk
  · rw [hk] at hn
    have ho1 := ho 1 (.inr rfl) (by rw [hk]; decide)
    rw [hn, ho1, mas_round hm' hk]
    dsimp only
    rw [if_pos rfl]
    by_cases c : (masterM (D.latest 1) 1).2 = true
    · have hg := (mas_good c).1
      rw [if_neg]
      rintro ⟨-, c2⟩
      by_cases d : (if (masterM (D.latest 0) 0).2 = true then (masterM (D.latest 0) 0).1 else zM).seq < (masterM (D.latest 1) 1).1.seq
      · rw [if_pos ⟨c, d⟩] at h; rw [h] at c2; omega
      · rw [if_neg (fun x => d x.2)] at h; rw [h] at d; omega
    · rw [if_neg (fun x => c x.1)]
  · rw [hk] at hn
    have ho0 := ho 0 (.inl rfl) (by rw [hk]; decide)
    rw [hn, ho0, mas_round hm' hk]
    dsimp only
    rw [if_pos]
    refine ⟨rfl, ?_⟩
    by_cases c : (masterM (D.latest 1) 1).2 = true ∧ (if (masterM (D.latest 0) 0).2 = true then (masterM (D.latest 0) 0).1 else zM).seq < (masterM (D.latest 1) 1).1.seq
    · rw [if_pos c] at h; have := c.2; rw [h] at this; omega
    · rw [if_neg c] at h; rw [h]; exact hs
theorem tmod2 {n : Int} (h : 1 ≤ n) : 0 ≤ n.tmod 2 ∧ n.tmod 2 < 2 := ⟨Int.tmod_nonneg 2 (by omega), Int.tmod_lt_of_pos n (by decide)⟩
theorem readMas_best {D : DevM} {m : MasM} (h : readMas D = (m, 0)) : bestM D 2 = m := by
  unfold readMas at h
  split at h
  · cases h
  · split at h
    · cases h
    · exact (Prod.mk.inj h).1
theorem writeMas_calm {D : DevM} (hc : Calm D) (hn : 24 ≤ D.n) {m' : MasM} (hm' : m'.may) (hl : ∀ m, bestM D 2 = m → m.seq < m'.seq) :
    ∃ D', writeMas D m' = (D', 0) ∧ Calm D' ∧ D'.n = D.n ∧ readMas D' = (m', 0) ∧ (∀ k, 2 ≤ k → D'.latest k = D.latest k) ∧ (∀ k, D'.opn k = none) ∧ D'.armed = 0 ∧ ((∀ k, (D.latest k).length = 512) → ∀ k, (D'.latest k).length = 512) := by
  obtain ⟨t0, t1⟩ := tmod2 hm'.1
  have hw := hc.write (b := m'.seq.tmod 2) t0 (by omega) (mBytes_len m')
  have hc1 : Calm (D.put (m'.seq.tmod 2) (mBytes m')) := ⟨hc.a, hc.d, hc.n⟩
  refine ⟨(D.put (m'.seq.tmod 2) (mBytes m')).sync, ?_, ⟨hc.a, hc.d, hc.n⟩, rfl, readMas_of (D := (D.put (m'.seq.tmod 2) (mBytes m')).sync) hc.d hm' (best_write (D := D) rfl hm' (hl _ rfl) ?_ fun k _ hk => ?_), fun k hk => ?_, fun k => rfl, hc.a, fun hL k => ?_⟩
  · unfold writeMas
    rw [if_neg (by rintro (c | c); omega; exact c hm'), hw]
    dsimp only
    rw [if_neg (by decide), hc1.sync]
  · rw [latest_sync, latest_put, if_pos rfl]
  · rw [latest_sync, latest_put, if_neg hk]
  · rw [latest_sync, latest_put, if_neg (by omega)]
  · rw [latest_sync, latest_put]
    split
    · exact mBytes_len m'
    · exact hL k
theorem formatM_calm {D : DevM} (hc : Calm D) (hn : 24 ≤ D.n) : ∃ D', formatM D = (0, D') ∧ Calm D' ∧ D'.n = D.n ∧ readMas D' = (⟨1, 1, 1⟩, 0) ∧ (∀ k, 2 ≤ k → k < D.n → D'.latest k = zeros 512) ∧ (∀ k, D'.opn k = none) ∧ ((∀ k, (D.latest k).length = 512) → ∀ k, (D'.latest k).length = 512) := by
  have h1 := fillZ_calm hc D.n.toNat
  obtain ⟨n1, n2, n3, n4⟩ := fillZ_n D D.n.toNat
  have hlat : ∀ k, 0 ≤ k → k < D.n → (fillZ D.n.toNat D).latest k = zeros 512 := fun k h0 hk => by
    unfold DevM.latest
    rw [fillZ_opn, if_pos (by omega)]
    rfl
  obtain ⟨D2, hD2⟩ : ∃ D2, D2 = (fillZ D.n.toNat D).sync := ⟨_, rfl⟩
  have hc2 : Calm D2 := by rw [hD2]; exact ⟨h1.a, h1.d, h1.n⟩
  have hlat2 : ∀ k, 0 ≤ k → k < D.n → D2.latest k = zeros 512 := fun k h0 hk => by rw [hD2, latest_sync]; exact hlat k h0 hk
  have hb : bestM D2 2 = zM := by
    rw [best_two, hlat2 0 (by omega) (by omega), hlat2 1 (by omega) (by omega), if_neg (fun x => by have := mas_zeros 1; rw [this] at x; cases x.1), if_neg (by rw [mas_zeros]; decide)]
  obtain ⟨D', w1, w2, w3, w4, w5, w6, w7, w8⟩ := writeMas_calm hc2 (by rw [hD2]; show 24 ≤ (fillZ D.n.toNat D).n; omega) (m' := ⟨1, 1, 1⟩) (by decide) (fun m hm => by rw [hb] at hm; rw [← hm]; decide)
  have hn2 : D2.n = D.n := by rw [hD2]; exact n1
  refine ⟨D', ?_, w2, w3.trans hn2, w4, fun k h0 hk => by rw [w5 k h0]; exact hlat2 k (by omega) hk, w6, fun hL => w8 fun k => ?_⟩
  · unfold formatM
    rw [h1.sync]
    dsimp only
    rw [if_neg (by decide), ← hD2, w1]
  · rw [hD2, latest_sync]
    unfold DevM.latest
    rw [fillZ_opn, n4]
    by_cases c : 0 ≤ k ∧ k < (D.n.toNat : Int)
    · rw [if_pos c]; exact lenL_zeros 512
    · rw [if_neg c]; exact hL k
end Go.Proofs.YtfgagakepmigbaaGreat
namespace Go.Proofs.YtfgagakepmigbaaGreat
open Go.RowKit
end Go.Proofs.YtfgagakepmigbaaGreat
namespace Go.Proofs.YtfgagakepmigbaaGreat
open Go.RowKit
end Go.Proofs.YtfgagakepmigbaaGreat
namespace Go.Proofs.YtfgagakepmigbaaGreat
open Go.RowKit
section
variable {w w' w1 : World} {x x' : BAdr} {b b' : BkM} {P P' : PoolM} {L L' : LogM} {D D' : DevM}
end
end Go.Proofs.YtfgagakepmigbaaGreat
namespace Go.Proofs.YtfgagakepmigbaaGreat
open Go.RowKit
structure CoreI (P : PoolM) (L : LogM) (D : DevM) (R : List RecM) : Prop where
  li : ∃ B, LogI D L R B
  pi : PoolI P L D
  calm : Calm D
  free : ∀ p, P.heldOf p = 0
  pf : P.first = 2
  pb : P.blocks = D.n - 2 - D.n / 2
  lf : L.first = D.n - D.n / 2
  lc : L.count = D.n / 2
  n24 : 24 ≤ D.n
  n64 : D.n ≤ 65536
structure CoreK (P : PoolM) (L : LogM) (D : DevM) (P' : PoolM) (L' : LogM) (D' : DevM) : Prop where
  n : D'.n = D.n
  o : L'.oldest = L.oldest
  t : L'.turn = L.turn
  b0 : D'.latest 0 = D.latest 0
  b1 : D'.latest 1 = D.latest 1
section
variable {P P' P2 : PoolM} {L L' L2 : LogM} {D D' D2 : DevM} {R : List RecM}
theorem CoreK.refl (P : PoolM) (L : LogM) (D : DevM) : CoreK P L D P L D := ⟨rfl, rfl, rfl, rfl, rfl⟩
theorem CoreK.trans (h : CoreK P L D P' L' D') (k : CoreK P' L' D' P2 L2 D2) : CoreK P L D P2 L2 D2 := ⟨k.n.trans h.n, k.o.trans h.o, k.t.trans h.t, k.b0.trans h.b0, k.b1.trans h.b1⟩
theorem CoreI.held (h : CoreI P L D R) {f : FrM} (hf : f ∈ P.ring) : f.held = 0 := by rw [← held_in h.pi.nd hf]; exact h.free _
theorem CoreI.len (h : CoreI P L D R) (k : Int) : (D.latest k).length = 512 := by obtain ⟨B, hL⟩ := h.li; exact hL.len k
theorem CoreI.g (h : CoreI P L D R) : LogG L := by obtain ⟨B, hL⟩ := h.li; exact hL.g
theorem CoreI.lenP (h : CoreI P L D R) : LenP P := fun f hf => (h.pi.fr f hf).2.2.1
theorem CoreI.bkg (h : CoreI P L D R) : BkG P L D := ⟨h.g, h.pi.n, h.calm.d, h.pi.fn, h.lenP⟩
theorem CoreI.room (h : CoreI P L D R) : 0 ≤ L.room ∧ L.room ≤ 13369344 ∧ L.fin = L.oldest + (408 * (D.n / 2) - 408) - L.room ∧ 1 ≤ L.oldest ∧ L.oldest ≤ L.fin := by
  obtain ⟨B, hL⟩ := h.li
  have h1 := hL.room
  have h2 := hL.so
  have h3 := hL.sf
  have h4 := h.lc
  have h5 := h.n64
  have h6 := hL.o1
  unfold LogM.room
  rw [h4] at h1 ⊢
  omega
theorem CoreI.curLen (h : CoreI P L D R) (p : Int) : (P.cur D p).length = 512 := cur_len h.pi h.len p
theorem core_frame (h : CoreI P L D R) {page : Int} (p0 : 0 ≤ page) (p1 : page < P.blocks) :
    ∃ P' L' D' i f, frameM P L D page = (P', L', D', i, 0) ∧ P'.ring[i]? = some f ∧ f.page = page ∧ f.b = P.cur D page ∧ CoreI P' L' D' R ∧ CoreK P L D P' L' D' ∧ Like P L D P' L' D' ∧ ∀ p, 0 ≤ p → p < P.blocks → P'.cur D' p = P.cur D p := by
  obtain ⟨B, hL⟩ := h.li
  rcases frame_well h.pi hL h.calm p0 p1 with ⟨P', L', D', i, f, e, h1, h2, h3, _, h4, h5, h6, h7, _⟩ | ⟨P', e, _, _, h3, h4⟩
  · have hl := h7.like
    have hp := h.pf
    have hlf := h.lf
    have hn := h.n24
    refine ⟨P', L', D', i, f, e, h1, h2, h3, ⟨⟨B, h5⟩, h4, h6, fun p => by rw [h7.held]; exact h.free p, hl.pf.trans h.pf, by rw [hl.pb, hl.n]; exact h.pb, by rw [hl.lf, hl.n]; exact h.lf, by rw [hl.lc, hl.n]; exact h.lc, by rw [hl.n]; exact h.n24, by rw [hl.n]; exact h.n64⟩, ⟨hl.n, hl.lo, hl.lt, h7.out 0 (by omega) (by omega), h7.out 1 (by omega) (by omega)⟩, hl, h7.cur⟩
  · have m8 := h.pi.m8
    cases hr : P.ring with
    | nil => rw [hr] at h4; simp at h4; omega
    | cons f _ =>
      have hf : f ∈ P.ring := by rw [hr]; simp
      have h5 := (h3 f hf).1
      have h6 := h.held hf
      omega
theorem core_change (h : CoreI P L D R) {page off lsn : Int} {m : Bytes} (p0 : 0 ≤ page) (p1 : page < P.blocks) (o0 : 0 ≤ off) (m0 : m ≠ []) (o1 : off + m.length ≤ 512) (l1 : 1 ≤ lsn) (l2 : lsn < L.fin) :
    ∃ P' L' D', changeM P L D page off m lsn = (P', L', D', 0) ∧ CoreI P' L' D' R ∧ CoreK P L D P' L' D' ∧ Like P L D P' L' D' ∧ (∀ p, 0 ≤ p → p < P.blocks → P'.cur D' p = if p = page then layO (P.cur D page) off.toNat m else P.cur D p) := by
  obtain ⟨P', L', D', i, f, e, h1, h2, h3, h4, hk, hl, h5⟩ := core_frame h p0 p1
  have hm0 : 0 < m.length := List.length_pos_iff.2 m0
  have hlen : f.b.length = 512 := (h4.pi.fr f (List.mem_of_getElem? h1)).2.2.1
  have hf := h4.pi.fr f (List.mem_of_getElem? h1)
  obtain ⟨g, hg⟩ : ∃ g : FrM, g = { f with b := layO f.b off.toNat m, last := max f.last lsn, dirty := true, first := if f.dirty then f.first else lsn } := ⟨_, rfl⟩
  have hfin := hl.fin
  have he := edited h4.pi h1 (g := g) (by rw [hg]) (by rw [hg]) (by rw [hg]; show (layO f.b off.toNat m).length = 512; rw [layO_len (by omega)]; exact hlen) (by rw [hg]; show 0 ≤ max f.last lsn; omega) (by rw [hg]; show max f.last lsn < L'.fin; have := hf.2.2.2.2.2.1; omega) (by rw [hg])
    (by rw [hg]; show 1 ≤ (if f.dirty = true then f.first else lsn); split
        · rename_i hd; exact hf.2.2.2.2.2.2.2 hd
        · exact l1)
  refine ⟨{ P' with ring := P'.ring.set i g }, L', D', ?_, ⟨h4.li, he.1, h4.calm, fun p => by rw [he.2.2]; exact h4.free p, h4.pf, h4.pb, h4.lf, h4.lc, h4.n24, h4.n64⟩, ⟨hk.n, hk.o, hk.t, hk.b0, hk.b1⟩, ⟨hl.pf, hl.pb, hl.pm, hl.lf, hl.lc, hl.lt, hl.lo, hl.fin, hl.safe, hl.n, hl.lsns⟩, fun p q0 q1 => ?_⟩
  · unfold changeM
    rw [if_neg (by omega), if_neg (by
      rintro (c | c | c | c | c | c)
      · omega
      · omega
      · exact m0 c
      · omega
      · omega
      · omega), e]
    dsimp only
    rw [if_neg (fun h => h rfl), h1, hg]
  · rw [he.2.1, h2]
    by_cases c : p = page
    · rw [if_pos c, if_pos c, hg]
      show layO f.b off.toNat m = _
      rw [h3]
    · rw [if_neg c, if_neg c]
      exact h5 p q0 q1
theorem core_app (h : CoreI P L D R) (r r' : RecM) (e : r' = { r with lsn := L.fin, turn := L.turn }) (hr : rightM r') (hroom : ((encM r').length : Int) ≤ L.room) (hfm : L.fin ≤ 2999999999999000000) :
    ∃ L', L.append r = (L', L.fin, 0) ∧ CoreI P L' D (R ++ [r']) ∧ CoreK P L D P L' D ∧ L'.fin = L.fin + (encM r').length ∧ L'.room = L.room - (encM r').length ∧ L'.lsns = L.lsns ++ [L.fin] ∧ LogG L' := by
  subst e
  obtain ⟨B, hL⟩ := h.li
  obtain ⟨a1, B', a2⟩ := append_inv hL r hr (by omega) hfm
  have hel := (enc_len hr).1
  have hpi := h.pi
  refine ⟨_, a1, ⟨⟨B', a2⟩, ⟨hpi.f0, hpi.b1, hpi.fn, hpi.dn, hpi.ap, hpi.m8, hpi.m1, hpi.len, hpi.h0, hpi.h1, hpi.nd, fun f hf => ?_⟩, h.calm, h.free, h.pf, h.pb, h.lf, h.lc, h.n24, h.n64⟩, ⟨rfl, rfl, rfl, rfl, rfl⟩, rfl, ?_, rfl, a2.g⟩
  · have hff := hpi.fr f hf
    exact ⟨hff.1, hff.2.1, hff.2.2.1, hff.2.2.2.1, hff.2.2.2.2.1, by have := hff.2.2.2.2.2.1; show f.last < L.fin + _; omega, hff.2.2.2.2.2.2.1, hff.2.2.2.2.2.2.2⟩
  · unfold LogM.room; show L.count * 408 - 408 - (L.fin + _ - L.oldest) = _; omega
def LogHas (L : LogM) (R : List RecM) (r : RecM) : Prop := ∃ k, R[k]? = some r ∧ L.lsns.getD k 0 = r.lsn
theorem LogHas.snoc {r r' : RecM} {n : Int} (h : LogHas L R r) (hl : L.lsns.length = R.length) (hL : L'.lsns = L.lsns ++ [n]) : LogHas L' (R ++ [r']) r := by
  obtain ⟨k, h1, h2⟩ := h
  have hk := (List.getElem?_eq_some_iff.1 h1).1
  refine ⟨k, by rw [List.getElem?_append_left hk]; exact h1, ?_⟩
  rw [hL, List.getD_eq_getElem?_getD, List.getElem?_append_left (by omega), ← List.getD_eq_getElem?_getD]
  exact h2
theorem LogHas.new {r' : RecM} (hl : L.lsns.length = R.length) (hL : L'.lsns = L.lsns ++ [r'.lsn]) : LogHas L' (R ++ [r']) r' := by
  refine ⟨R.length, by rw [List.getElem?_append_right (Nat.le_refl _), Nat.sub_self]; rfl, ?_⟩
  rw [hL, List.getD_eq_getElem?_getD, List.getElem?_append_right (by omega), hl, Nat.sub_self]
  rfl
theorem LogHas.lsns {r : RecM} (h : LogHas L R r) (hL : L'.lsns = L.lsns) : LogHas L' R r := by
  obtain ⟨k, h1, h2⟩ := h
  exact ⟨k, h1, by rw [hL]; exact h2⟩
theorem CoreI.lsnsLen (h : CoreI P L D R) : L.lsns.length = R.length := by obtain ⟨B, hL⟩ := h.li; exact hL.llen
def fwdR (r : RecM) (f : Int → Bytes) : Int → Bytes := fun p => if p = r.blk then layO (f p) r.off.toNat r.new else f p
def BkM.recL (b : BkM) (L : LogM) (r : RecM) : RecM := { b.recB r with lsn := L.fin, turn := L.turn }
theorem core_chg (h : CoreI P L D R) (b : BkM) (r : RecM) (hr : rightM (b.recL L r)) (hk : r.kind = 1 ∨ r.kind = 2) (hroom : ((encM (b.recL L r)).length : Int) ≤ L.room) (hfm : L.fin ≤ 2999999999999000000) (hb : r.blk < P.blocks) :
    ∃ P' L' D', b.chg P L D r = ({ b with last := L.fin }, P', L', D', 0) ∧ CoreI P' L' D' (R ++ [b.recL L r]) ∧ CoreK P L D P' L' D' ∧ P'.blocks = P.blocks ∧ (∀ p, 0 ≤ p → p < P.blocks → P'.cur D' p = fwdR r (P.cur D) p) ∧
      L'.room = L.room - (encM (b.recL L r)).length ∧ L'.lsns = L.lsns ++ [L.fin] ∧ ((b.app L r).2.2 = 0 → LogG (b.app L r).2.1) := by
  obtain ⟨L1, a1, a2, a3, a4, a5, a6, a7⟩ := core_app h (b.recB r) (b.recL L r) rfl hr hroom hfm
  have hel := (enc_len hr).1
  have hfit : fitsM (b.recL L r) := by
    rcases hr.2.2.2.2.2.2.2 with c | c | c
    · exact c.2.2.1
    · exact c.2.1
    · rcases hk with k | k
      · rcases c.1 with c1 | c1
        · rw [show (b.recL L r).kind = r.kind from rfl, k] at c1; exact absurd c1 (by decide)
        · rw [show (b.recL L r).kind = r.kind from rfl, k] at c1; exact absurd c1 (by decide)
      · rcases c.1 with c1 | c1
        · rw [show (b.recL L r).kind = r.kind from rfl, k] at c1; exact absurd c1 (by decide)
        · rw [show (b.recL L r).kind = r.kind from rfl, k] at c1; exact absurd c1 (by decide)
  obtain ⟨f1, f2, f3, f4, f5, f6⟩ := hfit
  have f1 : 0 ≤ r.blk := f1
  have f3 : 0 ≤ r.off := f3
  have f5 : 1 ≤ r.new.length := f5
  have f6 : (r.new.length : Int) ≤ 512 - r.off := f6
  have hro := h.room
  obtain ⟨P', L', D', c1, c2, c3, c4, c5⟩ := core_change a2 (page := r.blk) (off := r.off) (lsn := L.fin) (m := r.new) f1 hb f3 (by intro e; rw [e] at f5; simp at f5) (by omega) (by omega) (by rw [a4]; omega)
  have happ : b.app L r = ({ b with last := L.fin }, L1, 0) := by
    unfold BkM.app
    rw [a1]
    rfl
  have hfin := c4.fin
  have hn := c3.n
  refine ⟨P', L', D', ?_, c2, a3.trans c3, c4.pb, fun p q0 q1 => ?_, ?_, c4.lsns.trans a6, fun _ => by rw [happ]; exact a7⟩
  · unfold BkM.chg
    rw [happ]
    dsimp only
    rw [if_neg (fun h => h rfl), c1]
  · rw [c5 p q0 q1]
    unfold fwdR
    by_cases c : p = r.blk
    · rw [if_pos c, if_pos c, c]
    · rw [if_neg c, if_neg c]
  · rw [← a5]; unfold LogM.room; rw [c4.lc, c4.fin, c4.lo]
end
end Go.Proofs.YtfgagakepmigbaaGreat
