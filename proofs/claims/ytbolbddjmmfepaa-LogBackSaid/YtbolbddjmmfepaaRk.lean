/-
  No statement is proved here: LogBack, of a record in memory; the kit's CopySpan, CopyRecord.
-/
import Derived.Test.YtbolbddjmmfepaaRe
import Derived.Test.YtbolbddjmmfepaaApartb
import Derived.Test.YtbolbddjmmfepaaGr
namespace Go.Proofs.Ytbolbddjmmfepaa
open Go.RowKit

set_option maxRecDepth 100000 in
set_option maxHeartbeats 800000 in
theorem cspan_any (k f : Int) (A1 A2 : Option Addr) (c1 c2 : Nat) (l1 l2 : Bytes) (w : World) (h1 : RdB w A1 l1) (h3 : RdB w A2 l2) (e1 : l1.length ≤ 1000000) (e2 : l2.length ≤ 1000000) :
    Calls Try.prog 52 #[.agg (spC k f A1 l1.length c1 A2 l2.length c2)] w fun e w' => ∃ B1 d1 B2 d2, e = .returned (.agg (spC k f B1 l1.length d1 B2 l2.length d2)) ∧ OwnV w' w.heap.size (.slice B1 l1.length d1) l1 ∧ OwnV w' w.heap.size (.slice B2 l2.length d2) l2 ∧
      (∀ x, (Value.slice B1 l1.length d1).ownBlock = some x → (Value.slice B2 l2.length d2).ownBlock = some x → False) ∧ Kept (fun _ => False) w w' := by
  have H1 := Lib.hid (fun (wz : World) (hz : Kept (fun _ => False) w wz) => copyBK_any A1 c1 l1 wz (h1.kept hz (fun _ _ _ _ => id)) e1)
  have H2 := Lib.hid (fun (wz : World) (hz : Kept (fun _ => False) w wz) => copyBK_any A2 c2 l2 wz (h3.kept hz (fun _ _ _ _ => id)) e2)
  clear h1 h3
  go_enter Try.func52, Try.ntmps52
  go_wp2_with (refine wl_box rfl 25 _ rfl (.agg (spC k f A1 l1.length c1 A2 l2.length c2)) rfl ?_)
  intro x w1 nx mx hx kx
  have HX1 := Lib.hid (show w1.heap[x]? = some (.cells (spC k f A1 l1.length c1 A2 l2.length c2) 25 (0, 0)) from hx)
  have K1 := Lib.hid kx
  clear hx kx
  go_wp2_with (refine wl_alloc' rfl 25 rfl #[.int .i64 0, .int .i64 0, .slice none 0 0, .slice none 0 0] zeroSpan3 ?_)
  intro y w2 ny my hy ky
  have HY2 := Lib.hid hy
  have HX2 := Lib.hid (ky.heap HX1.out id)
  have K2 := Lib.hid (K1.out.trans0 ky)
  have XL := Lib.hid (heap_lt HX1.out)
  have x2 : w2.cell? ⟨x, 2, none⟩ = some (.slice A1 l1.length c1) := cell_blk HX2.out rfl
  clear hy ky HX1
  go_wp2_with fail
  refine (H1.out _ K2.out).mono ?_
  rintro e w3 ⟨v3, rfl, ho3, hk3⟩
  obtain ⟨B1, d1, rfl, _⟩ := ho3.slice
  have HO3 := Lib.hid ho3
  have HX3 := Lib.hid (hk3.heap HX2.out id)
  have HY3 := Lib.hid (hk3.heap HY2.out id)
  have K3 := Lib.hid (K2.out.trans0 hk3)
  have KS3 := Lib.hid hk3.size
  clear ho3 hk3 x2
  go_wp2_with (refine wl_store1 rfl 23 _ _ rfl x 2 (.slice B1 l1.length d1) (spC k f A1 l1.length c1 A2 l2.length c2) rfl rfl HX3.out (by kernel_rfl) (by show 2 < 4; decide) rfl ?_)
  intro w4 hb4 hk4
  have HX4 := Lib.hid (show w4.heap[x]? = some (.cells (spC k f B1 l1.length d1 A2 l2.length c2) 25 (0, 0)) from hb4)
  have HY4 := Lib.hid (hk4.heap HY3.out (by have := XL.out; omega))
  have HO4 := Lib.hid (HO3.out.keep hk4 (fun z a e => by have := XL.out; have := (HO3.out.base_le a).1; omega))
  have K4 := Lib.hid (K3.out.new hk4 (by rintro x rfl; exact nx))
  have K24 := Lib.hid (Nat.le_trans KS3.out hk4.size)
  have x3 : w4.cell? ⟨x, 3, none⟩ = some (.slice A2 l2.length c2) := cell_blk HX4.out rfl
  clear hb4 hk4 HX3 HY3
  go_wp2_with fail
  refine (H2.out _ K4.out).mono ?_
  rintro e w5 ⟨v5, rfl, ho5, hk5⟩
  obtain ⟨B2, d2, rfl, _⟩ := ho5.slice
  have HO5 := Lib.hid ho5
  have HX5 := Lib.hid (hk5.heap HX4.out id)
  have HY5 := Lib.hid (hk5.heap HY4.out id)
  have HOa5 := Lib.hid (HO4.out.keep hk5 (fun _ _ => id))
  have K5 := Lib.hid (K4.out.trans0 hk5)
  clear ho5 hk5 x3
  go_wp2_with (refine wl_store1 rfl 23 _ _ rfl x 3 (.slice B2 l2.length d2) (spC k f B1 l1.length d1 A2 l2.length c2) rfl rfl HX5.out (by kernel_rfl) (by show 3 < 4; decide) rfl ?_)
  intro w6 hb6 hk6
  have HX6 := Lib.hid (show w6.heap[x]? = some (.cells (spC k f B1 l1.length d1 B2 l2.length d2) 25 (0, 0)) from hb6)
  have HY6 := Lib.hid (hk6.heap HY5.out (by have := XL.out; omega))
  have S4 := K24
  have HO6 := Lib.hid (HO5.out.keep hk6 (fun z a e => by have := XL.out; have := S4.out; have := (HO5.out.base_le a).1; omega))
  have HOa6 := Lib.hid (HOa5.out.keep hk6 (fun z a e => by have := XL.out; have := (HO4.out.base_le a).1; omega))
  have K6 := Lib.hid (K5.out.new hk6 (by rintro x rfl; exact nx))
  clear hb6 hk6 HX5 HY5
  go_wp2_with (first
    | (refine wl_load_row rfl 25 _ rfl x rfl (spC k f B1 l1.length d1 B2 l2.length d2) HX6.out Try.underlying25 rfl sizeSpan ?_)
    | (refine wl_store_row rfl 25 _ _ rfl y (spC k f B1 l1.length d1 B2 l2.length d2) _ rfl rfl HY6.out sizeSpan rfl (one_spC _ _ _ _ _ _ _ _) ?_))
  intro w7 hb7 hk7
  have HO7 := Lib.hid (HO6.out.keep hk7 (fun z a e => by have := (HO5.out.base_le a).1; have := S4.out; omega))
  have HOa7 := Lib.hid (HOa6.out.keep hk7 (fun z a e => by have := (HO4.out.base_le a).1; omega))
  have K7 := Lib.hid (K6.out.new hk7 (by rintro x rfl; have := K1.out.size; omega))
  have HY7 := Lib.hid hb7
  have S2 := Lib.hid K2.out.size
  have LT := Lib.hid (fun x hx hx2 => show False by have h1 := (HO4.out.base_le (x := x) hx).2; have h2 := (HO5.out.base_le (x := x) hx2).1; omega)
  clear hb7 hk7
  go_wp2
  try simp only [Exit.inBlock, Exit.then]
  refine bodyPost_ret (results_cell_row rfl _ w7 y 25 _ (0, 0) _ rfl HY7.out Try.underlying25 rfl sizeSpan) rfl ?_
  exact ⟨B1, d1, B2, d2, rfl, HOa7.out.low S2.out, HO7.out.low (Nat.le_trans S2.out S4.out), LT.out, K7.out⟩
set_option maxRecDepth 100000 in
set_option maxHeartbeats 800000 in
theorem crec_any (r : RecM) (A1 A2 : Option Addr) (c1 c2 : Nat) (w : World) (h1 : RdB w A1 r.old) (h3 : RdB w A2 r.new) (e1 : r.old.length ≤ 1000000) (e2 : r.new.length ≤ 1000000) :
    Calls Try.prog 18 #[.agg (recC r A1 c1 A2 c2)] w fun e w' => ∃ B1 d1 B2 d2, e = .returned (.agg (recC r B1 d1 B2 d2)) ∧ OwnV w' w.heap.size (.slice B1 r.old.length d1) r.old ∧ OwnV w' w.heap.size (.slice B2 r.new.length d2) r.new ∧
      (∀ x, (Value.slice B1 r.old.length d1).ownBlock = some x → (Value.slice B2 r.new.length d2).ownBlock = some x → False) ∧ Kept (fun _ => False) w w' := by
  have HS := Lib.hid (fun (wz : World) (hz : Kept (fun _ => False) w wz) => cspan_any r.blk r.off A1 A2 c1 c2 r.old r.new wz (h1.kept hz (fun _ _ _ _ => id)) (h3.kept hz (fun _ _ _ _ => id)) e1 e2)
  clear h1 h3
  go_enter Try.func18, Try.ntmps18
  go_wp2_with (refine wl_box rfl 27 _ rfl (.agg (recC r A1 c1 A2 c2)) rfl ?_)
  intro x w1 nx mx hx kx
  have HX1 := Lib.hid (show w1.heap[x]? = some (.cells (recC r A1 c1 A2 c2) 27 (0, 0)) from hx)
  have K1 := Lib.hid kx
  clear hx kx
  go_wp2_with (refine wl_alloc' rfl 27 rfl zRecC zeroRec ?_)
  intro y w2 ny my hy ky
  have HY2 := Lib.hid hy
  have HX2 := Lib.hid (ky.heap HX1.out id)
  have K2 := Lib.hid (K1.out.trans0 ky)
  have XL := Lib.hid (heap_lt HX1.out)
  clear hy ky HX1
  go_wp2_with (refine wl_load_mid rfl 25 _ rfl x 6 rfl (spC r.blk r.off A1 r.old.length c1 A2 r.new.length c2) (cells_mid HX2.out 6 _ (span_mid r A1 c1 A2 c2)) Try.underlying25 rfl sizeSpan ?_)
  refine (HS.out _ K2.out).mono ?_
  rintro e w3 ⟨B1, d1, B2, d2, rfl, ho1, ho2, hap, hk3⟩
  have HO1 := Lib.hid ho1
  have HO2 := Lib.hid ho2
  have HAP := Lib.hid hap
  have HX3 := Lib.hid (hk3.heap HX2.out id)
  have HY3 := Lib.hid (hk3.heap HY2.out id)
  have K3 := Lib.hid (K2.out.trans0 hk3)
  clear ho1 ho2 hap hk3 HX2 HY2
  go_wp2_with (refine wl_store_midQ rfl 25 _ _ rfl x 6 (spC r.blk r.off B1 r.old.length d1 B2 r.new.length d2) (recC r A1 c1 A2 c2) rfl rfl HX3.out sizeSpan (by show 6 + 4 ≤ 10; decide) (by simp [spC, Value.oneCell']) ?_)
  intro w4 hb4 hk4
  have HX4 := Lib.hid (show w4.heap[x]? = some (.cells (recC r B1 d1 B2 d2) 27 (0, 0)) from hb4)
  have HY4 := Lib.hid (hk4.heap HY3.out (by have := XL.out; omega))
  have HOa := Lib.hid (HO1.out.keep hk4 (fun z a e => by have := XL.out; have := (HO1.out.base_le a).1; omega))
  have HOb := Lib.hid (HO2.out.keep hk4 (fun z a e => by have := XL.out; have := (HO2.out.base_le a).1; omega))
  have K4 := Lib.hid (K3.out.new hk4 (by rintro x rfl; exact nx))
  clear hb4 hk4 HX3 HY3
  go_wp2_with (first
    | (refine wl_load_row rfl 27 _ rfl x rfl (recC r B1 d1 B2 d2) HX4.out Try.underlying27 rfl sizeRec ?_)
    | (refine wl_store_row rfl 27 _ _ rfl y (recC r B1 d1 B2 d2) _ rfl rfl HY4.out sizeRec rfl (one_recC _ _ _ _ _) ?_))
  intro w7 hb7 hk7
  have HOa7 := Lib.hid (HOa.out.keep hk7 (fun z a e => by have := (HO1.out.base_le a).1; omega))
  have HOb7 := Lib.hid (HOb.out.keep hk7 (fun z a e => by have := (HO2.out.base_le a).1; omega))
  have K7 := Lib.hid (K4.out.new hk7 (by rintro x rfl; have := K1.out.size; omega))
  have HY7 := Lib.hid hb7
  have S2 := Lib.hid K2.out.size
  clear hb7 hk7
  go_wp2
  try simp only [Exit.inBlock, Exit.then]
  refine bodyPost_ret (results_cell_row rfl _ w7 y 27 _ (0, 0) _ rfl HY7.out Try.underlying27 rfl sizeRec) rfl ?_
  exact ⟨B1, d1, B2, d2, rfl, HOa7.out.low S2.out, HOb7.out.low S2.out, HAP.out, K7.out⟩
end Go.Proofs.Ytbolbddjmmfepaa
namespace Go.Proofs.Ytbolbddjmmfepaa
open Go.RowKit

theorem apartL_any (w : World) (B gt ct : Nat) (Ls : List PtD) (hL : Ls.length ≤ 1000) (tab : ∀ k s, Ls[k]? = some s → w.cell? ⟨gt, k, none⟩ = some (ptVal s)) (rows : ∀ s ∈ Ls, OwnV w B (ptVal s) s.b)
    (sep : Ls.Pairwise fun a b => ∀ x, ob a.A = some x → ob b.A = some x → False) (hg : ∀ s ∈ Ls, ob s.A ≠ some gt) (hN : ∀ s ∈ Ls, s.b.length ≤ 1000000) (hB : B ≤ w.heap.size) :
    Calls Try.prog 21 #[.slice (some ⟨gt, 0, none⟩) Ls.length ct] w fun e w' => e = .returned (.bool true) ∧ Kept (fun x => ∃ s ∈ Ls, ob s.A = some x) w w' := by
  have gd : ∀ k (h : k < Ls.length), Ls.getD k ⟨none, [], 0⟩ = Ls[k] := fun k h => by simp [h]
  refine (apartBytes_any w B gt ct Ls.length (fun k => (Ls.getD k ⟨none, [], 0⟩).A) (fun k => (Ls.getD k ⟨none, [], 0⟩).b.length) (fun k => (Ls.getD k ⟨none, [], 0⟩).c) (fun k => (Ls.getD k ⟨none, [], 0⟩).b) ⟨fun k hk => ?_, fun k hk => ?_⟩ ⟨fun i j x hi hj hx hy => ?_, fun k hk e => ?_⟩ hL (fun k hk => ?_) hB).mono ?_
  · rw [gd k hk]; exact tab k _ (List.getElem?_eq_getElem hk)
  · simp only [gd k hk]; exact rows _ (List.getElem_mem hk)
  · simp only [gd i hi] at hx
    simp only [gd j hj] at hy
    rcases Nat.lt_trichotomy i j with h | h | h
    · exact (List.pairwise_iff_getElem.1 sep i j hi hj h x hx hy).elim
    · exact h
    · exact (List.pairwise_iff_getElem.1 sep j i hj hi h x hy hx).elim
  · simp only [gd k hk] at e
    exact hg _ (List.getElem_mem hk) e
  · simp only [gd k hk]; exact hN _ (List.getElem_mem hk)
  · rintro e w' ⟨rfl, hk⟩
    refine ⟨rfl, hk.mono (fun x _ hx => ?_)⟩
    obtain ⟨k, hk, e⟩ := hx
    simp only [gd k hk] at e
    exact ⟨_, List.getElem_mem hk, e⟩
theorem pick_natB (x : Int) (n : Nat) (h0 : 1 ≤ n) (hn : n ≤ 65536) (w : World) :
    Calls Try.prog 20 #[.int .i64 x, .int .i64 n] w fun e w' => ∃ k : Nat, k < n ∧ e = .returned (.int .i64 k) ∧ w = w' := by
  have h := pickM_lt (x := x) (n := n) (by omega)
  refine (pick_any x n (by omega) w).mono fun e w' ⟨h1, h2⟩ => ⟨(pickM x n).toNat, by omega, ?_, h2⟩
  rw [h1, Int.toNat_of_nonneg h.1]
theorem bits_u8x (x y : UInt8) : bits .xor .u8 (x.toNat : Int) (y.toNat : Int) = (((x ^^^ y).toNat : Nat) : Int) := by
  have hx := x.toNat_lt
  have hy := y.toNat_lt
  have h1 : (BitVec.ofInt 8 (x.toNat : Int)).toNat = x.toNat := by
    rw [BitVec.ofInt_natCast, BitVec.toNat_ofNat]; exact Nat.mod_eq_of_lt (by omega)
  have h2 : (BitVec.ofInt 8 (y.toNat : Int)).toNat = y.toNat := by
    rw [BitVec.ofInt_natCast, BitVec.toNat_ofNat]; exact Nat.mod_eq_of_lt (by omega)
  have wr : ∀ n : Int, IntKind.u8.wrap n = n % 256 := fun n => by simp [IntKind.wrap, IntKind.bits, IntKind.signed]
  have hz : x.toNat ^^^ y.toNat < 2 ^ 8 := Nat.xor_lt_two_pow (by omega) (by omega)
  show IntKind.u8.wrap ((BitVec.ofInt 8 (x.toNat : Int) ^^^ BitVec.ofInt 8 (y.toNat : Int)).toNat : Int) = _
  rw [BitVec.toNat_xor, h1, h2, wr, UInt8.toNat_xor]
  omega
theorem getA_at (A : Option Addr) (n c : Nat) (b : Bytes) (w : World) (hn : b.length = n) (h : RdB w A b) (hc : n ≤ c) (hc2 : c ≤ 9223372036854775807) (hl : n ≤ 1000000) :
    Calls Try.prog 12 #[.slice A n c] w (GetPost b w) := by
  subst hn
  exact get_any A c b w h hc hc2 hl
theorem OwnV.capV {w : World} {base : Nat} {A : Option Addr} {n c : Nat} {l : Bytes} (h : OwnV w base (.slice A n c) l) : l.length ≤ c ∧ c ≤ 9223372036854775807 := by
  refine ⟨?_, h.capM⟩
  rcases h.form with ⟨e, rfl⟩ | ⟨g, cap, e, ho⟩
  · exact Nat.zero_le _
  · cases e
    obtain ⟨_, _, _, h3, _⟩ := ho.form
    exact h3
theorem ob_own {A : Option Addr} {n c x : Nat} (h : ob A = some x) : (Value.slice A n c).ownBlock = some x := by rw [ownBlock_slice]; exact h
end Go.Proofs.Ytbolbddjmmfepaa
namespace Go.Proofs.Ytbolbddjmmfepaa
open Go.RowKit

/-- What LogBack holds, behind its two Puts. -/
structure BkS (w wx : World) (q p g1 g2 top : Nat) (r : RecM) (A1 A2 B1 B2 : Option Addr) (c1 c2 d1 d2 cp1 cp2 : Nat) (E : Bytes) : Prop where
  kept : Kept (fun _ => False) w wx
  hq : wx.heap[q]? = some (.cells (recC r A1 c1 A2 c2) 27 (0, 0))
  hp : wx.heap[p]? = some (.cells (recC r B1 d1 B2 d2) 27 (0, 0))
  lt : q < top ∧ p < top
  v1 : OwnV wx w.heap.size (.slice B1 r.old.length d1) r.old
  v2 : OwnV wx w.heap.size (.slice B2 r.new.length d2) r.new
  vb : OwnV wx w.heap.size (.slice (some ⟨g1, 0, none⟩) E.length cp1) E
  vc : OwnV wx w.heap.size (.slice (some ⟨g2, 0, none⟩) E.length cp2) E
  tle : top ≤ wx.heap.size
  o1 : ∀ x, ob B1 = some x → x < g1
  o2 : ∀ x, ob B2 = some x → x < g1
  o12 : ∀ x, ob B1 = some x → ob B2 = some x → False
  og : g1 < g2 ∧ g2 < top
  low : w.heap.size ≤ top
theorem BkS.keep {S : Nat → Prop} {w wx wz : World} {q p g1 g2 top : Nat} {r : RecM} {A1 A2 B1 B2 : Option Addr} {c1 c2 d1 d2 cp1 cp2 : Nat} {E : Bytes} (h : BkS w wx q p g1 g2 top r A1 A2 B1 B2 c1 c2 d1 d2 cp1 cp2 E) (hk : Kept S wx wz) (hS : ∀ x, S x → top ≤ x) : BkS w wz q p g1 g2 top r A1 A2 B1 B2 c1 c2 d1 d2 cp1 cp2 E := by
  have hlt := h.lt
  have hog := h.og
  have oo : ∀ {A : Option Addr} {n c x : Nat}, (Value.slice A n c).ownBlock = some x → ob A = some x := fun hx => by rw [ownBlock_slice] at hx; exact hx
  exact ⟨h.kept.new hk (fun x hx => Nat.le_trans h.low (hS x hx)), hk.heap h.hq (fun e => by have := hS _ e; omega), hk.heap h.hp (fun e => by have := hS _ e; omega), h.lt,
    h.v1.keep hk (fun x hx e => by have h1 := h.o1 x (oo hx); have := hS _ e; omega), h.v2.keep hk (fun x hx e => by have h1 := h.o2 x (oo hx); have := hS _ e; omega),
    h.vb.keep hk (fun x hx e => by have e1 : g1 = x := Option.some.inj hx; have := hS _ e; omega), h.vc.keep hk (fun x hx e => by have e1 : g2 = x := Option.some.inj hx; have := hS _ e; omega), Nat.le_trans h.tle hk.size, h.o1, h.o2, h.o12, h.og, h.low⟩
/-- And behind its first Get. -/
structure BkT (w wx : World) (q p g1 g2 s top : Nat) (r : RecM) (A1 A2 B1 B2 S1 S2 : Option Addr) (c1 c2 d1 d2 cp1 cp2 e1 e2 : Nat) (E : Bytes) : Prop where
  b : BkS w wx q p g1 g2 top r A1 A2 B1 B2 c1 c2 d1 d2 cp1 cp2 E
  hs : wx.heap[s]? = some (.cells (recC r S1 e1 S2 e2) 27 (0, 0))
  u1 : OwnV wx w.heap.size (.slice S1 r.old.length e1) r.old
  u2 : OwnV wx w.heap.size (.slice S2 r.new.length e2) r.new
  s1 : ∀ x, ob S1 = some x → g2 < x ∧ x < top
  s2 : ∀ x, ob S2 = some x → g2 < x ∧ x < top
  s12 : ∀ x, ob S1 = some x → ob S2 = some x → False
  lt : s < top
theorem BkT.keep {S : Nat → Prop} {w wx wz : World} {q p g1 g2 s top : Nat} {r : RecM} {A1 A2 B1 B2 S1 S2 : Option Addr} {c1 c2 d1 d2 cp1 cp2 e1 e2 : Nat} {E : Bytes} (h : BkT w wx q p g1 g2 s top r A1 A2 B1 B2 S1 S2 c1 c2 d1 d2 cp1 cp2 e1 e2 E) (hk : Kept S wx wz) (hS : ∀ x, S x → top ≤ x) : BkT w wz q p g1 g2 s top r A1 A2 B1 B2 S1 S2 c1 c2 d1 d2 cp1 cp2 e1 e2 E := by
  have oo : ∀ {A : Option Addr} {n c x : Nat}, (Value.slice A n c).ownBlock = some x → ob A = some x := fun hx => by rw [ownBlock_slice] at hx; exact hx
  have hl := h.lt
  exact ⟨h.b.keep hk hS, hk.heap h.hs (fun e => by have := hS _ e; omega), h.u1.keep hk (fun x hx e => by have h1 := h.s1 x (oo hx); have := hS _ e; omega), h.u2.keep hk (fun x hx e => by have h1 := h.s2 x (oo hx); have := hS _ e; omega), h.s1, h.s2, h.s12, h.lt⟩
theorem BkT.apart {w wx : World} {q p g1 g2 s top : Nat} {r : RecM} {A1 A2 B1 B2 S1 S2 : Option Addr} {c1 c2 d1 d2 cp1 cp2 e1 e2 : Nat} {E : Bytes} (h : BkT w wx q p g1 g2 s top r A1 A2 B1 B2 S1 S2 c1 c2 d1 d2 cp1 cp2 e1 e2 E) (h1 : r.old.length ≤ 1000000) (h2 : r.new.length ≤ 1000000) (h3 : E.length ≤ 1000000) :
    Calls Try.prog 21 #[.slice (some ⟨wx.heap.size, 0, none⟩) 6 6] (wx.alloc (.cells #[.slice B1 r.old.length d1, .slice B2 r.new.length d2, .slice (some ⟨g1, 0, none⟩) E.length cp1, .slice (some ⟨g2, 0, none⟩) E.length cp2, .slice S1 r.old.length e1, .slice S2 r.new.length e2] 23)) fun e w' => e = .returned (.bool true) ∧ Kept (fun _ => False) w w' := by
  have ka : Kept (fun _ => False) wx (wx.alloc (.cells #[.slice B1 r.old.length d1, .slice B2 r.new.length d2, .slice (some ⟨g1, 0, none⟩) E.length cp1, .slice (some ⟨g2, 0, none⟩) E.length cp2, .slice S1 r.old.length e1, .slice S2 r.new.length e2] 23)) := (Kept.refl _ _).alloc _
  have hb := heap_alloc_new wx (.cells #[.slice B1 r.old.length d1, .slice B2 r.new.length d2, .slice (some ⟨g1, 0, none⟩) E.length cp1, .slice (some ⟨g2, 0, none⟩) E.length cp2, .slice S1 r.old.length e1, .slice S2 r.new.length e2] 23)
  have hog := h.b.og
  have htop := h.b.tle
  have o1 := h.b.o1
  have o2 := h.b.o2
  have t1 := h.s1
  have t2 := h.s2
  refine (apartL_any _ w.heap.size wx.heap.size 6 [⟨B1, r.old, d1⟩, ⟨B2, r.new, d2⟩, ⟨some ⟨g1, 0, none⟩, E, cp1⟩, ⟨some ⟨g2, 0, none⟩, E, cp2⟩, ⟨S1, r.old, e1⟩, ⟨S2, r.new, e2⟩] (by simp) (fun k s hs => ?_) (fun s hs => ?_) ?_ (fun s hs => ?_) (fun s hs => ?_) (by have := ka.size; have := h.b.low; omega)).mono ?_
  · match k, hs with
    | 0, hs => cases hs; exact cell_blk hb rfl
    | 1, hs => cases hs; exact cell_blk hb rfl
    | 2, hs => cases hs; exact cell_blk hb rfl
    | 3, hs => cases hs; exact cell_blk hb rfl
    | 4, hs => cases hs; exact cell_blk hb rfl
    | 5, hs => cases hs; exact cell_blk hb rfl
  · simp only [List.mem_cons, List.not_mem_nil, or_false] at hs
    rcases hs with rfl | rfl | rfl | rfl | rfl | rfl
    · exact h.b.v1.keep ka (fun _ _ => id)
    · exact h.b.v2.keep ka (fun _ _ => id)
    · exact h.b.vb.keep ka (fun _ _ => id)
    · exact h.b.vc.keep ka (fun _ _ => id)
    · exact h.u1.keep ka (fun _ _ => id)
    · exact h.u2.keep ka (fun _ _ => id)
  · refine .cons (fun b hb x hx hy => ?_) (.cons (fun b hb x hx hy => ?_) (.cons (fun b hb x hx hy => ?_) (.cons (fun b hb x hx hy => ?_) (.cons (fun b hb x hx hy => ?_) (.cons (fun b hb => by cases hb) .nil)))))
    · have := o1 x hx
      simp only [List.mem_cons, List.not_mem_nil, or_false] at hb
      rcases hb with rfl | rfl | rfl | rfl | rfl
      · exact h.b.o12 x hx hy
      · have e1 : g1 = x := Option.some.inj hy; omega
      · have e1 : g2 = x := Option.some.inj hy; omega
      · have := t1 x hy; omega
      · have := t2 x hy; omega
    · have := o2 x hx
      simp only [List.mem_cons, List.not_mem_nil, or_false] at hb
      rcases hb with rfl | rfl | rfl | rfl
      · have e1 : g1 = x := Option.some.inj hy; omega
      · have e1 : g2 = x := Option.some.inj hy; omega
      · have := t1 x hy; omega
      · have := t2 x hy; omega
    · have e0 : g1 = x := Option.some.inj hx
      simp only [List.mem_cons, List.not_mem_nil, or_false] at hb
      rcases hb with rfl | rfl | rfl
      · have e1 : g2 = x := Option.some.inj hy; omega
      · have := t1 _ hy; omega
      · have := t2 _ hy; omega
    · have e0 : g2 = x := Option.some.inj hx
      simp only [List.mem_cons, List.not_mem_nil, or_false] at hb
      rcases hb with rfl | rfl
      · have := t1 _ hy; omega
      · have := t2 _ hy; omega
    · simp only [List.mem_cons, List.not_mem_nil, or_false] at hb
      subst hb
      exact h.s12 x hx hy
  · simp only [List.mem_cons, List.not_mem_nil, or_false] at hs
    intro e
    rcases hs with rfl | rfl | rfl | rfl | rfl | rfl
    · have := o1 _ e; omega
    · have := o2 _ e; omega
    · have e1 : g1 = wx.heap.size := Option.some.inj e; omega
    · have e1 : g2 = wx.heap.size := Option.some.inj e; omega
    · have := t1 _ e; omega
    · have := t2 _ e; omega
  · simp only [List.mem_cons, List.not_mem_nil, or_false] at hs
    rcases hs with rfl | rfl | rfl | rfl | rfl | rfl <;> assumption
  · rintro e w' ⟨rfl, hk⟩
    refine ⟨rfl, h.b.kept.new ((ka.mono (fun _ _ h => h.elim)).trans hk (fun x _ hx => hx)) (fun x hx => ?_)⟩
    obtain ⟨s, hs, hx⟩ := hx
    simp only [List.mem_cons, List.not_mem_nil, or_false] at hs
    rcases hs with rfl | rfl | rfl | rfl | rfl | rfl
    · exact (h.b.v1.base_le (ob_own hx)).1
    · exact (h.b.v2.base_le (ob_own hx)).1
    · exact (h.b.vb.base_le (ob_own hx)).1
    · exact (h.b.vc.base_le (ob_own hx)).1
    · exact (h.u1.base_le (ob_own hx)).1
    · exact (h.u2.base_le (ob_own hx)).1
set_option maxRecDepth 100000 in
set_option maxHeartbeats 3200000 in
theorem logBack_any (r : RecM) (A1 A2 : Option Addr) (c1 c2 : Nat) (at_ : Int) (y : UInt8) (w : World) (ho : RecOk r) (hr1 : RdB w A1 r.old) (hr2 : RdB w A2 r.new)
    (s1 : r.old.length ≤ 140737488355328) (s2 : r.new.length ≤ 140737488355328) :
    Calls Try.prog 4 #[.agg (recC r A1 c1 A2 c2), .int .i64 at_, .int .u8 y.toNat] w fun e w' => e = .returned (.bool true) ∧ Kept (fun _ => False) w w' := by
  have HO := Lib.hid ho
  have HR1 := Lib.hid hr1
  have HR2 := Lib.hid hr2
  clear ho hr1 hr2
  go_enter Try.func4, Try.ntmps4
  go_wp2_with (refine wl_box rfl 27 _ rfl (.agg (recC r A1 c1 A2 c2)) rfl ?_)
  intro q w1 q1 q2 hb1 hk1
  have HQ1 := Lib.hid (show w1.heap[q]? = some (.cells (recC r A1 c1 A2 c2) 27 (0, 0)) from hb1)
  have K1 := Lib.hid hk1
  clear hb1 hk1
  go_wp2_with fail
  refine (awake_any _).mono ?_
  rintro e w2 ⟨rfl, hk2⟩
  have HQ2 := Lib.hid (hk2.heap HQ1.out id)
  have K2 := Lib.hid (K1.out.trans0 hk2)
  clear hk2 HQ1
  obtain ⟨x0, x1, x2, x3, x4, x5, x6, x7, x8, x9⟩ := recAt_of HQ2.out
  have e1 : wrap64 ((r.old.length : Int) + (r.new.length : Int)) = (r.old.length : Int) + (r.new.length : Int) := by unfold wrap64; omega
  by_cases hl : (2000 : Int) < (r.old.length : Int) + (r.new.length : Int)
  · go_wp2
    go_ret
    exact ⟨rfl, K2.out⟩
  · have l1 : r.old.length ≤ 2000 := by omega
    have l2 : r.new.length ≤ 2000 := by omega
    have HLR := Lib.hid (crec_any r A1 A2 c1 c2 w2 (HR1.out.kept K2.out (fun _ _ _ _ => id)) (HR2.out.kept K2.out (fun _ _ _ _ => id)) (by omega) (by omega))
    clear s1 s2
    go_wp2_with (refine wl_load_row rfl 27 _ rfl q rfl (recC r A1 c1 A2 c2) HQ2.out Try.underlying27 rfl sizeRec ?_)
    refine HLR.out.mono ?_
    rintro e w3 ⟨B1, d1, B2, d2, rfl, hv1, hv2, hdis, hk3⟩
    have HV1 := Lib.hid hv1
    have HV2 := Lib.hid hv2
    have HDO := Lib.hid hdis
    have N1 := Lib.hid (fun x hx => hv1.base_le (x := x) hx)
    have N2 := Lib.hid (fun x hx => hv2.base_le (x := x) hx)
    have HQ3 := Lib.hid (hk3.heap HQ2.out id)
    have K3 := Lib.hid (K2.out.trans0 hk3)
    clear hv1 hv2 hdis hk3 HQ2 HLR x0 x1 x2 x3 x4 x5 x6 x7 x8 x9 hl e1
    go_wp2_with (refine wl_alloc' rfl 27 rfl zRecC zeroRec ?_)
    intro p w4 p1 p2 hb4 hk4
    go_wp2_with (refine wl_store_row rfl 27 _ _ rfl p (recC r B1 d1 B2 d2) _ rfl rfl hb4 sizeRec rfl (one_recC _ _ _ _ _) ?_)
    intro w5 hb5 hk5
    have k35 : Kept (fun _ => False) w3 w5 := hk4.new hk5 (by rintro x rfl; exact p1)
    have HP5 := Lib.hid hb5
    have HQ5 := Lib.hid (k35.heap HQ3.out id)
    have HV1' := Lib.hid (HV1.out.keep k35 (fun _ _ => id))
    have HV2' := Lib.hid (HV2.out.keep k35 (fun _ _ => id))
    have K5 := Lib.hid (K3.out.trans0 k35)
    have S35 := Lib.hid k35.size
    have HPU := Lib.hid (put_any r B1 d1 B2 d2 w5 HO.out (by omega) (by omega) HV1'.out.rd HV2'.out.rd)
    clear hb4 hk4 hb5 hk5 k35 HV1 HV2 HQ3
    go_wp2_with (refine wl_load_row rfl 27 _ rfl p rfl (recC r B1 d1 B2 d2) HP5.out Try.underlying27 rfl sizeRec ?_)
    refine HPU.out.mono ?_
    rintro e w6 ⟨hk6, hp1, hp2⟩
    have HP6 := Lib.hid (hk6.heap HP5.out id)
    have HQ6 := Lib.hid (hk6.heap HQ5.out id)
    have HV1 := Lib.hid (HV1'.out.keep hk6 (fun _ _ => id))
    have HV2 := Lib.hid (HV2'.out.keep hk6 (fun _ _ => id))
    have K6 := Lib.hid (K5.out.trans0 hk6)
    have S56 := Lib.hid hk6.size
    have HPU2 := Lib.hid (put_any r B1 d1 B2 d2 w6 HO.out (by omega) (by omega) HV1.out.rd HV2.out.rd)
    clear hk6 HP5 HQ5 HPU HV1' HV2'
    by_cases hR : rightM r
    · obtain ⟨g1, cp1, rfl, hob1⟩ := hp1 hR
      obtain ⟨E, hE⟩ : ∃ E, E = encM r := ⟨_, rfl⟩
      have hbl := body_le hR
      have hEl : 35 ≤ E.length ∧ E.length ≤ 1100 := by rw [hE, encM_len]; omega
      rw [← hE] at hob1 ⊢
      have HRI := Lib.hid hR
      have HE := Lib.hid hE
      have HB6 := Lib.hid hob1.v
      have NB := Lib.hid (fun x hx => hob1.v.base_le (x := x) hx)
      clear hp1 hp2 hob1 hE hR hbl
      go_wp2_with (refine wl_load_row rfl 27 _ rfl p rfl (recC r B1 d1 B2 d2) HP6.out Try.underlying27 rfl sizeRec ?_)
      refine HPU2.out.mono ?_
      rintro e w7 ⟨hk7, hp1, -⟩
      obtain ⟨g2, cp2, rfl, hob2⟩ := hp1 HRI.out
      rw [← HE.out] at hob2 ⊢
      have oo : ∀ {A : Option Addr} {n c x : Nat}, ob A = some x → (Value.slice A n c).ownBlock = some x := fun hx => ob_own hx
      have HX := Lib.hid (show BkS w w7 q p g1 g2 w7.heap.size r A1 A2 B1 B2 c1 c2 d1 d2 cp1 cp2 E from by
        have z1 := (NB.out g1 rfl)
        have z2 := hob2.v.base_le (x := g2) rfl
        have z3 := S35.out
        have z4 := S56.out
        have z5 := K3.out.size
        have z6 := heap_lt (hk7.heap HQ6.out id)
        have z7 := heap_lt (hk7.heap HP6.out id)
        have z8 := K2.out.size
        have z9 := K5.out.size
        exact ⟨K6.out.trans0 hk7, hk7.heap HQ6.out id, hk7.heap HP6.out id, ⟨z6, z7⟩, (HV1.out.keep hk7 (fun _ _ => id)).low z8, (HV2.out.keep hk7 (fun _ _ => id)).low z8, (HB6.out.keep hk7 (fun _ _ => id)).low z9, hob2.v.low (by omega), Nat.le_refl _,
          (fun x hx => by have := (N1.out x (oo hx)).2; omega), (fun x hx => by have := (N2.out x (oo hx)).2; omega), (fun x hx hy => HDO.out x (oo hx) (oo hy)), ⟨by omega, z2.2⟩, by omega⟩)
      have ML := Lib.hid (show g1 < 1000000000000 ∨ True from .inr trivial)
      have HCB := Lib.hid (copyBK_any (some ⟨g1, 0, none⟩) cp1 E w7 HX.out.vb.rd (by omega))
      clear hp1 hob2 hk7 HP6 HQ6 HV1 HV2 HB6 HPU2 ML HDO N1 N2 NB K1 K2 K3 K5 K6 S35 S56 oo p1 p2 q1 q2
      obtain ⟨top, htop⟩ : ∃ top, top = w7.heap.size := ⟨_, rfl⟩
      have HT := Lib.hid (show top ≤ w7.heap.size from Nat.le_of_eq htop)
      rw [← htop] at HX
      clear htop
      go_wp2_with fail
      refine HCB.out.mono ?_
      rintro e w8 ⟨v8, rfl, ho8, hk8⟩
      have HV8 := Lib.hid ho8
      have HX8 := Lib.hid (HX.out.keep hk8 (fun _ h => h.elim))
      have S78 := Lib.hid hk8.size
      have ka : Kept (fun _ => False) w8 (w8.alloc (.cells #[.int .u8 1, .int .u8 2, .int .u8 3] 5)) := (Kept.refl _ _).alloc _
      have KA := Lib.hid ka
      have HR3 := Lib.hid (RdB.of_blk (l := [1, 2, 3]) (heap_alloc_new w8 (.cells #[.int .u8 1, .int .u8 2, .int .u8 3] 5)))
      have HV8a := Lib.hid (HV8.out.keep ka (fun _ _ => id))
      clear ho8 hk8 HX HCB ka
      go_wp2_with (at_builtin; refine wl_appendV rfl _ _ rfl w7.heap.size v8 E [1, 2, 3] rfl HV8a.out (some ⟨w8.heap.size, 0, none⟩) 3 rfl HR3.out (by simp; omega) (Nat.le_trans S78.out KA.out.size) ?_)
      intro v9 w9 ho9 hk9 hat9
      obtain ⟨F, hF⟩ : ∃ F, F = E ++ [1, 2, 3] := ⟨_, rfl⟩
      rw [← hF] at ho9
      have hFl : F.length = E.length + 3 := by rw [hF, List.length_append]; rfl
      have k89 : Kept (fun x => top ≤ x) w8 w9 := (KA.out.mono (fun _ _ h => h.elim)).trans hk9 (fun x _ h => Nat.le_trans HT.out (HV8.out.base_le h).1)
      obtain ⟨A9, c9, rfl, _⟩ := ho9.slice
      have GF := Lib.hid (show getL F = some (r, E.length) from by
        rw [HE.out]
        refine getL_A HRI.out ?_
        rw [hF, HE.out, List.take_left'] ; rfl)
      have HGT := Lib.hid (get_any A9 c9 F w9 ho9.rd ho9.capV.1 ho9.capV.2 (by omega))
      have HX9 := Lib.hid (HX8.out.keep k89 (fun _ h => h))
      clear ho9 hk9 hat9 k89 HX8 HV8 HV8a HR3 KA S78 hF hFl HT
      go_wp2_with fail
      refine HGT.out.mono ?_
      rintro e w10 ⟨hk10, -, hs10⟩
      obtain ⟨S1, f1, S2, f2, rfl, hu1, hu2, hud⟩ := hs10 r E.length GF.out
      have HX10 := Lib.hid (HX9.out.keep hk10 (fun _ h => h.elim))
      have HU1 := Lib.hid hu1
      have HU2 := Lib.hid hu2
      have HUD := Lib.hid hud
      have S910 := Lib.hid hk10.size
      clear hk10 hs10 hu1 hu2 hud HGT
      go_wp2_with (refine wl_alloc' rfl 27 rfl zRecC zeroRec ?_)
      intro s w11 s1 s2 hb11 hk11
      go_wp2_with (refine wl_store_row rfl 27 _ _ rfl s (recC r S1 f1 S2 f2) _ rfl rfl hb11 sizeRec rfl (one_recC _ _ _ _ _) ?_)
      intro w12 hb12 hk12
      have HY := Lib.hid (show BkT w w12 q p g1 g2 s w12.heap.size r A1 A2 B1 B2 S1 S2 c1 c2 d1 d2 cp1 cp2 f1 f2 E from by
        have k12 : Kept (fun _ => False) w10 w12 := hk11.new hk12 (by rintro x rfl; exact s1)
        have x12 := HX10.out.keep k12 (fun _ h => h.elim)
        have z1 := HX9.out.tle
        have z2 := HX9.out.og
        have z3 := HX9.out.kept.size
        have z4 := k12.size
        have z5 := x12.lt
        have z6 := x12.tle
        have z7 := S910.out
        have r1 : ∀ x, ob S1 = some x → w9.heap.size ≤ x ∧ x < w10.heap.size := fun x hx => HU1.out.base_le (ob_own hx)
        have r2 : ∀ x, ob S2 = some x → w9.heap.size ≤ x ∧ x < w10.heap.size := fun x hx => HU2.out.base_le (ob_own hx)
        exact ⟨⟨x12.kept, x12.hq, x12.hp, ⟨by omega, by omega⟩, x12.v1, x12.v2, x12.vb, x12.vc, Nat.le_refl _, x12.o1, x12.o2, x12.o12, ⟨z2.1, by omega⟩, by omega⟩, hb12, (HU1.out.keep k12 (fun _ _ => id)).low z3, (HU2.out.keep k12 (fun _ _ => id)).low z3,
          (fun x hx => by have := r1 x hx; omega), (fun x hx => by have := r2 x hx; omega), (fun x hx hy => HUD.out x (ob_own hx) (ob_own hy)), heap_lt hb12⟩)
      obtain ⟨tp, htp⟩ : ∃ tp, tp = w12.heap.size := ⟨_, rfl⟩
      rw [← htp] at HY
      clear htp hb11 hk11 hb12 hk12 HX9 HX10 HU1 HU2 HUD S910 GF s1 s2
      have hlb : ((E.length : Int) != (E.length : Int)) = false := by simp
      obtain ⟨x0, x1, x2, x3, x4, x5, x6, x7, x8, x9⟩ := recAt_of HY.out.hs
      obtain ⟨y0, y1, y2, y3, y4, y5, y6, y7, y8, y9⟩ := recAt_of HY.out.b.hq
      have HSR := Lib.hid (srec_any r S1 S2 A1 A2 f1 f2 c1 c2 w12 HY.out.u1.rd (HR1.out.kept HY.out.b.kept (fun _ _ _ _ => id)) HY.out.u2.rd (HR2.out.kept HY.out.b.kept (fun _ _ _ _ => id)) (by omega) (by omega))
      go_wp2_with fail
      refine HSR.out.mono ?_
      rintro e w13 ⟨rfl, hk13⟩
      have HY13 := Lib.hid (HY.out.keep hk13 (fun _ h => h.elim))
      clear hk13 HSR HY x0 x1 x2 x3 x4 x5 x6 x7 x8 x9 y0 y1 y2 y3 y4 y5 y6 y7 y8 y9
      go_wp2_with fail
      refine (pick_natB at_ E.length (by omega) (by omega) _).mono ?_
      rintro e wx ⟨k, hk, rfl, rfl⟩
      have hcp := HY13.out.b.vb.capV
      have HTK := Lib.hid (show (E.take k).length = k by rw [List.length_take]; omega)
      have HG2 := Lib.hid (getA_at (slA (some ⟨g1, 0, none⟩) 0 cp1) k cp1 (E.take k) w13 HTK.out ((HY13.out.b.vb.rd.sl 0 cp1 hcp.1).takeG k) (by omega) hcp.2 (by omega))
      have GC := Lib.hid (show getL (E.take k) = none from by rw [HE.out]; exact get_cut HRI.out (by rw [← HE.out]; exact hk))
      have hk2 : k ≤ cp1 := by omega
      go_wp2_with (refine wl_val rfl (exec_slH _ _ k rfl (some ⟨g1, 0, none⟩) E.length cp1 (k : Int) rfl rfl rfl hk2 _) ?_)
      refine HG2.out.mono ?_
      rintro e w14 ⟨hk14, hn14, -⟩
      have he := hn14 GC.out
      subst he
      have HY14 := Lib.hid (HY13.out.keep hk14 (fun _ h => h.elim))
      clear hk14 hn14 HG2 HY13 HTK GC
      go_wp2_with (refine wl_alloc' rfl 27 rfl zRecC zeroRec ?_)
      intro s3 w15 s31 s32 hb15 hk15
      go_wp2_with (refine wl_store_row rfl 27 _ _ rfl s3 zRecC _ rfl rfl hb15 sizeRec rfl (one_recC _ _ _ _ _) ?_)
      intro w16 hb16 hk16
      have HY16 := Lib.hid (HY14.out.keep (hk15.new hk16 (by rintro x rfl; exact s31)) (fun _ h => h.elim))
      clear hb15 hk15 hb16 hk16 HY14
      have HCB := Lib.hid (copyBK_any (some ⟨g1, 0, none⟩) cp1 E w16 HY16.out.b.vb.rd (by omega))
      go_wp2_with fail
      refine HCB.out.mono ?_
      rintro e w17 ⟨v17, rfl, ho17, hk17⟩
      have HY17 := Lib.hid (HY16.out.keep hk17 (fun _ h => h.elim))
      obtain ⟨gx, cx, rfl, hox⟩ : ∃ gx cx, v17 = .slice (some ⟨gx, 0, none⟩) E.length cx ∧ OwnB w17 w16.heap.size gx cx E := by
        rcases ho17.form with ⟨_, h⟩ | h
        · rw [h] at hEl; simp at hEl
        · exact h
      have HOX := Lib.hid hox
      have LX := Lib.hid (Nat.le_trans HY16.out.b.tle (hox.v.base_le (x := gx) rfl).1)
      have ck := hox.cellAt (i := k) (by omega)
      have fk : w17.frozen? ⟨gx, k, none⟩ = false := by
        obtain ⟨cur, _, hh, _⟩ := hox.form
        exact free_blk hh k
      obtain ⟨X, hX⟩ : ∃ X : UInt8, X = bAt E k ^^^ y := ⟨_, rfl⟩
      have xo : bits .xor .u8 ((bAt E k).toNat : Int) (y.toNat : Int) = (X.toNat : Int) := by rw [hX]; exact bits_u8x _ _
      have HXX := Lib.hid hX
      obtain ⟨bk, hbk⟩ : ∃ bk, bk = bAt E k := ⟨_, rfl⟩
      rw [← hbk] at xo ck
      have HBK := Lib.hid hbk
      have i1 : (k : Int) < (E.length : Int) := by omega
      clear ho17 hk17 hox HY16 HCB hX hbk
      have HOS := Lib.hid (HOX.out.setL k X)
      have HY18 := Lib.hid (HY17.out.keep (Kept.cell w17 gx k (.int .u8 X.toNat)) (by rintro x rfl; exact LX.out))
      have LSE := Lib.hid (show (E.set k X).length = E.length from by simp)
      have HG3 := Lib.hid (getA_at (some ⟨gx, 0, none⟩) E.length cx (E.set k X) (w17.setCell ⟨gx, k, none⟩ (.int .u8 X.toNat)) LSE.out HOS.out.v.rd (by
        have h1 : (E.set k X).length ≤ cx := by
          obtain ⟨_, _, _, h3, _⟩ := HOS.out.form
          exact h3
        rw [LSE.out] at h1; exact h1) (by
        obtain ⟨_, _, _, _, h3, _⟩ := HOS.out.form
        exact h3) (by omega))
      go_wp2_with fail
      refine HG3.out.mono ?_
      rintro e w19 ⟨hk19, hn19, hs19⟩
      have HY19 := Lib.hid (HY18.out.keep hk19 (fun _ h => h.elim))
      obtain ⟨R, T1, t1, T2, t2, nn, en, rfl, hen⟩ : ∃ (R : RecM) (T1 : Option Addr) (t1 : Nat) (T2 : Option Addr) (t2 : Nat) (nn en : Int), e = .returned (.tuple #[.agg (recC R T1 t1 T2 t2), .int .i64 nn, .int .i64 en]) ∧ (y ≠ 0 → en = 4) := by
        cases hg : getL (E.set k X) with
        | none => exact ⟨⟨0, 0, 0, 0, 0, 0, 0, 0, [], []⟩, none, 0, none, 0, 0, 4, hn19 hg, fun _ => rfl⟩
        | some z =>
          obtain ⟨R, k'⟩ := z
          obtain ⟨T1, t1, T2, t2, he, _⟩ := hs19 R k' hg
          refine ⟨R, T1, t1, T2, t2, k', 0, he, fun hy => ?_⟩
          have hkE : k < (encM r).length := by rw [← HE.out]; exact hk
          have h2 := get_turned HRI.out (i := k) (y := X) hkE (by
            rw [HXX.out]
            intro h
            apply hy
            have h3 : bAt E k = (encM r)[k] := by rw [← bAt_get hkE, HE.out]
            rw [h3] at h
            have h4 : (encM r)[k] ^^^ ((encM r)[k] ^^^ y) = (encM r)[k] ^^^ (encM r)[k] := by rw [h]
            rw [← UInt8.xor_assoc, UInt8.xor_self, UInt8.zero_xor] at h4
            exact h4)
          rw [← HE.out, hg] at h2
          cases h2
      have HEN := Lib.hid hen
      clear hk19 hn19 hs19 hen HG3 HOS HY18 HY17 HOX LX ck fk xo HXX HBK LSE
      go_wp2_with (refine wl_alloc' rfl 27 rfl zRecC zeroRec ?_)
      intro s5 w20 s51 s52 hb20 hk20
      go_wp2_with (refine wl_store_row rfl 27 _ _ rfl s5 (recC R T1 t1 T2 t2) _ rfl rfl hb20 sizeRec rfl (one_recC _ _ _ _ _) ?_)
      intro w21 hb21 hk21
      have HY21 := Lib.hid (HY19.out.keep (hk20.new hk21 (by rintro x rfl; exact s51)) (fun _ h => h.elim))
      clear hb20 hk20 hb21 hk21 HY19
      obtain ⟨x0, x1, x2, x3, x4, x5, x6, x7, x8, x9⟩ := recAt_of HY21.out.b.hp
      obtain ⟨y0, y1, y2, y3, y4, y5, y6, y7, y8, y9⟩ := recAt_of HY21.out.hs
      have HAP := Lib.hid (HY21.out.apart (by omega) (by omega) (by omega))
      by_cases hy : y = 0
      · subst hy
        go_wp2_with fail
        refine HAP.out.mono ?_
        rintro e w22 ⟨rfl, hk22⟩
        have HK22 := Lib.hid hk22
        clear hk22
        go_wp2
        go_ret
        exact ⟨rfl, HK22.out⟩
      · have he := HEN.out hy
        subst he
        have hyb : ((y.toNat : Int) == 0) = false := by
          rw [beq_eq_false_iff_ne]
          exact fun h => hy (UInt8.toNat_inj.1 (by have : (0 : UInt8).toNat = 0 := rfl; omega))
        clear hy HEN
        go_wp2_with fail
        refine HAP.out.mono ?_
        rintro e w22 ⟨rfl, hk22⟩
        have HK22 := Lib.hid hk22
        clear hk22
        go_wp2
        go_ret
        exact ⟨rfl, HK22.out⟩
    · have he := hp2 hR
      subst he
      have HRI := Lib.hid hR
      clear hp1 hp2 hR
      go_wp2_with (refine wl_load_row rfl 27 _ rfl p rfl (recC r B1 d1 B2 d2) HP6.out Try.underlying27 rfl sizeRec ?_)
      refine HPU2.out.mono ?_
      rintro e w7 ⟨hk7, -, hp2⟩
      have he := hp2 HRI.out
      subst he
      have K7 := Lib.hid (K6.out.trans0 hk7)
      clear hk7 hp2
      go_wp2
      go_ret
      exact ⟨rfl, K7.out⟩
end Go.Proofs.Ytbolbddjmmfepaa
