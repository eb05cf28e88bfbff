/-
  No statement is proved here: the verifier's ApartSpans, of rows of spans that lie apart.
-/
import Derived.Test.YtndflnedkpmpfaaGreatDoorSpc
import Derived.Test.YtndflnedkpmpfaaGreatDoorPtu
namespace Go.Proofs.YtndflnedkpmpfaaGreatDoor
open Go.RowKit

theorem spBrs_V {a b : Bytes} {L : List SpD} (h : ∀ s ∈ L, (segB a (s.f, s.t)).length = s.t - s.f ∧ (segB b (s.f, s.t)).length = s.t - s.f) : (spBrs a b L).map brV = L.flatMap spB := by
  induction L with
  | nil => rfl
  | cons s L ih =>
    obtain ⟨h1, h2⟩ := h s (by simp)
    have := ih (fun u hu => h u (by simp [hu]))
    unfold spBrs at this ⊢
    rw [List.flatMap_cons, List.flatMap_cons, List.map_append, this]
    simp [spBr, brV, spB, h1, h2]
/-- All rows of bytes of all lists of spans. -/
def allBr (a b : Bytes) (m : Nat) (L : Nat → List SpD) : List BrD := (List.range m).flatMap fun j => spBrs a b (L j)
theorem allBr_g (a b : Bytes) (m : Nat) (L : Nat → List SpD) : (allBr a b m L).map (·.g) = (List.range m).flatMap (fun j => gsOf (L j)) := by
  unfold allBr
  rw [List.map_flatMap]
  simp only [spBrs_g]
theorem allBr_V {a b : Bytes} {m : Nat} {L : Nat → List SpD} (h : ∀ k, k < m → ∀ s ∈ L k, (segB a (s.f, s.t)).length = s.t - s.f ∧ (segB b (s.f, s.t)).length = s.t - s.f) : (allBr a b m L).map brV = (List.range m).flatMap (fun j => (L j).flatMap spB) := by
  induction m with
  | zero => rfl
  | succ m ih =>
    have h1 := ih (fun k hk => h k (by omega))
    unfold allBr at h1 ⊢
    rw [List.range_succ, List.flatMap_append, List.flatMap_append, List.map_append, h1, List.flatMap_singleton, List.flatMap_singleton, spBrs_V (h m (by omega))]
def slW (A : Nat → Option Addr) (N C : Nat → Nat) (k : Nat) : Value := .slice (A k) (N k) (C k)
theorem OwnSp.rd {w : World} {B0 B n c : Nat} {A : Option Addr} {L : List SpD} (h : OwnSp w B0 (.slice A n c) L) (hB : ∀ x, ob A = some x → x < B) : RdSp w B A L := by
  intro k x hx
  obtain ⟨G, cap, e, V⟩ := h.view
  obtain ⟨ga, e1, h1, h2⟩ := V k x hx
  injection e with e2 e3 e4
  subst e1
  subst e2
  exact ⟨ga, rfl, hB ga rfl, h1, fun j u hu => h2 j u (by simpa [spVals] using hu)⟩
theorem OwnSp.keptU {S : Nat → Prop} {w w' : World} {base : Nat} {v : Value} {L : List SpD} (h : OwnSp w base v L) (hk : Kept S w w') (hS : ∀ x, S x → w.heap.size ≤ x) : OwnSp w' base v L := by
  unfold OwnSp at *
  exact ownsRow_keep h hk (fun x hx e => by have := (row_blk h hx).2.1; have := hS x e; omega)
theorem SegsAt.keep' {S : Nat → Prop} {w w' : World} {base : Nat} {a b : Bytes} {L : List SpD} (h : SegsAt w base a b L) (hk : Kept S w w') (hS : ∀ x, S x → w.heap.size ≤ x) : SegsAt w' base a b L :=
  h.keep hk (fun x cur hx _ e => by have := heap_lt hx; have := hS x e; omega)
/-- The set that apart's calls may write behind the i-th. -/
def ApW (S1 S2 : Nat → Prop) (i x : Nat) : Prop := (4 < i ∧ S1 x) ∨ (7 < i ∧ S2 x)
theorem Kept.up {S1 S2 : Nat → Prop} {i j : Nat} (h : i ≤ j) {w w' w2 : World} (hk : Kept (ApW S1 S2 i) w w') (h2 : Kept (fun _ => False) w' w2) : Kept (ApW S1 S2 j) w w2 :=
  (hk.trans0 h2).mono (fun x _ e => e.imp (fun q => ⟨by omega, q.2⟩) (fun q => ⟨by omega, q.2⟩))
set_option maxRecDepth 100000 in
set_option maxHeartbeats 4000000 in
theorem apart_SB (w : World) (B0 B gb : Nat) (a b : Bytes) (m : Nat) (A : Nat → Option Addr) (N C : Nat → Nat) (L : Nat → List SpD) (h : BagD w B gb ((List.range m).flatMap (fun j => (L j).flatMap spB)) ((List.range m).map (slW A N C)))
    (hr : ∀ k, k < m → OwnSp w B0 (.slice (A k) (N k) (C k)) (L k)) (hN : ∀ k, k < m → N k = (L k).length) (hb : ∀ k x, k < m → ob (A k) = some x → x < B) (hs : ∀ k, k < m → SegsAt w B0 a b (L k)) (hgs : ∀ k, k < m → ∀ x ∈ gsOf (L k), x < B)
    (hl : ∀ k, k < m → ∀ s ∈ L k, (segB a (s.f, s.t)).length = s.t - s.f ∧ (segB b (s.f, s.t)).length = s.t - s.f) (ha : a.length ≤ 1000000) (hb2 : b.length ≤ 1000000)
    (hd : ∀ i j x, i < m → j < m → ob (A i) = some x → ob (A j) = some x → i = j) (hn : ((List.range m).flatMap (fun k => gsOf (L k))).Nodup) (hc : ((List.range m).flatMap (fun k => gsOf (L k))).length ≤ 1000) (hm : m ≤ 1000) (hB : B0 ≤ B) (hc' : ∀ k, k < m → (L k).length ≤ 1000000) :
    Calls Tryz.prog 45 #[.pointer (some ⟨gb, 0, none⟩)] w fun e w' => e = .returned (.bool true) ∧ Kept (fun x => B0 ≤ x) w w' := by
  obtain ⟨v, u, h0, hv, hu, gB⟩ := h
  obtain ⟨D, hD⟩ : ∃ D, allBr a b m L = D := ⟨_, rfl⟩
  have hDg : D.map (·.g) = (List.range m).flatMap (fun j => gsOf (L j)) := by rw [← hD, allBr_g]
  have hDV : D.map brV = (List.range m).flatMap (fun j => (L j).flatMap spB) := by rw [← hD, allBr_V hl]
  have hDo : ∀ d ∈ D, OwnB w B0 d.g d.c d.l ∧ d.g < B ∧ d.l.length ≤ 1000000 := by
    intro d hd
    rw [← hD] at hd
    obtain ⟨k, hk, hd⟩ := List.mem_flatMap.1 hd
    have hk := List.mem_range.1 hk
    refine ⟨(hs k hk).brs d hd, hgs k hk d.g ?_, ?_⟩
    · rw [← spBrs_g a b]; exact List.mem_map.2 ⟨d, hd, rfl⟩
    · obtain ⟨s, hs', hd⟩ := List.mem_flatMap.1 hd
      simp only [spBr, List.mem_cons, List.not_mem_nil, or_false] at hd
      rcases hd with rfl | rfl
      · simp [segB]; omega
      · simp [segB]; omega
  have hDn : D.length ≤ 1000 := by rw [← hDg, List.length_map] at hc; exact hc
  rw [← hDg] at hn
  rw [← hDV] at hv
  clear hD hDg hDV hc
  have hvl := hv
  rw [List.length_map] at hvl
  have hul := hu
  rw [List.length_map, List.length_range] at hul
  have gbn : ∀ x, B0 ≤ x → x < B → x ≠ gb := fun x _ h => by omega
  have hS1 : ∀ x, OwnS D.length (dA D) x → B0 ≤ x ∧ x < B ∧ ∃ cur, w.heap[x]? = some (.cells cur 5 (0, 0)) := fun x hx => by
    obtain ⟨d, hd, rfl⟩ := brs_OwnS hx
    obtain ⟨h1, h2, -⟩ := hDo d hd
    obtain ⟨cur, h3, h4, -⟩ := h1.form
    exact ⟨h3, h2, cur, h4⟩
  have hS2 : ∀ x, OwnS m A x → B0 ≤ x ∧ x < B ∧ ∃ cur, w.heap[x]? = some (.cells cur 46 (0, 0)) := fun x ⟨k, hk, hx⟩ => by
    have h1 := hr k hk
    unfold OwnSp at h1
    obtain ⟨h3, -, cur, h4⟩ := row_blk h1 (by rw [ownBlock_slice]; exact hx)
    exact ⟨h3, hb k x hk hx, cur, h4⟩
  have hvB : ∀ x, v.ownBlock = some x → B ≤ x := fun x hx => (row_blk hv hx).1
  have huB : ∀ x, u.ownBlock = some x → B ≤ x := fun x hx => (row_blk hu hx).1
  have hgen := apart_gen w gb (.slice none 0 0) (.slice none 0 0) (.slice none 0 0) (.slice none 0 0) v (.slice none 0 0) (.slice none 0 0) u (.slice none 0 0) (.slice none 0 0) (.slice none 0 0) (.slice none 0 0) (.slice none 0 0) (.slice none 0 0) (.slice none 0 0) (.slice none 0 0) (.slice none 0 0) (.slice none 0 0)
    (fun i w' => Kept (ApW (OwnS D.length (dA D)) (OwnS m A) i) w w') (Kept.refl _ _)
    (fun i w' hk => hk.heap h0 (fun e => by
      rcases e with ⟨-, e⟩ | ⟨-, e⟩
      · have := (hS1 gb e).2.1; omega
      · have := (hS2 gb e).2.1; omega))
    (fun w' hk => (flatWords_nil w').mono fun _ _ ⟨h1, h2⟩ => ⟨h1, hk.up (by omega) h2⟩)
    (fun w' hk => (flatInts_nil w').mono fun _ _ ⟨h1, h2⟩ => ⟨h1, hk.up (by omega) h2⟩)
    (fun w' hk => (flatLongs_nil w').mono fun _ _ ⟨h1, h2⟩ => ⟨h1, hk.up (by omega) h2⟩)
    (fun w' hk => (flatTexts_nil w').mono fun _ _ ⟨h1, h2⟩ => ⟨h1, hk.up (by omega) h2⟩)
    (fun w' hk => by
      have hv' := ownsRow_keep hvl hk (fun x hx e => by
        rcases e with ⟨e, -⟩ | ⟨e, -⟩ <;> omega)
      rcases hv'.2 with ⟨rfl, -⟩ | ⟨g, cap, cur, rfl, hbb, -⟩
      · exact (flatBytes_nil w').mono fun _ _ ⟨h1, h2⟩ => ⟨h1, hk.up (by omega) h2⟩
      · have hF : FB w' B0 g D.length (dA D) (dN D) (dC D) (dL D) := brs_FB (fun k hk' => by rw [hv'.cellAt k (by omega)]) (fun d hd => (hDo d hd).1.keep hk (fun e => by rcases e with ⟨e, -⟩ | ⟨e, -⟩ <;> omega))
        refine (flatBytes_any w' B0 g cap D.length (dA D) (dN D) (dC D) (dL D) hF (brs_Sep hn (fun d hd => by have := (hDo d hd).2.1; omega)) hDn (fun k hk' => ?_) (by have := heap_lt h0; have := hk.size; omega)).mono fun _ _ ⟨h1, h2⟩ => ⟨h1, (hk.mono (fun x _ e => e.imp (fun q => ⟨by omega, q.2⟩) (fun q => ⟨by omega, q.2⟩))).trans' (h2.mono (fun x _ e => .inl ⟨by omega, e⟩))⟩
        obtain ⟨d, hd, -, -, e, -⟩ := brs_at hk'
        rw [e]
        exact (hDo d hd).2.2)
    (fun w' hk => (flatNodes_nil w').mono fun _ _ ⟨h1, h2⟩ => ⟨h1, hk.up (by omega) h2⟩)
    (fun w' hk => (flatFates_nil w').mono fun _ _ ⟨h1, h2⟩ => ⟨h1, hk.up (by omega) h2⟩)
    (fun w' hk => by
      have hu' := ownsRow_keep hul hk (fun x hx e => by
        have := huB x hx
        rcases e with ⟨-, e⟩ | ⟨e, -⟩
        · have := (hS1 x e).2.1; omega
        · omega)
      rcases hu'.2 with ⟨rfl, -⟩ | ⟨g, cap, cur, rfl, hbb, -⟩
      · exact (flatSpans_nil w').mono fun _ _ ⟨h1, h2⟩ => ⟨h1, hk.up (by omega) h2⟩
      · have hF : FX 46 4 w' B0 g m A N C (fun k => rowSp (L k)) := ⟨fun k hk' => by
          rw [hu'.cellAt k (by omega), List.getElem?_map, List.getElem?_range hk']
          rfl, fun k hk' => by
          have h1 := hr k hk'
          unfold OwnSp at h1
          rw [← hN k hk'] at h1
          exact ownsRow_keep h1 hk (fun x hx e => by
            obtain ⟨-, -, cur, h4⟩ := row_blk h1 hx
            rcases e with ⟨-, e⟩ | ⟨e, -⟩
            · obtain ⟨-, -, cur', h5⟩ := hS1 x e
              rw [h4] at h5
              cases h5
            · omega)⟩
        refine (flatSpans_any w' B0 g cap m A N C _ hF ⟨hd, fun k hk' e => by have := hb k g hk' e; omega⟩ hm (fun k hk' => ?_) (by have := heap_lt h0; have := hk.size; omega)).mono fun _ _ ⟨h1, h2⟩ => ⟨h1, (hk.mono (fun x _ e => e.imp (fun q => ⟨by omega, q.2⟩) (fun q => ⟨by omega, q.2⟩))).trans' (h2.mono (fun x _ e => .inr ⟨by omega, e⟩))⟩
        have := hc' k hk'
        rw [hN k hk']
        exact this)
    (fun w' hk => (flatDirties_nil w').mono fun _ _ ⟨h1, h2⟩ => ⟨h1, hk.up (by omega) h2⟩)
    (fun w' hk => (flatRecords_nil w').mono fun _ _ ⟨h1, h2⟩ => ⟨h1, hk.up (by omega) h2⟩)
    (fun w' hk => (flatCells_nil w').mono fun _ _ ⟨h1, h2⟩ => ⟨h1, hk.up (by omega) h2⟩)
    (fun w' hk => (flatHelds_nil w').mono fun _ _ ⟨h1, h2⟩ => ⟨h1, hk.up (by omega) h2⟩)
    (fun w' hk => (flatTokens_nil w').mono fun _ _ ⟨h1, h2⟩ => ⟨h1, hk.up (by omega) h2⟩)
    (fun w' hk => (flatExprs_nil w').mono fun _ _ ⟨h1, h2⟩ => ⟨h1, hk.up (by omega) h2⟩)
    (fun w' hk => (flatItems_nil w').mono fun _ _ ⟨h1, h2⟩ => ⟨h1, hk.up (by omega) h2⟩)
    (fun w' hk => (flatShowns_nil w').mono fun _ _ ⟨h1, h2⟩ => ⟨h1, hk.up (by omega) h2⟩)
    (fun w' hk => (flatParts_nil w').mono fun _ _ ⟨h1, h2⟩ => ⟨h1, hk.up (by omega) h2⟩)
    (fun w' hk => (flatCommands_nil w').mono fun _ _ ⟨h1, h2⟩ => ⟨h1, hk.up (by omega) h2⟩)
  refine hgen.mono ?_
  rintro e w' ⟨h1, h2⟩
  exact ⟨h1, h2.mono (fun x _ e => by
    rcases e with ⟨-, e⟩ | ⟨-, e⟩
    · exact (hS1 x e).1
    · exact (hS2 x e).1)⟩
set_option maxRecDepth 100000 in
set_option maxHeartbeats 2000000 in
/-- ApartSpans, of rows of spans that lie apart: true; it writes them. -/
theorem apartSpans_any (w : World) (B0 gt ct : Nat) (a b : Bytes) (m : Nat) (A : Nat → Option Addr) (N C : Nat → Nat) (L : Nat → List SpD) (ht : ∀ k, k < m → w.cell? ⟨gt, k, none⟩ = some (.slice (A k) (N k) (C k)))
    (hr : ∀ k, k < m → OwnSp w B0 (.slice (A k) (N k) (C k)) (L k)) (hN : ∀ k, k < m → N k = (L k).length) (hs : ∀ k, k < m → SegsAt w B0 a b (L k))
    (hl : ∀ k, k < m → ∀ s ∈ L k, (segB a (s.f, s.t)).length = s.t - s.f ∧ (segB b (s.f, s.t)).length = s.t - s.f) (ha : a.length ≤ 1000000) (hb2 : b.length ≤ 1000000)
    (hd : ∀ i j x, i < m → j < m → ob (A i) = some x → ob (A j) = some x → i = j) (hn : ((List.range m).flatMap (fun k => gsOf (L k))).Nodup) (hc : ((List.range m).flatMap (fun k => gsOf (L k))).length ≤ 1000) (hm : m ≤ 1000) (hB : B0 ≤ w.heap.size) (hc' : ∀ k, k < m → (L k).length ≤ 1000)
    (hcD : ∀ k, k ≤ m → ((List.range k).flatMap (fun j => (L j).flatMap spB)).length ≤ 100000) :
    Calls Tryz.prog 33 #[.slice (some ⟨gt, 0, none⟩) m ct] w fun e w' => e = .returned (.bool true) ∧ Kept (fun x => B0 ≤ x) w w' := by
  have HT := Lib.hid ht
  have HR := Lib.hid hr
  have HN := Lib.hid hN
  have HS := Lib.hid hs
  have HCD := Lib.hid hcD
  have HC := Lib.hid hc'
  have HRD := Lib.hid (show ∀ k, k < m → RdSp w w.heap.size (A k) (L k) from fun k hk => (hr k hk).rd (fun x hx => by
    have h1 := hr k hk
    unfold OwnSp at h1
    exact (row_blk h1 (by rw [ownBlock_slice]; exact hx)).2.1))
  have HAP := Lib.hid (fun (wr : World) (gb : Nat) (hb : BagD wr w.heap.size gb ((List.range m).flatMap (fun j => (L j).flatMap spB)) ((List.range m).map (slW A N C))) (hk : Kept (fun x => w.heap.size ≤ x) w wr) =>
    apart_SB wr B0 w.heap.size gb a b m A N C L hb (fun k hk' => (hr k hk').keptU hk (fun x hx => by have := hx; omega)) hN (fun k x hk' hx => by
      have h1 := hr k hk'
      unfold OwnSp at h1
      exact (row_blk h1 (by rw [ownBlock_slice]; exact hx)).2.1) (fun k hk' => (hs k hk').keep' hk (fun x hx => hx)) (fun k hk' x hx => ((hs k hk').lt x hx).2) hl ha hb2 hd hn hc hm hB (fun k hk' => by have := hc' k hk'; omega))
  clear ht hr hN hs hl hd hn hc hcD hc'
  go_enter Tryz.func33, Tryz.ntmps33
  go_wp2_with (refine wl_box rfl 72 _ rfl (.agg (bagD (.slice none 0 0) (.slice none 0 0))) rfl ?_)
  intro gb w1 n1 m1 hb1 hk1
  have HB1 := Lib.hid (show w1.heap[gb]? = some (.cells (bagD (.slice none 0 0) (.slice none 0 0)) 72 (0, 0)) from hb1)
  have HK1 := Lib.hid (hk1.mono (T := fun x => w.heap.size ≤ x) (fun _ _ e => e.elim))
  clear hb1 hk1
  go_wp2
  go_loopw [4] (fun i wr => ∃ k : Nat, k ≤ m ∧ i = .int .i64 k ∧ BagD wr w.heap.size gb ((List.range k).flatMap (fun j => (L j).flatMap spB)) ((List.range k).map (slW A N C)) ∧ Kept (fun x => w.heap.size ≤ x) w wr) (fun i _ => m - (intOf i).toNat)
  case atStart => exact ⟨0, Nat.zero_le _, rfl, ⟨_, _, HB1.out, ⟨rfl, .inl ⟨rfl, rfl⟩⟩, ⟨rfl, .inl ⟨rfl, rfl⟩⟩, n1⟩, HK1.out⟩
  case round =>
    obtain ⟨k, hk, rfl, hb, hkr⟩ := hrel
    have HB := Lib.hid hb
    have HK := Lib.hid hkr
    have szr := hkr.size
    clear hb hkr HB1 HK1
    by_cases hlt : k < m
    · have c1 := (World.cell?_of_block (HK.out.block gt (block_lt_of_cell (HT.out k hlt)) (by have := block_lt_of_cell (HT.out k hlt); simp only at this; omega))).trans (HT.out k hlt)
      have i0 : (0 : Int) ≤ (k : Int) := by omega
      have i1 : (k : Int) < (m : Int) := by omega
      have hcl := HC.out k hlt
      have hdl := HCD.out k hk
      have hP := putSpans_any wr gb w.heap.size _ _ HB.out (A k) (C k) (L k) ((HRD.out k hlt).kept HK.out) szr (by omega) (by simp; omega)
      rw [← HN.out k hlt] at hP
      have HP := Lib.hid hP
      clear hP
      go_wp2_with fail
      refine HP.out.mono ?_
      rintro e w2 ⟨rfl, hb2, hk2⟩
      have HB2 := Lib.hid (show BagD w2 w.heap.size gb ((List.range (k + 1)).flatMap (fun j => (L j).flatMap spB)) ((List.range (k + 1)).map (slW A N C)) from by
        rw [List.range_succ, List.map_append, List.flatMap_append]
        simpa [slW] using hb2)
      have HK2 := Lib.hid (HK.out.trans' hk2)
      clear hb2 hk2
      go_wp2
      go_roundw
      case rel => exact ⟨k + 1, by omega, by go_num, HB2.out, HK2.out⟩
      case measure => simp [intOf]; omega
    · have hge : ¬ ((k : Int) < (m : Int)) := by omega
      obtain rfl : k = m := by omega
      go_wp2_with fail
      refine (HAP.out wr gb HB.out HK.out).mono ?_
      rintro e w2 ⟨rfl, hk2⟩
      have HK2 := Lib.hid (HK.out.mono (T := fun x => B0 ≤ x) (fun x _ e => Nat.le_trans hB e) |>.trans' hk2)
      clear hk2
      go_wp2
      go_ret
      exact ⟨rfl, HK2.out⟩
end Go.Proofs.YtndflnedkpmpfaaGreatDoor
