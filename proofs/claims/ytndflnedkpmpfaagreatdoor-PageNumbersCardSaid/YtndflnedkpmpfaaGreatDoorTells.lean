/-
  No statement is proved here: PageTells's walk.
-/
import Derived.Test.YtndflnedkpmpfaaGreatDoorApartb
import Derived.Test.YtndflnedkpmpfaaGreatDoorOft
namespace Go.Proofs.YtndflnedkpmpfaaGreatDoor
open Go.RowKit

/-- Bytes of the call's own, or nil. -/
def SlB (w : World) (B : Nat) (A : Option Addr) (c : Nat) (l : Bytes) : Prop := w.ownsRow B 5 1 (.slice A l.length c) l.length (cellsOf l).toList
theorem SlB.nil (w : World) (B : Nat) : SlB w B none 0 [] := ⟨by simp [cellsOf], .inl ⟨rfl, rfl⟩⟩
theorem OwnB.slb {w : World} {B B' g c : Nat} {l : Bytes} (h : OwnB w B g c l) (hb : B' ≤ B) : SlB w B' (some ⟨g, 0, none⟩) c l := h.low hb
theorem OwnB.pre {w : World} {B g c : Nat} {l m : Bytes} (h : OwnB w B g c (l ++ m)) : OwnB w B g c l := by
  obtain ⟨cur, hb, hh, h1, h2, h3, h4⟩ := h.form
  rw [List.length_append] at h1 h4
  refine ⟨by rw [cellsOf_len, Nat.mul_one], .inr ⟨g, c, cur, rfl, hb, hh, by omega, h2, by rw [h3, Nat.mul_one], ?_⟩⟩
  rw [Nat.mul_one]
  have : cur.toList.take l.length = (cur.toList.take (l.length + m.length)).take l.length := by rw [List.take_take, Nat.min_eq_left (by omega)]
  rw [this, h4, cellsOf_append, List.take_append_of_le_length (by rw [cellsOf_len]; omega), List.take_of_length_le (by rw [cellsOf_len]; omega)]
theorem three_any {w : World} {B c1 c2 c3 : Nat} {A1 A2 A3 : Option Addr} {l1 l2 l3 : Bytes} (h1 : SlB w B A1 c1 l1) (h2 : SlB w B A2 c2 l2) (h3 : SlB w B A3 c3 l3)
    (n12 : ∀ x, ob A1 = some x → ob A2 ≠ some x) (n13 : ∀ x, ob A1 = some x → ob A3 ≠ some x) (n23 : ∀ x, ob A2 = some x → ob A3 ≠ some x) (hB : B ≤ w.heap.size) (e1 : l1.length ≤ 1000000) (e2 : l2.length ≤ 1000000) (e3 : l3.length ≤ 1000000)
    (q1 : ∀ x, ob A1 = some x → x < w.heap.size) (q2 : ∀ x, ob A2 = some x → x < w.heap.size) (q3 : ∀ x, ob A3 = some x → x < w.heap.size) :
    Calls Tryz.prog 24 #[.slice (some ⟨w.heap.size, 0, none⟩) 3 3] (w.alloc (.cells #[.slice A1 l1.length c1, .slice A2 l2.length c2, .slice A3 l3.length c3] 22)) fun e w' =>
      e = .returned (.bool true) ∧ Kept (fun x => ob A1 = some x ∨ ob A2 = some x ∨ ob A3 = some x) w w' := by
  have ka : Kept (fun _ => False) w (w.alloc (.cells #[.slice A1 l1.length c1, .slice A2 l2.length c2, .slice A3 l3.length c3] 22)) := (Kept.refl _ _).alloc _
  have hb := heap_alloc_new w (.cells #[.slice A1 l1.length c1, .slice A2 l2.length c2, .slice A3 l3.length c3] 22)
  have r1 := ownsRow_keep h1 ka (fun _ _ => id)
  have r2 := ownsRow_keep h2 ka (fun _ _ => id)
  have r3 := ownsRow_keep h3 ka (fun _ _ => id)
  refine (apartBytes_any _ B w.heap.size 3 3 (fun k => if k = 0 then A1 else if k = 1 then A2 else A3) (fun k => if k = 0 then l1.length else if k = 1 then l2.length else l3.length) (fun k => if k = 0 then c1 else if k = 1 then c2 else c3) (fun k => if k = 0 then l1 else if k = 1 then l2 else l3) ⟨fun k hk => ?_, fun k hk => ?_⟩ ⟨fun i j x hi hj hx hy => ?_, fun k hk e => ?_⟩ (by omega) (fun k hk => ?_) (by have := ka.size; omega)).mono ?_
  · match k, hk with
    | 0, _ => exact cell_blk hb rfl
    | 1, _ => exact cell_blk hb rfl
    | 2, _ => exact cell_blk hb rfl
  · match k, hk with
    | 0, _ => exact r1
    | 1, _ => exact r2
    | 2, _ => exact r3
  · match i, j, hi, hj with
    | 0, 0, _, _ => rfl
    | 1, 1, _, _ => rfl
    | 2, 2, _, _ => rfl
    | 0, 1, _, _ => exact absurd hy (n12 x hx)
    | 0, 2, _, _ => exact absurd hy (n13 x hx)
    | 1, 0, _, _ => exact absurd hx (n12 x hy)
    | 1, 2, _, _ => exact absurd hy (n23 x hx)
    | 2, 0, _, _ => exact absurd hx (n13 x hy)
    | 2, 1, _, _ => exact absurd hx (n23 x hy)
  · match k, hk with
    | 0, _ => exact absurd (q1 _ e) (Nat.lt_irrefl _)
    | 1, _ => exact absurd (q2 _ e) (Nat.lt_irrefl _)
    | 2, _ => exact absurd (q3 _ e) (Nat.lt_irrefl _)
  · match k, hk with
    | 0, _ => exact e1
    | 1, _ => exact e2
    | 2, _ => exact e3
  · rintro e w' ⟨rfl, hk⟩
    refine ⟨rfl, (ka.mono (fun _ _ e => e.elim)).trans hk (fun x _ e => ?_)⟩
    obtain ⟨k, hk, e⟩ := e
    match k, hk with
    | 0, _ => exact .inl e
    | 1, _ => exact .inr (.inl e)
    | 2, _ => exact .inr (.inr e)
theorem lent_take (l : Bytes) (k : Nat) : (lentL l k).take l.length = l := by unfold lentL; rw [List.take_append_of_le_length (Nat.le_refl _), List.take_length]
theorem OwnB.gsz {w : World} {B g c : Nat} {l : Bytes} (h : OwnB w B g c l) : g < w.heap.size := by
  obtain ⟨cur, -, hh, -⟩ := h.form
  exact heap_lt hh
set_option maxRecDepth 100000 in
set_option maxHeartbeats 2000000 in
theorem pageTells_any (A : Option Addr) (c : Nat) (l : Bytes) (s : Int) (w : World) (h : RdB w A l) :
    Calls Tryz.prog 11 #[.slice A l.length c, .int .i64 s] w fun e w' => e = .returned (.bool true) ∧ Kept (fun _ => False) w w' := by
  have H := Lib.hid h
  clear h
  by_cases hl : 5000 < l.length
  · have i1 : (5000 : Int) < (l.length : Int) := by omega
    have HW := Lib.hid (awake_any w)
    go_enter Tryz.func11, Tryz.ntmps11
    go_wp2_with (go_at_call 15; refine HW.out.mono ?_; rintro e w1 ⟨rfl, hk⟩)
    go_ret
    exact ⟨rfl, hk⟩
  · have i1 : ¬ (5000 : Int) < (l.length : Int) := by omega
    have HL := Lib.hid (lentB_any A c l w H.out (by omega))
    go_enter Tryz.func11, Tryz.ntmps11
    go_wp2_with fail
    refine HL.out.mono ?_
    rintro e w1 ⟨g0, c0, rfl, ho, hk⟩
    have O0 := Lib.hid ho
    have K1 := Lib.hid hk
    have r0 : RdB w1 (some ⟨g0, 0, none⟩) l := by have := ho.rdp.take l.length; rwa [lent_take] at this
    have hcap : l.length ≤ c0 ∧ c0 ≤ 9223372036854775807 := by
      obtain ⟨cur, -, -, h1, h2, -⟩ := ho.form
      rw [len_lentL] at h1
      exact ⟨by omega, h2⟩
    obtain ⟨p1, p2⟩ := hcap
    have HT := Lib.hid (tells_any g0 0 c0 l w1 r0 (by omega) p1 p2 s)
    have HG := Lib.hid (fun wz (hz : Kept (fun _ => False) w1 wz) => get_any g0 0 c0 l wz (r0.kept hz (fun _ _ _ _ => id)) (by omega) p1 p2 s)
    clear ho hk r0 HL
    go_wp2_with fail
    refine HT.out.mono ?_
    rintro e w2 ⟨rfl, hk⟩
    have J2 := Lib.hid hk
    clear hk HT
    go_wp2_with fail
    refine (HG.out _ J2.out).mono ?_
    rintro e w3 ⟨hk, hg⟩
    have J23 := Lib.hid hk
    have J3 := Lib.hid (J2.out.trans0 hk)
    clear hk
    rcases hg with ⟨hn, rfl⟩ | ⟨g1, k1, x, hx, rfl, ho1⟩
    · have HN := Lib.hid hn
      clear hn
      go_wp2_with fail
      refine (HG.out _ J3.out).mono ?_
      rintro e w4 ⟨hk, ⟨-, rfl⟩ | ⟨g2, k2, x, hx, -⟩⟩
      rotate_left
      · rw [HN.out] at hx; cases hx
      have J4 := Lib.hid (J3.out.trans0 hk)
      clear hk
      go_wp2_with fail
      refine (keptB_any A g0 w.heap.size c0 c l w4 (H.out.kept (K1.out.trans0 J4.out) (fun _ _ _ _ => id)) (O0.out.kept J4.out) (by omega)).mono ?_
      rintro e w5 ⟨rfl, hs⟩
      have J5 := Lib.hid (J4.out.trans0 (hs.kept _))
      clear hs
      have O5 := Lib.hid (O0.out.kept J5.out)
      have HP := Lib.hid (three_any (SlB.nil w5 w.heap.size) (SlB.nil w5 w.heap.size) ((show OwnB w5 w.heap.size g0 c0 (l ++ _) from O5.out).pre.slb (Nat.le_refl _)) (fun x e => by cases e) (fun x e => by cases e) (fun x e => by cases e) (by have := (K1.out.trans0 J5.out).size; omega) (by simp) (by simp) (by omega)
        (fun x e => by cases e) (fun x e => by cases e) (fun x e => by cases e; exact O5.out.gsz))
      have b0 := O5.out.base_le
      go_wp2_with fail
      refine HP.out.mono ?_
      rintro e w6 ⟨rfl, hk⟩
      have K6 := Lib.hid ((K1.out.trans0 J5.out).new hk (fun x e => by
        rcases e with e | e | e
        · cases e
        · cases e
        · cases e; exact b0))
      clear hk
      go_wp2_with fail
      refine (awake_any w6).mono ?_
      rintro e w7 ⟨rfl, hk⟩
      have K7 := Lib.hid (K6.out.trans0 hk)
      clear hk
      go_wp2
      go_ret
      exact ⟨rfl, K7.out⟩
    · have HN := Lib.hid hx
      have O1 := Lib.hid ho1
      have hxl := getM_len hx
      clear hx ho1
      go_wp2_with fail
      refine (HG.out _ J3.out).mono ?_
      rintro e w4 ⟨hk, ⟨hx, -⟩ | ⟨g2, k2, x', hx, rfl, ho2⟩⟩
      · rw [HN.out] at hx; cases hx
      rw [HN.out] at hx
      cases hx
      have J34 := Lib.hid hk
      have J4 := Lib.hid (J3.out.trans0 hk)
      have O2 := Lib.hid ho2
      clear hk ho2
      go_wp2_with fail
      refine (keptB_any A g0 w.heap.size c0 c l w4 (H.out.kept (K1.out.trans0 J4.out) (fun _ _ _ _ => id)) (O0.out.kept J4.out) (by omega)).mono ?_
      rintro e w5 ⟨rfl, hs⟩
      have J45 := Lib.hid (hs.kept (fun _ => False))
      have J5 := Lib.hid (J4.out.trans0 (hs.kept _))
      clear hs
      have O5 := Lib.hid (O0.out.kept J5.out)
      have O15 := Lib.hid ((O1.out.kept J34.out).kept J45.out)
      have O25 := Lib.hid (O2.out.kept J45.out)
      have s1 := O0.out.gsz
      have s2 := O1.out.gsz
      have b1 := O1.out.base_le
      have b2 := O2.out.base_le
      have b0 := O0.out.base_le
      have z1 := K1.out.size
      have z2 := J2.out.size
      have z3 := J23.out.size
      have HP := Lib.hid (three_any (O15.out.slb (B' := w.heap.size) (by omega)) (O25.out.slb (B' := w.heap.size) (by omega)) ((show OwnB w5 w.heap.size g0 c0 (l ++ _) from O5.out).pre.slb (Nat.le_refl _)) (fun x e e' => by cases e; cases e'; omega) (fun x e e' => by cases e; cases e'; omega) (fun x e e' => by cases e; cases e'; omega) (by have := (K1.out.trans0 J5.out).size; omega) (by omega) (by omega) (by omega)
        (fun x e => by cases e; exact O15.out.gsz) (fun x e => by cases e; exact O25.out.gsz) (fun x e => by cases e; exact O5.out.gsz))
      go_wp2_with fail
      refine HP.out.mono ?_
      rintro e w6 ⟨rfl, hk⟩
      have K6 := Lib.hid ((K1.out.trans0 J5.out).new hk (fun x e => by
        rcases e with e | e | e
        · cases e; show w.heap.size ≤ g1; omega
        · cases e; show w.heap.size ≤ g2; omega
        · cases e; exact b0))
      clear hk
      go_wp2_with fail
      refine (awake_any w6).mono ?_
      rintro e w7 ⟨rfl, hk⟩
      have K7 := Lib.hid (K6.out.trans0 hk)
      clear hk
      go_wp2
      go_ret
      exact ⟨rfl, K7.out⟩
end Go.Proofs.YtndflnedkpmpfaaGreatDoor
