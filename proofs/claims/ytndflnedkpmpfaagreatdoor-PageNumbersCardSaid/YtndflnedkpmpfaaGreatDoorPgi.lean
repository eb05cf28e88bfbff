/-
  No statement is proved here: the contract of page's Insert.
-/
import Derived.Test.YtndflnedkpmpfaaGreatDoorPcp
import Derived.Deep.RegionHeld3
namespace Go.Proofs.YtndflnedkpmpfaaGreatDoor
open Go.RowKit

theorem insertM_no {l c : Bytes} {s : Int} (h : endM l = 0) : insertM l s c = (4, l) := by unfold insertM; rw [if_pos h]
theorem insertM_slot {l c : Bytes} {s : Int} (h : endM l ≠ 0) (h2 : s < 0 ∨ ((bAt l 1).toNat : Int) < s) : insertM l s c = (2, l) := by unfold insertM; rw [if_neg h, if_pos h2]
theorem insertM_full {l c : Bytes} {s : Int} (h : endM l ≠ 0) (h2 : ¬ (s < 0 ∨ ((bAt l 1).toNat : Int) < s)) (h3 : bAt l 1 = 255 ∨ l.length - endM l < c.length + 2) : insertM l s c = (5, l) := by unfold insertM; rw [if_neg h, if_neg h2, if_pos h3]
def ins1 (l : Bytes) (a n : Nat) : Bytes := over l (a + 2 + n) ((l.take (endM l)).drop a)
def ins2 (l : Bytes) (a n : Nat) : Bytes := ((ins1 l a n).set a (UInt8.ofNat (n / 256))).set (a + 1) (UInt8.ofNat n)
def ins3 (l : Bytes) (a : Nat) (c : Bytes) : Bytes := over (ins2 l a c.length) (a + 2) c
theorem insertM_ok {l c : Bytes} {s : Int} (h : endM l ≠ 0) (h2 : ¬ (s < 0 ∨ ((bAt l 1).toNat : Int) < s)) (h3 : ¬ (bAt l 1 = 255 ∨ l.length - endM l < c.length + 2)) :
    insertM l s c = (0, (ins3 l (placeM l s.toNat) c).set 1 (bAt (ins3 l (placeM l s.toNat) c) 1 + 1)) := by unfold insertM; rw [if_neg h, if_neg h2, if_neg h3]; rfl
theorem placeM_mono {l : Bytes} (h : endM l ≠ 0) {k : Nat} (hk : k ≤ (bAt l 1).toNat) : placeM l k ≤ endM l ∧ 6 ≤ placeM l k := by
  have key : ∀ j, k + j ≤ (bAt l 1).toNat → placeM l k ≤ placeM l (k + j) := by
    intro j
    induction j with
    | zero => intro _; exact Nat.le_refl _
    | succ j ih =>
      intro hj
      have := ih (by omega)
      have := (placeM_succ h (k := k + j) (by omega)).2.1
      rw [show k + (j + 1) = k + j + 1 from rfl]
      omega
  have key0 : ∀ j, j ≤ (bAt l 1).toNat → 6 ≤ placeM l j := by
    intro j
    induction j with
    | zero => intro _; exact Nat.le_refl _
    | succ j ih =>
      intro hj
      have := ih (by omega)
      have := (placeM_succ h (k := j) (by omega)).2.1
      omega
  refine ⟨?_, key0 k hk⟩
  have := key ((bAt l 1).toNat - k) (by omega)
  rwa [show k + ((bAt l 1).toNat - k) = (bAt l 1).toNat by omega, (endM_place h).1] at this
theorem OwnB.rdp {w : World} {base g cap : Nat} {l : Bytes} (h : OwnB w base g cap l) : RdB w (some ⟨g, 0, none⟩) l := fun _ => ⟨g, 0, rfl, fun j u hu => by
  have hj := (Array.getElem?_eq_some_iff.1 hu).1
  rw [size_cellsOf] at hj
  rw [cellsOf_at hj] at hu
  cases hu
  rw [Nat.zero_add]
  exact h.cellAt hj⟩
theorem OwnB.set {w : World} {base g cap : Nat} {l : Bytes} (h : OwnB w base g cap l) (i : Nat) (x : UInt8) : OwnB (w.setCell ⟨g, i, none⟩ (.int .u8 x.toNat)) base g cap (l.set i x) := by
  unfold OwnB at *
  have := (h.stored i (.int .u8 x.toNat)).1
  have e : (cellsOf l).toList.set i (.int .u8 x.toNat) = (cellsOf (l.set i x)).toList := by
    rw [← cellsOf_set]; simp
  rw [e] at this
  rw [List.length_set]
  exact this
theorem step_copyB0 {ops : Array Oper} {o : Oper} {a : Act} {w : World} {K : Act → World → Prop} {Q : Exit → Act → World → Prop} {E : Prop} (hgd : o.guard = none) (d s : Operand)
    (ho : o.op = .call { callee := .builtin .copy, args := #[d, s], argTypes := #[22, 22] }) {base g cap : Nat} {l : Bytes} (h : OwnB w base g cap l) (i : Nat) (hi : i = l.length) (D S : Option Addr) (m : Bytes) (dl sl dc sc : Nat) (hdl : dl = 0)
    (hd : a.eval d = .slice D dl dc) (hs : a.eval s = .slice S sl sc)
    (k : ∀ n w', n = 0 → OwnB w' base g cap (over l i m) → Kept (fun x => x = g) w w' → K (a.put o.dst (goInt n)) w') : if Region.wanted o (yielded ops a.tmps) = true then Oper.wp Tryz.prog o a w K Q else E := by
  subst hdl
  have hsz : ((Tryz.prog).info? 5).map (·.size) = some 1 := by kernel_rfl
  have hr := run_copy_none (P := Tryz.prog) w 22 22 o.type 5 D S 0 dc sl sc Tryz.underlying22 hsz (Nat.min_zero _)
  rw [if_pos (by simp [Region.wanted, hgd])]
  unfold Oper.wp
  simp [execOp, ho, resolve, invoke, builtin, hd, hs, hr, Result.andThen]
  refine k 0 w rfl ?_ (Kept.refl _ _)
  have e : over l i m = l := by
    subst hi
    unfold over
    simp
  rw [e]; exact h
set_option maxRecDepth 100000 in
set_option maxHeartbeats 2000000 in
theorem insert_any (base g cap cc : Nat) (l cell : Bytes) (CA : Option Addr) (w : World) (h : OwnB w base g cap l) (hl : l.length ≤ 1000000) (hS : RdB w CA cell) (hcl : cell.length ≤ 1000000) (hg : ∀ b off, CA = some ⟨b, off, none⟩ → b ≠ g) (s : Int) :
    Calls Tryz.prog 5 #[.slice (some ⟨g, 0, none⟩) l.length cap, .int .i64 s, .slice CA cell.length cc] w fun e w' => e = .returned (.int .i64 (insertM l s cell).1) ∧ OwnB w' base g cap (insertM l s cell).2 ∧ Kept (fun x => x = g) w w' := by
  have hcap : l.length ≤ cap ∧ cap ≤ 9223372036854775807 := by obtain ⟨cur, _, _, h1, h2, _⟩ := h.form; exact ⟨h1, h2⟩
  have HE := Lib.hid (end_any (some ⟨g, 0, none⟩) cap l w h.rdp hl hcap.1 hcap.2)
  have H := Lib.hid h
  by_cases h0 : endM l = 0
  · rw [insertM_no h0]
    rw [h0] at HE
    clear h hS
    go_enter Tryz.func5, Tryz.ntmps5
    go_wp2_with (go_at_call 16; refine HE.out.mono ?_; rintro e wx ⟨rfl, hs⟩)
    go_ret
    exact ⟨rfl, H.out.kept (hs.kept _), hs.kept _⟩
  · have h5 := endM_len h0
    have hz : ((endM l : Int) == 0) = false := by rw [beq_eq_false_iff_ne]; omega
    have d1 := h.cellAt (i := 1) (by omega)
    have hb1 := (bAt l 1).toNat_lt
    have hw : wrap64 ((bAt l 1).toNat : Int) = ((bAt l 1).toNat : Int) := by unfold wrap64; omega
    have hi1 : (1 : Int) < (l.length : Int) := by omega
    by_cases h2 : s < 0 ∨ ((bAt l 1).toNat : Int) < s
    · rw [insertM_slot h0 h2]
      by_cases h20 : s < 0
      · clear h hS h5 h2
        go_enter Tryz.func5, Tryz.ntmps5
        go_wp2_with (go_at_call 16; refine HE.out.mono ?_; rintro e wx ⟨rfl, hs⟩)
        go_ret
        exact ⟨rfl, H.out.kept (hs.kept _), hs.kept _⟩
      · have h21 : ((bAt l 1).toNat : Int) < s := by omega
        clear h hS h5 h2
        go_enter Tryz.func5, Tryz.ntmps5
        go_wp2_with fail
        refine HE.out.mono ?_
        rintro e wx ⟨rfl, hs⟩
        have d1' := (World.cell?_of_block ((hs.kept (fun _ => False)).block g (block_lt_of_cell d1) id)).trans d1
        have HS := Lib.hid hs
        clear hs
        go_wp2
        go_ret
        exact ⟨rfl, H.out.kept (HS.out.kept _), HS.out.kept _⟩
    · by_cases h3 : bAt l 1 = 255 ∨ l.length - endM l < cell.length + 2
      · rw [insertM_full h0 h2 h3]
        have he := endM_le l
        by_cases h30 : bAt l 1 = 255
        · have hx : (((bAt l 1).toNat : Int) == 255) = true := by rw [h30]; rfl
          have q1 : ¬ s < 0 := by omega
          have q2 : ¬ ((bAt l 1).toNat : Int) < s := by omega
          clear h hS h5 h2 h3 h30
          go_enter Tryz.func5, Tryz.ntmps5
          go_wp2_with fail
          refine HE.out.mono ?_
          rintro e wx ⟨rfl, hs⟩
          have d1' := (World.cell?_of_block ((hs.kept (fun _ => False)).block g (block_lt_of_cell d1) id)).trans d1
          have HS := Lib.hid hs
          clear hs
          go_wp2
          go_ret
          exact ⟨rfl, H.out.kept (HS.out.kept _), HS.out.kept _⟩
        · have hx : (((bAt l 1).toNat : Int) == 255) = false := by
            rw [beq_eq_false_iff_ne]; intro e; exact h30 (UInt8.toNat_inj.1 (by rw [show (255 : UInt8).toNat = 255 from rfl]; omega))
          have q1 : ¬ s < 0 := by omega
          have q2 : ¬ ((bAt l 1).toNat : Int) < s := by omega
          have h31 := h3.resolve_left h30
          have q3 : (l.length : Int) - (endM l : Int) < (cell.length : Int) + 2 := by omega
          clear h hS h5 h2 h3 h30 h31
          go_enter Tryz.func5, Tryz.ntmps5
          go_wp2_with fail
          refine HE.out.mono ?_
          rintro e wx ⟨rfl, hs⟩
          have d1' := (World.cell?_of_block ((hs.kept (fun _ => False)).block g (block_lt_of_cell d1) id)).trans d1
          have HS := Lib.hid hs
          clear hs
          go_wp2
          go_ret
          exact ⟨rfl, H.out.kept (HS.out.kept _), HS.out.kept _⟩
      · rw [insertM_ok h0 h2 h3]
        have he := endM_le l
        have hx : (((bAt l 1).toNat : Int) == 255) = false := by
          rw [beq_eq_false_iff_ne]; intro e; exact h3 (.inl (UInt8.toNat_inj.1 (by rw [show (255 : UInt8).toNat = 255 from rfl]; omega)))
        have q1 : ¬ s < 0 := by omega
        have q2 : ¬ ((bAt l 1).toNat : Int) < s := by omega
        have q3 : ¬ (l.length : Int) - (endM l : Int) < (cell.length : Int) + 2 := by omega
        obtain ⟨hp1, hp2⟩ := placeM_mono h0 (k := s.toNat) (by omega)
        have HF := Lib.hid (fun w' (hs : Same w w') => find_any (some ⟨g, 0, none⟩) cap l w' (h.rdp.kept (hs.kept (fun _ => False)) (fun _ _ _ _ => id)) hl (by omega) s (by omega))
        have HC := Lib.hid hS
        generalize placeM l s.toNat = a at *
        have hmlen : ((l.take (endM l)).drop a).length = endM l - a := by rw [List.length_drop, List.length_take]; omega
        have HML := Lib.hid hmlen
        have j1 : (a : Int) ≤ (endM l : Int) := by omega
        have j2 : (endM l : Int) ≤ (l.length : Int) := by omega
        have j3 : (a : Int) + 2 + (cell.length : Int) ≤ (l.length : Int) := by omega
        have j4 : a + 2 + cell.length ≤ l.length := by omega
        have j5 : ¬ a = cap := by omega
        have j6 : (l.length : Int) ≤ (cap : Int) := by omega
        have j7 : (0 : Int) ≤ (a : Int) := by omega
        have H1 := Lib.hid (show ins1 l a cell.length = over l (a + 2 + cell.length) ((l.take (endM l)).drop a) from rfl)
        generalize endM l = el at *
        have J9 := Lib.hid (show el ≤ l.length from he)
        clear h hS h5 h2 h3 hmlen h0 he
        have HSL := Lib.hid (show ∀ w', OwnB w' base g cap l → RdB w' (some ⟨g, a, none⟩) ((l.take el).drop a) from fun w' h => by
          have := (h.rdp.take el).drop a
          rwa [Nat.zero_add] at this)
        have hs1 : IntKind.i64.wrap ((a : Int) + 2) = (a : Int) + 2 := by rw [IntKind.wrap_i64]; omega
        have hs2 : IntKind.i64.wrap ((a : Int) + 2 + (cell.length : Int)) = (a : Int) + 2 + (cell.length : Int) := by rw [IntKind.wrap_i64]; omega
        have ht2 : ((a : Int) + 2 + (cell.length : Int)).toNat = a + 2 + cell.length := by omega
        have ht1 : ((a : Int) + 2).toNat = a + 2 := by omega
        have j8 : (0 : Int) ≤ (a : Int) + 2 + (cell.length : Int) := by omega
        have j10 : (0 : Int) ≤ (a : Int) + 2 := by omega
        have j11 : (a : Int) + 2 ≤ (l.length : Int) := by omega
        have j12 : ¬ cap = a := by omega
        have j13 : a ≤ el := by omega
        have j14 : el ≤ cap := by omega
        have j15 : (el : Int) ≤ (cap : Int) := by omega
        have hg' := Lib.hid hg
        clear hg
        obtain ⟨ms, hms⟩ : ∃ ms, ms = (l.take el).drop a := ⟨_, rfl⟩
        rw [← hms] at HML HSL H1
        clear hms
        by_cases hcb : cap = a + 2
        · have hD2 : ∃ (D : Option Addr) (cp : Nat), (a + 2 < l.length → D = some ⟨g, a + 2, none⟩) ∧ D = some ⟨g, 0, none⟩ ∧ cp = 0 := ⟨_, _, fun hh => by exfalso; omega, rfl, rfl⟩
          have m1 : (el : Int) ≤ (a : Int) + 2 := by omega
          have m2 : (l.length : Int) ≤ (a : Int) + 2 := by omega
          have m3 : ¬ (l.length : Int) - (el : Int) < 2 := by omega
          have hce : cell = [] := List.eq_nil_of_length_eq_zero (by omega)
          subst hcb
          subst hce
          have hnl : ([] : Bytes).length = 0 := rfl
          clear j3 hs2 ht2 j8 q3
          obtain ⟨D2, cp, hD2, hD2e, hcp⟩ := hD2
          have HD2 := Lib.hid hD2
          have HD2e := Lib.hid hD2e
          have Hcp := Lib.hid hcp
          clear hD2 hD2e hcp
          go_enter Tryz.func5, Tryz.ntmps5
          go_wp2_with fail
          refine HE.out.mono ?_
          rintro e wx ⟨rfl, hs⟩
          have S1 := Lib.hid hs
          have d1' := (World.cell?_of_block ((hs.kept (fun _ => False)).block g (block_lt_of_cell d1) id)).trans d1
          clear hs
          go_wp2_with fail
          refine (HF.out _ S1.out).mono ?_
          rintro e w2 ⟨rfl, hs⟩
          have S2 := Lib.hid (S1.out.trans hs)
          have HO2d := Lib.hid ((H.out.kept ((S1.out.trans hs).kept _)).kept ((Kept.refl (fun _ => False) w2).drew))
          clear hs d1 d1'
          go_wp2_with fail
          go_region_held3 (fun _ => True)
            (first | exact trivial)
            (first
              | (refine step_copyB0 rfl _ _ (by rfl) HO2d.out (a + 2 + ([] : Bytes).length) (by omega) _ _ ms (l.length - (a + 2 + ([] : Bytes).length)) _ _ _ (by omega) (by rfl) (by rfl) ?_
                 intro n3 w3 hn3 ho3 hk3
                 have HO3 := Lib.hid ho3
                 have HK3 := Lib.hid hk3
                 clear hn3 ho3 hk3)
              | (refine step_copyB0 rfl _ _ (by rfl) HO2d.out (a + 2 + ([] : Bytes).length) (by omega) _ _ ms 0 _ _ _ rfl (by rfl) (by rfl) ?_
                 intro n3 w3 hn3 ho3 hk3
                 have HO3 := Lib.hid ho3
                 have HK3 := Lib.hid hk3
                 clear hn3 ho3 hk3)
              | (refine step_copyB rfl _ _ (by rfl) HO2d.out (a + 2 + ([] : Bytes).length) j4 _ (some ⟨g, a, none⟩) (by first | exact fun _ => rfl | (intro hh; exfalso; omega)) ms (HSL.out _ HO2d.out) _ _ (by rfl) (by rw [HML.out]; rfl) ?_
                 intro n3 w3 hn3 ho3 hk3
                 have HO3 := Lib.hid ho3
                 have HK3 := Lib.hid hk3
                 clear hn3 ho3 hk3))
          have hO1 := HO3.out
          rw [← H1.out] at hO1
          have HL1 := Lib.hid (show (ins1 l a ([] : Bytes).length).length = l.length from by rw [H1.out]; exact over_len j4)
          have e1 := hO1.cellAt (i := a) (by rw [HL1.out]; omega)
          have e2 := hO1.cellAt (i := a + 1) (by rw [HL1.out]; omega)
          have f1 : w3.frozen? ⟨g, a, none⟩ = false := by have := hO1; unfold OwnB at this; exact this.frozenAt a
          have f2 : w3.frozen? ⟨g, a + 1, none⟩ = false := by have := hO1; unfold OwnB at this; exact this.frozenAt (a + 1)
          have HO1 := Lib.hid hO1
          have k1 : (a : Int) < (l.length : Int) := by omega
          have k2 : (a : Int) + 1 < (l.length : Int) := by omega
          generalize bAt (ins1 l a ([] : Bytes).length) a = x1 at e1
          generalize bAt (ins1 l a ([] : Bytes).length) (a + 1) = x2 at e2
          clear hO1 HO3
          have v1 : ((UInt8.ofNat (([] : Bytes).length / 256)).toNat : Int) = 0 := rfl
          have v2 : ((UInt8.ofNat ([] : Bytes).length).toNat : Int) = 0 := rfl
          have hO5 := (HO1.out.set a (UInt8.ofNat (([] : Bytes).length / 256))).set (a + 1) (UInt8.ofNat ([] : Bytes).length)
          rw [v1, v2] at hO5
          have hO5' : OwnB _ base g _ (ins2 l a ([] : Bytes).length) := hO5
          have HO5 := Lib.hid hO5'
          clear hO5 hO5' v1 v2
          have kk5 : Kept (fun x => x = g) w3 ((w3.setCell ⟨g, a, none⟩ (.int .u8 0)).setCell ⟨g, a + 1, none⟩ (.int .u8 0)) := (Kept.cell w3 g a _).trans' (Kept.cell _ g (a + 1) _)
          have HK5 := Lib.hid ((((S2.out.kept (fun x => x = g)).drew).trans' HK3.out).trans' kk5)
          clear kk5
          have hl2 : (ins2 l a ([] : Bytes).length).length = l.length := by unfold ins2; rw [List.length_set, List.length_set]; exact HL1.out
          obtain ⟨n5, w5, hr5, -, ho5, hk5⟩ := run_copyB HO5.out (a + 2) (by rw [hl2]; omega) D2 CA (by rw [hl2]; exact HD2.out) ([] : Bytes) (HC.out.kept HK5.out (fun b off e _ => hg'.out b off e)) cp cc 3
          rw [hl2] at hr5
          rw [HD2e.out, Hcp.out, hnl, show l.length - (a + 2) = 0 by omega] at hr5
          have HL3 := Lib.hid (show (ins3 l a ([] : Bytes)).length = l.length from by unfold ins3; rw [over_len (by rw [hl2]; omega)]; exact hl2)
          have ho6 : OwnB w5 base g _ (ins3 l a ([] : Bytes)) := ho5
          have c1 := ho6.cellAt (i := 1) (by rw [HL3.out]; omega)
          have f5 : w5.frozen? ⟨g, 1, none⟩ = false := by have := ho6; unfold OwnB at this; exact this.frozenAt 1
          have HO6 := Lib.hid ho6
          have HK6 := Lib.hid (HK5.out.trans' hk5)
          have HX := Lib.hid (show ∀ x : UInt8, ((x.toNat : Int) + 1) % 256 = ((x + 1).toNat : Int) from fun x => by rw [UInt8.toNat_add]; rfl)
          clear ho5 ho6 hk5 hl2
          go_wp2
          go_ret
          refine ⟨rfl, ?_, HK6.out.trans' (Kept.cell w5 g 1 _)⟩
          have := HO6.out.set 1 (bAt (ins3 l a ([] : Bytes)) 1 + 1)
          rw [← HX.out] at this
          exact this
        · by_cases hca' : cap = a + 2 + cell.length
          case' pos =>
            have hD2 : ∃ (D : Option Addr) (cp : Nat), (a + 2 < l.length → D = some ⟨g, a + 2, none⟩) ∧ D = some ⟨g, a + 2, none⟩ ∧ cp = cell.length := ⟨_, _, fun _ => rfl, rfl, rfl⟩
            have m1 : (el : Int) ≤ (a : Int) + 2 + (cell.length : Int) := by omega
            have m2 : (l.length : Int) ≤ (a : Int) + 2 + (cell.length : Int) := by omega
            subst hca'
          case' neg =>
            have hD2 : ∃ (D : Option Addr) (cp : Nat), (a + 2 < l.length → D = some ⟨g, a + 2, none⟩) ∧ D = some ⟨g, a + 2, none⟩ ∧ cp = cap - (a + 2) := ⟨_, _, fun _ => rfl, rfl, rfl⟩
          all_goals
            obtain ⟨D2, cp, hD2, hD2e, hcp⟩ := hD2
            have HD2 := Lib.hid hD2
            have HD2e := Lib.hid hD2e
            have Hcp := Lib.hid hcp
            clear hD2 hD2e hcp
            go_enter Tryz.func5, Tryz.ntmps5
            go_wp2_with fail
            refine HE.out.mono ?_
            rintro e wx ⟨rfl, hs⟩
            have S1 := Lib.hid hs
            have d1' := (World.cell?_of_block ((hs.kept (fun _ => False)).block g (block_lt_of_cell d1) id)).trans d1
            clear hs
            go_wp2_with fail
            refine (HF.out _ S1.out).mono ?_
            rintro e w2 ⟨rfl, hs⟩
            have S2 := Lib.hid (S1.out.trans hs)
            have HO2d := Lib.hid ((H.out.kept ((S1.out.trans hs).kept _)).kept ((Kept.refl (fun _ => False) w2).drew))
            clear hs d1 d1'
            go_wp2_with fail
            go_region_held3 (fun _ => True)
              (first | exact trivial)
              (first
                | (refine step_copyB0 rfl _ _ (by rfl) HO2d.out (a + 2 + cell.length) (by omega) _ _ ms (l.length - (a + 2 + cell.length)) _ _ _ (by omega) (by rfl) (by rfl) ?_
                   intro n3 w3 hn3 ho3 hk3
                   have HO3 := Lib.hid ho3
                   have HK3 := Lib.hid hk3
                   clear hn3 ho3 hk3)
                | (refine step_copyB0 rfl _ _ (by rfl) HO2d.out (a + 2 + cell.length) (by omega) _ _ ms 0 _ _ _ rfl (by rfl) (by rfl) ?_
                   intro n3 w3 hn3 ho3 hk3
                   have HO3 := Lib.hid ho3
                   have HK3 := Lib.hid hk3
                   clear hn3 ho3 hk3)
                | (refine step_copyB rfl _ _ (by rfl) HO2d.out (a + 2 + cell.length) j4 _ (some ⟨g, a, none⟩) (by first | exact fun _ => rfl | (intro hh; exfalso; omega)) ms (HSL.out _ HO2d.out) _ _ (by rfl) (by rw [HML.out]; rfl) ?_
                   intro n3 w3 hn3 ho3 hk3
                   have HO3 := Lib.hid ho3
                   have HK3 := Lib.hid hk3
                   clear hn3 ho3 hk3))
            have hO1 := HO3.out
            rw [← H1.out] at hO1
            have HL1 := Lib.hid (show (ins1 l a cell.length).length = l.length from by rw [H1.out]; exact over_len j4)
            have e1 := hO1.cellAt (i := a) (by rw [HL1.out]; omega)
            have e2 := hO1.cellAt (i := a + 1) (by rw [HL1.out]; omega)
            have f1 : w3.frozen? ⟨g, a, none⟩ = false := by have := hO1; unfold OwnB at this; exact this.frozenAt a
            have f2 : w3.frozen? ⟨g, a + 1, none⟩ = false := by have := hO1; unfold OwnB at this; exact this.frozenAt (a + 1)
            have HO1 := Lib.hid hO1
            have k1 : (a : Int) < (l.length : Int) := by omega
            have k2 : (a : Int) + 1 < (l.length : Int) := by omega
            generalize bAt (ins1 l a cell.length) a = x1 at e1
            generalize bAt (ins1 l a cell.length) (a + 1) = x2 at e2
            clear hO1 HO3
            have v1 : (cell.length : Int) / 256 % 256 = ((UInt8.ofNat (cell.length / 256)).toNat : Int) := by rw [UInt8.toNat_ofNat']; omega
            have v2 : (cell.length : Int) % 256 = ((UInt8.ofNat cell.length).toNat : Int) := by rw [UInt8.toNat_ofNat']; omega
            have hO5 := (HO1.out.set a (UInt8.ofNat (cell.length / 256))).set (a + 1) (UInt8.ofNat cell.length)
            rw [← v1, ← v2] at hO5
            have hO5' : OwnB _ base g _ (ins2 l a cell.length) := hO5
            have HO5 := Lib.hid hO5'
            clear hO5 hO5' v1 v2
            have kk5 : Kept (fun x => x = g) w3 ((w3.setCell ⟨g, a, none⟩ (.int .u8 ((cell.length : Int) / 256 % 256))).setCell ⟨g, a + 1, none⟩ (.int .u8 ((cell.length : Int) % 256))) := (Kept.cell w3 g a _).trans' (Kept.cell _ g (a + 1) _)
            have HK5 := Lib.hid ((((S2.out.kept (fun x => x = g)).drew).trans' HK3.out).trans' kk5)
            clear kk5
            have hl2 : (ins2 l a cell.length).length = l.length := by unfold ins2; rw [List.length_set, List.length_set]; exact HL1.out
            obtain ⟨n5, w5, hr5, -, ho5, hk5⟩ := run_copyB HO5.out (a + 2) (by rw [hl2]; omega) D2 CA (by rw [hl2]; exact HD2.out) cell (HC.out.kept HK5.out (fun b off e _ => hg'.out b off e)) cp cc 3
            rw [hl2] at hr5
            rw [HD2e.out, Hcp.out] at hr5
            have HL3 := Lib.hid (show (ins3 l a cell).length = l.length from by unfold ins3; rw [over_len (by rw [hl2]; omega)]; exact hl2)
            have ho6 : OwnB w5 base g _ (ins3 l a cell) := ho5
            have c1 := ho6.cellAt (i := 1) (by rw [HL3.out]; omega)
            have f5 : w5.frozen? ⟨g, 1, none⟩ = false := by have := ho6; unfold OwnB at this; exact this.frozenAt 1
            have HO6 := Lib.hid ho6
            have HK6 := Lib.hid (HK5.out.trans' hk5)
            have HX := Lib.hid (show ∀ x : UInt8, ((x.toNat : Int) + 1) % 256 = ((x + 1).toNat : Int) from fun x => by rw [UInt8.toNat_add]; rfl)
            clear ho5 ho6 hk5 hl2
            go_wp2
            go_ret
            refine ⟨rfl, ?_, HK6.out.trans' (Kept.cell w5 g 1 _)⟩
            have := HO6.out.set 1 (bAt (ins3 l a cell) 1 + 1)
            rw [← HX.out] at this
            exact this
end Go.Proofs.YtndflnedkpmpfaaGreatDoor
