/-
  No statement is proved here: contracts of package device: Sync, Wake, Copy, New.
-/
import Derived.Test.YtbolbddjmmfepaaDev
namespace Go.Proofs.Ytbolbddjmmfepaa
open Go.RowKit
section
variable {w : World} {p ms mo : Nat} {D : DevM}
def orF (f g : Int → Option Bytes) : Int → Option Bytes := fun k => (f k).or (g k)
def DevM.sync (D : DevM) : DevM := { D with safe := orF D.opn D.safe, opn := fun _ => none }
theorem crash_same (D : DevM) : D.crash.n = D.n ∧ D.crash.safe = D.safe ∧ D.crash.opn = D.opn := by
  unfold DevM.crash; split <;> exact ⟨rfl, rfl, rfl⟩
/-- What the map of the safe blocks holds while the open ones are laid into it: 'left' are still to come. -/
def midF (f g : Int → Option Value) (left : Int → Prop) (h : Int → Option Value) : Prop := ∀ k, (left k → h k = g k) ∧ (¬ left k → h k = (f k).or (g k))
theorem midF.start (f g : Int → Option Value) : midF f g (keysOf f) g := fun k => ⟨fun _ => rfl, fun hn => by
  cases hf : f k with
  | none => rfl
  | some v => simp [keysOf, hf] at hn⟩
theorem midF.step {f g h : Int → Option Value} {left : Int → Prop} (H : midF f g left h) {n : Int} {v : Value} (hv : f n = some v) : midF f g (fun m => left m ∧ m ≠ n) (updF h n v) := by
  intro k
  unfold updF
  by_cases hk : k = n
  · subst hk
    exact ⟨fun hl => absurd rfl hl.2, fun _ => by simp [hv]⟩
  · simp only [hk, if_false]
    exact ⟨fun hl => (H k).1 hl.1, fun hl => (H k).2 (fun h => hl ⟨h, hk⟩)⟩
theorem midF.stop {f g h : Int → Option Value} {left : Int → Prop} (H : midF f g left h) (hn : ∀ n, ¬ left n) : h = fun k => (f k).or (g k) := funext fun k => (H k).2 (hn k)

set_option maxRecDepth 100000 in
set_option maxHeartbeats 1000000 in
/-- The loop of Sync: all that is open becomes safe. -/
theorem sync_run (h : DevAt w p ms mo D) (hm : D.mayE 0 = 0) (hcr : D.crash.down = false) :
    Calls Try.prog 62 #[.pointer (some ⟨p, 0, none⟩)] w fun e w' => e = .returned (.int .i64 0) ∧ DevAt w' p ms mo D.crash.sync ∧ Kept (fun x => x = p ∨ x = ms ∨ x = mo) w w' := by
  have M := may_any h 0
  rw [hm] at M
  have HM := Lib.hid M
  have C := crash_any h
  rw [hcr] at C
  have HC := Lib.hid C
  have hS := crash_same D
  have h1 := h.h1; have h2 := h.h2; have h3 := h.h3
  clear M h hm hcr C hS
  generalize D.crash = E at *
  go_enter Try.func62, Try.ntmps62
  go_wp2_with (first
    | (go_at_call 94; refine HM.out.mono ?_; rintro e w' ⟨rfl, rfl⟩)
    | (go_at_call 96; refine HC.out.mono ?_; rintro e w1 ⟨rfl, hd1, hk1⟩; have c2 := hd1.c2)
    | refine wl_rangeM rfl 112 _ rfl mo rfl hd1.ho Try.underlying112 ?_)
  intro r w2 cnt n2 m2 hit hk2
  have lp := heap_lt hd1.hp
  have ls := hd1.hs.lt
  have lo := hd1.ho.lt
  have hp2 := hk2.heap hd1.hp id
  have hs2 := hd1.hs.kept hk2 id
  have hms : ms ≠ r := by omega
  have hmo : mo ≠ r := by omega
  have hpr : p ≠ r := by omega
  clear c2
  have HE := Lib.hid hd1
  have HK1 := Lib.hid hk1
  have HK2 := Lib.hid hk2
  clear hd1 hk1 hk2 HM HC
  go_wp2
  go_loopw [] (fun wr => ∃ left cnt hh, IterAt wr r mo (blkF E.opn) left cnt ∧ IMap wr ms hh ∧ midF (blkF E.opn) (blkF E.safe) left hh ∧ Kept (fun x => x = ms ∨ x = r) w2 wr) (fun wr => iterLeft wr r)
  case atStart => exact ⟨_, _, _, hit, hs2, midF.start _ _, Kept.refl _ _⟩
  case round =>
    obtain ⟨left, cnt1, hh, hit, hms1, hmid, hk⟩ := hrel
    have HL0 := Lib.hid hit.left_eq
    have HT := Lib.hid hit
    have HMS := Lib.hid hms1
    have HMID := Lib.hid hmid
    have HK := Lib.hid hk
    have hsz := hk.size
    have hpw := hk.heap hp2 (by omega)
    have hlr := hit.lt
    have lsr := hms1.lt
    clear hit hms1 hmid hk
    go_wp2_with (refine wl_nextM rfl _ rfl r mo rfl HT.out ?_ ?_)
    · intro hno
      have c2 : wr.cell? ⟨p, 2, none⟩ = some (.map (some mo)) := cell_blk hpw rfl
      obtain ⟨w4, hrun, hmap, hk4, _⟩ := HT.out.map.clear (P := Try.prog) Try.underlying112 0
      have HM4 := Lib.hid hmap
      have HK4 := Lib.hid hk4
      clear hmap hk4
      go_wp2
      go_ret
      have hp4 := HK4.out.heap hpw h2
      have hs4 := HMS.out.kept HK4.out h3
      refine ⟨rfl, ⟨h1, h2, h3, hp4, ?_, HM4.out, ?_, ?_, HE.out.n0, HE.out.n1, HE.out.a0, HE.out.a1⟩, ?_⟩
      · rw [HMID.out.stop hno] at hs4
        refine hs4.ext (fun k => ?_)
        simp only [DevM.sync, orF, blkF]
        cases E.opn k <;> rfl
      · intro k l hl
        simp only [DevM.sync, orF] at hl
        cases ho : E.opn k with
        | some l' => rw [ho] at hl; cases hl; exact HE.out.lo k _ ho
        | none => rw [ho] at hl; exact HE.out.ls k _ hl
      · intro k l hl; cases hl
      · have kk : Kept (fun x => x = p ∨ x = ms ∨ x = mo) w w2 := (HK1.out.mono (fun x _ e => .inl e)).trans0 HK2.out
        have := HK1.out.size
        refine (kk.trans HK.out ?_).trans HK4.out ?_
        · rintro x hx (e | e)
          · exact .inr (.inl e)
          · omega
        · intro x hx e; exact .inr (.inr e)
    · intro n v w3 cnt2 hln hfn hit3 hlt hk3 hen
      obtain ⟨l, hol, rfl⟩ := blkF_some hfn
      have hl := HE.out.lo n l hol
      have HF := Lib.hid hfn
      have HT3 := Lib.hid hit3
      have HK3 := Lib.hid hk3
      have HX := Lib.hid hl
      have hp3 := hk3.heap hpw hpr
      have hms3 := Lib.hid (HMS.out.kept hk3 hms)
      have lms3 := hms3.out.lt
      have lp3 := heap_lt hp3
      have lr3 := hit3.lt
      have lo3 := hit3.lt_b
      have hsz3 := hk3.size
      clear hol hl hfn hit3 hk3
      go_wp2_with (refine wl_alloc' rfl 119 rfl (cellsOf (zeros 512)) zero512 ?_)
      intro g w4 n4 m4 hb4 hk4
      go_wp2_with (refine wl_store_row rfl 119 _ _ rfl g (cellsOf l) _ rfl rfl hb4 (size512 HX.out) (by simp [size_cellsOf, HX.out, len_zeros]) (one_cellsOf l) ?_)
      intro w5 hb5 hk5
      have hk5' : Kept (fun _ => False) w3 w5 := hk4.trans hk5 (by intro x hx e; omega)
      have hp5 := hk5'.heap hp3 id
      have c1 : w5.cell? ⟨p, 1, none⟩ = some (.map (some ms)) := cell_blk hp5 rfl
      have HK5 := Lib.hid hk5'
      clear hb4 hk4 hk5 hk5' hen
      go_wp2
      refine wp_region_still_tail 6 (by kernel_rfl) (by kernel_rfl) ?_
      simp only [List.take_succ_cons, List.take_zero, List.drop_succ_cons, List.drop_zero]
      iterate 5 still_step
      refine ws_load_row rfl 119 _ rfl g rfl (cellsOf l) hb5 Try.underlying119 rfl (size512 HX.out) ?_
      refine wpStill_nil ?_
      obtain ⟨w6, hrun, hmap, hk6, _⟩ := IMap.update (P := Try.prog) (w := w5.drew) (hms3.out.kept (w' := w5) HK5.out (fun h => h)) Try.underlying112 Try.underlying3 n (blk l)
      refine wl_mapUpdate rfl 112 _ _ _ rfl hrun ?_
      have hk6' : Kept (fun x => x = ms) w5 w6 := ⟨hk6.os, hk6.tape, hk6.output, hk6.size, hk6.block⟩
      have HM6 := Lib.hid hmap
      have HK6 := Lib.hid hk6'
      clear hmap hk6 hk6' hrun
      go_frame
      go_wp2
      go_roundw
      case rel =>
        have kk : Kept (fun x => x = ms) w3 w6 := (HK5.out.mono (fun x _ e => e.elim)).trans' HK6.out
        refine ⟨_, _, _, HT3.out.kept kk (Ne.symm hms) (Ne.symm h3), HM6.out, HMID.out.step HF.out, ?_⟩
        refine (HK.out.trans HK3.out ?_).trans kk ?_
        · intro x hx e; exact .inr e
        · intro x hx e; exact .inl e
      case measure =>
        have kk : Kept (fun x => x = ms) w3 w6 := (HK5.out.mono (fun x _ e => e.elim)).trans' HK6.out
        have e1 := (HT3.out.kept kk (Ne.symm hms) (Ne.symm h3)).left_eq
        have e0 := HL0.out
        omega
end
end Go.Proofs.Ytbolbddjmmfepaa
