/-
  No statement is proved here: the contract of device's Copy.
-/
import Derived.Test.YtjhbkamgmldkmaaLawa
namespace Go.Proofs.Ytjhbkamgmldkmaa
open Go.RowKit

section
variable {w : World} {p ms mo : Nat} {D : DevM}
theorem midF.stop0 {f h : Int → Option Value} {left : Int → Prop} (H : midF f (fun _ => none) left h) (hn : ∀ n, ¬ left n) : h = f := by
  rw [H.stop hn]; funext k; cases f k <;> rfl
set_option maxRecDepth 100000 in
set_option maxHeartbeats 2000000 in
theorem copy_any (h : DevAt w p ms mo D) : Calls Try.prog 27 #[.pointer (some ⟨p, 0, none⟩)] w fun e w' => ∃ p' ms' mo', e = .returned (.pointer (some ⟨p', 0, none⟩)) ∧ DevAt w' p' ms' mo' D ∧ Kept (fun _ => False) w w' ∧ w.heap.size ≤ p' ∧ w.heap.size ≤ ms' ∧ w.heap.size ≤ mo' := by
  have c0 := h.c0
  have hz : (D.n == 0) = false := by have := h.n0; simp; omega
  have H := Lib.hid h
  have lp := heap_lt h.hp
  have lms := h.hs.lt
  have lmo := h.ho.lt
  clear h
  go_enter Try.func27, Try.ntmps27
  go_wp2_with fail
  refine (new_ok D.n H.out.n0 H.out.n1 _).mono ?_
  rintro e w1 ⟨p', ms', mo', rfl, hN, hk1, np, nms, nmo⟩
  have hd1 := H.out.keep hk1 id id id
  have c3 := hd1.c3
  have c4 := hd1.c4
  have d3 := hN.c3
  have d4 := hN.c4
  have f3 := free_blk hN.hp 3
  have f4 := free_blk hN.hp 4
  have hpp : p ≠ p' := by omega
  have H1 := Lib.hid hd1
  have HN := Lib.hid hN
  have HK1 := Lib.hid hk1
  clear hd1 hN hk1 c0
  go_wp2
  go_region
  all_goals (
    refine (?_ : ∀ W : World, (Kept (fun x => x = p') w1 W ∧ W.heap[p']? = some (.cells #[.int .i64 D.n, .map (some ms'), .map (some mo'), .int .i64 D.armed, .bool D.down] 61 (0, 0))) → Exit.then _ _ Exit.normal _ W) _ ⟨?_, ?_⟩
    rotate_left
    · first
        | exact ((Kept.cell _ p' 3 _).trans' (Kept.cell _ p' 4 _)).drew
        | exact ((Kept.cell _ p' 4 _).trans' (Kept.cell _ p' 3 _)).drew
    · first
        | exact set_blk (set_blk HN.out.hp 3 _) 4 _
        | exact set_blk (set_blk HN.out.hp 4 _) 3 _
    rintro W ⟨hk2, hpN⟩
    have HPN := Lib.hid hpN
    have HK2 := Lib.hid hk2
    have kw2 : Kept (fun _ => False) w W := HK1.out.new hk2 (by rintro x rfl; exact np)
    have HKW := Lib.hid kw2
    have lpN := heap_lt hpN
    have lsN := (HN.out.hs.kept hk2 (fun e => HN.out.h1 e.symm)).lt
    have loN := (HN.out.ho.kept hk2 (fun e => HN.out.h2 e.symm)).lt
    have HSN := Lib.hid (show IMap W ms' (fun _ => none) from HN.out.hs.kept hk2 (fun e => HN.out.h1 e.symm))
    have HON := Lib.hid (show IMap W mo' (fun _ => none) from HN.out.ho.kept hk2 (fun e => HN.out.h2 e.symm))
    have hdW := H.out.keep kw2 id id id
    have HDW := Lib.hid hdW
    have c1 := hdW.c1
    have n1' := HN.out.h1
    have n2' := HN.out.h2
    have n3' := HN.out.h3
    clear hpN hk2 kw2 hdW c3 c4 d3 d4 f3 f4
    go_wp2_with (refine wl_rangeM rfl 59 _ rfl ms rfl HDW.out.hs Try.underlying59 ?_)
    intro r w4 cnt n4 m4 hit hk4
    have HIT := Lib.hid hit
    have HK4 := Lib.hid (HKW.out.trans0 hk4)
    have HSN4 := Lib.hid (HSN.out.kept hk4 id)
    have HON4 := Lib.hid (HON.out.kept hk4 id)
    have HPN4 := Lib.hid (hk4.heap HPN.out id)
    have HD4 := Lib.hid (HDW.out.keep hk4 id id id)
    have l4 := hk4.size
    have hsr : ms' ≠ r := by omega
    have hor : mo' ≠ r := by omega
    have hpr : p' ≠ r := by omega
    have q1 : p ≠ ms' := by omega
    have q2 : p ≠ mo' := by omega
    have q3 : ms ≠ ms' := by omega
    have q4 : ms ≠ mo' := by omega
    have q5 : mo ≠ ms' := by omega
    have q6 : mo ≠ mo' := by omega
    have q7 : p ≠ r := by have := HKW.out.size; omega
    have q8 : ms ≠ r := by have := HKW.out.size; omega
    have q9 : mo ≠ r := by have := HKW.out.size; omega
    have nr : w.heap.size ≤ r := by have := HKW.out.size; omega
    clear hit hk4 c1
    go_wp2
    go_loopw [] (fun wr => ∃ left cnt hh, IterAt wr r ms (blkF D.safe) left cnt ∧ IMap wr ms' hh ∧ midF (blkF D.safe) (fun _ => none) left hh ∧ Kept (fun x => x = ms' ∨ x = r) w4 wr) (fun wr => iterLeft wr r)
    case atStart => exact ⟨_, _, _, HIT.out, HSN4.out, midF.start _ _, Kept.refl _ _⟩
    case round =>
      obtain ⟨left, cnt1, hh, hit, hms1, hmid, hk⟩ := hrel
      have HL0 := Lib.hid hit.left_eq
      have HT := Lib.hid hit
      have HMS := Lib.hid hms1
      have HMID := Lib.hid hmid
      have HK := Lib.hid hk
      have hsz := hk.size
      have hpw := hk.heap HPN4.out (by omega)
      have hDw := HD4.out.keep hk (by omega) (by omega) (by omega)
      have HPW := Lib.hid hpw
      have HDw := Lib.hid hDw
      have HONw := Lib.hid (HON4.out.kept hk (by omega))
      have KW := Lib.hid (HK4.out.new hk (by rintro x (rfl | rfl) <;> omega))
      have lpw := heap_lt hpw
      have lmsw := hms1.lt
      have lmow := HONw.out.lt
      have lrw := hit.lt
      clear hit hms1 hmid hk hpw hDw
      go_wp2_with (refine wl_nextM rfl _ rfl r ms rfl HT.out ?_ ?_)
      · intro hno
        have HS5 := Lib.hid (show IMap wr ms' (blkF D.safe) from by have := HMS.out; rwa [HMID.out.stop0 hno] at this)
        have c2 := HDw.out.c2
        go_wp2_with (refine wl_rangeM rfl 59 _ rfl mo rfl HDw.out.ho Try.underlying59 ?_)
        intro r2 w6 cnt6 n6 m6 hit6 hk6
        have HIT6 := Lib.hid hit6
        have HK6 := Lib.hid (KW.out.trans0 hk6)
        have HS6 := Lib.hid (HS5.out.kept hk6 id)
        have HO6 := Lib.hid (HONw.out.kept hk6 id)
        have HP6 := Lib.hid (hk6.heap HPW.out id)
        have l6 := hk6.size
        have kwsz := KW.out.size
        have t1 : ms' ≠ r2 := by omega
        have t2 : mo' ≠ r2 := by omega
        have t3 : p' ≠ r2 := by omega
        have t4 : mo ≠ r2 := by omega
        have nr2 : w.heap.size ≤ r2 := by omega
        clear hit6 hk6 c2 HMS HMID HT HL0 HK HIT hno
        go_wp2
        go_loopw [] (fun wr => ∃ left cnt hh, IterAt wr r2 mo (blkF D.opn) left cnt ∧ IMap wr mo' hh ∧ midF (blkF D.opn) (fun _ => none) left hh ∧ Kept (fun x => x = mo' ∨ x = r2) w6 wr) (fun wr => iterLeft wr r2)
        case atStart => exact ⟨_, _, _, HIT6.out, HO6.out, midF.start _ _, Kept.refl _ _⟩
        case round =>
          obtain ⟨left, cnt1, hh, hit, hmo1, hmid, hk⟩ := hrel
          have HL0 := Lib.hid hit.left_eq
          have HT := Lib.hid hit
          have HMO := Lib.hid hmo1
          have HMID := Lib.hid hmid
          have HK := Lib.hid hk
          have hsz := hk.size
          have hpw := hk.heap HP6.out (by omega)
          have HSw := Lib.hid (HS6.out.kept hk (by omega))
          have KW2 := Lib.hid (HK6.out.new hk (by rintro x (rfl | rfl) <;> omega))
          clear hit hmo1 hmid hk
          go_wp2_with (refine wl_nextM rfl _ rfl r2 mo rfl HT.out ?_ ?_)
          · intro hno
            have HO7 := Lib.hid (show IMap wr mo' (blkF D.opn) from by have := HMO.out; rwa [HMID.out.stop0 hno] at this)
            go_wp2
            go_ret
            exact ⟨p', ms', mo', rfl, ⟨n1', n2', n3', hpw, HSw.out, HO7.out, H.out.ls, H.out.lo, H.out.n0, H.out.n1, H.out.a0, H.out.a1⟩, KW2.out, np, nms, nmo⟩
          · intro n v w3 cnt2 hln hfn hit3 hlt hk3 hen
            obtain ⟨l, hol, rfl⟩ := blkF_some hfn
            have hl := H.out.lo n l hol
            have HF := Lib.hid hfn
            have HT3 := Lib.hid hit3
            have HK3 := Lib.hid hk3
            have HX := Lib.hid hl
            have hp3 := hk3.heap hpw t3
            have hmo3 := Lib.hid (HMO.out.kept hk3 t2)
            have hsz3 := hk3.size
            clear hol hl hfn hit3 hk3
            go_wp2_with (refine wl_alloc' rfl 65 rfl (cellsOf (zeros 512)) zero512 ?_)
            intro g w4 n4 m4 hb4 hk4
            go_wp2_with (refine wl_store_row rfl 65 _ _ rfl g (cellsOf l) _ rfl rfl hb4 (size512 HX.out) (by simp [size_cellsOf, HX.out, len_zeros]) (one_cellsOf l) ?_)
            intro w5 hb5 hk5
            have hk5' : Kept (fun _ => False) w3 w5 := hk4.trans hk5 (by intro x hx e; omega)
            have hp5 := hk5'.heap hp3 id
            have c2 : w5.cell? ⟨p', 2, none⟩ = some (.map (some mo')) := cell_blk hp5 rfl
            have HK5 := Lib.hid hk5'
            clear hb4 hk4 hk5 hk5' hen
            go_wp2
            refine wp_region_still_tail 6 (by kernel_rfl) (by kernel_rfl) ?_
            simp only [List.take_succ_cons, List.take_zero, List.drop_succ_cons, List.drop_zero]
            iterate 5 still_step
            refine ws_load_row rfl 65 _ rfl g rfl (cellsOf l) hb5 Try.underlying65 rfl (size512 HX.out) ?_
            refine wpStill_nil ?_
            obtain ⟨w7, hrun, hmap, hk7, _⟩ := IMap.update (P := Try.prog) (w := w5.drew) (hmo3.out.kept (w' := w5) HK5.out (fun h => h)) Try.underlying59 Try.underlying3 n (blk l)
            refine wl_mapUpdate rfl 59 _ _ _ rfl hrun ?_
            have hk7' : Kept (fun x => x = mo') w5 w7 := ⟨hk7.os, hk7.tape, hk7.output, hk7.size, hk7.block⟩
            have HM7 := Lib.hid hmap
            have HK7 := Lib.hid hk7'
            clear hmap hk7 hk7' hrun
            go_frame
            go_wp2
            go_roundw
            case rel =>
              have kk : Kept (fun x => x = mo') w3 w7 := (HK5.out.mono (fun x _ e => e.elim)).trans' HK7.out
              refine ⟨_, _, _, HT3.out.kept kk (Ne.symm t2) q6, HM7.out, HMID.out.step HF.out, ?_⟩
              refine (HK.out.trans HK3.out ?_).trans kk ?_
              · intro x hx e; exact .inr e
              · intro x hx e; exact .inl e
            case measure =>
              have kk : Kept (fun x => x = mo') w3 w7 := (HK5.out.mono (fun x _ e => e.elim)).trans' HK7.out
              have e1 := (HT3.out.kept kk (Ne.symm t2) q6).left_eq
              have e0 := HL0.out
              omega
      · intro n v w3 cnt2 hln hfn hit3 hlt hk3 hen
        obtain ⟨l, hol, rfl⟩ := blkF_some hfn
        have hl := H.out.ls n l hol
        have HF := Lib.hid hfn
        have HT3 := Lib.hid hit3
        have HK3 := Lib.hid hk3
        have HX := Lib.hid hl
        have hp3 := hk3.heap HPW.out hpr
        have hms3 := Lib.hid (HMS.out.kept hk3 hsr)
        have hsz3 := hk3.size
        clear hol hl hfn hit3 hk3
        go_wp2_with (refine wl_alloc' rfl 65 rfl (cellsOf (zeros 512)) zero512 ?_)
        intro g w4 n4 m4 hb4 hk4
        go_wp2_with (refine wl_store_row rfl 65 _ _ rfl g (cellsOf l) _ rfl rfl hb4 (size512 HX.out) (by simp [size_cellsOf, HX.out, len_zeros]) (one_cellsOf l) ?_)
        intro w5 hb5 hk5
        have hk5' : Kept (fun _ => False) w3 w5 := hk4.trans hk5 (by intro x hx e; omega)
        have hp5 := hk5'.heap hp3 id
        have c1 : w5.cell? ⟨p', 1, none⟩ = some (.map (some ms')) := cell_blk hp5 rfl
        have HK5 := Lib.hid hk5'
        clear hb4 hk4 hk5 hk5' hen
        go_wp2
        refine wp_region_still_tail 6 (by kernel_rfl) (by kernel_rfl) ?_
        simp only [List.take_succ_cons, List.take_zero, List.drop_succ_cons, List.drop_zero]
        iterate 5 still_step
        refine ws_load_row rfl 65 _ rfl g rfl (cellsOf l) hb5 Try.underlying65 rfl (size512 HX.out) ?_
        refine wpStill_nil ?_
        obtain ⟨w7, hrun, hmap, hk7, _⟩ := IMap.update (P := Try.prog) (w := w5.drew) (hms3.out.kept (w' := w5) HK5.out (fun h => h)) Try.underlying59 Try.underlying3 n (blk l)
        refine wl_mapUpdate rfl 59 _ _ _ rfl hrun ?_
        have hk7' : Kept (fun x => x = ms') w5 w7 := ⟨hk7.os, hk7.tape, hk7.output, hk7.size, hk7.block⟩
        have HM7 := Lib.hid hmap
        have HK7 := Lib.hid hk7'
        clear hmap hk7 hk7' hrun
        go_frame
        go_wp2
        go_roundw
        case rel =>
          have kk : Kept (fun x => x = ms') w3 w7 := (HK5.out.mono (fun x _ e => e.elim)).trans' HK7.out
          refine ⟨_, _, _, HT3.out.kept kk (Ne.symm hsr) q3, HM7.out, HMID.out.step HF.out, ?_⟩
          refine (HK.out.trans HK3.out ?_).trans kk ?_
          · intro x hx e; exact .inr e
          · intro x hx e; exact .inl e
        case measure =>
          have kk : Kept (fun x => x = ms') w3 w7 := (HK5.out.mono (fun x _ e => e.elim)).trans' HK7.out
          have e1 := (HT3.out.kept kk (Ne.symm hsr) q3).left_eq
          have e0 := HL0.out
          omega)
end
end Go.Proofs.Ytjhbkamgmldkmaa
