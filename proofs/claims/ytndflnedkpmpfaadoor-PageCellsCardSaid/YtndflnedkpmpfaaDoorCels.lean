/-
  No statement is proved here: PageCells's walk.
-/
import Derived.Test.YtndflnedkpmpfaaDoorCel
import Derived.Deep.CutRange
import Derived.Deep.CutBlock
namespace Go.Proofs.YtndflnedkpmpfaaDoor
open Go.RowKit

theorem zeroD9 (w : World) : (zeroValue 42).run Tryd.prog w = .ok (.agg #[.int .i64 0, .int .i64 0, .int .i64 0, .slice none 0 0]) w := (zero_of_info (n := 4) (by kernel_rfl)).1 w
set_option maxRecDepth 100000 in
set_option maxHeartbeats 4000000 in
theorem pageCells_any (kind : UInt8) (LA : Option Addr) (lc : Nat) (L0 : List D9) (w : World) (hL : RdD9 w LA L0) :
    Calls Tryd.prog 7 #[.int .u8 kind.toNat, .slice LA L0.length lc] w fun e w' => e = .returned (.bool true) ∧ Kept (fun _ => False) w w' := by
  have HL := Lib.hid hL
  clear hL
  have HW := Lib.hid awake_any
  by_cases h1 : 120 < L0.length
  · have i1 : (120 : Int) < (L0.length : Int) := by omega
    go_enter Tryd.func7, Tryd.ntmps7
    go_wp2_with (go_at_call 8; refine (HW.out _).mono ?_; rintro e w1 ⟨rfl, hk⟩)
    go_ret
    exact ⟨rfl, hk⟩
  · have i1 : ¬ (120 : Int) < (L0.length : Int) := by omega
    go_enter Tryd.func7, Tryd.ntmps7
    go_wp2_with fail
    refine (HW.out _).mono ?_
    rintro e w0 ⟨rfl, hk0⟩
    have K0 := Lib.hid hk0
    clear hk0
    go_wp2_with fail
    refine (newP_any kind _).mono ?_
    rintro e w1 ⟨gp, rfl, hp1, hp2, hk1⟩
    have K1 := Lib.hid (K0.out.trans0 hk1)
    have z0 := K0.out.size
    have hst : CelAt kind w gp (.slice none 0 0) (.int .i64 506) (.int .i64 0) w1 := by
      refine ⟨0, [], rfl, rfl, ⟨by simp [encs], by simp, by omega⟩, World.ownsRow_nil _ _ _ _, fun s hs => by simp at hs, ?_, K1.out⟩
      have h3 := OwnB.of_blk hp2 (Nat.le_trans z0 hp1) (by rw [show (newP kind).length = 512 from p0_len]; decide)
      rw [newP_Pg] at h3
      rwa [show (Pg kind 0 []).length = 512 from Pg_len (by simp [encs])] at h3
    have ST := Lib.hid hst
    have HCELL := Lib.hid (fun (wz : World) (hz : Kept (fun _ => False) w wz) (k : Nat) (x : D9) (hx : L0[k]? = some x) => HL.out.at hz hx)
    have lgp : w.heap.size ≤ gp := by omega
    clear hp2 hk1 hst
    go_wp2
    go_loopw [6, 7, 8, 9] (fun v6 v7 v8 i wr => ∃ k : Nat, k ≤ L0.length ∧ i = .int .i64 k ∧ CelAt kind w gp v6 v7 v8 wr) (fun v6 v7 v8 i _ => L0.length - (intOf i).toNat)
    case atStart => exact ⟨0, Nat.zero_le _, rfl, ST.out⟩
    case round =>
      obtain ⟨k, hk, rfl, hce⟩ := hrel
      by_cases hlt : k < L0.length
      · have HLT := Lib.hid hlt
        have hx := List.getElem?_eq_getElem hlt
        obtain ⟨n, L, rfl, rfl, hok, hcv, hra, hob, hkr⟩ := hce
        have K := Lib.hid hkr
        have OK := Lib.hid hok
        have CV := Lib.hid hcv
        have RA := Lib.hid hra
        have OB := Lib.hid hob
        clear hok hcv hra hob hkr
        obtain ⟨b, off, CA, cc, rfl, hc, hrb, hCA⟩ := HCELL.out w (Kept.refl _ _) k _ hx
        generalize L0[k] = x at *
        have RB := Lib.hid hrb
        have HCA := Lib.hid hCA
        have HC := Lib.hid (fun j v hv => (World.cell?_of_block (K.out.block b (block_lt_of_cell (hc j v hv)) id)).trans (hc j v hv))
        have i0 : (0 : Int) ≤ (k : Int) := by omega
        have i3 : (k : Int) < (L0.length : Int) := by omega
        clear hx hc hrb hCA
        by_cases h5 : 5000 < x.cell.length
        · have i4 : (5000 : Int) < (x.cell.length : Int) := by omega
          go_wp2_with (first
            | (refine wl_load_mid rfl 42 _ rfl b (off + k * 4) rfl (d9C x CA cc) HC.out Tryd.underlying42 rfl (by kernel_rfl) ?_)
            | (refine wl_alloc' rfl 42 rfl #[.int .i64 0, .int .i64 0, .int .i64 0, .slice none 0 0] zeroD9 ?_))
          intro px w2 npx mpx hpx kpx
          have HP2 := Lib.hid hpx
          have K2 := Lib.hid kpx
          clear hpx kpx
          go_wp2_with (refine wl_store_row rfl 42 _ _ rfl px (d9C x CA cc) _ rfl rfl HP2.out (by kernel_rfl) (by simp [d9C]) (by simp [d9C, Value.oneCell']) ?_)
          intro w3 hpx3 hk3
          have HX := Lib.hid (show w3.heap[px]? = some (.cells #[.int .i64 x.op, .int .i64 x.slot, .int .i64 x.next, .slice CA x.cell.length cc] 42 (0, 0)) from hpx3)
          have K3 := Lib.hid (K2.out.new hk3 (fun y e => by omega))
          clear hpx3 hk3
          have c13 := cell_blk HX.out (i := 3) rfl
          go_wp2
          go_ret
          exact ⟨rfl, K.out.trans0 K3.out⟩
        · have i4 : ¬ (5000 : Int) < (x.cell.length : Int) := by omega
          go_wp2_with (first
            | (refine wl_load_mid rfl 42 _ rfl b (off + k * 4) rfl (d9C x CA cc) HC.out Tryd.underlying42 rfl (by kernel_rfl) ?_)
            | (refine wl_alloc' rfl 42 rfl #[.int .i64 0, .int .i64 0, .int .i64 0, .slice none 0 0] zeroD9 ?_))
          intro px w2 npx mpx hpx kpx
          have HP2 := Lib.hid hpx
          have K2 := Lib.hid kpx
          clear hpx kpx
          go_wp2_with (refine wl_store_row rfl 42 _ _ rfl px (d9C x CA cc) _ rfl rfl HP2.out (by kernel_rfl) (by simp [d9C]) (by simp [d9C, Value.oneCell']) ?_)
          intro w3 hpx3 hk3
          have HX := Lib.hid (show w3.heap[px]? = some (.cells #[.int .i64 x.op, .int .i64 x.slot, .int .i64 x.next, .slice CA x.cell.length cc] 42 (0, 0)) from hpx3)
          have K13 := Lib.hid (K2.out.new hk3 (fun y e => by omega))
          have K3 := Lib.hid (K.out.trans0 K13.out)
          clear hpx3 hk3
          have c10 := cell_blk HX.out (i := 0) rfl
          have c11 := cell_blk HX.out (i := 1) rfl
          have c12 := cell_blk HX.out (i := 2) rfl
          have c13 := cell_blk HX.out (i := 3) rfl
          have z3 := K13.out.size
          have bgp := OB.out.base_le
          have mgp := OB.out.lt'
          have CV3 := Lib.hid (CV.out.kept K13.out (fun _ h => h.elim))
          have OB3 := Lib.hid (OB.out.kept K13.out)
          have RB3 := Lib.hid (RB.out.kept K3.out (fun _ _ _ _ => id))
          have HPK := Lib.hid (fun w => pick_any x.op 5 (by decide) w)
          have hv5 := pickM_lt (x := x.op) (n := 5) (by omega)
          generalize pickM x.op 5 = v at *
          go_upto_block 2 with (go_at_call 24; refine (HPK.out _).mono ?_; rintro e w3' ⟨rfl, rfl⟩)
          go_cut [6, 7, 8] from 26 to 200 (fun v6 v7 v8 wx => CelAt kind w gp v6 v7 v8 wx)
          case first =>
            obtain ⟨G, cap, rfl, hsh, hV⟩ := CV.out.shape
            have lgL : L.length ≤ 255 := by have := OK.out.cnt; rwa [List.length_map] at this
            have hroom := OK.out.room
            obtain ⟨rm, hrm⟩ : ∃ rm : Int, rm = 506 - ((encs (L.map (fun s => s.b))).length : Int) := ⟨_, rfl⟩
            rw [← hrm]
            have rm0 : rm ≤ 506 := by omega
            have rm1 : 0 ≤ rm := by omega
            have HRM := Lib.hid hrm
            have HROOM := Lib.hid hroom
            have HV := Lib.hid (fun (wz : World) (hz : Kept (fun y => y = gp) wr wz) k s (hs : L[k]? = some s) => show ∃ g, G = some ⟨g, 0, none⟩ ∧ wz.cell? ⟨g, k, none⟩ = some (cvVal s) from by
              obtain ⟨g, e, hlt2, hc2⟩ := hV k s hs
              refine ⟨g, e, (World.cell?_of_block (hz.block g hlt2 ?_)).trans hc2⟩
              rcases hsh with ⟨e', -⟩ | ⟨g', e', hg', -⟩
              · rw [e'] at e; cases e
              · rw [e'] at e; cases e; omega)
            have hvs : (v = 0 ∨ v = 1 ∨ v = 2) ∨ v = 3 ∨ v = 4 := by omega
            clear hrm hroom hV hv5 HPK
            rcases hvs with hv | rfl | rfl
            · go_upto_if 49 with fail
              go_cut [49] from 26 to 200 (fun s49 wx => s49 = .bool true ∧ w3 = wx)
              case first =>
                rcases hv with rfl | rfl | rfl
                · go_wp2
                  go_meet
                  case rel => exact ⟨rfl, rfl⟩
                · go_wp2
                  go_meet
                  case rel => exact ⟨rfl, rfl⟩
                · go_wp2
                  go_meet
                  case rel => exact ⟨rfl, rfl⟩
              case rest =>
                obtain ⟨rfl, rfl⟩ := hcut
                clear hv
                as_aux_lemma =>
                  have HP2 := Lib.hid (fun w => pick_any x.slot ((L.length : Int) + 1) (by omega) w)
                  have hv6 := pickM_lt (x := x.slot) (n := (L.length : Int) + 1) (by omega)
                  generalize pickM x.slot ((L.length : Int) + 1) = s at *
                  obtain ⟨i, rfl⟩ : ∃ i : Nat, s = i := ⟨s.toNat, by omega⟩
                  have hi : i ≤ L.length := by omega
                  have hI := insert_loose w.heap.size gp 512 cc (Pg kind n (L.map (fun s => s.b))) x.cell CA w3 OB3.out (by rw [Pg_len OK.out.room]; omega) RB3.out (by omega) (fun hne b' off' e => by have := HCA.out hne b' off' e; omega) (i : Int)
                  rw [Pg_len OK.out.room, insertM_Pg OK.out, if_neg (by rw [List.length_map]; omega), Int.toNat_natCast] at hI
                  have hil : (i : Int) ≤ (L.length : Int) := by omega
                  have hil0 : (0 : Int) ≤ (i : Int) := by omega
                  clear hv6
                  by_cases hf : 506 < (encs (L.map (fun s => s.b))).length + (x.cell.length + 2) ∨ 255 ≤ (L.map (fun s => s.b)).length
                  · rw [if_pos hf] at hI
                    have HI := Lib.hid (show Calls Tryd.prog 25 #[.slice (some ⟨gp, 0, none⟩) 512 512, .int .i64 i, .slice CA x.cell.length cc] w3 fun e w' => e = .returned (.int .i64 5) ∧ OwnB w' w.heap.size gp 512 (Pg kind n (L.map (fun s => s.b))) ∧ Kept (fun y => y = gp) w3 w' from hI)
                    have hf2 : ¬ (x.cell.length : Int) + 2 ≤ rm ∨ ¬ (L.length : Int) < 255 := by
                      rw [List.length_map] at hf
                      have := HRM.out
                      omega
                    clear hI hf
                    go_wp2_with (go_at_call 24; refine (HP2.out _).mono ?_; rintro e w3' ⟨rfl, rfl⟩)
                    refine HI.out.mono ?_
                    rintro e w4 ⟨rfl, ho4, hk4⟩
                    have K4 := Lib.hid (K3.out.new hk4 (fun y e => by omega))
                    have K34 := Lib.hid ((K13.out.mono (T := fun y => y = gp) (fun _ _ h => h.elim)).trans' hk4)
                    have HX4 := Lib.hid (hk4.heap HX.out (by omega))
                    have O4 := Lib.hid ho4
                    have CV4 := Lib.hid (CV3.out.kept hk4 (fun y e => by omega))
                    have z4 := hk4.size
                    have c40 := cell_blk HX4.out (i := 0) rfl
                    have c41 := cell_blk HX4.out (i := 1) rfl
                    have c42 := cell_blk HX4.out (i := 2) rfl
                    have c43 := cell_blk HX4.out (i := 3) rfl
                    clear ho4 hk4

                    by_cases d1 : (x.cell.length : Int) + 2 ≤ rm
                    · have d2 : ¬ (L.length : Int) < 255 := by omega
                      clear hf2
                      go_wp2
                      go_meet
                      case rel => exact ⟨n, L, by rw [HRM.out], rfl, OK.out, CV4.out, RA.out, O4.out, K4.out⟩

                    · clear hf2
                      go_wp2
                      go_meet
                      case rel => exact ⟨n, L, by rw [HRM.out], rfl, OK.out, CV4.out, RA.out, O4.out, K4.out⟩

                  · rw [if_neg hf] at hI
                    have HI := Lib.hid (show Calls Tryd.prog 25 #[.slice (some ⟨gp, 0, none⟩) 512 512, .int .i64 i, .slice CA x.cell.length cc] w3 fun e w' => e = .returned (.int .i64 0) ∧ OwnB w' w.heap.size gp 512 (Pg kind n ((L.map (fun s => s.b)).take i ++ x.cell :: (L.map (fun s => s.b)).drop i)) ∧ Kept (fun y => y = gp) w3 w' from hI)
                    have d12 : (x.cell.length : Int) + 2 ≤ rm ∧ (L.length : Int) < 255 := by
                      rw [List.length_map] at hf
                      have := HRM.out
                      omega
                    have hbs : (L.take i ++ ⟨CA, cc, x.cell⟩ :: L.drop i).map (fun s => s.b) = (L.map (fun s => s.b)).take i ++ x.cell :: (L.map (fun s => s.b)).drop i := by
                      rw [List.map_append, List.map_cons, List.map_take, List.map_drop]
                    have henc : (encs ((L.map (fun s => s.b)).take i ++ x.cell :: (L.map (fun s => s.b)).drop i)).length = (encs (L.map (fun s => s.b))).length + (x.cell.length + 2) := by
                      have h9 := congrArg (fun x => (encs x).length) (List.take_append_drop i (L.map (fun s => s.b)))
                      simp only [encs_app, List.length_append] at h9
                      rw [encs_app, encs_cons, List.length_append, List.length_append, enc_len]
                      omega
                    have HBS := Lib.hid hbs
                    have HENC := Lib.hid henc
                    obtain ⟨d1, d2⟩ := d12
                    clear hI hf hbs henc
                    go_wp2_with (go_at_call 24; refine (HP2.out _).mono ?_; rintro e w3' ⟨rfl, rfl⟩)
                    refine HI.out.mono ?_
                    rintro e w4 ⟨rfl, ho4, hk4⟩
                    have K4 := Lib.hid (K3.out.new hk4 (fun y e => by omega))
                    have K34 := Lib.hid ((K13.out.mono (T := fun y => y = gp) (fun _ _ h => h.elim)).trans' hk4)
                    have HX4 := Lib.hid (hk4.heap HX.out (by omega))
                    have O4 := Lib.hid ho4
                    have CV4 := Lib.hid (CV3.out.kept hk4 (fun y e => by omega))
                    have z4 := hk4.size
                    have c40 := cell_blk HX4.out (i := 0) rfl
                    have c41 := cell_blk HX4.out (i := 1) rfl
                    have c42 := cell_blk HX4.out (i := 2) rfl
                    have c43 := cell_blk HX4.out (i := 3) rfl
                    clear ho4 hk4

                    obtain ⟨bx, hbx⟩ : ∃ bx, bx = w4.heap.size := ⟨_, rfl⟩
                    have HBX := Lib.hid hbx
                    clear hbx
                    rcases hsh with ⟨rfl, rfl, rfl⟩ | ⟨gc, rfl, hgc1, hgc2, hcap, hcap2⟩
                    · skip
                      obtain rfl : i = 0 := by simpa using hi

                      have ka2 := (Kept.refl (fun _ => False) w4).alloc (.cells #[.slice CA x.cell.length cc] 22)
                      have KA2 := Lib.hid ka2
                      have hz2a : bx ≤ (w4.alloc (.cells #[.slice CA x.cell.length cc] 22)).heap.size := Nat.le_trans (Nat.le_of_eq HBX.out) ka2.size
                      clear ka2

                      go_wp2_with (at_builtin; refine wl_appendC rfl _ _ rfl bx (.slice none 0 0) 0 [] rfl (World.ownsRow_nil _ _ _ _) _ 1 1 [.slice CA x.cell.length cc] rfl rfl (fun j u hu => ⟨_, 0, rfl, cell_blk (heap_alloc_new w4 _) (by simpa using hu)⟩) (by simp [Value.oneCell']) (by omega) hz2a ?_)
                      intro v2 w6 ho2 hk2
                      have HK6 := Lib.hid (KA2.out.new hk2 (fun x e => by simp [Value.ownBlock] at e))
                      have HO2 := Lib.hid (show w6.ownsRow bx 22 1 v2 1 [.slice CA x.cell.length cc] from by simpa using ho2)
                      clear ho2 hk2

                      obtain ⟨G2, n2, cc2, hvv2⟩ : ∃ G n c, v2 = .slice G n c := by
                        rcases HO2.out.2 with ⟨e, -⟩ | ⟨g', c', -, e, -⟩
                        · exact ⟨_, _, _, e⟩
                        · exact ⟨_, _, _, e⟩
                      subst hvv2

                      have hz6 : bx ≤ w6.heap.size := by rw [HBX.out]; exact HK6.out.size
                      go_wp2_with (at_builtin; refine wl_appendC rfl _ _ rfl bx (.slice G2 n2 cc2) 1 [.slice CA x.cell.length cc] rfl HO2.out _ 0 _ [] rfl rfl (fun j u hu => by simp at hu) (by simp) (by omega) hz6 ?_)
                      intro v3 w7 ho3 hk3
                      have HK7 := Lib.hid (HK6.out.new hk3 (fun y e => by
                        rcases HO2.out.2 with ⟨e', -⟩ | ⟨g', c', -, e', hb', -⟩
                        · rw [e'] at e; cases e
                        · rw [e'] at e; cases e; rw [← HBX.out]; exact hb'))
                      have hcv : OwnCv w7 (gp + 1) v3 [⟨CA, cc, x.cell⟩] := by
                        refine OwnCv.low (base := bx) ?_ (by rw [HBX.out]; omega)
                        unfold OwnCv
                        simpa [cvVal] using ho3

                      have K7 := Lib.hid (K4.out.trans0 HK7.out)
                      have HX7 := Lib.hid (HK7.out.heap HX4.out id)
                      have c73 := cell_blk HX7.out (i := 3) rfl
                      have HCV7 := Lib.hid hcv
                      have O7 := Lib.hid (O4.out.kept HK7.out)
                      clear ho3 hk3 hcv
                      go_wp2
                      go_meet
                      case rel =>
                        refine ⟨n, ([] : List CvD).take 0 ++ ⟨CA, cc, x.cell⟩ :: ([] : List CvD).drop 0, ?_, rfl, ?_, HCV7.out, ?_, ?_, K7.out⟩
                        · rw [HRM.out, HBS.out, HENC.out]
                          refine congrArg (Value.int .i64) ?_
                          omega
                        · rw [HBS.out]
                          refine ⟨by have := HRM.out; rw [HENC.out]; omega, by rw [← HBS.out, List.length_map, List.length_append, List.length_cons, List.length_take, List.length_drop]; omega, OK.out.nxt⟩
                        · intro s hs
                          rcases List.mem_append.1 hs with h | h
                          · exact RA.out s (List.mem_of_mem_take h)
                          · rcases List.mem_cons.1 h with rfl | h
                            · exact RB.out
                            · exact RA.out s (List.mem_of_mem_drop h)
                        · rw [HBS.out]; exact O7.out

                    · have d3 : (i : Int) ≤ (cap : Int) := by omega
                      by_cases h7 : cap = i
                      · have h8 := h7.symm
                        clear h7
                        subst h8
                        go_wp2_with (at_builtin; refine wl_appendC rfl _ _ rfl bx (.slice none 0 0) 0 [] rfl (World.ownsRow_nil _ _ _ _) _ _ _ ((L.take i).map cvVal) (by rw [List.length_map, List.length_take] <;> omega) rfl (cv_take (HV.out _ K34.out)) (one_cv _) (by omega) (Nat.le_of_eq HBX.out) ?_)
                        intro v1 w5 ho1 hk1
                        have HO1 := Lib.hid (show w5.ownsRow bx 22 1 v1 i ((L.take i).map cvVal) from by simpa using ho1)
                        have HK5 := Lib.hid (hk1.mono (T := fun _ => False) (fun x _ e => by simp [Value.ownBlock] at e))
                        clear ho1 hk1

                        obtain ⟨G1, n1, cc1, hvv1⟩ : ∃ G n c, v1 = .slice G n c := by
                          rcases HO1.out.2 with ⟨e, -⟩ | ⟨g', c', -, e, -⟩
                          · exact ⟨_, _, _, e⟩
                          · exact ⟨_, _, _, e⟩
                        subst hvv1

                        have hz5 : bx ≤ w5.heap.size := by rw [HBX.out]; exact HK5.out.size
                        have HX5 := Lib.hid (HK5.out.heap HX4.out id)
                        have c53 := cell_blk HX5.out (i := 3) rfl

                        have ka2 := (Kept.refl (fun _ => False) w5).alloc (.cells #[.slice CA x.cell.length cc] 22)
                        have KA2 := Lib.hid ka2
                        have hz2a : bx ≤ (w5.alloc (.cells #[.slice CA x.cell.length cc] 22)).heap.size := Nat.le_trans hz5 ka2.size
                        clear ka2

                        have HO1a := Lib.hid (ownsRow_keep HO1.out KA2.out (fun _ _ => id))
                        go_wp2_with (at_builtin; refine wl_appendC rfl _ _ rfl bx (.slice G1 n1 cc1) i ((L.take i).map cvVal) rfl HO1a.out _ 1 1 [.slice CA x.cell.length cc] rfl rfl (fun j u hu => ⟨_, 0, rfl, cell_blk (heap_alloc_new w5 _) (by simpa using hu)⟩) (by simp [Value.oneCell']) (by omega) hz2a ?_)
                        intro v2 w6 ho2 hk2
                        have HK6 := Lib.hid ((HK5.out.trans0 KA2.out).new hk2 (fun y e => by
                          rcases HO1.out.2 with ⟨e', -⟩ | ⟨g', c', -, e', hb', -⟩
                          · rw [e'] at e; cases e
                          · rw [e'] at e; cases e; rw [← HBX.out]; exact hb'))
                        have HO2 := Lib.hid (show w6.ownsRow bx 22 1 v2 (i + 1) ((L.take i).map cvVal ++ [.slice CA x.cell.length cc]) from by simpa [List.map_take] using ho2)
                        clear ho2 hk2

                        obtain ⟨G2, n2, cc2, hvv2⟩ : ∃ G n c, v2 = .slice G n c := by
                          rcases HO2.out.2 with ⟨e, -⟩ | ⟨g', c', -, e, -⟩
                          · exact ⟨_, _, _, e⟩
                          · exact ⟨_, _, _, e⟩
                        subst hvv2

                        have hz6 : bx ≤ w6.heap.size := by rw [HBX.out]; exact HK6.out.size
                        have K36 := Lib.hid (K34.out.trans0 HK6.out)
                        go_wp2_with (at_builtin; refine wl_appendC rfl _ _ rfl bx (.slice G2 n2 cc2) (i + 1) ((L.take i).map cvVal ++ [.slice CA x.cell.length cc]) rfl HO2.out _ _ _ ((L.drop i).map cvVal) (by rw [List.length_map, List.length_drop] <;> omega) rfl (cv_drop (HV.out _ K36.out) (by first | (intro g' e h; cases e; rfl) | (intro g' e h; exfalso; omega) | (intro g' e; cases e))) (one_cv _) (by omega) hz6 ?_)
                        intro v3 w7 ho3 hk3
                        have HK7 := Lib.hid (HK6.out.new hk3 (fun y e => by
                          rcases HO2.out.2 with ⟨e', -⟩ | ⟨g', c', -, e', hb', -⟩
                          · rw [e'] at e; cases e
                          · rw [e'] at e; cases e; rw [← HBX.out]; exact hb'))

                        have hcv : OwnCv w7 (gp + 1) v3 ((L.take i) ++ ⟨CA, cc, x.cell⟩ :: (L.drop i)) := by
                          refine OwnCv.low (base := bx) ?_ (by rw [HBX.out]; omega)
                          unfold OwnCv
                          rw [List.length_append, List.length_cons, List.length_take, List.length_drop, Nat.min_eq_left hi, List.map_append, List.map_cons]
                          first
                            | (rw [show i + (L.length - i + 1) = i + 1 + (L.length - i) by omega]; simpa [List.map_take, List.map_drop, cvVal] using ho3)
                            | (rw [show i + (L.length - i + 1) = i + 1 by omega]; simpa [List.map_take, List.map_drop, cvVal] using ho3)

                        have K7 := Lib.hid (K4.out.trans0 HK7.out)
                        have HX7 := Lib.hid (HK7.out.heap HX4.out id)
                        have c73 := cell_blk HX7.out (i := 3) rfl
                        have HCV7 := Lib.hid hcv
                        have O7 := Lib.hid (O4.out.kept HK7.out)
                        clear ho3 hk3 hcv
                        go_wp2
                        go_meet
                        case rel =>
                          refine ⟨n, L.take i ++ ⟨CA, cc, x.cell⟩ :: L.drop i, ?_, rfl, ?_, HCV7.out, ?_, ?_, K7.out⟩
                          · rw [HRM.out, HBS.out, HENC.out]
                            refine congrArg (Value.int .i64) ?_
                            omega
                          · rw [HBS.out]
                            refine ⟨by have := HRM.out; rw [HENC.out]; omega, by rw [← HBS.out, List.length_map, List.length_append, List.length_cons, List.length_take, List.length_drop]; omega, OK.out.nxt⟩
                          · intro s hs
                            rcases List.mem_append.1 hs with h | h
                            · exact RA.out s (List.mem_of_mem_take h)
                            · rcases List.mem_cons.1 h with rfl | h
                              · exact RB.out
                              · exact RA.out s (List.mem_of_mem_drop h)
                          · rw [HBS.out]; exact O7.out

                      · skip
                        go_wp2_with (at_builtin; refine wl_appendC rfl _ _ rfl bx (.slice none 0 0) 0 [] rfl (World.ownsRow_nil _ _ _ _) _ _ _ ((L.take i).map cvVal) (by rw [List.length_map, List.length_take] <;> omega) rfl (cv_take (HV.out _ K34.out)) (one_cv _) (by omega) (Nat.le_of_eq HBX.out) ?_)
                        intro v1 w5 ho1 hk1
                        have HO1 := Lib.hid (show w5.ownsRow bx 22 1 v1 i ((L.take i).map cvVal) from by simpa using ho1)
                        have HK5 := Lib.hid (hk1.mono (T := fun _ => False) (fun x _ e => by simp [Value.ownBlock] at e))
                        clear ho1 hk1

                        obtain ⟨G1, n1, cc1, hvv1⟩ : ∃ G n c, v1 = .slice G n c := by
                          rcases HO1.out.2 with ⟨e, -⟩ | ⟨g', c', -, e, -⟩
                          · exact ⟨_, _, _, e⟩
                          · exact ⟨_, _, _, e⟩
                        subst hvv1

                        have hz5 : bx ≤ w5.heap.size := by rw [HBX.out]; exact HK5.out.size
                        have HX5 := Lib.hid (HK5.out.heap HX4.out id)
                        have c53 := cell_blk HX5.out (i := 3) rfl

                        have ka2 := (Kept.refl (fun _ => False) w5).alloc (.cells #[.slice CA x.cell.length cc] 22)
                        have KA2 := Lib.hid ka2
                        have hz2a : bx ≤ (w5.alloc (.cells #[.slice CA x.cell.length cc] 22)).heap.size := Nat.le_trans hz5 ka2.size
                        clear ka2

                        have HO1a := Lib.hid (ownsRow_keep HO1.out KA2.out (fun _ _ => id))
                        go_wp2_with (at_builtin; refine wl_appendC rfl _ _ rfl bx (.slice G1 n1 cc1) i ((L.take i).map cvVal) rfl HO1a.out _ 1 1 [.slice CA x.cell.length cc] rfl rfl (fun j u hu => ⟨_, 0, rfl, cell_blk (heap_alloc_new w5 _) (by simpa using hu)⟩) (by simp [Value.oneCell']) (by omega) hz2a ?_)
                        intro v2 w6 ho2 hk2
                        have HK6 := Lib.hid ((HK5.out.trans0 KA2.out).new hk2 (fun y e => by
                          rcases HO1.out.2 with ⟨e', -⟩ | ⟨g', c', -, e', hb', -⟩
                          · rw [e'] at e; cases e
                          · rw [e'] at e; cases e; rw [← HBX.out]; exact hb'))
                        have HO2 := Lib.hid (show w6.ownsRow bx 22 1 v2 (i + 1) ((L.take i).map cvVal ++ [.slice CA x.cell.length cc]) from by simpa [List.map_take] using ho2)
                        clear ho2 hk2

                        obtain ⟨G2, n2, cc2, hvv2⟩ : ∃ G n c, v2 = .slice G n c := by
                          rcases HO2.out.2 with ⟨e, -⟩ | ⟨g', c', -, e, -⟩
                          · exact ⟨_, _, _, e⟩
                          · exact ⟨_, _, _, e⟩
                        subst hvv2

                        have hz6 : bx ≤ w6.heap.size := by rw [HBX.out]; exact HK6.out.size
                        have K36 := Lib.hid (K34.out.trans0 HK6.out)
                        go_wp2_with (at_builtin; refine wl_appendC rfl _ _ rfl bx (.slice G2 n2 cc2) (i + 1) ((L.take i).map cvVal ++ [.slice CA x.cell.length cc]) rfl HO2.out _ _ _ ((L.drop i).map cvVal) (by rw [List.length_map, List.length_drop] <;> omega) rfl (cv_drop (HV.out _ K36.out) (by first | (intro g' e h; cases e; rfl) | (intro g' e h; exfalso; omega) | (intro g' e; cases e))) (one_cv _) (by omega) hz6 ?_)
                        intro v3 w7 ho3 hk3
                        have HK7 := Lib.hid (HK6.out.new hk3 (fun y e => by
                          rcases HO2.out.2 with ⟨e', -⟩ | ⟨g', c', -, e', hb', -⟩
                          · rw [e'] at e; cases e
                          · rw [e'] at e; cases e; rw [← HBX.out]; exact hb'))

                        have hcv : OwnCv w7 (gp + 1) v3 ((L.take i) ++ ⟨CA, cc, x.cell⟩ :: (L.drop i)) := by
                          refine OwnCv.low (base := bx) ?_ (by rw [HBX.out]; omega)
                          unfold OwnCv
                          rw [List.length_append, List.length_cons, List.length_take, List.length_drop, Nat.min_eq_left hi, List.map_append, List.map_cons]
                          first
                            | (rw [show i + (L.length - i + 1) = i + 1 + (L.length - i) by omega]; simpa [List.map_take, List.map_drop, cvVal] using ho3)
                            | (rw [show i + (L.length - i + 1) = i + 1 by omega]; simpa [List.map_take, List.map_drop, cvVal] using ho3)

                        have K7 := Lib.hid (K4.out.trans0 HK7.out)
                        have HX7 := Lib.hid (HK7.out.heap HX4.out id)
                        have c73 := cell_blk HX7.out (i := 3) rfl
                        have HCV7 := Lib.hid hcv
                        have O7 := Lib.hid (O4.out.kept HK7.out)
                        clear ho3 hk3 hcv
                        go_wp2
                        go_meet
                        case rel =>
                          refine ⟨n, L.take i ++ ⟨CA, cc, x.cell⟩ :: L.drop i, ?_, rfl, ?_, HCV7.out, ?_, ?_, K7.out⟩
                          · rw [HRM.out, HBS.out, HENC.out]
                            refine congrArg (Value.int .i64) ?_
                            omega
                          · rw [HBS.out]
                            refine ⟨by have := HRM.out; rw [HENC.out]; omega, by rw [← HBS.out, List.length_map, List.length_append, List.length_cons, List.length_take, List.length_drop]; omega, OK.out.nxt⟩
                          · intro s hs
                            rcases List.mem_append.1 hs with h | h
                            · exact RA.out s (List.mem_of_mem_take h)
                            · rcases List.mem_cons.1 h with rfl | h
                              · exact RB.out
                              · exact RA.out s (List.mem_of_mem_drop h)
                          · rw [HBS.out]; exact O7.out
            · as_aux_lemma =>
                generalize x.slot = sl at *
                have hI := delete_any w.heap.size gp 512 (Pg kind n (L.map (fun s => s.b))) sl w3 OB3.out (by rw [Pg_len OK.out.room]; omega)
                rw [Pg_len OK.out.room, deleteM_Pg OK.out, List.length_map] at hI
                by_cases hf : sl < 0 ∨ (L.length : Int) ≤ sl
                · rw [if_pos hf] at hI
                  have HI := Lib.hid (show Calls Tryd.prog 26 #[.slice (some ⟨gp, 0, none⟩) 512 512, .int .i64 sl] w3 fun e w' => e = .returned (.bool false) ∧ OwnB w' w.heap.size gp 512 (Pg kind n (L.map (fun s => s.b))) ∧ Kept (fun y => y = gp) w3 w' from hI)
                  clear hI
                  by_cases d1 : (0 : Int) ≤ sl
                  · have d2 : ¬ sl < (L.length : Int) := by omega
                    clear hf
                    go_wp2_with fail
                    refine HI.out.mono ?_
                    rintro e w4 ⟨rfl, ho4, hk4⟩
                    have K4 := Lib.hid (K3.out.new hk4 (fun y e => by omega))
                    have K34 := Lib.hid ((K13.out.mono (T := fun y => y = gp) (fun _ _ h => h.elim)).trans' hk4)
                    have HX4 := Lib.hid (hk4.heap HX.out (by omega))
                    have O4 := Lib.hid ho4
                    have CV4 := Lib.hid (CV3.out.kept hk4 (fun y e => by omega))
                    have z4 := hk4.size
                    have c40 := cell_blk HX4.out (i := 0) rfl
                    have c41 := cell_blk HX4.out (i := 1) rfl
                    have c42 := cell_blk HX4.out (i := 2) rfl
                    have c43 := cell_blk HX4.out (i := 3) rfl
                    clear ho4 hk4
                    go_wp2
                    go_meet
                    case rel => exact ⟨n, L, by rw [HRM.out], rfl, OK.out, CV4.out, RA.out, O4.out, K4.out⟩

                  · clear hf
                    go_wp2_with fail
                    refine HI.out.mono ?_
                    rintro e w4 ⟨rfl, ho4, hk4⟩
                    have K4 := Lib.hid (K3.out.new hk4 (fun y e => by omega))
                    have K34 := Lib.hid ((K13.out.mono (T := fun y => y = gp) (fun _ _ h => h.elim)).trans' hk4)
                    have HX4 := Lib.hid (hk4.heap HX.out (by omega))
                    have O4 := Lib.hid ho4
                    have CV4 := Lib.hid (CV3.out.kept hk4 (fun y e => by omega))
                    have z4 := hk4.size
                    have c40 := cell_blk HX4.out (i := 0) rfl
                    have c41 := cell_blk HX4.out (i := 1) rfl
                    have c42 := cell_blk HX4.out (i := 2) rfl
                    have c43 := cell_blk HX4.out (i := 3) rfl
                    clear ho4 hk4
                    go_wp2
                    go_meet
                    case rel => exact ⟨n, L, by rw [HRM.out], rfl, OK.out, CV4.out, RA.out, O4.out, K4.out⟩

                · rw [if_neg hf] at hI
                  obtain ⟨i, rfl⟩ : ∃ i : Nat, sl = i := ⟨sl.toNat, by omega⟩
                  rw [Int.toNat_natCast] at hI
                  have HI := Lib.hid (show Calls Tryd.prog 26 #[.slice (some ⟨gp, 0, none⟩) 512 512, .int .i64 i] w3 fun e w' => e = .returned (.bool true) ∧ OwnB w' w.heap.size gp 512 (Pg kind n ((L.map (fun s => s.b)).take i ++ (L.map (fun s => s.b)).drop (i + 1))) ∧ Kept (fun y => y = gp) w3 w' from hI)
                  have hi : i < L.length := by omega
                  have d1 : (0 : Int) ≤ (i : Int) := by omega
                  have d2 : (i : Int) < (L.length : Int) := by omega
                  obtain ⟨y, hy⟩ : ∃ y, L[i]? = some y := ⟨_, List.getElem?_eq_getElem hi⟩
                  have hy5 : y.b.length ≤ 506 := by
                    have h8 := encs_get_len (cs := L.map (fun s => s.b)) (i := i) (by rw [List.length_map]; exact hi)
                    have h9 := HROOM.out
                    obtain ⟨hi, rfl⟩ := List.getElem?_eq_some_iff.1 hy
                    rw [List.getElem_map] at h8
                    omega
                  have henc : (encs ((L.map (fun s => s.b)).take i ++ (L.map (fun s => s.b)).drop (i + 1))).length + (y.b.length + 2) = (encs (L.map (fun s => s.b))).length := by
                    have h8 := congrArg List.length (encs_split (cs := L.map (fun s => s.b)) (i := i) (by rw [List.length_map]; exact hi))
                    rw [List.length_append, List.length_append, enc_len, List.getElem_map, (List.getElem?_eq_some_iff.1 hy).2] at h8
                    rw [encs_app, List.length_append]
                    omega
                  obtain ⟨i2, hi2⟩ : ∃ i2, i2 = i + 1 := ⟨_, rfl⟩
                  have wi2 : IntKind.i64.wrap ((i : Int) + 1) = (i2 : Int) := by rw [hi2, IntKind.wrap_i64] <;> omega
                  have wj2 : (i : Int) + 1 = (i2 : Int) := by omega
                  have d4 : (i2 : Int) ≤ (L.length : Int) := by omega
                  have d5 : i2 ≤ L.length := by omega
                  have d6 : (0 : Int) ≤ (i2 : Int) := by omega
                  have hbs : (L.take i ++ L.drop i2).map (fun s => s.b) = (L.map (fun s => s.b)).take i ++ (L.map (fun s => s.b)).drop (i + 1) := by
                    rw [List.map_append, List.map_take, List.map_drop, hi2]
                  have HBS := Lib.hid hbs
                  have HENC := Lib.hid henc
                  have HY := Lib.hid hy
                  have HI2 := Lib.hid hi2
                  clear hI hf hbs henc hy hi2
                  rcases hsh with ⟨rfl, rfl, rfl⟩ | ⟨gc, rfl, hgc1, hgc2, hcap, hcap2⟩
                  · simp at hi
                  · have d3 : (i : Int) ≤ (cap : Int) := by omega
                    go_wp2_with fail
                    refine HI.out.mono ?_
                    rintro e w4 ⟨rfl, ho4, hk4⟩
                    have K4 := Lib.hid (K3.out.new hk4 (fun y e => by omega))
                    have K34 := Lib.hid ((K13.out.mono (T := fun y => y = gp) (fun _ _ h => h.elim)).trans' hk4)
                    have HX4 := Lib.hid (hk4.heap HX.out (by omega))
                    have O4 := Lib.hid ho4
                    have CV4 := Lib.hid (CV3.out.kept hk4 (fun y e => by omega))
                    have z4 := hk4.size
                    have c40 := cell_blk HX4.out (i := 0) rfl
                    have c41 := cell_blk HX4.out (i := 1) rfl
                    have c42 := cell_blk HX4.out (i := 2) rfl
                    have c43 := cell_blk HX4.out (i := 3) rfl
                    clear ho4 hk4

                    obtain ⟨g9, e9, hc9⟩ := HV.out _ K34.out i y HY.out
                    cases e9
                    unfold cvVal at hc9
                    obtain ⟨bx, hbx⟩ : ∃ bx, bx = w4.heap.size := ⟨_, rfl⟩
                    have HBX := Lib.hid hbx
                    clear hbx
                    by_cases h7 : cap = i2
                    · have h8 := h7.symm
                      clear h7
                      subst h8
                      go_wp2_with (at_builtin; refine wl_appendC rfl _ _ rfl bx (.slice none 0 0) 0 [] rfl (World.ownsRow_nil _ _ _ _) _ _ _ ((L.take i).map cvVal) (by rw [List.length_map, List.length_take] <;> omega) rfl (cv_take (HV.out _ K34.out)) (one_cv _) (by omega) (Nat.le_of_eq HBX.out) ?_)
                      intro v1 w5 ho1 hk1
                      have HO1 := Lib.hid (show w5.ownsRow bx 22 1 v1 i ((L.take i).map cvVal) from by simpa using ho1)
                      have HK5 := Lib.hid (hk1.mono (T := fun _ => False) (fun x _ e => by simp [Value.ownBlock] at e))
                      clear ho1 hk1

                      obtain ⟨G1, n1, cc1, hvv1⟩ : ∃ G n c, v1 = .slice G n c := by
                        rcases HO1.out.2 with ⟨e, -⟩ | ⟨g', c', -, e, -⟩
                        · exact ⟨_, _, _, e⟩
                        · exact ⟨_, _, _, e⟩
                      subst hvv1

                      have hz5 : bx ≤ w5.heap.size := by rw [HBX.out]; exact HK5.out.size
                      have HX5 := Lib.hid (HK5.out.heap HX4.out id)
                      have c51 := cell_blk HX5.out (i := 1) rfl
                      have K35 := Lib.hid (K34.out.trans0 HK5.out)
                      go_wp2_with (at_builtin; refine wl_appendC rfl _ _ rfl bx (.slice G1 n1 cc1) i ((L.take i).map cvVal) rfl HO1.out _ _ _ ((L.drop i2).map cvVal) (by rw [List.length_map, List.length_drop] <;> omega) rfl (cv_drop (HV.out _ K35.out) (by first | (intro g' e h; cases e; rfl) | (intro g' e h; exfalso; omega) | (intro g' e; cases e))) (one_cv _) (by omega) hz5 ?_)
                      intro v3 w7 ho3 hk3
                      have HK7 := Lib.hid (HK5.out.new hk3 (fun y e => by
                        rcases HO1.out.2 with ⟨e', -⟩ | ⟨g', c', -, e', hb', -⟩
                        · rw [e'] at e; cases e
                        · rw [e'] at e; cases e; rw [← HBX.out]; exact hb'))
                      have hcv : OwnCv w7 (gp + 1) v3 (L.take i ++ L.drop i2) := by
                        refine OwnCv.low (base := bx) ?_ (by rw [HBX.out]; omega)
                        unfold OwnCv
                        rw [List.length_append, List.length_take, List.length_drop, Nat.min_eq_left (by omega), List.map_append]
                        first
                          | simpa [List.map_take, List.map_drop] using ho3
                          | (rw [show L.length - i2 = 0 by omega]; simpa [List.map_take, List.map_drop] using ho3)
                      have K7 := Lib.hid (K4.out.trans0 HK7.out)
                      have HCV7 := Lib.hid hcv
                      have O7 := Lib.hid (O4.out.kept HK7.out)
                      clear ho3 hk3 hcv
                      go_wp2
                      go_meet
                      case rel =>
                        refine ⟨n, L.take i ++ L.drop i2, ?_, rfl, ?_, HCV7.out, ?_, ?_, K7.out⟩
                        · have := HENC.out
                          have := HRM.out
                          rw [HBS.out]
                          refine congrArg (Value.int .i64) ?_
                          omega
                        · have := HENC.out
                          have := HROOM.out
                          have h9 := OK.out.cnt
                          rw [HBS.out]
                          refine ⟨by omega, by rw [← HBS.out, List.length_map, List.length_append, List.length_take, List.length_drop]; omega, OK.out.nxt⟩
                        · intro s hs
                          rcases List.mem_append.1 hs with h | h
                          · exact RA.out s (List.mem_of_mem_take h)
                          · exact RA.out s (List.mem_of_mem_drop h)
                        · rw [HBS.out]; exact O7.out

                    · skip
                      go_wp2_with (at_builtin; refine wl_appendC rfl _ _ rfl bx (.slice none 0 0) 0 [] rfl (World.ownsRow_nil _ _ _ _) _ _ _ ((L.take i).map cvVal) (by rw [List.length_map, List.length_take] <;> omega) rfl (cv_take (HV.out _ K34.out)) (one_cv _) (by omega) (Nat.le_of_eq HBX.out) ?_)
                      intro v1 w5 ho1 hk1
                      have HO1 := Lib.hid (show w5.ownsRow bx 22 1 v1 i ((L.take i).map cvVal) from by simpa using ho1)
                      have HK5 := Lib.hid (hk1.mono (T := fun _ => False) (fun x _ e => by simp [Value.ownBlock] at e))
                      clear ho1 hk1

                      obtain ⟨G1, n1, cc1, hvv1⟩ : ∃ G n c, v1 = .slice G n c := by
                        rcases HO1.out.2 with ⟨e, -⟩ | ⟨g', c', -, e, -⟩
                        · exact ⟨_, _, _, e⟩
                        · exact ⟨_, _, _, e⟩
                      subst hvv1

                      have hz5 : bx ≤ w5.heap.size := by rw [HBX.out]; exact HK5.out.size
                      have HX5 := Lib.hid (HK5.out.heap HX4.out id)
                      have c51 := cell_blk HX5.out (i := 1) rfl
                      have K35 := Lib.hid (K34.out.trans0 HK5.out)
                      go_wp2_with (at_builtin; refine wl_appendC rfl _ _ rfl bx (.slice G1 n1 cc1) i ((L.take i).map cvVal) rfl HO1.out _ _ _ ((L.drop i2).map cvVal) (by rw [List.length_map, List.length_drop] <;> omega) rfl (cv_drop (HV.out _ K35.out) (by first | (intro g' e h; cases e; rfl) | (intro g' e h; exfalso; omega) | (intro g' e; cases e))) (one_cv _) (by omega) hz5 ?_)
                      intro v3 w7 ho3 hk3
                      have HK7 := Lib.hid (HK5.out.new hk3 (fun y e => by
                        rcases HO1.out.2 with ⟨e', -⟩ | ⟨g', c', -, e', hb', -⟩
                        · rw [e'] at e; cases e
                        · rw [e'] at e; cases e; rw [← HBX.out]; exact hb'))
                      have hcv : OwnCv w7 (gp + 1) v3 (L.take i ++ L.drop i2) := by
                        refine OwnCv.low (base := bx) ?_ (by rw [HBX.out]; omega)
                        unfold OwnCv
                        rw [List.length_append, List.length_take, List.length_drop, Nat.min_eq_left (by omega), List.map_append]
                        first
                          | simpa [List.map_take, List.map_drop] using ho3
                          | (rw [show L.length - i2 = 0 by omega]; simpa [List.map_take, List.map_drop] using ho3)
                      have K7 := Lib.hid (K4.out.trans0 HK7.out)
                      have HCV7 := Lib.hid hcv
                      have O7 := Lib.hid (O4.out.kept HK7.out)
                      clear ho3 hk3 hcv
                      go_wp2
                      go_meet
                      case rel =>
                        refine ⟨n, L.take i ++ L.drop i2, ?_, rfl, ?_, HCV7.out, ?_, ?_, K7.out⟩
                        · have := HENC.out
                          have := HRM.out
                          rw [HBS.out]
                          refine congrArg (Value.int .i64) ?_
                          omega
                        · have := HENC.out
                          have := HROOM.out
                          have h9 := OK.out.cnt
                          rw [HBS.out]
                          refine ⟨by omega, by rw [← HBS.out, List.length_map, List.length_append, List.length_take, List.length_drop]; omega, OK.out.nxt⟩
                        · intro s hs
                          rcases List.mem_append.1 hs with h | h
                          · exact RA.out s (List.mem_of_mem_take h)
                          · exact RA.out s (List.mem_of_mem_drop h)
                        · rw [HBS.out]; exact O7.out
            · as_aux_lemma =>
                generalize x.next = nx at *
                have hI := setNext_any w.heap.size gp 512 (Pg kind n (L.map (fun s => s.b))) nx w3 OB3.out (by rw [Pg_len OK.out.room]; omega)
                rw [Pg_len OK.out.room, setNextM_Pg OK.out] at hI
                by_cases hf : nx < 0 ∨ 4294967296 ≤ nx
                · rw [if_pos hf] at hI
                  have HI := Lib.hid (show Calls Tryd.prog 27 #[.slice (some ⟨gp, 0, none⟩) 512 512, .int .i64 nx] w3 fun e w' => e = .returned (.bool false) ∧ OwnB w' w.heap.size gp 512 (Pg kind n (L.map (fun s => s.b))) ∧ Kept (fun y => y = gp) w3 w' from hI)
                  clear hI hf
                  go_wp2_with fail
                  refine HI.out.mono ?_
                  rintro e w4 ⟨rfl, ho4, hk4⟩
                  have K4 := Lib.hid (K3.out.new hk4 (fun y e => by omega))
                  have K34 := Lib.hid ((K13.out.mono (T := fun y => y = gp) (fun _ _ h => h.elim)).trans' hk4)
                  have HX4 := Lib.hid (hk4.heap HX.out (by omega))
                  have O4 := Lib.hid ho4
                  have CV4 := Lib.hid (CV3.out.kept hk4 (fun y e => by omega))
                  have z4 := hk4.size
                  have c40 := cell_blk HX4.out (i := 0) rfl
                  have c41 := cell_blk HX4.out (i := 1) rfl
                  have c42 := cell_blk HX4.out (i := 2) rfl
                  have c43 := cell_blk HX4.out (i := 3) rfl
                  clear ho4 hk4
                  go_wp2
                  go_meet
                  case rel => exact ⟨n, L, by rw [HRM.out], rfl, OK.out, CV4.out, RA.out, O4.out, K4.out⟩

                · rw [if_neg hf] at hI
                  obtain ⟨m, rfl⟩ : ∃ m : Nat, nx = m := ⟨nx.toNat, by omega⟩
                  rw [Int.toNat_natCast] at hI
                  have HI := Lib.hid (show Calls Tryd.prog 27 #[.slice (some ⟨gp, 0, none⟩) 512 512, .int .i64 m] w3 fun e w' => e = .returned (.bool true) ∧ OwnB w' w.heap.size gp 512 (Pg kind m (L.map (fun s => s.b))) ∧ Kept (fun y => y = gp) w3 w' from hI)
                  have hm : m < 4294967296 := by omega
                  clear hI hf
                  go_wp2_with fail
                  refine HI.out.mono ?_
                  rintro e w4 ⟨rfl, ho4, hk4⟩
                  have K4 := Lib.hid (K3.out.new hk4 (fun y e => by omega))
                  have K34 := Lib.hid ((K13.out.mono (T := fun y => y = gp) (fun _ _ h => h.elim)).trans' hk4)
                  have HX4 := Lib.hid (hk4.heap HX.out (by omega))
                  have O4 := Lib.hid ho4
                  have CV4 := Lib.hid (CV3.out.kept hk4 (fun y e => by omega))
                  have z4 := hk4.size
                  have c40 := cell_blk HX4.out (i := 0) rfl
                  have c41 := cell_blk HX4.out (i := 1) rfl
                  have c42 := cell_blk HX4.out (i := 2) rfl
                  have c43 := cell_blk HX4.out (i := 3) rfl
                  clear ho4 hk4

                  go_wp2
                  go_meet
                  case rel => exact ⟨m, L, by rw [HRM.out], rfl, ⟨OK.out.room, OK.out.cnt, hm⟩, CV4.out, RA.out, O4.out, K4.out⟩
          case rest =>
            as_aux_lemma =>
              obtain ⟨n2, L2, e7, e8, ok2, cv2, ra2, ob2, k2⟩ := hcut
              obtain ⟨rm, hrm⟩ : ∃ rm : Int, rm = 506 - ((encs (L2.map (fun s => s.b))).length : Int) := ⟨_, rfl⟩
              rw [← hrm] at e7
              obtain ⟨G2, cap2, e6, -, hV2⟩ := cv2.shape
              have lc2 : L2.length ≤ 255 := by have := ok2.cnt; rwa [List.length_map] at this
              have P1 := Lib.hid (fun wz (hz : Kept (fun _ => False) wc wz) => pgCheck (ob2.kept hz) ok2)
              have P2 := Lib.hid (fun wz (hz : Kept (fun _ => False) wc wz) => pgKind (ob2.kept hz) ok2)
              have P3 := Lib.hid (fun wz (hz : Kept (fun _ => False) wc wz) => pgCount (m := L2.length) (ob2.kept hz) ok2 (List.length_map _))
              have P4 := Lib.hid (fun wz (hz : Kept (fun _ => False) wc wz) => pgRoom (ob2.kept hz) ok2 hrm)
              have P5 := Lib.hid (fun wz (hz : Kept (fun _ => False) wc wz) => pgNext (ob2.kept hz) ok2)
              have P6 := Lib.hid (fun wz (hz : Kept (fun _ => False) wc wz) (i : Nat) (y : CvD) (hy : L2[i]? = some y) => pgGet (i := i) (x := y.b) (ob2.kept hz) ok2 (by rw [List.getElem?_map, hy]; rfl))
              have PC := Lib.hid (fun wz (hz : Kept (fun _ => False) wc wz) (i : Nat) (y : CvD) (hy : L2[i]? = some y) => show ∃ g, G2 = some ⟨g, 0, none⟩ ∧ wz.cell? ⟨g, i, none⟩ = some (.slice y.A y.b.length y.c) from by
                obtain ⟨g, hg, hlt2, hc2⟩ := hV2 i y hy
                exact ⟨g, hg, (World.cell?_of_block (hz.block g hlt2 id)).trans hc2⟩)
              have PR := Lib.hid (fun wz (hz : Kept (fun _ => False) wc wz) (i : Nat) (y : CvD) (hy : L2[i]? = some y) => (ra2 y (List.mem_of_getElem? hy)).kept (k2.trans0 hz) (fun _ _ _ _ => id))
              have CC := Lib.hid (fun wz (hz : Kept (fun _ => False) wc wz) => CelAt.kept (kind := kind) (w := w) (gp := gp) (v6 := u6) (v7 := u7) (v8 := u8) ⟨n2, L2, hrm ▸ e7, e8, ok2, cv2, ra2, ob2, k2⟩ hz)
              have PL := Lib.hid (fun (i : Nat) (y : CvD) (hy : L2[i]? = some y) => show y.b.length ≤ 4611686018427387904 from by
                have h8 := encs_get_len (cs := L2.map (fun s => s.b)) (i := i) (by rw [List.length_map]; exact (List.getElem?_eq_some_iff.1 hy).1)
                have h9 := ok2.room
                obtain ⟨hi, rfl⟩ := List.getElem?_eq_some_iff.1 hy
                rw [List.getElem_map] at h8
                omega)
              have K2 := Lib.hid k2
              subst e6 e7 e8
              clear hrm ok2 cv2 ra2 ob2 k2 hV2
              go_wp2_with fail
              refine (P1.out _ (Kept.refl _ _)).mono ?_
              rintro e w4 ⟨rfl, hs4⟩
              have K4 := Lib.hid (hs4.kept (fun _ => False))
              clear hs4
              go_wp2_with fail
              refine (P2.out _ K4.out).mono ?_
              rintro e w5 ⟨rfl, hs5⟩
              have K5 := Lib.hid (K4.out.trans0 (hs5.kept (fun _ => False)))
              clear hs5
              go_wp2_with fail
              refine (P3.out _ K5.out).mono ?_
              rintro e w6 ⟨rfl, hs6⟩
              have K6 := Lib.hid (K5.out.trans0 (hs6.kept (fun _ => False)))
              clear hs6
              go_wp2_with fail
              refine (P4.out _ K6.out).mono ?_
              rintro e w7 ⟨rfl, hs7⟩
              have K7 := Lib.hid (K6.out.trans0 (hs7.kept (fun _ => False)))
              clear hs7
              go_wp2_with fail
              refine (P5.out _ K7.out).mono ?_
              rintro e w8 ⟨rfl, hs8⟩
              have K8 := Lib.hid (K7.out.trans0 (hs8.kept (fun _ => False)))
              clear hs8
              go_wp2
              go_loopw [16] (fun v wr2 => ∃ j : Nat, j ≤ L2.length ∧ v = .int .i64 j ∧ Kept (fun _ => False) wc wr2) (fun v _ => L2.length - (intOf v).toNat)
              case atStart => exact ⟨0, Nat.zero_le _, rfl, K8.out⟩
              case round =>
                obtain ⟨j, hj, rfl, hkj⟩ := hrel
                have KJ := Lib.hid hkj
                clear hkj
                by_cases hjl : j < L2.length
                · have HJL := Lib.hid hjl
                  obtain ⟨y, hy⟩ : ∃ y, L2[j]? = some y := ⟨_, List.getElem?_eq_getElem hjl⟩
                  have HY := Lib.hid hy
                  obtain ⟨gG, rfl, -⟩ := PC.out _ KJ.out j y hy
                  have j3 : (j : Int) < (L2.length : Int) := by omega
                  have j0 : (0 : Int) ≤ (j : Int) := by omega
                  clear hy
                  go_wp2_with fail
                  refine (P6.out _ KJ.out j y HY.out).mono ?_
                  rintro e w9 ⟨hk9, g9, c9, rfl, ho9⟩
                  have K9 := Lib.hid (KJ.out.trans0 hk9)
                  have R9 := Lib.hid ho9.rdp
                  obtain ⟨gG', eG, hcell9⟩ := PC.out _ K9.out j y HY.out
                  cases eG
                  have RY := Lib.hid (PR.out _ K9.out j y HY.out)
                  clear hk9 ho9
                  go_wp2_with fail
                  refine (same_any (some ⟨g9, 0, none⟩) y.A c9 y.c y.b y.b w9 R9.out RY.out (PL.out j y HY.out)).mono ?_
                  rintro e w10 ⟨rfl, hs10⟩
                  have K10 := Lib.hid (K9.out.trans0 (hs10.kept (fun _ => False)))
                  clear hs10
                  go_wp2
                  go_roundw
                  case rel => exact ⟨j + 1, HJL.out, by go_num, K10.out⟩
                  case measure =>
                    have := HJL.out
                    simp [intOf]; omega
                · have j3 : ¬ ((j : Int) < (L2.length : Int)) := by omega
                  go_wp2
                  go_roundw
                  case rel => exact ⟨k + 1, HLT.out, by go_num, CC.out _ KJ.out⟩
                  case measure =>
                    have := HLT.out
                    simp [intOf]; omega
      · have hge : ¬ ((k : Int) < (L0.length : Int)) := by omega
        have K5 := Lib.hid (show Kept (fun _ => False) w wr from by obtain ⟨_, _, _, _, _, _, _, _, h⟩ := hce; exact h)
        go_wp2
        go_ret
        exact ⟨rfl, K5.out⟩
end Go.Proofs.YtndflnedkpmpfaaDoor
