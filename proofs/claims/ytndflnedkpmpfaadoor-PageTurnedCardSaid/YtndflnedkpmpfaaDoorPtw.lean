/-
  No statement is proved here: PageTurned's walk.
-/
import Derived.Test.YtndflnedkpmpfaaDoorPtu
namespace Go.Proofs.YtndflnedkpmpfaaDoor
open Go.RowKit

set_option maxRecDepth 200000 in
set_option maxHeartbeats 2000000 in
theorem turned512 (A B : Option Addr) (ac bc : Nat) (a b : Bytes) (w : World) (ha : RdB w A a) (hb : RdB w B b) (la : a.length = 512) (lb : b.length = 512) (hac : 512 ≤ ac) (hac2 : ac ≤ 9223372036854775807) (hbc : 512 ≤ bc) (hbc2 : bc ≤ 9223372036854775807) :
    Calls Tryd.prog 5 #[.slice A 512 ac, .slice B 512 bc] w fun e w' => e = .returned (.bool true) ∧ Kept (fun _ => False) w w' := by
  have HA := Lib.hid ha
  have HB := Lib.hid hb
  have LA := Lib.hid la
  have LB := Lib.hid lb
  have HW := Lib.hid (awake_any w)
  clear ha hb la lb
  go_enter Tryd.func5, Tryd.ntmps5
  go_wp2_with (go_at_call 8; refine HW.out.mono ?_; rintro e w1 ⟨rfl, hk⟩; have K1 := Lib.hid hk; have HD := Lib.hid (diff_any A B ac bc a b w1 (HA.out.kept hk (fun _ _ _ _ => id)) (HB.out.kept hk (fun _ _ _ _ => id)) LA.out LB.out hac hac2 hbc hbc2); have z1 := hk.size; clear hk)
  refine HD.out.mono ?_
  rintro e w2 ⟨v, L, rfl, hL, hS, hm, hk⟩
  have K2 := Lib.hid (K1.out.trans0 hk)
  obtain ⟨G, cap, rfl, hV⟩ := hL.view
  have HV := Lib.hid hV
  have HS := Lib.hid hS
  have HM := Lib.hid hm
  have z2 := K2.out.size
  have HX := Lib.hid (copy512 A ac a w2 (HA.out.kept K2.out (fun _ _ _ _ => id)) LA.out)
  clear hL hS hm hk HD K1 hV
  go_wp2_with fail
  refine HX.out.mono ?_
  rintro e w3 ⟨gx, cx, rfl, hx, hcx, hcx2, hk3⟩
  have K23 := Lib.hid hk3
  have K3 := Lib.hid (K2.out.trans0 hk3)
  have X3 := Lib.hid hx
  have HY := Lib.hid (copy512 B bc b w3 (HB.out.kept K3.out (fun _ _ _ _ => id)) LB.out)
  have z3 := K23.out.size
  clear hx hk3 HX
  go_wp2_with fail
  refine HY.out.mono ?_
  rintro e w4 ⟨gy, cy, rfl, hy, hcy, hcy2, hk4⟩
  have K24 := Lib.hid (K23.out.trans0 hk4)
  have K4 := Lib.hid (K3.out.trans0 hk4)
  have X4 := Lib.hid (X3.out.kept hk4)
  have Y4 := Lib.hid hy
  have lx : w2.heap.size ≤ gx := X3.out.base_le
  have ly : w3.heap.size ≤ gy := hy.base_le
  have lxy : gx < gy := by
    obtain ⟨cur, -, hh, -⟩ := X3.out.form
    have := heap_lt hh
    omega
  clear hy hk4 HY X3
  go_wp2
  have hlm : L.length = (diffM a b).length := by rw [← HM.out]; simp
  have x0 : OwnB w4 w2.heap.size gx cx (mix a b ((diffM a b).take 0)) := by rw [List.take_zero, mix_nil b LA.out]; exact X4.out
  have y0 : OwnB w4 w3.heap.size gy cy (mix b a ((diffM a b).take 0)) := by rw [List.take_zero, mix_nil a LB.out]; exact Y4.out
  have hls : L.length ≤ 600 := by
    have h1 := stD_len a b 512
    rw [hlm]
    unfold diffM putD
    split
    · rw [List.length_append, List.length_singleton]; omega
    · omega
  have HLM := Lib.hid hlm
  have X0 := Lib.hid x0
  have Y0 := Lib.hid y0
  clear hlm x0 y0
  go_loopw [8, 9] (fun la i wr => ∃ k : Nat, k ≤ L.length ∧ i = .int .i64 k ∧ la = .int .i64 (lastOf (diffM a b) k) ∧ OwnB wr w2.heap.size gx cx (mix a b ((diffM a b).take k)) ∧ OwnB wr w3.heap.size gy cy (mix b a ((diffM a b).take k)) ∧ Kept (fun _ => False) w2 wr) (fun la i _ => L.length - (intOf i).toNat)
  case atStart => exact ⟨0, by omega, rfl, rfl, X0.out, Y0.out, K24.out⟩
  case round =>
    obtain ⟨k, hk, rfl, rfl, hx, hy, hkr⟩ := hrel
    have HX := Lib.hid hx
    have HY := Lib.hid hy
    have HK := Lib.hid hkr
    have zr := hkr.size
    clear hx hy hkr X0 Y0 X4 Y4
    by_cases hlt : k < L.length
    · have HLT := Lib.hid hlt
      have hLk := List.getElem?_eq_getElem hlt
      obtain ⟨g, rfl, hg, hc⟩ := HV.out k _ hLk
      have hSk : (diffM a b)[k]? = some (L[k].f, L[k].t) := by rw [← HM.out, List.getElem?_map, hLk]; rfl
      have hgo := good_at (diffM_good a b) hSk
      have hseg := HS.out _ (List.getElem_mem hlt)
      generalize L[k] = sp at hLk hc hSk hgo hseg
      obtain ⟨f, t, g1, c1, g2, c2⟩ := sp
      obtain ⟨⟨q1, q2, q3, q4⟩, q5, q6, q7, q8, q9⟩ := id hgo
      simp only at q1 q2 q3 q4 q5 q8 q9 hseg hSk
      obtain ⟨n, rfl⟩ : ∃ n, t = f + n := ⟨t - f, by omega⟩
      have en : f + n - f = n := by omega
      have hl1 : (segB a (f, f + n)).length = n := by rw [segB_len (by rw [LA.out]; exact q2)]; exact en
      have hl2 : (segB b (f, f + n)).length = n := by rw [segB_len (by rw [LB.out]; exact q2)]; exact en
      have hcr : ∀ j u, (spVals ⟨f, f + n, g1, c1, g2, c2⟩)[j]? = some u → wr.cell? ⟨g, k * 4 + j, none⟩ = some u := fun j u hu => (World.cell?_of_block (HK.out.block _ hg id)).trans (hc j u hu)
      simp only [spVals, en] at hcr
      have HCR : RowKit.Hid (∀ j u, #[Value.int .i64 0, .int .i64 f, .slice (some ⟨g1, 0, none⟩) n c1, .slice (some ⟨g2, 0, none⟩) n c2][j]? = some u → wr.cell? ⟨g, k * 4 + j, none⟩ = some u) := Lib.hid (fun j u hu => hcr j u (by simpa using hu))
      have HQ := Lib.hid hgo
      have HG1 := Lib.hid (hseg.1.kept HK.out)
      have HG2 := Lib.hid (hseg.2.kept HK.out)
      have HL1 := Lib.hid hl1
      have HL2 := Lib.hid hl2
      have HSK := Lib.hid hSk
      have i0 : (0 : Int) ≤ (k : Int) := by omega
      have i1 : (k : Int) < (L.length : Int) := by omega
      obtain ⟨m, hm⟩ : ∃ m, n = m + 1 := ⟨n - 1, by omega⟩
      have hm0 : f + m = f + n - 1 := by omega
      have HM0 := Lib.hid hm0
      have hmn : m < n := by omega
      have hml : IntKind.i64.wrap ((n : Int) - 1) = (m : Int) := by rw [IntKind.wrap_i64] <;> omega
      have u1 : n ≤ 512 := by omega
      have u2 : f + n ≤ 512 := q2
      have HLK := Lib.hid hLk
      clear hm hm0 hcr hl1 hl2 hseg hc hLk hSk en hgo q3 q4
      go_wp2_with (refine wl_load_mid rfl 38 _ rfl g (k * 4) rfl #[.int .i64 0, .int .i64 f, .slice (some ⟨g1, 0, none⟩) n c1, .slice (some ⟨g2, 0, none⟩) n c2] HCR.out Tryd.underlying38 rfl (by kernel_rfl) ?_)
      have HAL := Lib.hid ((Kept.refl (fun _ => False) wr).alloc (.cells #[.int .i64 0, .int .i64 f, .slice (some ⟨g1, 0, none⟩) n c1, .slice (some ⟨g2, 0, none⟩) n c2] 38))
      have HBL := Lib.hid (heap_alloc_new wr (.cells #[.int .i64 0, .int .i64 f, .slice (some ⟨g1, 0, none⟩) n c1, .slice (some ⟨g2, 0, none⟩) n c2] 38))
      have hps : wr.heap.size < (wr.alloc (.cells #[.int .i64 0, .int .i64 f, .slice (some ⟨g1, 0, none⟩) n c1, .slice (some ⟨g2, 0, none⟩) n c2] 38)).heap.size := by simp
      have lgx : gx < wr.heap.size := by
        obtain ⟨cur, -, hh, -⟩ := HX.out.form
        exact heap_lt hh
      have lgy : gy < wr.heap.size := by
        obtain ⟨cur, -, hh, -⟩ := HY.out.form
        exact heap_lt hh
      have lg1 : g1 < w2.heap.size := by
        obtain ⟨cur, -, hh, -⟩ := (HS.out _ (List.mem_of_getElem? HLK.out)).1.form
        exact heap_lt hh
      have lg2 : g2 < w2.heap.size := by
        obtain ⟨cur, -, hh, -⟩ := (HS.out _ (List.mem_of_getElem? HLK.out)).2.form
        exact heap_lt hh
      generalize wr.alloc (.cells #[.int .i64 0, .int .i64 f, .slice (some ⟨g1, 0, none⟩) n c1, .slice (some ⟨g2, 0, none⟩) n c2] 38) = W at *
      obtain ⟨ps, hpe⟩ : ∃ ps, ps = wr.heap.size := ⟨_, rfl⟩
      rw [← hpe] at hps ⊢
      have HB4 := Lib.hid (show W.heap[ps]? = some (.cells #[.int .i64 0, .int .i64 f, .slice (some ⟨g1, 0, none⟩) n c1, .slice (some ⟨g2, 0, none⟩) n c2] 38 (0, 0)) from by rw [hpe]; exact HBL.out)
      have HPE := Lib.hid hpe
      clear hpe
      have b0 := cell_blk HB4.out (i := 0) rfl
      have b1 := cell_blk HB4.out (i := 1) rfl
      have b2 := cell_blk HB4.out (i := 2) rfl
      have b3 := cell_blk HB4.out (i := 3) rfl
      have s10 := (HG1.out.kept HAL.out).cellAt (i := 0) (by rw [HL1.out]; omega)
      have s1m := (HG1.out.kept HAL.out).cellAt (i := m) (by rw [HL1.out]; omega)
      have s20 := (HG2.out.kept HAL.out).cellAt (i := 0) (by rw [HL2.out]; omega)
      have s2m := (HG2.out.kept HAL.out).cellAt (i := m) (by rw [HL2.out]; omega)
      rw [bAt_segB (by show f + 0 < f + n; omega)] at s10 s20
      rw [bAt_segB (by show f + m < f + n; omega)] at s1m s2m
      have e0 : (((bAt a (f + 0)).toNat : Int) == ((bAt b (f + 0)).toNat : Int)) = false := by
        rw [beq_eq_false_iff_ne]; intro e; exact HQ.out.1.2.2.1 (UInt8.toNat_inj.1 (Int.ofNat_inj.1 (by simpa using e)))
      have em : (((bAt a (f + m)).toNat : Int) == ((bAt b (f + m)).toNat : Int)) = false := by
        rw [beq_eq_false_iff_ne, HM0.out]; intro e; exact HQ.out.1.2.2.2 (UInt8.toNat_inj.1 (Int.ofNat_inj.1 (by simpa using e)))
      simp only at s10 s1m s20 s2m
      generalize bAt a (f + 0) = r1 at s10 e0
      generalize bAt b (f + 0) = r2 at s20 e0
      generalize bAt a (f + m) = r3 at s1m em
      generalize bAt b (f + m) = r4 at s2m em
      have v0 : (0 : Int) < (n : Int) := by omega
      have v1 : ¬ (n : Int) < 1 := by omega
      have v2 : ¬ (f : Int) < 0 := by omega
      have v3 : IntKind.i64.wrap ((f : Int) + (n : Int)) = (f : Int) + (n : Int) := by rw [IntKind.wrap_i64] <;> omega
      have v4 : ¬ (512 : Int) < (f : Int) + (n : Int) := by omega
      have v5 : IntKind.i64.wrap (lastOf (diffM a b) k + 8) = lastOf (diffM a b) k + 8 := by rw [IntKind.wrap_i64] <;> omega
      have v6 : ¬ (f : Int) < lastOf (diffM a b) k + 8 := by omega
      have v7 : (0 : Int) ≤ (m : Int) := by omega
      have v8 : (m : Int) < (n : Int) := by omega
      have v9 : (0 : Int) ≤ (f : Int) := by omega
      clear q5 q6 q7 q8 q9
      generalize lastOf (diffM a b) k = la at v5 v6 ⊢
      go_quiet (fail)
      have HAL2 := Lib.hid (HAL.out.drewN nq)
      have HB5 := Lib.hid (((Kept.refl (fun _ => False) W).drewN nq).heap HB4.out id)
      have HX5 := Lib.hid (HX.out.kept HAL2.out)
      have HY5 := Lib.hid (HY.out.kept HAL2.out)
      have HK5 := Lib.hid (HK.out.trans0 HAL2.out)
      clear b0 b1 b2 b3 s10 s1m s20 s2m e0 em HBL HB4 v0 v1 v2 v4 v5 v6 v7 v8 hml hmn u1 hps HG1 HG2
      generalize W.drewN nq = W2 at *
      have b1 := cell_blk HB5.out (i := 1) rfl
      have b2 := cell_blk HB5.out (i := 2) rfl
      have b3 := cell_blk HB5.out (i := 3) rfl
      have p1 : (f : Int) ≤ 512 := by omega
      have p2 : f ≤ 512 := by omega
      have p3 : ¬ cx = f := by omega
      have p4 : ¬ cy = f := by omega
      have p5 : (f : Int) ≤ (cx : Int) := by omega
      have p6 : (f : Int) ≤ (cy : Int) := by omega
      have b2d := (World.cell?_of_block (((Kept.refl (fun _ => False) W2).drew).block ps (block_lt_of_cell b2) id)).trans b2
      have b3d := (World.cell?_of_block (((Kept.refl (fun _ => False) W2).drew).block ps (block_lt_of_cell b3) id)).trans b3
      have b1d := (World.cell?_of_block (((Kept.refl (fun _ => False) W2).drew).block ps (block_lt_of_cell b1) id)).trans b1
      have HX6 := Lib.hid (HX5.out.kept ((Kept.refl (fun _ => False) W2).drew))
      have HSB := Lib.hid (((((HS.out _ (List.mem_of_getElem? HLK.out)).2.kept HK5.out).kept ((Kept.refl (fun _ => False) W2).drew)).rdp))
      have hgx : ps ≠ gx := by have := HPE.out; omega
      have hgy : ps ≠ gy := by have := HPE.out; omega
      go_wp2
      go_region_held3 (fun w' => w'.cell? ⟨ps, 1, none⟩ = some (.int .i64 (f : Int)) ∧ w'.cell? ⟨ps, 3, none⟩ = some (.slice (some ⟨g2, 0, none⟩) n c2))
        (first
          | exact ⟨b1d, b3d⟩
          | exact ⟨(World.cell?_of_block (hk7.block ps (block_lt_of_cell b1d) hgx)).trans b1d, (World.cell?_of_block (hk7.block ps (block_lt_of_cell b3d) hgx)).trans b3d⟩)
        (first
          | (refine step_copyB rfl _ _ (by rfl) HX6.out f (by rw [mix_len]; exact p2) _ (some ⟨g2, 0, none⟩) (fun _ => rfl) (segB b (f, f + n)) HSB.out _ _ (by rw [mix_len]; rfl) (by rw [HL2.out]; rfl) ?_
             intro n7 w7 hn7 hx7 hk7))
      have HX7 := Lib.hid (show OwnB w7 w2.heap.size gx cx (mix a b ((diffM a b).take (k + 1))) from by rw [HQ.out.2.2.2.2.2, ← mix_snoc a b _ (s := (f, f + n)) (by show f < f + n; omega) u2 LB.out]; exact hx7)
      have HB7 := Lib.hid (hk7.heap (((Kept.refl (fun _ => False) W2).drew).heap HB5.out id) hgx)
      have HY7 := Lib.hid (((HY5.out.kept ((Kept.refl (fun _ => False) W2).drew)).keep hk7 (by omega)).kept ((Kept.refl (fun _ => False) w7).drew))
      have HK7 := Lib.hid ((HK5.out.drew).new hk7 (fun x e => by omega))
      have HSA := Lib.hid ((((((HS.out _ (List.mem_of_getElem? HLK.out)).1.kept HK7.out).kept ((Kept.refl (fun _ => False) w7).drew))).rdp))
      clear b1 b2 b3 b1d b2d b3d hn7 hx7 hk7
      have b1 := cell_blk HB7.out (i := 1) rfl
      have b2 := cell_blk HB7.out (i := 2) rfl
      have b2d := (World.cell?_of_block (((Kept.refl (fun _ => False) w7).drew).block ps (block_lt_of_cell b2) id)).trans b2
      have b1d := (World.cell?_of_block (((Kept.refl (fun _ => False) w7).drew).block ps (block_lt_of_cell b1) id)).trans b1
      go_wp2
      go_region_held3 (fun w' => w'.cell? ⟨ps, 1, none⟩ = some (.int .i64 (f : Int)) ∧ w'.cell? ⟨ps, 2, none⟩ = some (.slice (some ⟨g1, 0, none⟩) n c1))
        (first
          | exact ⟨b1d, b2d⟩
          | exact ⟨(World.cell?_of_block (hk8.block ps (block_lt_of_cell b1d) hgy)).trans b1d, (World.cell?_of_block (hk8.block ps (block_lt_of_cell b2d) hgy)).trans b2d⟩)
        (first
          | (refine step_copyB rfl _ _ (by rfl) HY7.out f (by rw [mix_len]; exact p2) _ (some ⟨g1, 0, none⟩) (fun _ => rfl) (segB a (f, f + n)) HSA.out _ _ (by rw [mix_len]; rfl) (by rw [HL1.out]; rfl) ?_
             intro n8 w8 hn8 hy8 hk8))
      have HY8 := Lib.hid (show OwnB w8 w3.heap.size gy cy (mix b a ((diffM a b).take (k + 1))) from by rw [HQ.out.2.2.2.2.2, ← mix_snoc b a _ (s := (f, f + n)) (by show f < f + n; omega) u2 LA.out]; exact hy8)
      have HX8 := Lib.hid ((HX7.out.kept ((Kept.refl (fun _ => False) w7).drew)).keep hk8 (by omega))
      have HK8 := Lib.hid ((HK7.out.drew).new hk8 (fun x e => by omega))
      have b18 := cell_blk (hk8.heap (((Kept.refl (fun _ => False) w7).drew).heap HB7.out id) hgy) (i := 1) rfl
      clear b1 b2 b1d b2d hn8 hy8 hk8
      go_wp2
      go_roundw
      case rel => exact ⟨k + 1, HLT.out, by go_num, by rw [HQ.out.2.2.2.2.1]; rfl, HX8.out, HY8.out, HK8.out⟩
      case measure =>
        have := HLT.out
        simp [intOf]; omega
    · have hge : ¬ ((k : Int) < (L.length : Int)) := by omega
      have hk2 : k = (diffM a b).length := by have := HLM.out; omega
      have hxe : OwnB wr w2.heap.size gx cx b := by have := HX.out; rwa [hk2, List.take_length, mix_all LB.out (diffM_good a b)] at this
      have hye : OwnB wr w3.heap.size gy cy a := by have := HY.out; rwa [hk2, List.take_length, mix_all LA.out (diffM_good a b).symm] at this
      have hs1 := same_any (some ⟨gx, 0, none⟩) B cx bc b b wr hxe.rdp (HB.out.kept (K2.out.trans0 HK.out) (fun _ _ _ _ => id)) (by rw [LB.out]; decide)
      have hs2 := fun (wz : World) (hz : Same wr wz) => same_any (some ⟨gy, 0, none⟩) A cy ac a a wz (hye.rdp.kept (hz.kept (fun _ => False)) (fun _ _ _ _ => id)) ((HA.out.kept (K2.out.trans0 HK.out) (fun _ _ _ _ => id)).kept (hz.kept (fun _ => False)) (fun _ _ _ _ => id)) (by rw [LA.out]; decide)
      rw [LB.out] at hs1
      simp only [decide_true] at hs1 hs2
      have hs2' : ∀ wz, Same wr wz → Calls Tryd.prog 20 #[.slice (some ⟨gy, 0, none⟩) 512 cy, .slice A 512 ac] wz fun e w' => e = .returned (.bool true) ∧ Same wz w' := fun wz hz => by have := hs2 wz hz; rwa [LA.out] at this
      have HS1 := Lib.hid hs1
      have HS2 := Lib.hid hs2'
      clear hs1 hs2 hs2' hk2 hxe hye
      go_wp2_with fail
      refine HS1.out.mono ?_
      rintro e w9 ⟨rfl, h9⟩
      have H9 := Lib.hid h9
      clear h9
      go_wp2_with fail
      refine (HS2.out _ H9.out).mono ?_
      rintro e w10 ⟨rfl, h10⟩
      have H10 := Lib.hid h10
      clear h10
      go_wp2
      go_ret
      exact ⟨rfl, ((K2.out.trans0 HK.out).trans0 (H9.out.kept _)).trans0 (H10.out.kept _)⟩
/-- At least one of them is no page. -/
theorem turnedNone (A B : Option Addr) (n m ac bc : Nat) (w : World) (h : ¬ (n = 512 ∧ m = 512)) :
    Calls Tryd.prog 5 #[.slice A n ac, .slice B m bc] w fun e w' => e = .returned (.bool true) ∧ Kept (fun _ => False) w w' := by
  have HW := Lib.hid (awake_any w)
  have HD := Lib.hid (fun w => diff_none A B n m ac bc w h)
  go_enter Tryd.func5, Tryd.ntmps5
  by_cases h1 : 5000 < n
  · have e1 : (5000 : Int) < (n : Int) := by omega
    go_wp2_with (go_at_call 8; refine HW.out.mono ?_; rintro e w1 ⟨rfl, hk⟩; have K1 := Lib.hid hk; clear hk)
    go_ret
    exact ⟨rfl, K1.out⟩
  · have e1 : ¬ (5000 : Int) < (n : Int) := by omega
    by_cases h2 : 5000 < m
    · have e2 : (5000 : Int) < (m : Int) := by omega
      go_wp2_with (go_at_call 8; refine HW.out.mono ?_; rintro e w1 ⟨rfl, hk⟩; have K1 := Lib.hid hk; clear hk)
      go_ret
      exact ⟨rfl, K1.out⟩
    · have e2 : ¬ (5000 : Int) < (m : Int) := by omega
      by_cases h3 : n = 512
      · have h4 : ¬ m = 512 := fun e => h ⟨h3, e⟩
        have e4 : ((m : Int) != 512) = true := by rw [bne_iff_ne]; omega
        subst h3
        go_wp2_with (first | (go_at_call 8; refine HW.out.mono ?_; rintro e w1 ⟨rfl, hk⟩; have K1 := Lib.hid hk; clear hk) | (go_at_call 14; refine (HD.out _).mono ?_; rintro e w1 ⟨rfl, hk⟩; have K2 := Lib.hid hk; clear hk))
        go_ret
        exact ⟨rfl, K1.out.trans0 K2.out⟩
      · have e4 : ((n : Int) != 512) = true := by rw [bne_iff_ne]; omega
        go_wp2_with (first | (go_at_call 8; refine HW.out.mono ?_; rintro e w1 ⟨rfl, hk⟩; have K1 := Lib.hid hk; clear hk) | (go_at_call 14; refine (HD.out _).mono ?_; rintro e w1 ⟨rfl, hk⟩; have K2 := Lib.hid hk; clear hk))
        go_ret
        exact ⟨rfl, K1.out.trans0 K2.out⟩
theorem turned_any (A B : Option Addr) (ac bc : Nat) (a b : Bytes) (w : World) (ha : RdB w A a) (hb : RdB w B b) (hac : a.length ≤ ac) (hac2 : ac ≤ 9223372036854775807) (hbc : b.length ≤ bc) (hbc2 : bc ≤ 9223372036854775807) :
    Calls Tryd.prog 5 #[.slice A a.length ac, .slice B b.length bc] w fun e w' => e = .returned (.bool true) ∧ Kept (fun _ => False) w w' := by
  by_cases h : a.length = 512 ∧ b.length = 512
  · obtain ⟨h1, h2⟩ := h
    rw [h1, h2]
    exact turned512 A B ac bc a b w ha hb h1 h2 (by omega) hac2 (by omega) hbc2
  · exact turnedNone A B _ _ ac bc w h
end Go.Proofs.YtndflnedkpmpfaaDoor
