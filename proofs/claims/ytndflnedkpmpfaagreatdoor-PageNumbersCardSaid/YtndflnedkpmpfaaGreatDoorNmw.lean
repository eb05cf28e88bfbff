/-
  No statement is proved here: PageNumbers's walk.
-/
import Derived.Test.YtndflnedkpmpfaaGreatDoorNmo
import Derived.Deep.CutRange
namespace Go.Proofs.YtndflnedkpmpfaaGreatDoor
open Go.RowKit

/-- The page, in memory. -/
def PAt (w : World) (B g : Nat) (n : Nat) (cs : List Bytes) : Prop := OwnB w B g 512 (Pg 0 n cs)
theorem PAt.ins {w : World} {B g n : Nat} {cs : List Bytes} (h : PAt w B g n cs) (ok : PgOk n cs) (s : Int) (CA : Option Addr) (cc : Nat) (cell : Bytes) (hS : RdB w CA cell) (hcl : cell.length ≤ 1000000) (hg : cell ≠ [] → ∀ b off, CA = some ⟨b, off, none⟩ → b ≠ g) {e : Int} {cs' : List Bytes} (hi : insertM (Pg 0 n cs) s cell = (e, Pg 0 n cs')) :
    Calls Tryz.prog 5 #[.slice (some ⟨g, 0, none⟩) 512 512, .int .i64 s, .slice CA cell.length cc] w fun x w' => x = .returned (.int .i64 e) ∧ PAt w' B g n cs' ∧ Kept (fun x => x = g) w w' := by
  have hl := Pg_len (k := 0) (n := n) ok.room
  have := insert_loose B g 512 cc (Pg 0 n cs) cell CA w h (by omega) hS hcl hg s
  rw [hl, hi] at this
  exact this
theorem PAt.del {w : World} {B g n : Nat} {cs : List Bytes} (h : PAt w B g n cs) (ok : PgOk n cs) (s : Int) {e : Bool} {cs' : List Bytes} (hi : deleteM (Pg 0 n cs) s = (e, Pg 0 n cs')) :
    Calls Tryz.prog 7 #[.slice (some ⟨g, 0, none⟩) 512 512, .int .i64 s] w fun x w' => x = .returned (.bool e) ∧ PAt w' B g n cs' ∧ Kept (fun x => x = g) w w' := by
  have hl := Pg_len (k := 0) (n := n) ok.room
  have := delete_any B g 512 (Pg 0 n cs) s w h (by omega)
  rw [hl, hi] at this
  exact this
theorem PAt.nxt {w : World} {B g n : Nat} {cs : List Bytes} (h : PAt w B g n cs) (ok : PgOk n cs) (s : Int) {e : Bool} {n' : Nat} (hi : setNextM (Pg 0 n cs) s = (e, Pg 0 n' cs)) :
    Calls Tryz.prog 9 #[.slice (some ⟨g, 0, none⟩) 512 512, .int .i64 s] w fun x w' => x = .returned (.bool e) ∧ PAt w' B g n' cs ∧ Kept (fun x => x = g) w w' := by
  have hl := Pg_len (k := 0) (n := n) ok.room
  have := setNext_any B g 512 (Pg 0 n cs) s w h (by omega)
  rw [hl, hi] at this
  exact this
theorem PAt.keep {S : Nat → Prop} {w w' : World} {B g n : Nat} {cs : List Bytes} (h : PAt w B g n cs) (hk : Kept S w w') (hS : ¬ S g) : PAt w' B g n cs := OwnB.keep h hk hS
theorem nilB (w : World) : RdB w none [] := fun h => absurd rfl h
theorem doOdd (A : Option Addr) (c : Nat) (l : Bytes) (w : World) (h : RdB w A l) :
    Calls Tryz.prog 12 #[.int .u8 1, .slice A l.length c, .slice (some ⟨w.heap.size + 1, 0, none⟩) 3 3] ((w.alloc (.cells #[.int .u8 5] 5)).alloc (.cells #[.int .i64 0, .int .i64 0, .int .i64 0, .slice (some ⟨w.heap.size, 0, none⟩) 1 1, .int .i64 3, .int .i64 0, .int .i64 0, .slice none 0 0, .int .i64 4, .int .i64 0, .int .i64 3, .slice none 0 0] 32)) fun e w' => e = .returned (.bool true) ∧ Kept (fun _ => False) w w' := by
  have k1 : Kept (fun _ => False) w (w.alloc (.cells #[.int .u8 5] 5)) := (Kept.refl _ _).alloc _
  have b1 := heap_alloc_new w (.cells #[.int .u8 5] 5)
  have s1 : (w.alloc (.cells #[.int .u8 5] 5)).heap.size = w.heap.size + 1 := by simp
  generalize w.alloc (.cells #[.int .u8 5] 5) = w1 at *
  have k2 : Kept (fun _ => False) w1 (w1.alloc (.cells #[.int .i64 0, .int .i64 0, .int .i64 0, .slice (some ⟨w.heap.size, 0, none⟩) 1 1, .int .i64 3, .int .i64 0, .int .i64 0, .slice none 0 0, .int .i64 4, .int .i64 0, .int .i64 3, .slice none 0 0] 32)) := (Kept.refl _ _).alloc _
  have b2 := heap_alloc_new w1 (.cells #[.int .i64 0, .int .i64 0, .int .i64 0, .slice (some ⟨w.heap.size, 0, none⟩) 1 1, .int .i64 3, .int .i64 0, .int .i64 0, .slice none 0 0, .int .i64 4, .int .i64 0, .int .i64 3, .slice none 0 0] 32)
  rw [s1] at b2
  generalize w1.alloc _ = w2 at *
  have hb := k2.heap b1 id
  have := pageLives_any 1 A c l (some ⟨w.heap.size + 1, 0, none⟩) 3 [⟨0, 0, 0, [5]⟩, ⟨3, 0, 0, []⟩, ⟨4, 0, 3, []⟩] w2 ((h.kept k1 (fun _ _ _ _ => id)).kept k2 (fun _ _ _ _ => id)) (fun _ => ⟨_, 0, rfl, fun i x hx => by
    match i, hx with
    | 0, hx =>
      cases hx
      refine ⟨some ⟨w.heap.size, 0, none⟩, 1, fun j v hv => cell_blk b2 ?_, RdB.of_blk (l := [5]) hb⟩
      match j, hv with
      | 0, hv => cases hv; rfl
      | 1, hv => cases hv; rfl
      | 2, hv => cases hv; rfl
      | 3, hv => cases hv; rfl
    | 1, hx =>
      cases hx
      refine ⟨none, 0, fun j v hv => cell_blk b2 ?_, nilB _⟩
      match j, hv with
      | 0, hv => cases hv; rfl
      | 1, hv => cases hv; rfl
      | 2, hv => cases hv; rfl
      | 3, hv => cases hv; rfl
    | 2, hx =>
      cases hx
      refine ⟨none, 0, fun j v hv => cell_blk b2 ?_, nilB _⟩
      match j, hv with
      | 0, hv => cases hv; rfl
      | 1, hv => cases hv; rfl
      | 2, hv => cases hv; rfl
      | 3, hv => cases hv; rfl⟩)
  exact this.mono fun _ _ ⟨h1, h2⟩ => ⟨h1, (k1.trans0 k2).trans0 h2⟩
theorem make504 (wz : World) : (Instr.makeSlice 22 (.int .i64 504) (.int .i64 504)).run Tryz.prog wz = .ok (.slice (some ⟨wz.heap.size, 0, none⟩) 504 504) (wz.alloc (.cells (cellsOf (zeros 504)) 5)) := by
  obtain ⟨i, hi, h2, h3, h4⟩ := info_parts info5
  have hr := run_make (P := Tryz.prog) wz 22 5 i _ Tryz.underlying22 hi h2 .i64 .i64 504 504 (by omega) (by omega) (by rw [h4]; omega) (by omega)
  simp only [h3, Nat.mul_one] at hr
  rw [show (Value.int IntKind.u8 0).cells = #[Value.int .u8 0] from rfl, madeCells_zeros] at hr
  exact hr
set_option maxRecDepth 100000 in
set_option maxHeartbeats 8000000 in
theorem pageNumbers_any (w : World) :
    Calls Tryz.prog 3 #[] w fun e w' => e = .returned (.bool true) ∧ Kept (fun _ => False) w w' := by
  go_enter Tryz.func3, Tryz.ntmps3
  go_wp2_with fail
  refine (newP_any 0 w).mono ?_
  rintro e w1 ⟨gp, rfl, np, hb1, hk1⟩
  have P1 := Lib.hid (show PAt w1 w.heap.size gp 0 [] from by
    have := OwnB.of_blk hb1 np (by rw [newP_Pg, Pg_len ok_nil.room]; decide)
    rw [newP_Pg, Pg_len ok_nil.room] at this
    exact this)
  have K1 := Lib.hid hk1
  have lp1 : gp < w1.heap.size := heap_lt hb1
  clear hb1 hk1
  -- Insert of 505 bytes
  go_wp2_with (refine wl_makeB rfl _ _ rfl .i64 .i64 505 505 rfl rfl (Nat.le_refl _) (by decide) ?_)
  intro g2 w2 n2 m2 hb2 hk2
  have P2 := Lib.hid (P1.out.keep hk2 id)
  have K2 := Lib.hid (K1.out.trans0 hk2)
  have R2 := Lib.hid (show RdB w2 (some ⟨g2, 0, none⟩) (zeros 505) from RdB.of_blk hb2)
  clear hb2 hk2
  go_wp2_with fail
  refine ((by simpa only [len_zeros] using P2.out.ins ok_nil 0 (some ⟨g2, 0, none⟩) 505 (zeros 505) R2.out (by rw [len_zeros]; omega) (fun _ b off e => by cases e; omega) num_505) : Calls Tryz.prog 5 #[.slice (some ⟨gp, 0, none⟩) 512 512, .int .i64 0, .slice (some ⟨g2, 0, none⟩) 505 505] w2 _).mono ?_
  rintro e w3 ⟨rfl, hp3, hk3⟩
  have P3 := Lib.hid hp3
  have K3 := Lib.hid (K2.out.new hk3 (fun x e => by rw [e]; exact np))
  have z3 := hk3.size
  clear hp3 hk3
  have h504 : ∀ wz : World, (Instr.makeSlice 22 (.int .i64 504) (.int .i64 504)).run Tryz.prog wz = .ok (.slice (some ⟨wz.heap.size, 0, none⟩) 504 504) (wz.alloc (.cells (cellsOf (zeros 504)) 5)) := make504
  have ka4 : Kept (fun _ => False) w3 (w3.alloc (.cells (cellsOf (zeros 504)) 5)) := (Kept.refl _ _).alloc _
  have P4 := Lib.hid (P3.out.keep ka4 id)
  have K4 := Lib.hid (K3.out.trans0 ka4)
  have R4 := Lib.hid (show RdB (w3.alloc (.cells (cellsOf (zeros 504)) 5)) (some ⟨w3.heap.size, 0, none⟩) (zeros 504) from RdB.of_blk (heap_alloc_new w3 _))
  clear ka4
  go_wp2_with fail
  refine ((by simpa only [len_zeros] using P4.out.ins ok_nil 0 (some ⟨w3.heap.size, 0, none⟩) 504 (zeros 504) R4.out (by rw [len_zeros]; omega) (fun _ b off e => by cases e; omega) num_504) : Calls Tryz.prog 5 #[.slice (some ⟨gp, 0, none⟩) 512 512, .int .i64 0, .slice (some ⟨w3.heap.size, 0, none⟩) 504 504] (w3.alloc (.cells (cellsOf (zeros 504)) 5)) _).mono ?_
  rintro e w5 ⟨rfl, hp5, hk5⟩
  clear h504
  have P5 := Lib.hid hp5
  have K5 := Lib.hid (K4.out.new hk5 (fun x e => by rw [e]; exact np))
  clear hp5 hk5
  go_wp2_with fail
  refine (pgRoom P5.out ok_one (rm := 0) (by rw [encs_one, len_zeros]; rfl)).mono ?_
  rintro e w6 ⟨rfl, hs⟩
  have P6 := Lib.hid (P5.out.keep (hs.kept (fun _ => False)) id)
  have K6 := Lib.hid (K5.out.trans0 (hs.kept _))
  clear hs
  go_wp2_with fail
  refine (P6.out.ins ok_one 1 none 0 [] (nilB _) (by simp) (fun h => absurd rfl h) num_one).mono ?_
  rintro e w7 ⟨rfl, hp7, hk7⟩
  have P7 := Lib.hid hp7
  have K7 := Lib.hid (K6.out.new hk7 (fun x e => by rw [e]; exact np))
  clear hp7 hk7
  go_wp2_with fail
  refine (P7.out.del ok_one 0 num_del).mono ?_
  rintro e w8 ⟨rfl, hp8, hk8⟩
  have P8 := Lib.hid hp8
  have K8 := Lib.hid (K7.out.new hk8 (fun x e => by rw [e]; exact np))
  clear hp8 hk8
  go_wp2_with fail
  refine (pgRoom P8.out ok_nil (rm := 506) (by simp [encs])).mono ?_
  rintro e w9 ⟨rfl, hs⟩
  have P9 := Lib.hid (P8.out.keep (hs.kept (fun _ => False)) id)
  have K9 := Lib.hid (K8.out.trans0 (hs.kept _))
  clear hs
  go_wp2_with fail
  refine (P9.out.del ok_nil 0 num_del0).mono ?_
  rintro e wa ⟨rfl, hpa, hka⟩
  have PA := Lib.hid hpa
  have KA := Lib.hid (K9.out.new hka (fun x e => by rw [e]; exact np))
  clear hpa hka P1 P2 P3 P4 P5 P6 P7 P8 P9 K1 K2 K3 K4 K5 K6 K7 K8 K9 R2 R4
  go_wp2
  go_loopw [2] (fun i wr => ∃ k : Nat, k ≤ 253 ∧ i = .int .i64 k ∧ PAt wr w.heap.size gp 0 (reps k) ∧ Kept (fun _ => False) w wr) (fun i _ => 253 - (intOf i).toNat)
  case atStart => exact ⟨0, by omega, rfl, PA.out, KA.out⟩
  case round =>
    obtain ⟨k, hk, rfl, hp, hkr⟩ := hrel
    have P := Lib.hid hp
    have K := Lib.hid hkr
    clear hp hkr PA KA
    by_cases hlt : k < 253
    · as_aux_lemma =>
      have i1 : (k : Int) < 253 := by omega
      have HI := Lib.hid (P.out.ins (ok_reps (by omega) (by omega)) (k : Int) none 0 [] (nilB _) (by simp) (fun h => absurd rfl h) (num_ins k hlt 0 (by omega)))
      go_wp2_with fail
      refine HI.out.mono ?_
      rintro e w2 ⟨rfl, hp2, hk2⟩
      have P2 := Lib.hid hp2
      have K2 := Lib.hid (K.out.new hk2 (fun x e => by rw [e]; exact np))
      clear hp2 hk2
      go_wp2
      go_roundw
      case rel => exact ⟨k + 1, by omega, by go_num, P2.out, K2.out⟩
      case measure => simp [intOf]; omega
    · have hge : ¬ ((k : Int) < 253) := by omega
      obtain rfl : k = 253 := by omega
      have ok := ok_reps (i := 253) (n := 0) (by omega) (by omega)
      have okN := ok_reps (i := 253) (n := 4294967295) (by omega) (by omega)
      clear hlt hk
      go_wp2_with fail
      refine (P.out.ins ok 253 none 0 [] (nilB _) (by simp) (fun h => absurd rfl h) (num_full 0 (by omega))).mono ?_
      rintro e w2 ⟨rfl, hp2, hk2⟩
      have P2 := Lib.hid hp2
      have K2 := Lib.hid (K.out.new hk2 (fun x e => by rw [e]; exact np))
      clear hp2 hk2 P K
      go_wp2_with fail
      refine (pgCount P2.out ok (reps_len 253)).mono ?_
      rintro e w3 ⟨rfl, hs⟩
      have P3 := Lib.hid (P2.out.keep (hs.kept (fun _ => False)) id)
      have K3 := Lib.hid (K2.out.trans0 (hs.kept _))
      clear hs P2 K2
      go_wp2_with fail
      refine (pgRoom P3.out ok (rm := 0) (by rw [encs_reps]; rfl)).mono ?_
      rintro e w4 ⟨rfl, hs⟩
      have P4 := Lib.hid (P3.out.keep (hs.kept (fun _ => False)) id)
      have K4 := Lib.hid (K3.out.trans0 (hs.kept _))
      clear hs P3 K3
      go_wp2_with fail
      refine (P4.out.ins ok (-1) none 0 [] (nilB _) (by simp) (fun h => absurd rfl h) (num_low 0 (by omega))).mono ?_
      rintro e w5 ⟨rfl, hp2, hk2⟩
      have P5 := Lib.hid hp2
      have K5 := Lib.hid (K4.out.new hk2 (fun x e => by rw [e]; exact np))
      clear hp2 hk2 P4 K4
      go_wp2_with fail
      refine (P5.out.ins ok 254 none 0 [] (nilB _) (by simp) (fun h => absurd rfl h) (num_high 0 (by omega))).mono ?_
      rintro e w6 ⟨rfl, hp2, hk2⟩
      have P6 := Lib.hid hp2
      have K6 := Lib.hid (K5.out.new hk2 (fun x e => by rw [e]; exact np))
      clear hp2 hk2 P5 K5
      go_wp2_with fail
      refine (insert_nil w6 0 none 0 0).mono ?_
      rintro e w7 ⟨rfl, hk2⟩
      have P7 := Lib.hid (P6.out.keep hk2 id)
      have K7 := Lib.hid (K6.out.trans0 hk2)
      clear hk2 P6 K6
      go_wp2_with fail
      refine (P7.out.nxt ok 4294967295 num_next).mono ?_
      rintro e w8 ⟨rfl, hp2, hk2⟩
      have P8 := Lib.hid hp2
      have K8 := Lib.hid (K7.out.new hk2 (fun x e => by rw [e]; exact np))
      clear hp2 hk2 P7 K7
      go_wp2_with fail
      refine (pgNext P8.out okN).mono ?_
      rintro e w9 ⟨rfl, hs⟩
      have P9 := Lib.hid (P8.out.keep (hs.kept (fun _ => False)) id)
      have K9 := Lib.hid (K8.out.trans0 (hs.kept _))
      clear hs P8 K8
      go_wp2_with fail
      refine (P9.out.nxt okN 4294967296 num_next1).mono ?_
      rintro e wa ⟨rfl, hp2, hk2⟩
      have Pa := Lib.hid hp2
      have Ka := Lib.hid (K9.out.new hk2 (fun x e => by rw [e]; exact np))
      clear hp2 hk2 P9 K9
      go_wp2_with fail
      refine (Pa.out.nxt okN (-1) num_next2).mono ?_
      rintro e wb ⟨rfl, hp2, hk2⟩
      have Pb := Lib.hid hp2
      have Kb := Lib.hid (Ka.out.new hk2 (fun x e => by rw [e]; exact np))
      clear hp2 hk2 Pa Ka
      go_wp2_with fail
      refine (pgNext Pb.out okN).mono ?_
      rintro e wd ⟨rfl, hs⟩
      have Pc := Lib.hid (Pb.out.keep (hs.kept (fun _ => False)) id)
      have Kc := Lib.hid (Kb.out.trans0 (hs.kept _))
      clear hs Pb Kb
      go_upto_region 13 with fail
      go_cut [3] from 104 to 106 (fun v wx => ∃ g cap, v = .slice (some ⟨g, 0, none⟩) 3 cap ∧ OddAt wx w.heap.size g 3 cap ∧ PAt wx w.heap.size gp 4294967295 (reps 253) ∧ Kept (fun _ => False) w wx)
      case first =>
        as_aux_lemma =>
        refine startL 9 (fun _ => True) (by kernel_rfl) trivial (fun hH => ?_)
        simp only [List.length_cons, List.length_nil, List.replicate]
        refine forkL 0 1 rfl rfl (by kernel_rfl) (fun K hK => ?_) (fun K hK => ?_)
        · refine step_makeB rfl _ _ (by rfl) .i64 .i64 511 511 (by rfl) (by rfl) (Nat.le_refl _) (by decide) ?_
          intro g1 w1 n1 m1 hb1 hk1
          refine hK.out _ _ (fun _ => trivial) (fun _ => ?_)
          simp only [Act.put, List.setIfInBounds_toArray, List.set_cons_zero, List.set_cons_succ]
          clear hK K
          refine stepL 1 rfl (by kernel_rfl) (fun K hK => ?_)
          refine step_makeB rfl _ _ (by rfl) .i64 .i64 513 513 (by rfl) (by rfl) (Nat.le_refl _) (by decide) ?_
          intro g2 w2 n2 m2 hb2 hk2
          refine hK.out _ _ (fun _ => trivial) (fun _ => ?_)
          simp only [Act.put, List.setIfInBounds_toArray, List.set_cons_zero, List.set_cons_succ]
          clear hK K
          have hb1' := hk2.heap hb1 id
          have kk := ((Kc.out.drew).trans0 hk1).trans0 hk2
          have sz0 := Kc.out.size
          have sz1 := hk1.size
          have sz2 := hk2.size
          have dr : wd.drew.heap.size = wd.heap.size := rfl
          have o1 : OwnB w2 w.heap.size g1 511 (zeros 511) := by
            have := OwnB.of_blk (base := w.heap.size) hb1' (by omega) (by rw [len_zeros]; decide)
            rwa [len_zeros] at this
          have o2 : OwnB w2 w.heap.size g2 513 (zeros 513) := by
            have := OwnB.of_blk (base := w.heap.size) hb2 (by omega) (by rw [len_zeros]; decide)
            rwa [len_zeros] at this
          refine stepL 2 rfl (by kernel_rfl) (fun K hK => ?_)
          go_simp
          refine hK.out _ _ (fun _ => trivial) (fun _ => ?_)
          simp only [Act.put, List.setIfInBounds_toArray, List.set_cons_zero, List.set_cons_succ]
          clear hK K
          refine stepL 3 rfl (by kernel_rfl) (fun K hK => ?_)
          go_simp
          refine hK.out _ _ (fun _ => trivial) (fun _ => ?_)
          simp only [Act.put, List.setIfInBounds_toArray, List.set_cons_zero, List.set_cons_succ]
          clear hK K
          refine doneL (by kernel_rfl) ?_ _
          go_wp2
          go_meet
          have ka : Kept (fun _ => False) w2 (w2.alloc (.cells #[.slice none 0 0, .slice (some ⟨g1, 0, none⟩) 511 511, .slice (some ⟨g2, 0, none⟩) 513 513] 22)) := (Kept.refl _ _).alloc _
          refine ⟨w2.heap.size, 3, rfl, ?_, ?_, kk.trans0 ka⟩
          · refine OddAt.first (xs := [.slice none 0 0, .slice (some ⟨g1, 0, none⟩) 511 511, .slice (some ⟨g2, 0, none⟩) 513 513]) (heap_alloc_new w2 _) (by omega) (fun x hx => ?_) (by simp)
            simp only [List.mem_cons, List.not_mem_nil, or_false] at hx
            rcases hx with rfl | rfl | rfl
            · exact .inl rfl
            · exact .inr ⟨_, 511, zeros 511, by rw [len_zeros], o1.kept ka⟩
            · exact .inr ⟨_, 513, zeros 513, by rw [len_zeros], o2.kept ka⟩
          · exact (Pc.out.keep ((((Kept.refl (fun _ => False) wd).drew).trans0 hk1).trans0 hk2) id).keep ka id
        · refine step_makeB rfl _ _ (by rfl) .i64 .i64 513 513 (by rfl) (by rfl) (Nat.le_refl _) (by decide) ?_
          intro g1 w1 n1 m1 hb1 hk1
          refine hK.out _ _ (fun _ => trivial) (fun _ => ?_)
          simp only [Act.put, List.setIfInBounds_toArray, List.set_cons_zero, List.set_cons_succ]
          clear hK K
          refine stepL 0 rfl (by kernel_rfl) (fun K hK => ?_)
          refine step_makeB rfl _ _ (by rfl) .i64 .i64 511 511 (by rfl) (by rfl) (Nat.le_refl _) (by decide) ?_
          intro g2 w2 n2 m2 hb2 hk2
          refine hK.out _ _ (fun _ => trivial) (fun _ => ?_)
          simp only [Act.put, List.setIfInBounds_toArray, List.set_cons_zero, List.set_cons_succ]
          clear hK K
          have hb1' := hk2.heap hb1 id
          have kk := ((Kc.out.drew).trans0 hk1).trans0 hk2
          have sz0 := Kc.out.size
          have sz1 := hk1.size
          have sz2 := hk2.size
          have dr : wd.drew.heap.size = wd.heap.size := rfl
          have o1 : OwnB w2 w.heap.size g1 513 (zeros 513) := by
            have := OwnB.of_blk (base := w.heap.size) hb1' (by omega) (by rw [len_zeros]; decide)
            rwa [len_zeros] at this
          have o2 : OwnB w2 w.heap.size g2 511 (zeros 511) := by
            have := OwnB.of_blk (base := w.heap.size) hb2 (by omega) (by rw [len_zeros]; decide)
            rwa [len_zeros] at this
          refine stepL 2 rfl (by kernel_rfl) (fun K hK => ?_)
          go_simp
          refine hK.out _ _ (fun _ => trivial) (fun _ => ?_)
          simp only [Act.put, List.setIfInBounds_toArray, List.set_cons_zero, List.set_cons_succ]
          clear hK K
          refine stepL 3 rfl (by kernel_rfl) (fun K hK => ?_)
          go_simp
          refine hK.out _ _ (fun _ => trivial) (fun _ => ?_)
          simp only [Act.put, List.setIfInBounds_toArray, List.set_cons_zero, List.set_cons_succ]
          clear hK K
          refine doneL (by kernel_rfl) ?_ _
          go_wp2
          go_meet
          have ka : Kept (fun _ => False) w2 (w2.alloc (.cells #[.slice none 0 0, .slice (some ⟨g2, 0, none⟩) 511 511, .slice (some ⟨g1, 0, none⟩) 513 513] 22)) := (Kept.refl _ _).alloc _
          refine ⟨w2.heap.size, 3, rfl, ?_, ?_, kk.trans0 ka⟩
          · refine OddAt.first (xs := [.slice none 0 0, .slice (some ⟨g2, 0, none⟩) 511 511, .slice (some ⟨g1, 0, none⟩) 513 513]) (heap_alloc_new w2 _) (by omega) (fun x hx => ?_) (by simp)
            simp only [List.mem_cons, List.not_mem_nil, or_false] at hx
            rcases hx with rfl | rfl | rfl
            · exact .inl rfl
            · exact .inr ⟨_, 511, zeros 511, by rw [len_zeros], o2.kept ka⟩
            · exact .inr ⟨_, 513, zeros 513, by rw [len_zeros], o1.kept ka⟩
          · exact (Pc.out.keep ((((Kept.refl (fun _ => False) wd).drew).trans0 hk1).trans0 hk2) id).keep ka id
      case rest =>
        obtain ⟨gO, cO, rfl, hO, hp, hk⟩ := hcut
        have O1 := Lib.hid hO
        have Q1 := Lib.hid hp
        have J1 := Lib.hid hk
        clear hO hp hk Pc Kc
        go_wp2
        go_loopw [3, 4] (fun v i wr => ∃ k g cap : Nat, k ≤ 5 ∧ i = .int .i64 (503 + (k : Int)) ∧ v = .slice (some ⟨g, 0, none⟩) (3 + k) cap ∧ OddAt wr w.heap.size g (3 + k) cap ∧ PAt wr w.heap.size gp 4294967295 (reps 253) ∧ Kept (fun _ => False) w wr) (fun _ i _ => 508 - (intOf i).toNat)
        case atStart => exact ⟨0, gO, cO, by omega, rfl, rfl, O1.out, Q1.out, J1.out⟩
        case round =>
          obtain ⟨k, g, cap, hk, rfl, rfl, hO, hp, hkr⟩ := hrel
          have O := Lib.hid hO
          have P := Lib.hid hp
          have K := Lib.hid hkr
          clear hO hp hkr O1 Q1 J1
          by_cases hlt : k < 5
          · as_aux_lemma =>
            have i1 : 503 + (k : Int) < 508 := by omega
            go_wp2_with (refine wl_makeB rfl _ _ rfl .i64 .i64 512 512 rfl rfl (Nat.le_refl _) (by decide) ?_)
            intro q w2 nq mq hb2 hk2
            have z0 := K.out.size
            obtain ⟨l2, hl2, q2⟩ : ∃ l, l.length = 512 ∧ OwnB w2 w.heap.size q 512 l := ⟨zeros 512, len_zeros _, by
              have := OwnB.of_blk (base := w.heap.size) hb2 (by omega) (by rw [len_zeros]; decide)
              rwa [len_zeros] at this⟩
            have Q2 := Lib.hid q2
            have F2 := Lib.hid (hk2.mono (T := fun x => x = q) (fun _ _ e => e.elim))
            clear hb2 hk2 q2
            go_wp2_with (refine wl_setE rfl 5 _ _ rfl (by kernel_rfl) w.heap.size q 512 l2 1 _ rfl rfl (by omega) Q2.out hl2 (by omega) ?_)
            intro w3 l3 hl3 hq3 hk3
            have Q3 := Lib.hid hq3
            have F3 := Lib.hid (F2.out.trans' hk3)
            clear hq3 hk3
            go_wp2_with (refine wl_setE rfl 5 _ _ rfl (by kernel_rfl) w.heap.size q 512 l3 6 _ rfl rfl (by omega) Q3.out hl3 (by omega) ?_)
            intro w4 l4 hl4 hq4 hk4
            have Q4 := Lib.hid hq4
            have F4 := Lib.hid (F3.out.trans' hk4)
            clear hq4 hk4
            go_wp2_with (refine wl_setE rfl 5 _ _ rfl (by kernel_rfl) w.heap.size q 512 l4 7 _ rfl rfl (by omega) Q4.out hl4 (by omega) ?_)
            intro w5 l5 hl5 hq5 hk5
            have Q5 := Lib.hid hq5
            have F5 := Lib.hid (F4.out.trans' hk5)
            clear hq5 hk5
            have ka : Kept (fun _ => False) w5 (w5.alloc (.cells #[.slice (some ⟨q, 0, none⟩) 512 512] 22)) := (Kept.refl _ _).alloc _
            have F6 := Lib.hid (F5.out.trans ka (fun _ _ e => e.elim))
            have Q6 := Lib.hid (Q5.out.kept ka)
            have O6 := Lib.hid (O.out.keep8 F6.out (fun x e => by omega))
            have P6 := Lib.hid (P.out.keep F6.out (fun e => by have := P.out.ltg.2; omega))
            have C6 := Lib.hid (show (w5.alloc (.cells #[.slice (some ⟨q, 0, none⟩) 512 512] 22)).cell? ⟨w5.heap.size, 0, none⟩ = some (.slice (some ⟨q, 0, none⟩) 512 512) from cell_blk (heap_alloc_new w5 _) (i := 0) rfl)
            have K6 := Lib.hid (K.out.new F6.out (fun x e => by omega))
            clear ka
            go_wp2_with (at_builtin; refine wl_odd rfl _ _ rfl w.heap.size g (3 + k) cap rfl O6.out w5.heap.size q 1 l5 512 512 hl5 rfl C6.out Q6.out (by omega) K6.out.size ?_)
            intro g7 cap7 w7 hO7 hk7
            have O7 := Lib.hid hO7
            have P7 := Lib.hid (P6.out.keep hk7 (fun e => by
              obtain ⟨cur, -, hh, -⟩ := P6.out.form
              exact e.2 cur hh))
            have K7 := Lib.hid (K6.out.new hk7 (fun x e => e.1))
            clear hO7 hk7
            go_wp2
            go_roundw
            case rel => exact ⟨k + 1, g7, cap7, by omega, by go_num, rfl, O7.out, P7.out, K7.out⟩
            case measure => simp [intOf]; omega
          · have hge : ¬ (503 + (k : Int) < 508) := by omega
            obtain rfl : k = 5 := by omega
            clear hlt hk
            go_wp2
            go_loopw [3, 6] (fun v i wr => ∃ k g cap : Nat, k ≤ 512 ∧ i = .int .i64 k ∧ v = .slice (some ⟨g, 0, none⟩) (8 + k) cap ∧ OddAt wr w.heap.size g (8 + k) cap ∧ PAt wr w.heap.size gp 4294967295 (reps 253) ∧ Kept (fun _ => False) w wr) (fun _ i _ => 512 - (intOf i).toNat)
            case atStart => exact ⟨0, g, cap, by omega, rfl, rfl, O.out, P.out, K.out⟩
            case round =>
              obtain ⟨k, g, cap, hk, rfl, rfl, hO, hp, hkr⟩ := hrel
              clear O P K
              have O := Lib.hid hO
              have P := Lib.hid hp
              have K := Lib.hid hkr
              clear hO hp hkr
              by_cases hlt : k < 512
              · as_aux_lemma =>
                have i0 : (0 : Int) ≤ (k : Int) := by omega
                have i1 : (k : Int) < 512 := by omega
                go_wp2_with (refine wl_makeB rfl _ _ rfl .i64 .i64 512 512 rfl rfl (Nat.le_refl _) (by decide) ?_)
                intro q w2 nq mq hb2 hk2
                have z0 := K.out.size
                obtain ⟨l2, hl2, q2⟩ : ∃ l, l.length = 512 ∧ OwnB w2 w.heap.size q 512 l := ⟨zeros 512, len_zeros _, by
                  have := OwnB.of_blk (base := w.heap.size) hb2 (by omega) (by rw [len_zeros]; decide)
                  rwa [len_zeros] at this⟩
                have Q2 := Lib.hid q2
                have F2 := Lib.hid (hk2.mono (T := fun x => x = q) (fun _ _ e => e.elim))
                clear hb2 hk2 q2
                go_wp2_with (refine wl_setE rfl 5 _ _ rfl (by kernel_rfl) w.heap.size q 512 l2 k _ rfl rfl (by omega) Q2.out hl2 hlt ?_)
                intro w5 l5 hl5 hq5 hk5
                have Q5 := Lib.hid hq5
                have F5 := Lib.hid (F2.out.trans' hk5)
                clear hq5 hk5
                have ka : Kept (fun _ => False) w5 (w5.alloc (.cells #[.slice (some ⟨q, 0, none⟩) 512 512] 22)) := (Kept.refl _ _).alloc _
                have F6 := Lib.hid (F5.out.trans ka (fun _ _ e => e.elim))
                have Q6 := Lib.hid (Q5.out.kept ka)
                have O6 := Lib.hid (O.out.keep8 F6.out (fun x e => by omega))
                have P6 := Lib.hid (P.out.keep F6.out (fun e => by have := P.out.ltg.2; omega))
                have C6 := Lib.hid (show (w5.alloc (.cells #[.slice (some ⟨q, 0, none⟩) 512 512] 22)).cell? ⟨w5.heap.size, 0, none⟩ = some (.slice (some ⟨q, 0, none⟩) 512 512) from cell_blk (heap_alloc_new w5 _) (i := 0) rfl)
                have K6 := Lib.hid (K.out.new F6.out (fun x e => by omega))
                clear ka
                go_wp2_with (at_builtin; refine wl_odd rfl _ _ rfl w.heap.size g (8 + k) cap rfl O6.out w5.heap.size q 1 l5 512 512 hl5 rfl C6.out Q6.out (by omega) K6.out.size ?_)
                intro g7 cap7 w7 hO7 hk7
                have O7 := Lib.hid hO7
                have P7 := Lib.hid (P6.out.keep hk7 (fun e => by
                  obtain ⟨cur, -, hh, -⟩ := P6.out.form
                  exact e.2 cur hh))
                have K7 := Lib.hid (K6.out.new hk7 (fun x e => e.1))
                clear hO7 hk7
                go_wp2
                go_roundw
                case rel => exact ⟨k + 1, g7, cap7, by omega, by go_num, rfl, O7.out, P7.out, K7.out⟩
                case measure => simp [intOf]; omega
              · have hge : ¬ ((k : Int) < 512) := by omega
                obtain rfl : k = 512 := by omega
                clear hlt hk
                obtain ⟨wq, rfl⟩ : ∃ x : World, x = wr := ⟨_, rfl⟩
                go_wp2
                go_loopw [8] (fun i wr => ∃ k : Nat, k ≤ 520 ∧ i = .int .i64 k ∧ Kept (fun _ => False) wq wr) (fun i _ => 520 - (intOf i).toNat)
                case atStart => exact ⟨0, by omega, rfl, Kept.refl _ _⟩
                case round =>
                  obtain ⟨k, hk, rfl, hkr⟩ := hrel
                  have J := Lib.hid hkr
                  clear hkr
                  by_cases hlt : k < 520
                  · skip
                    have i0 : (0 : Int) ≤ (k : Int) := by omega
                    have i1 : (k : Int) < 520 := by omega
                    obtain ⟨x, c0, hx⟩ := (O.out.kept J.out).cell (k := k) (by omega)
                    obtain ⟨A, l, c, rfl, hrd, h1, h2⟩ := hx.rd
                    have C0 := Lib.hid c0
                    have R0 := Lib.hid hrd
                    clear hx hrd
                    go_wp2_with fail
                    refine (pageTells_any A c l 0 wr R0.out).mono ?_
                    rintro e w2 ⟨rfl, hk2⟩
                    have c2 := (World.cell?_of_block (hk2.block g (block_lt_of_cell C0.out) id)).trans C0.out
                    have J2 := Lib.hid (J.out.trans0 hk2)
                    have R2 := Lib.hid (R0.out.kept hk2 (fun _ _ _ _ => id))
                    clear hk2 c0
                    have HLV := Lib.hid (doOdd A c l w2 R2.out)
                    have b1 := bD1
                    have b2 := bD2
                    have b3 := bD3
                    have b4 := bD4
                    go_wp2_with fail
                    clear b1 b2 b3 b4
                    refine HLV.out.mono ?_
                    rintro e w3 ⟨rfl, hk3⟩
                    have J3 := Lib.hid (J2.out.trans0 hk3)
                    clear hk3
                    go_wp2
                    go_roundw
                    case rel => exact ⟨k + 1, by omega, by go_num, J3.out⟩
                    case measure => simp [intOf]; omega
                  · have hge : ¬ ((k : Int) < 520) := by omega
                    have P9 := Lib.hid (P.out.keep J.out id)
                    have K9 := Lib.hid (K.out.trans0 J.out)
                    clear P K O J hlt
                    go_wp2
                    go_loopw [9] (fun i wr => ∃ k : Nat, k ≤ 12 ∧ i = .int .i64 k ∧ PAt wr w.heap.size gp 4294967295 (reps 253) ∧ Kept (fun _ => False) w wr) (fun i _ => 12 - (intOf i).toNat)
                    case atStart => exact ⟨0, by omega, rfl, P9.out, K9.out⟩
                    case round =>
                      obtain ⟨k, hk, rfl, hp, hkr⟩ := hrel
                      have Pr := Lib.hid hp
                      have Kr := Lib.hid hkr
                      clear hp hkr P9 K9
                      by_cases hlt : k < 12
                      · as_aux_lemma =>
                        have i0 : (0 : Int) ≤ (k : Int) := by omega
                        have i1 : (k : Int) < 12 := by omega
                        have lgp := Pr.out.ltg
                        go_upto_region 34 with fail
                        go_cut [10, 11] from 164 to 195 (fun x y wx => ∃ ga gb, x = .slice (some ⟨ga, 0, none⟩) 512 512 ∧ y = .slice (some ⟨gb, 0, none⟩) 512 512 ∧ ga ≠ gb ∧ gp < ga ∧ gp < gb ∧ OwnB wx w.heap.size ga 512 (zeros 512) ∧ OwnB wx w.heap.size gb 512 (zeros 512) ∧ PAt wx w.heap.size gp 4294967295 (reps 253) ∧ Kept (fun _ => False) w wx)
                        case first =>
                          as_aux_lemma =>
                          refine startL 3 (fun _ => True) (by kernel_rfl) trivial (fun hH => ?_)
                          simp only [List.length_cons, List.length_nil, List.replicate]
                          refine forkL 0 1 rfl rfl (by kernel_rfl) (fun K hK => ?_) (fun K hK => ?_)
                          · skip
                            refine step_makeB rfl _ _ (by rfl) .i64 .i64 512 512 (by rfl) (by rfl) (Nat.le_refl _) (by decide) ?_
                            intro g1 w1 n1 m1 hb1 hk1
                            refine hK.out _ _ (fun _ => trivial) (fun _ => ?_)
                            simp only [Act.put, List.setIfInBounds_toArray, List.set_cons_zero, List.set_cons_succ]
                            clear hK K
                            refine takeL 2 (.slice (some ⟨g1, 0, none⟩) 512 512) rfl (by kernel_rfl) (fun _ _ _ h => h) (by rfl) (fun w' hw' => ?_) trivial ?_
                            · go_simp
                            simp only [Act.put, List.setIfInBounds_toArray, List.set_cons_zero, List.set_cons_succ]
                            refine stepL 1 rfl (by kernel_rfl) (fun K hK => ?_)
                            refine step_makeB rfl _ _ (by rfl) .i64 .i64 512 512 (by rfl) (by rfl) (Nat.le_refl _) (by decide) ?_
                            intro g2 w2 n2 m2 hb2 hk2
                            refine hK.out _ _ (fun _ => trivial) (fun _ => ?_)
                            simp only [Act.put, List.setIfInBounds_toArray, List.set_cons_zero, List.set_cons_succ]
                            clear hK K
                            have hb1' := hk2.heap hb1 id
                            have kk := ((Kr.out.drew).trans0 hk1).trans0 hk2
                            have kp := (((Kept.refl (fun _ => False) wr).drew).trans0 hk1).trans0 hk2
                            have sz0 := Kr.out.size
                            have sz1 := hk1.size
                            have sz2 := hk2.size
                            have dr : wr.drew.heap.size = wr.heap.size := rfl
                            have o1 : OwnB w2 w.heap.size g1 512 (zeros 512) := by
                              have := OwnB.of_blk (base := w.heap.size) hb1' (by omega) (by rw [len_zeros]; decide)
                              rwa [len_zeros] at this
                            have o2 : OwnB w2 w.heap.size g2 512 (zeros 512) := by
                              have := OwnB.of_blk (base := w.heap.size) hb2 (by omega) (by rw [len_zeros]; decide)
                              rwa [len_zeros] at this
                            refine stepL 3 rfl (by kernel_rfl) (fun K hK => ?_)
                            go_simp
                            refine hK.out _ _ (fun _ => trivial) (fun _ => ?_)
                            simp only [Act.put, List.setIfInBounds_toArray, List.set_cons_zero, List.set_cons_succ]
                            clear hK K
                            refine doneL (by kernel_rfl) ?_ _
                            go_wp2
                            go_meet
                            exact ⟨g1, g2, rfl, rfl, by omega, by omega, by omega, o1, o2, Pr.out.keep kp id, kk⟩
                          · skip
                            refine step_makeB rfl _ _ (by rfl) .i64 .i64 512 512 (by rfl) (by rfl) (Nat.le_refl _) (by decide) ?_
                            intro g1 w1 n1 m1 hb1 hk1
                            refine hK.out _ _ (fun _ => trivial) (fun _ => ?_)
                            simp only [Act.put, List.setIfInBounds_toArray, List.set_cons_zero, List.set_cons_succ]
                            clear hK K
                            refine stepL 0 rfl (by kernel_rfl) (fun K hK => ?_)
                            refine step_makeB rfl _ _ (by rfl) .i64 .i64 512 512 (by rfl) (by rfl) (Nat.le_refl _) (by decide) ?_
                            intro g2 w2 n2 m2 hb2 hk2
                            refine hK.out _ _ (fun _ => trivial) (fun _ => ?_)
                            simp only [Act.put, List.setIfInBounds_toArray, List.set_cons_zero, List.set_cons_succ]
                            clear hK K
                            have hb1' := hk2.heap hb1 id
                            have kk := ((Kr.out.drew).trans0 hk1).trans0 hk2
                            have kp := (((Kept.refl (fun _ => False) wr).drew).trans0 hk1).trans0 hk2
                            have sz0 := Kr.out.size
                            have sz1 := hk1.size
                            have sz2 := hk2.size
                            have dr : wr.drew.heap.size = wr.heap.size := rfl
                            have o1 : OwnB w2 w.heap.size g1 512 (zeros 512) := by
                              have := OwnB.of_blk (base := w.heap.size) hb1' (by omega) (by rw [len_zeros]; decide)
                              rwa [len_zeros] at this
                            have o2 : OwnB w2 w.heap.size g2 512 (zeros 512) := by
                              have := OwnB.of_blk (base := w.heap.size) hb2 (by omega) (by rw [len_zeros]; decide)
                              rwa [len_zeros] at this
                            refine takeL 2 (.slice (some ⟨g2, 0, none⟩) 512 512) rfl (by kernel_rfl) (fun _ _ _ h => h) (by rfl) (fun w' hw' => ?_) trivial ?_
                            · go_simp
                            simp only [Act.put, List.setIfInBounds_toArray, List.set_cons_zero, List.set_cons_succ]
                            refine stepL 3 rfl (by kernel_rfl) (fun K hK => ?_)
                            go_simp
                            refine hK.out _ _ (fun _ => trivial) (fun _ => ?_)
                            simp only [Act.put, List.setIfInBounds_toArray, List.set_cons_zero, List.set_cons_succ]
                            clear hK K
                            refine doneL (by kernel_rfl) ?_ _
                            go_wp2
                            go_meet
                            exact ⟨g2, g1, rfl, rfl, by omega, by omega, by omega, o2, o1, Pr.out.keep kp id, kk⟩
                        case rest =>
                          obtain ⟨ga, gb, rfl, rfl, nab, la, lb, hoa, hob, hp, hkr⟩ := hcut
                          obtain ⟨Z, hZ⟩ : ∃ Z, zeros 512 = Z := ⟨_, rfl⟩
                          have HZ := Lib.hid hZ
                          have lZ : Z.length = 512 := by rw [← hZ]; exact len_zeros _
                          rw [hZ] at hoa hob
                          have OA := Lib.hid hoa
                          have OB := Lib.hid hob
                          have sbx := hob.ltg
                          clear hZ hoa hob
                          have Pc := Lib.hid hp
                          have Kc := Lib.hid hkr
                          have F0 := Lib.hid (Kept.refl (fun x => x = gb) wc)
                          have e2 : ((510 : Int) - (k : Int)).toNat = 510 - k := by omega
                          have i3 : (0 : Int) ≤ 510 - (k : Int) := by omega
                          have i4 : (510 : Int) - (k : Int) < 512 := by omega
                          have i5 : (k : Int) + 1 < 512 := by omega
                          have i6 : (0 : Int) ≤ (k : Int) + 1 := by omega
                          have e3 : ((k : Int) + 1).toNat = k + 1 := by omega
                          clear hp hkr Pr Kr
                          go_wp2_with (refine wl_setZ rfl 5 _ _ rfl (by kernel_rfl) w.heap.size gb 512 Z 0 1 _ rfl rfl (by decide) OB.out (by rw [lZ]; decide) ?_)
                          intro w3 hq3 hk3
                          have B3 := Lib.hid hq3
                          have F3 := Lib.hid (F0.out.trans' hk3)
                          clear hq3 hk3
                          go_wp2_with (refine wl_setZ rfl 5 _ _ rfl (by kernel_rfl) w.heap.size gb 512 (Z.set 0 1) (k + 1) 2 _ rfl rfl (by decide) B3.out (by simp only [List.length_set, lZ]; omega) ?_)
                          intro w4 hq4 hk4
                          have B4 := Lib.hid hq4
                          have F4 := Lib.hid (F3.out.trans' hk4)
                          clear hq4 hk4
                          go_wp2_with (refine wl_setZ rfl 5 _ _ rfl (by kernel_rfl) w.heap.size gb 512 ((Z.set 0 1).set (k + 1) 2) 511 3 _ rfl rfl (by decide) B4.out (by simp only [List.length_set, lZ]; omega) ?_)
                          intro w5 hq5 hk5
                          have B5 := Lib.hid hq5
                          have F5 := Lib.hid (F4.out.trans' hk5)
                          clear hq5 hk5
                          go_wp2_with (refine wl_setZ rfl 5 _ _ rfl (by kernel_rfl) w.heap.size gb 512 (((Z.set 0 1).set (k + 1) 2).set 511 3) (510 - k) 4 _ rfl rfl (by decide) B5.out (by simp only [List.length_set, lZ]; omega) ?_)
                          intro w6 hq6 hk6
                          have B6 := Lib.hid (show OwnB w6 w.heap.size gb 512 (gapB k) from by unfold gapB; rw [HZ.out]; exact hq6)
                          have F6 := Lib.hid (F5.out.trans' hk6)
                          clear hq6 hk6 F0 F3 F4 F5 B3 B4 B5 OB
                          have A6 := Lib.hid (OA.out.keep F6.out nab)
                          have P6 := Lib.hid (Pc.out.keep F6.out (by omega))
                          have K6 := Lib.hid (Kc.out.new F6.out (fun x e => by omega))
                          have HD := Lib.hid (diff_anyN (some ⟨ga, 0, none⟩) (some ⟨gb, 0, none⟩) 512 512 Z (gapB k) w6 A6.out.rdp B6.out.rdp lZ (gapB_len k) (by omega) (by omega) (by omega) (by omega))
                          have hgl := gap_len k hlt
                          rw [HZ.out] at hgl
                          clear OA Pc Kc F6
                          by_cases h8 : 8 ≤ k
                          · have i8 : (8 : Int) ≤ (k : Int) := by omega
                            rw [if_pos h8] at hgl
                            go_wp2_with fail
                            refine HD.out.mono ?_
                            rintro e w7 ⟨v, L, rfl, ho, -, hm, -, hk7⟩
                            obtain ⟨G, cv, rfl, -⟩ := ho.view
                            have hLl : L.length = 4 := by rw [← hgl, ← hm, List.length_map]
                            rw [hLl]
                            have A7 := Lib.hid (A6.out.kept hk7)
                            have B7 := Lib.hid (B6.out.kept hk7)
                            have P7 := Lib.hid (P6.out.keep hk7 id)
                            have K7 := Lib.hid (K6.out.trans0 hk7)
                            clear ho hm hk7 HD hgl
                            go_wp2_with fail
                            refine ((by simpa only [lZ, gapB_len] using pageDiffs_any (some ⟨ga, 0, none⟩) (some ⟨gb, 0, none⟩) 512 512 Z (gapB k) w7 A7.out.rdp B7.out.rdp (by rw [lZ]; omega) (by omega) (by rw [gapB_len]; omega) (by omega)) : Calls Tryz.prog 14 #[.slice (some ⟨ga, 0, none⟩) 512 512, .slice (some ⟨gb, 0, none⟩) 512 512] w7 _).mono ?_
                            rintro e w8 ⟨rfl, hk8⟩
                            have P8 := Lib.hid (P7.out.keep hk8 id)
                            have K8 := Lib.hid (K7.out.trans0 hk8)
                            clear hk8
                            go_wp2
                            go_roundw
                            case rel => exact ⟨k + 1, by omega, by go_num, P8.out, K8.out⟩
                            case measure => simp [intOf]; omega
                          · have i8 : ¬ ((8 : Int) ≤ (k : Int)) := by omega
                            rw [if_neg h8] at hgl
                            go_wp2_with fail
                            refine HD.out.mono ?_
                            rintro e w7 ⟨v, L, rfl, ho, -, hm, -, hk7⟩
                            obtain ⟨G, cv, rfl, -⟩ := ho.view
                            have hLl : L.length = 2 := by rw [← hgl, ← hm, List.length_map]
                            rw [hLl]
                            have A7 := Lib.hid (A6.out.kept hk7)
                            have B7 := Lib.hid (B6.out.kept hk7)
                            have P7 := Lib.hid (P6.out.keep hk7 id)
                            have K7 := Lib.hid (K6.out.trans0 hk7)
                            clear ho hm hk7 HD hgl
                            go_wp2_with fail
                            refine ((by simpa only [lZ, gapB_len] using pageDiffs_any (some ⟨ga, 0, none⟩) (some ⟨gb, 0, none⟩) 512 512 Z (gapB k) w7 A7.out.rdp B7.out.rdp (by rw [lZ]; omega) (by omega) (by rw [gapB_len]; omega) (by omega)) : Calls Tryz.prog 14 #[.slice (some ⟨ga, 0, none⟩) 512 512, .slice (some ⟨gb, 0, none⟩) 512 512] w7 _).mono ?_
                            rintro e w8 ⟨rfl, hk8⟩
                            have P8 := Lib.hid (P7.out.keep hk8 id)
                            have K8 := Lib.hid (K7.out.trans0 hk8)
                            clear hk8
                            go_wp2
                            go_roundw
                            case rel => exact ⟨k + 1, by omega, by go_num, P8.out, K8.out⟩
                            case measure => simp [intOf]; omega
                      · have hge : ¬ ((k : Int) < 12) := by omega
                        have hlp := Pg_len (k := 0) (n := 4294967295) (cs := reps 253) okN.room
                        have HD := Lib.hid (diff_anyN (some ⟨gp, 0, none⟩) (some ⟨gp, 0, none⟩) 512 512 (Pg 0 4294967295 (reps 253)) (Pg 0 4294967295 (reps 253)) wr Pr.out.rdp Pr.out.rdp hlp hlp (by omega) (by omega) (by omega) (by omega))
                        clear hlp
                        go_wp2_with fail
                        refine HD.out.mono ?_
                        rintro e w2 ⟨v, L, rfl, ho, -, hm, -, hk2⟩
                        rw [diffM_self] at hm
                        have eL := List.map_eq_nil_iff.1 hm
                        subst eL
                        obtain ⟨G, cv, rfl, -⟩ := ho.view
                        have K2 := Lib.hid (Kr.out.trans0 hk2)
                        clear ho hm hk2
                        go_wp2_with fail
                        refine (awake_any w2).mono ?_
                        rintro e w3 ⟨rfl, hk3⟩
                        have K3 := Lib.hid (K2.out.trans0 hk3)
                        clear hk3
                        go_wp2
                        go_ret
                        exact ⟨rfl, K3.out⟩
end Go.Proofs.YtndflnedkpmpfaaGreatDoor
