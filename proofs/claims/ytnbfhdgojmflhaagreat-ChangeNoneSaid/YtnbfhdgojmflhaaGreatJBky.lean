/-
  No statement is proved here: a part of what the claim's last text rests on.
-/
import Derived.Test.YtnbfhdgojmflhaaGreatJBkt
import Derived.Test.YtnbfhdgojmflhaaGreatJBkw
namespace Go.Proofs.YtnbfhdgojmflhaaGreat
open Go.RowKit
section
variable {w w' w1 : World} {p ms mo : Nat} {D D' : DevM} {P : PoolM} {L : LogM} {a : Adr}
theorem readMas_nil (w : World) : Calls Tryz.prog 31 #[.pointer none] w fun e w' => e = .returned (.tuple #[.agg (masC zM), .int .i64 1]) ∧ Kept (fun _ => False) w w' := by
  have B0 := bM0
  go_enter Tryz.func31, Tryz.ntmps31
  go_wp2_with (refine wl_alloc' rfl 62 rfl (masC zM) zeroMas ?_)
  intro pr w1 l1 m1 hb1 hk1
  have HP := Lib.hid hb1
  have HK1 := Lib.hid hk1
  have HL := Lib.hid l1
  clear hb1 hk1 l1 m1
  go_wp2_with fail
  refine (bblocks_nil w1).mono ?_
  rintro e wx ⟨rfl, rfl⟩
  go_wp2_with (refine wl_store_row rfl 62 _ _ rfl pr (masC zM) (masC zM) rfl rfl HP.out sizeMas rfl (one_mas _) ?_)
  intro w8 hb8 hk8
  have HP8 := Lib.hid hb8
  have HK8 := Lib.hid (HK1.out.new hk8 (fun z hz => by subst hz; exact HL.out))
  clear hb8 hk8
  go_wp2
  try simp only [Exit.inBlock, Exit.then]
  refine bodyPost_ret (results_cell_rowM rfl _ _ pr (masC zM) rfl HP8.out Tryz.underlying62 rfl sizeMas) rfl ?_
  exact ⟨rfl, HK8.out⟩
theorem writeMas_nil (m : MasM) (w : World) : Calls Tryz.prog 34 #[.pointer none, .agg (masC m)] w fun e w' => e = .returned (.int .i64 1) ∧ Kept (fun _ => False) w w' := by
  go_enter Tryz.func34, Tryz.ntmps34
  go_wp2_with (refine wl_box rfl 33 _ rfl (.pointer none) rfl ?_)
  intro gp w1 l1 m1 hb1 hk1
  have HP := Lib.hid (show w1.heap[gp]? = some (.cells #[.pointer none] 33 (0, 0)) from hb1)
  have HK1 := Lib.hid hk1
  clear hb1 hk1
  go_wp2_with (refine wl_box rfl 62 _ rfl (.agg (masC m)) rfl ?_)
  intro gm w2 l2 m2 hb2 hk2
  have HP2 := Lib.hid (hk2.heap HP.out id)
  have HK2 := Lib.hid (HK1.out.trans0 hk2)
  have c0 : w2.cell? ⟨gp, 0, none⟩ = some (.pointer none) := cell_blk HP2.out rfl
  clear hb2 hk2 HP HK1
  go_wp2_with fail
  refine (bblocks_nil w2).mono ?_
  rintro e wx ⟨rfl, rfl⟩
  go_wp2
  go_ret
  exact ⟨rfl, HK2.out⟩
theorem bnew_nil (w : World) (u v : Value) : Calls Tryz.prog 35 #[.pointer none, u, v] w fun e w' => e = .returned (.pointer none) ∧ Kept (fun _ => False) w w' := by
  have HR := Lib.hid (readMas_nil w)
  go_enter Tryz.func35, Tryz.ntmps35
  go_wp2_with fail
  refine HR.out.mono ?_
  rintro e w1 ⟨rfl, hk1⟩
  have HK1 := Lib.hid hk1
  clear hk1 HR
  go_wp2_with (refine wl_alloc' rfl 62 rfl (masC zM) zeroMas ?_)
  intro pr w2 l2 m2 hb2 hk2
  have HP2 := Lib.hid hb2
  have HK2 := Lib.hid (HK1.out.trans0 hk2)
  have HL2 := Lib.hid (show w.heap.size ≤ pr from Nat.le_trans HK1.out.size l2)
  clear hb2 hk2 l2 m2
  go_wp2_with (refine wl_store_row rfl 62 _ _ rfl pr (masC zM) (masC zM) rfl rfl HP2.out sizeMas rfl (one_mas _) ?_)
  intro w3 hb3 hk3
  have HK3 := Lib.hid (HK2.out.new hk3 (fun z hz => by subst hz; exact HL2.out))
  clear hb3 hk3
  go_wp2_with fail
  refine (bblocks_nil w3).mono ?_
  rintro e wx ⟨rfl, rfl⟩
  go_wp2_with fail
  refine (place_any 0 w3).mono ?_
  rintro e wx ⟨rfl, rfl⟩
  go_wp2
  go_ret
  exact ⟨rfl, HK3.out⟩
theorem bnew_no (h : DevAt w p ms mo D) (hn : 2 ≤ D.n) (hm : (readMas D).2 ≠ 0) (u v : Value) : Calls Tryz.prog 35 #[.pointer (some ⟨p, 0, none⟩), u, v] w fun e w' => e = .returned (.pointer none) ∧ Kept (fun _ => False) w w' := by
  have HR := Lib.hid (readMas_any h hn)
  have HB := Lib.hid (fun (w' : World) (hk : Kept (fun _ => False) w w') => blocks_any (h.keep hk id id id))
  obtain ⟨V, hV⟩ : ∃ V, V = readMas D := ⟨_, rfl⟩
  rw [← hV] at HR hm
  obtain ⟨m, n⟩ := V
  dsimp only at HR hm
  have hmb : (n != 0) = true := by rw [bne_iff_ne]; exact hm
  obtain ⟨N, hN⟩ : ∃ N, N = D.n := ⟨_, rfl⟩
  rw [← hN] at HB
  clear h hN hn hV hm
  go_enter Tryz.func35, Tryz.ntmps35
  go_wp2_with fail
  refine HR.out.mono ?_
  rintro e w1 ⟨rfl, hk1⟩
  have HK1 := Lib.hid hk1
  clear hk1 HR
  go_wp2_with (refine wl_alloc' rfl 62 rfl (masC zM) zeroMas ?_)
  intro pr w2 l2 m2 hb2 hk2
  have HP2 := Lib.hid hb2
  have HK2 := Lib.hid (HK1.out.trans0 hk2)
  have HL2 := Lib.hid (show w.heap.size ≤ pr from Nat.le_trans HK1.out.size l2)
  clear hb2 hk2 l2 m2
  go_wp2_with (refine wl_store_row rfl 62 _ _ rfl pr (masC m) (masC zM) rfl rfl HP2.out sizeMas rfl (one_mas _) ?_)
  intro w3 hb3 hk3
  have HK3 := Lib.hid (HK2.out.new hk3 (fun z hz => by subst hz; exact HL2.out))
  clear hb3 hk3
  go_wp2_with fail
  refine (HB.out w3 HK3.out).mono ?_
  rintro e wx ⟨rfl, rfl⟩
  go_wp2_with fail
  refine (place_any N w3).mono ?_
  rintro e wx ⟨rfl, rfl⟩
  go_wp2
  go_ret
  exact ⟨rfl, HK3.out⟩
def bkNew (n : Int) : BkM := ⟨false, 0, 0, [], 0, n⟩
theorem bBk (u v z : Option Addr) (n : Int) (wz : World) : (Instr.build 65 #[(0, .pointer u), (1, .pointer v), (2, .pointer z), (8, .int .i64 n)]).run Tryz.prog wz = .ok (.agg #[.pointer u, .pointer v, .pointer z, .bool false, .int .i64 0, .int .i64 0, .slice none 0 0, .int .i64 0, .int .i64 n]) wz := run_build wz _ _ _ (by kernel_rfl)
theorem bnew_ok (h : PoolS w a P L D) (hn : 2 ≤ D.n) (hm : (readMas D).2 = 0) (hf : L.fin ≠ 0) (hp : P.blocks ≠ 0) (hq : P.blocks = (placeQ D.n).2.1) :
    Calls Tryz.prog 35 #[ptrV a.p, ptrV a.q, ptrV a.pb] w fun e w' => ∃ bk, e = .returned (ptrV bk) ∧ Kept (fun _ => False) w w' ∧ w.heap.size ≤ bk ∧ BookS w' ⟨a, bk, .slice none 0 0⟩ (bkNew (placeQ D.n).2.2.2) P L D := by
  have HR := Lib.hid (readMas_any h.log.dev hn)
  have HB := Lib.hid (fun (w' : World) (hk : Kept (fun _ => False) w w') => blocks_any (h.log.dev.keep hk id id id))
  have HE := Lib.hid (fun (w' : World) (hk : Kept (fun _ => False) w w') => end_any w' a.q a.p a.lv a.tv L (h.keep hk (fun _ _ => id)).log.hq)
  have HPG := Lib.hid (fun (w' : World) (hk : Kept (fun _ => False) w w') => ppages_any (h.keep hk (fun _ _ => id)))
  have H := Lib.hid h
  obtain ⟨V, hV⟩ : ∃ V, V = readMas D := ⟨_, rfl⟩
  rw [← hV] at HR hm
  obtain ⟨m, n⟩ := V
  dsimp only at HR hm
  subst hm
  obtain ⟨N, hN⟩ : ∃ N, N = D.n := ⟨_, rfl⟩
  rw [← hN] at HB hq ⊢
  have HBB := bBk
  obtain ⟨lf, hlf⟩ : ∃ lf, lf = L.fin := ⟨_, rfl⟩
  rw [← hlf] at HE hf
  obtain ⟨pbs, hpbs⟩ : ∃ pbs, pbs = P.blocks := ⟨_, rfl⟩
  rw [← hpbs] at HPG hp hq
  have hf1 : (lf == 0) = false := by rw [beq_eq_false_iff_ne]; exact hf
  have hp1 : (pbs == 0) = false := by rw [beq_eq_false_iff_ne]; exact hp
  have HPL := Lib.hid (place_any N)
  obtain ⟨Q, hQ⟩ : ∃ Q, Q = placeQ N := ⟨_, rfl⟩
  rw [← hQ] at hq HPL ⊢
  obtain ⟨q1, q2, q3, q4⟩ := Q
  dsimp only at hq HPL ⊢
  subst hq
  unfold ptrV at HPG ⊢
  clear h hN hn hV hf hp hlf hpbs hQ
  go_enter Tryz.func35, Tryz.ntmps35
  go_wp2_with fail
  refine HR.out.mono ?_
  rintro e w1 ⟨rfl, hk1⟩
  have HK1 := Lib.hid hk1
  clear hk1 HR
  go_wp2_with (refine wl_alloc' rfl 62 rfl (masC zM) zeroMas ?_)
  intro pr w2 l2 m2 hb2 hk2
  have HP2 := Lib.hid hb2
  have HK2 := Lib.hid (HK1.out.trans0 hk2)
  have HL2 := Lib.hid (show w.heap.size ≤ pr from Nat.le_trans HK1.out.size l2)
  clear hb2 hk2 l2 m2
  go_wp2_with (refine wl_store_row rfl 62 _ _ rfl pr (masC m) (masC zM) rfl rfl HP2.out sizeMas rfl (one_mas _) ?_)
  intro w3 hb3 hk3
  have HK3 := Lib.hid (HK2.out.new hk3 (fun z hz => by subst hz; exact HL2.out))
  clear hb3 hk3
  go_wp2_with fail
  refine (HB.out w3 HK3.out).mono ?_
  rintro e wx ⟨rfl, rfl⟩
  go_wp2_with fail
  refine (HPL.out w3).mono ?_
  rintro e wx ⟨rfl, rfl⟩
  go_wp2_with fail
  refine (HE.out w3 HK3.out).mono ?_
  rintro e wx ⟨rfl, rfl⟩
  go_wp2_with fail
  refine (HPG.out w3 HK3.out).mono ?_
  rintro e wx ⟨rfl, rfl⟩
  go_wp2_with fail
  refine (HPG.out w3 HK3.out).mono ?_
  rintro e wx ⟨rfl, rfl⟩
  go_wp2_with (refine wl_box rfl 65 _ rfl (.agg #[.pointer (some ⟨a.p, 0, none⟩), .pointer (some ⟨a.q, 0, none⟩), .pointer (some ⟨a.pb, 0, none⟩), .bool false, .int .i64 0, .int .i64 0, .slice none 0 0, .int .i64 0, .int .i64 q4]) rfl ?_)
  intro bk w4 l4 m4 hb4 hk4
  have HB4 := Lib.hid (show w4.heap[bk]? = some (.cells (bookC ⟨a, bk, .slice none 0 0⟩ (bkNew q4)) 65 (0, 0)) from hb4)
  have HK4 := Lib.hid (HK3.out.trans0 hk4)
  have HL4 := Lib.hid (show w.heap.size ≤ bk from Nat.le_trans HK3.out.size l4)
  clear hb4 hk4 l4 m4
  go_wp2
  go_ret
  exact ⟨bk, rfl, HK4.out, HL4.out, ⟨H.out.keep HK4.out (fun _ _ => id), HB4.out, LsV.nil _ _, fun z hz => by cases hz⟩⟩
end
end Go.Proofs.YtnbfhdgojmflhaaGreat
namespace Go.Proofs.YtnbfhdgojmflhaaGreat
open Go.RowKit
def zBk : Array Value := #[.pointer none, .pointer none, .pointer none, .bool false, .int .i64 0, .int .i64 0, .slice none 0 0, .int .i64 0, .int .i64 0]
def NoBk (w : World) (A : Option Addr) : Prop := A = none ∨ ∃ g, A = some ⟨g, 0, none⟩ ∧ w.heap[g]? = some (.cells zBk 65 (0, 0))
theorem NoBk.keep {w w' : World} {A : Option Addr} (h : NoBk w A) (hk : Kept (fun _ => False) w w') : NoBk w' A := by
  rcases h with h | ⟨g, h1, h2⟩
  · exact .inl h
  · exact .inr ⟨g, h1, hk.heap h2 id⟩
section
variable {w w' : World} {A : Option Addr}
theorem nb_there (h : NoBk w A) : Calls Tryz.prog 62 #[.pointer A] w fun e w' => e = .returned (.bool false) ∧ w = w' := by
  rcases h with rfl | ⟨g, rfl, hg⟩
  · go_enter Tryz.func62, Tryz.ntmps62
    go_wp2
    go_ret
    exact ⟨rfl, rfl⟩
  · have c0 : w.cell? ⟨g, 0, none⟩ = some (.pointer none) := cell_blk hg rfl
    clear hg
    go_enter Tryz.func62, Tryz.ntmps62
    go_wp2
    go_ret
    exact ⟨rfl, rfl⟩
theorem nb_Pages (h : NoBk w A) : Calls Tryz.prog 21 #[.pointer A] w fun e w' => e = .returned (.int .i64 0) ∧ w = w' := by
  have HT := Lib.hid (nb_there h)
  clear h
  go_enter Tryz.func21, Tryz.ntmps21
  go_wp2_with fail
  refine HT.out.mono ?_
  rintro e wx ⟨rfl, rfl⟩
  go_wp2
  go_ret
  exact ⟨rfl, rfl⟩
theorem nb_Changes (h : NoBk w A) : Calls Tryz.prog 29 #[.pointer A] w fun e w' => e = .returned (.int .i64 0) ∧ w = w' := by
  have HT := Lib.hid (nb_there h)
  clear h
  go_enter Tryz.func29, Tryz.ntmps29
  go_wp2_with fail
  refine HT.out.mono ?_
  rintro e wx ⟨rfl, rfl⟩
  go_wp2
  go_ret
  exact ⟨rfl, rfl⟩
theorem nb_In (h : NoBk w A) : Calls Tryz.prog 30 #[.pointer A] w fun e w' => e = .returned (.bool false) ∧ w = w' := by
  have HT := Lib.hid (nb_there h)
  clear h
  go_enter Tryz.func30, Tryz.ntmps30
  go_wp2_with fail
  refine HT.out.mono ?_
  rintro e wx ⟨rfl, rfl⟩
  go_wp2
  go_ret
  exact ⟨rfl, rfl⟩
theorem nb_Begin (h : NoBk w A) : Calls Tryz.prog 20 #[.pointer A] w fun e w' => e = .returned (.int .i64 1) ∧ w = w' := by
  have HT := Lib.hid (nb_there h)
  clear h
  go_enter Tryz.func20, Tryz.ntmps20
  go_wp2_with fail
  refine HT.out.mono ?_
  rintro e wx ⟨rfl, rfl⟩
  go_wp2
  go_ret
  exact ⟨rfl, rfl⟩
theorem nb_Abort (h : NoBk w A) : Calls Tryz.prog 26 #[.pointer A] w fun e w' => e = .returned (.int .i64 1) ∧ w = w' := by
  have HT := Lib.hid (nb_there h)
  clear h
  go_enter Tryz.func26, Tryz.ntmps26
  go_wp2_with fail
  refine HT.out.mono ?_
  rintro e wx ⟨rfl, rfl⟩
  go_wp2
  go_ret
  exact ⟨rfl, rfl⟩
theorem nb_Commit (h : NoBk w A) : Calls Tryz.prog 25 #[.pointer A] w fun e w' => e = .returned (.int .i64 1) ∧ Kept (fun _ => False) w w' := by
  have H := Lib.hid h
  clear h
  go_enter Tryz.func25, Tryz.ntmps25
  go_wp2_with (refine wl_box rfl 51 _ rfl (.pointer A) rfl ?_)
  intro gb wa l1 m1 hb1 hk1
  have HK1 := Lib.hid hk1
  have HT := Lib.hid (nb_there (H.out.keep hk1))
  have d0 : wa.cell? ⟨gb, 0, none⟩ = some (.pointer A) := cell_blk hb1 rfl
  clear hb1 hk1
  go_wp2_with fail
  refine HT.out.mono ?_
  rintro e wx ⟨rfl, rfl⟩
  go_wp2
  go_ret
  exact ⟨rfl, HK1.out⟩
theorem nb_Point (h : NoBk w A) : Calls Tryz.prog 28 #[.pointer A] w fun e w' => e = .returned (.int .i64 1) ∧ Kept (fun _ => False) w w' := by
  have H := Lib.hid h
  clear h
  go_enter Tryz.func28, Tryz.ntmps28
  go_wp2_with (refine wl_box rfl 51 _ rfl (.pointer A) rfl ?_)
  intro gb wa l1 m1 hb1 hk1
  have HK1 := Lib.hid hk1
  have HT := Lib.hid (nb_there (H.out.keep hk1))
  have d0 : wa.cell? ⟨gb, 0, none⟩ = some (.pointer A) := cell_blk hb1 rfl
  clear hb1 hk1
  go_wp2_with fail
  refine HT.out.mono ?_
  rintro e wx ⟨rfl, rfl⟩
  go_wp2
  go_ret
  exact ⟨rfl, HK1.out⟩
theorem nb_Page (h : NoBk w A) (n : Int) : Calls Tryz.prog 22 #[.pointer A, .int .i64 n] w fun e w' => e = .returned (.tuple #[.slice none 0 0, .int .i64 1]) ∧ w = w' := by
  have HT := Lib.hid (nb_there h)
  clear h
  go_enter Tryz.func22, Tryz.ntmps22
  go_wp2_with fail
  refine HT.out.mono ?_
  rintro e wx ⟨rfl, rfl⟩
  go_wp2
  refine bodyPost_ret (results_tmp2 rfl _ _ _) rfl ?_
  exact ⟨rfl, rfl⟩
theorem nb_Put (h : NoBk w A) (n : Int) (B : Option Addr) (k c : Nat) : Calls Tryz.prog 23 #[.pointer A, .int .i64 n, .slice B k c] w fun e w' => e = .returned (.int .i64 1) ∧ w = w' := by
  have HT := Lib.hid (nb_there h)
  clear h
  go_enter Tryz.func23, Tryz.ntmps23
  go_wp2_with fail
  refine HT.out.mono ?_
  rintro e wx ⟨rfl, rfl⟩
  go_wp2
  go_ret
  exact ⟨rfl, rfl⟩
end
end Go.Proofs.YtnbfhdgojmflhaaGreat
