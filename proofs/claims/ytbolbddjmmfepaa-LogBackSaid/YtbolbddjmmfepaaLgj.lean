/-
  No statement is proved here: 'Trim' of log.
-/
import Derived.Test.YtbolbddjmmfepaaLgi
namespace Go.Proofs.Ytbolbddjmmfepaa
open Go.RowKit

/-- The oldest place goes on. -/
def LogM.trim (L : LogM) (lsn : Int) : LogM × Int :=
  if (foundM L.lsns lsn = false ∧ lsn ≠ L.fin) ∨ L.safe < lsn then (L, 2) else ({ L with oldest := lsn, lsns := L.lsns.drop (findM L.lsns lsn) }, 0)
theorem sizeI64 (w : World) : (sizeOf ((Try.prog).elem 45)).run Try.prog w = .ok 1 w := by
  have h : ((Try.prog).info? ((Try.prog).elem 45)).map (·.size) = some 1 := by kernel_rfl
  cases hq : (Try.prog).info? ((Try.prog).elem 45) with
  | none => simp [hq] at h
  | some i =>
    have h1 : i.size = 1 := by simpa [hq] using h
    simp [sizeOf, typeInfo, hq, h1]
theorem underI64 : (Try.prog).underlying 45 = some (.slice ((Try.prog).elem 45)) := by kernel_rfl
theorem exec_slI {ev : Operand → Value} {o : Oper} (x z : Operand) (k : Nat) (ho : o.op = .slice 45 x (some z) none none) (A : Option Addr) (n c : Nat) (hI : Int) (hx : ev x = .slice A n c) (hz : ev z = .int .i64 hI) (e : hI = (k : Int)) (hk : k ≤ n) (w : World) :
    (execOp ev o).run Try.prog w = .ok (.value (.slice (slA A k c) (n - k) (c - k))) w := by
  subst e
  have h : (Instr.slice 45 (.slice A n c) (some (.int .i64 k)) none none).run Try.prog w = .ok (.slice (slA A k c) (n - k) (c - k)) w := by
    rw [run_slice_l w 45 A n c underI64 .i64 (k : Int) (by omega) (by omega), sizeI64]
    rfl
  simp only [execOp, ho, hx, hz, Option.map, Sem.run_bind, run_sliceAt_slice w 45 _ _ _ _ underI64, h, Result.andThen]
  rfl
theorem slA_block {A : Option Addr} {k c n m c' : Nat} : (Value.slice (slA A k c) n c').ownBlock = (Value.slice A m c).ownBlock := by
  unfold slA
  split
  · cases A <;> rfl
  · cases A with
    | none => rfl
    | some a =>
      show some (a.add (k * 1)).block = some a.block
      unfold Addr.add
      split <;> rfl
theorem LsV.drop {w : World} {base : Nat} {A : Option Addr} {n c : Nat} {l : List Int} (h : LsV w base (.slice A n c) l) (k : Nat) (hk : k ≤ n) : LsV w base (.slice (slA A k c) (n - k) (c - k)) (l.drop k) := by
  rcases h with ⟨h1, rfl⟩ | ⟨g, off, c', cur, h1, h2, h3, h4, h5, h6, h7⟩
  · cases h1
    have : k = 0 := by omega
    subst this
    exact .inl ⟨rfl, rfl⟩
  · cases h1
    unfold slA
    by_cases hck : c = k
    · rw [if_pos hck]
      refine .inr ⟨g, off, c - k, cur, by rw [List.length_drop], h2, h3, by rw [List.length_drop]; omega, by omega, by omega, fun j x hx => ?_⟩
      rw [List.getElem?_eq_none (by rw [List.length_drop]; omega)] at hx
      cases hx
    · rw [if_neg hck]
      refine .inr ⟨g, off + k, c - k, cur, ?_, h2, h3, by rw [List.length_drop]; omega, by omega, by omega, fun j x hx => ?_⟩
      · rw [List.length_drop, Nat.mul_one]
        show Value.slice (some ((⟨g, off, none⟩ : Addr).add k)) _ _ = _
        rw [Addr.add_mid]
      · rw [List.getElem?_drop] at hx
        rw [Nat.add_assoc]
        exact h7 _ x hx
/-- What Trim leaves. -/
def TrimPost (w : World) (q p ms mo : Nat) (lv tv : Value) (L : LogM) (D : DevM) (x : LogM × Int) (e : Ending) (w' : World) : Prop := e = .returned (.int .i64 x.2) ∧
  ∃ lv', LogS w' q p ms mo lv' tv x.1 D ∧ Kept (fun x => x = q) w w' ∧ lv'.ownBlock = lv.ownBlock
theorem ob_cast (A : Option Addr) (n m c c' : Nat) : (Value.slice A n c).ownBlock = (Value.slice A m c').ownBlock := by cases A <;> rfl
set_option maxRecDepth 100000 in
set_option maxHeartbeats 1600000 in
theorem trim_any (w : World) (q p ms mo : Nat) (lv tv : Value) (L : LogM) (D : DevM) (h : LogS w q p ms mo lv tv L D) (hri : Rises L.lsns) (hll : L.lsns.length ≤ 1000000000) (lsn : Int) :
    Calls Try.prog 25 #[.pointer (some ⟨q, 0, none⟩), .int .i64 lsn] w (TrimPost w q p ms mo lv tv L D (L.trim lsn)) := by
  obtain ⟨Al, nl, cl, hlv, hnl⟩ := h.hl.form3
  subst hlv
  obtain ⟨k, hk⟩ : ∃ k, k = findM L.lsns lsn := ⟨_, rfl⟩
  have HBS := Lib.hid (show Calls Try.prog 56 #[.slice Al nl cl, .int .i64 lsn] w fun e w' => e = .returned (.tuple #[.int .i64 (k : Nat), .bool (foundM L.lsns lsn)]) ∧ w = w' from by
    obtain ⟨A, c, h1, h2, h3, h4⟩ := h.hl.slice
    cases h1
    rw [hk]
    exact bsearch_any _ _ _ _ _ hri hll h4)
  have hkl : k ≤ nl := by
    rw [hk, hnl]
    unfold findM
    exact (List.takeWhile_sublist _).length_le
  obtain ⟨X, hX⟩ : ∃ X, X = L.trim lsn := ⟨_, rfl⟩
  have hv : X = if (foundM L.lsns lsn = false ∧ lsn ≠ L.fin) ∨ L.safe < lsn then (L, 2) else ({ L with oldest := lsn, lsns := L.lsns.drop k }, 0) := by rw [hX, hk]; rfl
  rw [← hX]
  have HV := Lib.hid hv
  have HTH := Lib.hid (there_some w q p _ tv L h.hq)
  have c7 : w.cell? ⟨q, 7, none⟩ = some (.slice Al nl cl) := cell_blk h.hq rfl
  have c5 : w.cell? ⟨q, 5, none⟩ = some (.int .i64 L.fin) := cell_blk h.hq rfl
  have c6 : w.cell? ⟨q, 6, none⟩ = some (.int .i64 L.safe) := cell_blk h.hq rfl
  have H := Lib.hid h
  obtain ⟨FI, hFI⟩ : ∃ FI, FI = L.fin := ⟨_, rfl⟩
  obtain ⟨SA, hSA⟩ : ∃ SA, SA = L.safe := ⟨_, rfl⟩
  obtain ⟨FO, hFO⟩ : ∃ FO, FO = foundM L.lsns lsn := ⟨_, rfl⟩
  rw [← hFI] at c5 HV
  rw [← hSA] at c6 HV
  rw [← hFO] at HBS HV
  have hk9 : k ≤ 1000000000 := by omega
  have HFI := Lib.hid hFI
  have HSA := Lib.hid hSA
  clear h hk hnl hX hv hri hll hFI hSA hFO
  by_cases hbad : (FO = false ∧ lsn ≠ FI) ∨ SA < lsn
  · have hx : X = (L, 2) := by rw [HV.out, if_pos hbad]
    have HX := Lib.hid hx
    clear hx HV
    go_enter Try.func25, Try.ntmps25
    go_wp2_with fail
    refine HTH.out.mono ?_
    rintro e wx ⟨rfl, rfl⟩
    go_wp2_with fail
    refine HBS.out.mono ?_
    rintro e wx ⟨rfl, rfl⟩
    by_cases h1 : FO = false
    · subst h1
      by_cases h2 : lsn = FI
      · have h2b : (lsn != FI) = false := by rw [h2]; simp
        have h3 : SA < lsn := by rcases hbad with ⟨_, h⟩ | h; exact absurd h2 h; exact h
        clear hbad h2
        go_wp2
        go_ret
        unfold TrimPost
        rw [HX.out]
        exact ⟨rfl, _, H.out, Kept.refl _ _, rfl⟩
      · have h2b : (lsn != FI) = true := by simpa using h2
        clear hbad h2
        go_wp2
        go_ret
        unfold TrimPost
        rw [HX.out]
        exact ⟨rfl, _, H.out, Kept.refl _ _, rfl⟩
    · have h1' : FO = true := by
        rcases Bool.eq_false_or_eq_true FO with h | h
        · exact h
        · exact absurd h h1
      subst h1'
      have h3 : SA < lsn := by rcases hbad with ⟨h, _⟩ | h; cases h; exact h
      clear hbad h1
      go_wp2
      go_ret
      unfold TrimPost
      rw [HX.out]
      exact ⟨rfl, _, H.out, Kept.refl _ _, rfl⟩
  · have hx : X = ({ L with oldest := lsn, lsns := L.lsns.drop k }, 0) := (HV.out.trans (if_neg hbad)).trans (by rw [HFI.out, HSA.out])
    have HX := Lib.hid hx
    have h3 : ¬ SA < lsn := fun h => hbad (.inr h)
    have h2 : FO = true ∨ (FO = false ∧ lsn = FI) := by
      rcases Bool.eq_false_or_eq_true FO with h | h
      · exact .inl h
      · exact .inr ⟨h, Decidable.byContradiction (fun hn => hbad (.inl ⟨h, hn⟩))⟩
    clear hx HV hbad
    have HFB := Lib.hid h2
    have hb1 : FO = false → (lsn != FI) = false := fun h => by
      rcases h2 with h2 | ⟨_, h2⟩
      · rw [h] at h2; cases h2
      · rw [h2]; simp
    clear h2
    go_enter Try.func25, Try.ntmps25
    go_wp2_with fail
    refine HTH.out.mono ?_
    rintro e wx ⟨rfl, rfl⟩
    go_wp2_with fail
    refine HBS.out.mono ?_
    rintro e wx ⟨rfl, rfl⟩
    go_upto_region 4 with fail
    go_cut [36] from 19 to 36 (fun v wx => v = .bool false ∧ w = wx)
    case first =>
      cases FO
      · have hb2 := hb1 rfl
        clear hb1
        go_wp2
        go_meet
        case rel => exact ⟨by rw [decide_eq_false (by omega : ¬ SA < lsn)], rfl⟩
      · clear hb1
        go_wp2
        go_meet
        case rel => exact ⟨by rw [decide_eq_false (by omega : ¬ SA < lsn)], rfl⟩
    case rest =>
      obtain ⟨rfl, rfl⟩ := hcut
      have HQ := Lib.hid H.out.hq
      have HQd := Lib.hid (show LogQ w.drew q p (.slice Al nl cl) tv L from H.out.hq)
      go_wp2_with fail
      refine startL 14 (fun w' => LogQ w' q p (.slice Al nl cl) tv L ∨ LogQ w' q p (.slice Al nl cl) tv { L with oldest := lsn }) (by kernel_rfl) (.inl HQd.out) (fun hH => ?_)
      simp only [List.length_cons, List.length_nil, List.replicate]
      refine takeL 0 ?_ rfl (by kernel_rfl) (fun _ _ _ h => h) (by rfl) (fun w' hw' => ?_) hH ?_
      rotate_left
      · have c7 : w'.cell? ⟨q, 7, none⟩ = some (.slice Al nl cl) := (by rcases hw' with h | h; exact cell_blk h rfl; exact cell_blk h rfl)
        go_simp
        all_goals with_reducible rfl
      simp only [Act.put, List.setIfInBounds_toArray, List.set_cons_zero, List.set_cons_succ]
      refine takeL 1 ?_ rfl (by kernel_rfl) (fun _ _ _ h => h) (by rfl) (fun w' hw' => ?_) hH ?_
      rotate_left
      · have c7 : w'.cell? ⟨q, 7, none⟩ = some (.slice Al nl cl) := (by rcases hw' with h | h; exact cell_blk h rfl; exact cell_blk h rfl)
        go_simp
        all_goals with_reducible rfl
      simp only [Act.put, List.setIfInBounds_toArray, List.set_cons_zero, List.set_cons_succ]
      refine takeL 2 ?_ rfl (by kernel_rfl) (fun _ _ _ h => h) (by rfl) (fun w' hw' => ?_) hH ?_
      rotate_left
      · have c7 : w'.cell? ⟨q, 7, none⟩ = some (.slice Al nl cl) := (by rcases hw' with h | h; exact cell_blk h rfl; exact cell_blk h rfl)
        go_simp
        all_goals with_reducible rfl
      simp only [Act.put, List.setIfInBounds_toArray, List.set_cons_zero, List.set_cons_succ]
      refine takeL 3 ?_ rfl (by kernel_rfl) (fun _ _ _ h => h) (by rfl) (fun w' hw' => ?_) hH ?_
      rotate_left
      · have c7 : w'.cell? ⟨q, 7, none⟩ = some (.slice Al nl cl) := (by rcases hw' with h | h; exact cell_blk h rfl; exact cell_blk h rfl)
        go_simp
        all_goals with_reducible rfl
      simp only [Act.put, List.setIfInBounds_toArray, List.set_cons_zero, List.set_cons_succ]
      refine takeL 4 ?_ rfl (by kernel_rfl) (fun _ _ _ h => h) (by rfl) (fun w' hw' => ?_) hH ?_
      rotate_left
      · have c7 : w'.cell? ⟨q, 7, none⟩ = some (.slice Al nl cl) := (by rcases hw' with h | h; exact cell_blk h rfl; exact cell_blk h rfl)
        go_simp
        all_goals with_reducible rfl
      simp only [Act.put, List.setIfInBounds_toArray, List.set_cons_zero, List.set_cons_succ]
      refine takeL 5 ?_ rfl (by kernel_rfl) (fun _ _ _ h => h) (by rfl) (fun w' hw' => ?_) hH ?_
      rotate_left
      · have c7 : w'.cell? ⟨q, 7, none⟩ = some (.slice Al nl cl) := (by rcases hw' with h | h; exact cell_blk h rfl; exact cell_blk h rfl)
        go_simp
        all_goals with_reducible rfl
      simp only [Act.put, List.setIfInBounds_toArray, List.set_cons_zero, List.set_cons_succ]
      refine takeL 6 ?_ rfl (by kernel_rfl) (fun _ _ _ h => h) (by rfl) (fun w' hw' => ?_) hH ?_
      rotate_left
      · have c7 : w'.cell? ⟨q, 7, none⟩ = some (.slice Al nl cl) := (by rcases hw' with h | h; exact cell_blk h rfl; exact cell_blk h rfl)
        go_simp
        all_goals with_reducible rfl
      simp only [Act.put, List.setIfInBounds_toArray, List.set_cons_zero, List.set_cons_succ]
      refine takeL 7 ?_ rfl (by kernel_rfl) (fun _ _ _ h => h) (by rfl) (fun w' hw' => ?_) hH ?_
      rotate_left
      · have c7 : w'.cell? ⟨q, 7, none⟩ = some (.slice Al nl cl) := (by rcases hw' with h | h; exact cell_blk h rfl; exact cell_blk h rfl)
        go_simp
        all_goals with_reducible rfl
      simp only [Act.put, List.setIfInBounds_toArray, List.set_cons_zero, List.set_cons_succ]
      refine takeL 8 (.slice (slA Al k cl) (nl - k) (cl - k)) rfl (by kernel_rfl) (fun _ _ _ h => h) (by rfl) (fun w' _ => exec_slI _ _ k rfl Al nl cl _ rfl rfl rfl hkl w') hH ?_
      simp only [Act.put, List.setIfInBounds_toArray, List.set_cons_zero, List.set_cons_succ]
      refine stepL 9 rfl (by kernel_rfl) (fun K hK => ?_)
      go_simp
      refine hK.out _ _ (fun _ => hH) (fun _ => ?_)
      simp only [List.setIfInBounds_toArray, List.set_cons_zero, List.set_cons_succ]
      clear hK K
      refine stepL 10 rfl (by kernel_rfl) (fun K hK => ?_)
      go_simp
      refine hK.out _ _ (fun _ => hH) (fun _ => ?_)
      simp only [List.setIfInBounds_toArray, List.set_cons_zero, List.set_cons_succ]
      clear hK K
      refine stepL 11 rfl (by kernel_rfl) (fun K hK => ?_)
      refine step_store1 rfl 2 _ _ (by rfl) q 4 (.int .i64 lsn) (logC p (.slice Al nl cl) tv L) (by rfl) (by rfl) HQd.out (by kernel_rfl) (by show 4 < 10; decide) rfl ?_
      intro w2 hb2 hk2
      have HQ2 := Lib.hid (show LogQ w2 q p (.slice Al nl cl) tv { L with oldest := lsn } from hb2)
      have HK2 := Lib.hid (((Kept.refl (fun x => x = q) w).drew).trans' hk2)
      clear hb2 hk2 hH
      refine hK.out _ _ (fun _ => .inr HQ2.out) (fun hH => ?_)
      simp only [Act.put, List.setIfInBounds_toArray, List.set_cons_zero, List.set_cons_succ]
      clear hK K
      refine stepL 12 rfl (by kernel_rfl) (fun K hK => ?_)
      go_simp
      refine hK.out _ _ (fun _ => .inr HQ2.out) (fun hH => ?_)
      simp only [List.setIfInBounds_toArray, List.set_cons_zero, List.set_cons_succ]
      clear hK K
      refine stepL 13 rfl (by kernel_rfl) (fun K hK => ?_)
      go_simp
      refine hK.out _ _ (fun _ => .inr HQ2.out) (fun hH => ?_)
      simp only [List.setIfInBounds_toArray, List.set_cons_zero, List.set_cons_succ]
      clear hK K
      refine stepL 14 rfl (by kernel_rfl) (fun K hK => ?_)
      refine step_store1 rfl 45 _ _ (by rfl) q 7 (.slice (slA Al k cl) (nl - k) (cl - k)) (logC p (.slice Al nl cl) tv { L with oldest := lsn }) (by rfl) (by rfl) HQ2.out (by kernel_rfl) (by show 7 < 10; decide) rfl ?_
      intro w3 hb3 hk3
      have HQ3 := Lib.hid (show LogQ w3 q p (.slice (slA Al k cl) (nl - k) (cl - k)) tv { L with oldest := lsn, lsns := L.lsns.drop k } from hb3)
      have HK3 := Lib.hid (HK2.out.trans' hk3)
      clear hb3 hk3
      refine hK.out _ _ (fun h => absurd rfl h) (fun _ => ?_)
      simp only [Act.put, List.setIfInBounds_toArray, List.set_cons_zero, List.set_cons_succ]
      clear hK K hH
      refine doneL (by kernel_rfl) ?_ _
      go_wp2
      go_ret
      unfold TrimPost
      rw [HX.out]
      have hob : (Value.slice (slA Al k cl) (nl - k) (cl - k)).ownBlock = (Value.slice Al nl cl).ownBlock := slA_block
      refine ⟨rfl, _, ⟨H.out.dev.keep HK3.out H.out.nq.1 H.out.nq.2.1 H.out.nq.2.2, HQ3.out, (H.out.hl.drop k hkl).keep HK3.out (fun x hx => (H.out.nl x (hob ▸ hx)).1), H.out.ht.keep HK3.out (fun x hx => (H.out.nt x hx).1), H.out.nq, fun x hx => H.out.nl x (hob ▸ hx), H.out.nt⟩, HK3.out, hob⟩
end Go.Proofs.Ytbolbddjmmfepaa
