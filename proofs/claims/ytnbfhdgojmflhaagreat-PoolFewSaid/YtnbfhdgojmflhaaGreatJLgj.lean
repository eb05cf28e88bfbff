/-
  No statement is proved here: a part of what the claim's last text rests on.
-/
import Derived.Test.YtnbfhdgojmflhaaGreatJLgf
import Derived.Deep.LoopGhost
import Derived.Deep.CutBlock
import Derived.Laws.ResultCell
namespace Go.Proofs.YtnbfhdgojmflhaaGreat
open Go.RowKit
theorem cnan_any (x : Int) (w : World) : Calls Tryz.prog 170 #[.int .i64 x] w fun e w' => e = .returned (.bool false) ∧ w = w' := by
  go_enter Tryz.func170, Tryz.ntmps170
  go_wp2
  go_ret
  exact ⟨by simp, rfl⟩
theorem snan_any (x : Int) (w : World) : Calls Tryz.prog 143 #[.int .i64 x] w fun e w' => e = .returned (.bool false) ∧ w = w' := by
  go_enter Tryz.func143, Tryz.ntmps143
  go_wp2
  go_ret
  exact ⟨by simp, rfl⟩
theorem less_any (x y : Int) (w : World) : Calls Tryz.prog 142 #[.int .i64 x, .int .i64 y] w fun e w' => e = .returned (.bool (decide (x < y))) ∧ w = w' := by
  go_enter Tryz.func142, Tryz.ntmps142
  go_wp2_with (go_at_call 170; refine (cnan_any _ _).mono ?_; rintro e w' ⟨rfl, rfl⟩)
  go_ret
  exact ⟨rfl, rfl⟩
theorem find_at : ∀ (l : List Int) (x : Int) (i : Nat), i ≤ l.length → (∀ t, t < i → l.getD t 0 < x) → (∀ t, i ≤ t → t < l.length → x ≤ l.getD t 0) → findM l x = i
  | [], x, i, h, _, _ => by simp at h; subst h; rfl
  | y :: l, x, 0, _, _, h => by
    have := h 0 (Nat.le_refl _) (by simp)
    simp at this
    unfold findM
    rw [List.takeWhile_cons_of_neg (by simpa using this)]
    rfl
  | y :: l, x, i + 1, h0, h1, h2 => by
    have h3 := h1 0 (by omega)
    simp at h3
    have ih := find_at l x i (by simpa using h0) (fun t ht => by simpa using h1 (t + 1) (by omega)) (fun t ht hl => by simpa using h2 (t + 1) (by omega) (by simpa using hl))
    unfold findM at ih ⊢
    rw [List.takeWhile_cons_of_pos (by simpa using h3), List.length_cons, ih]
def Rises (l : List Int) : Prop := ∀ i j, i < j → j < l.length → l.getD i 0 < l.getD j 0
def foundM (l : List Int) (x : Int) : Bool := decide (findM l x < l.length ∧ l.getD (findM l x) 0 = x)
theorem ret2_bs {i j : Nat} {a b : Bool} (h1 : i = j) (h2 : a = b) : Ending.returned (.tuple #[.int .i64 (i : Nat), .bool a]) = .returned (.tuple #[.int .i64 (j : Nat), .bool b]) := by rw [h1, h2]
set_option maxRecDepth 100000 in
set_option maxHeartbeats 800000 in
theorem bsearch_any (A : Option Addr) (c : Nat) (l : List Int) (x : Int) (w : World) (hr : Rises l) (hl : l.length ≤ 1000000000) (hcell : ∀ k x, l[k]? = some x → ∃ g off, A = some ⟨g, off, none⟩ ∧ w.cell? ⟨g, off + k, none⟩ = some (.int .i64 x)) :
    Calls Tryz.prog 100 #[.slice A l.length c, .int .i64 x] w fun e w' => e = .returned (.tuple #[.int .i64 (findM l x : Nat), .bool (foundM l x)]) ∧ w = w' := by
  have C := Lib.hid (show ∀ k, k < l.length → ∃ g off, A = some ⟨g, off, none⟩ ∧ w.cell? ⟨g, off + k, none⟩ = some (.int .i64 (l.getD k 0)) from fun k hk => by
    refine hcell k _ ?_
    rw [List.getD_eq_getElem?_getD, List.getElem?_eq_getElem hk]
    rfl)
  have S := Lib.hid hr
  obtain ⟨n, hn⟩ : ∃ n, n = l.length := ⟨_, rfl⟩
  rw [← hn] at C hl ⊢
  have N := Lib.hid hn
  clear hr hcell hn
  go_enter Tryz.func100, Tryz.ntmps100
  go_wp2
  go_loopg [7, 8] n (fun g i j wr => ∃ lo hi : Nat, i = .int .i64 lo ∧ j = .int .i64 hi ∧ lo ≤ hi ∧ hi ≤ n ∧ hi - lo ≤ g ∧ w = wr ∧ (∀ t, t < lo → l.getD t 0 < x) ∧ (∀ t, hi ≤ t → t < n → x ≤ l.getD t 0))
  case atStart => exact ⟨0, n, rfl, rfl, Nat.zero_le _, Nat.le_refl _, Nat.le_refl _, rfl, fun t ht => absurd ht (by omega), fun t h1 h2 => absurd h1 (by omega)⟩
  case round =>
    obtain ⟨lo, hi, rfl, rfl, hlh, hin, hg, rfl, h1, h2⟩ := hrel
    have I := Lib.hid (And.intro h1 h2)
    clear h1 h2
    by_cases hlt : lo < hi
    · obtain ⟨g0, o0, hA, cm⟩ := C.out ((lo + hi) / 2) (by omega)
      subst hA
      obtain ⟨y, hy⟩ : ∃ y, y = l.getD ((lo + hi) / 2) 0 := ⟨_, rfl⟩
      rw [← hy] at cm
      have Y := Lib.hid hy.symm
      clear hy
      by_cases hyx : y < x
      · go_wp2_with (go_at_call 142; refine (less_any _ _ _).mono ?_; rintro e w' ⟨rfl, rfl⟩)
        go_roundg (hi - ((lo + hi) / 2 + 1))
        case measure => omega
        case rel =>
          refine ⟨(lo + hi) / 2 + 1, hi, by go_num, rfl, by omega, hin, Nat.le_refl _, rfl, fun t ht => ?_, I.out.2⟩
          rcases Nat.lt_or_ge t ((lo + hi) / 2) with h | h
          · have := S.out t ((lo + hi) / 2) h (by rw [← N.out]; omega)
            rw [Y.out] at this
            omega
          · have : t = (lo + hi) / 2 := by omega
            rw [this, Y.out]; exact hyx
      · go_wp2_with (go_at_call 142; refine (less_any _ _ _).mono ?_; rintro e w' ⟨rfl, rfl⟩)
        go_roundg ((lo + hi) / 2 - lo)
        case measure => omega
        case rel =>
          refine ⟨lo, (lo + hi) / 2, rfl, by go_num, by omega, by omega, Nat.le_refl _, rfl, I.out.1, fun t ht htn => ?_⟩
          rcases Nat.lt_or_ge ((lo + hi) / 2) t with h | h
          · have := S.out ((lo + hi) / 2) t h (by rw [← N.out]; omega)
            rw [Y.out] at this
            omega
          · have : t = (lo + hi) / 2 := by omega
            rw [this, Y.out]; omega
    · have : hi = lo := by omega
      subst this
      have hf := find_at l x hi (by rw [← N.out]; omega) I.out.1 (fun t h3 h4 => I.out.2 t h3 (by rw [N.out]; exact h4))
      have E := Lib.hid hf
      have EF := Lib.hid (show foundM l x = decide (hi < n ∧ l.getD hi 0 = x) from by unfold foundM; rw [hf, N.out])
      clear hf
      by_cases hn : hi < n
      · obtain ⟨g0, o0, hA, cm⟩ := C.out hi hn
        subst hA
        obtain ⟨y, hy⟩ : ∃ y, y = l.getD hi 0 := ⟨_, rfl⟩
        rw [← hy] at cm EF
        clear hy
        by_cases hyx : y = x
        · subst hyx
          go_wp2_with (go_at_call 143; refine (snan_any _ _).mono ?_; rintro e w' ⟨rfl, rfl⟩)
          go_ret2
          exact ⟨ret2_bs E.out.symm (EF.out.trans (decide_eq_true (⟨hn, by trivial⟩ : _ ∧ _))).symm, rfl⟩
        · have hyb : (y == x) = false := by simpa using hyx
          go_wp2_with (go_at_call 143; refine (snan_any _ _).mono ?_; rintro e w' ⟨rfl, rfl⟩)
          go_ret2
          exact ⟨ret2_bs E.out.symm (EF.out.trans (decide_eq_false (show ¬ (hi < n ∧ y = x) from fun h => hyx h.2))).symm, rfl⟩
      · go_wp2_with (go_at_call 143; refine (snan_any _ _).mono ?_; rintro e w' ⟨rfl, rfl⟩)
        go_ret2
        exact ⟨ret2_bs E.out.symm (EF.out.trans (decide_eq_false (show ¬ (hi < n ∧ l.getD hi 0 = x) from fun h => hn h.1))).symm, rfl⟩
end Go.Proofs.YtnbfhdgojmflhaaGreat
namespace Go.Proofs.YtnbfhdgojmflhaaGreat
open Go.RowKit
theorem stretch_len (D : DevM) (F C : Int) (n : Nat) (hC : 4 ≤ C) (hl : ∀ k, (D.latest k).length = 512) : ∀ (f : Nat) (a : Int) (l : Bytes), n < f + l.length → (stretchM D F C n f a l).2 = 0 → (stretchM D F C n f a l).1.length = n := by
  intro f
  induction f with
  | zero => intro a l h _; show (l.take n).length = n; rw [List.length_take]; omega
  | succ f ih =>
    intro a l h h2
    unfold stretchM at h2 ⊢
    by_cases hn : n ≤ l.length
    · rw [if_pos hn]; show (l.take n).length = n; rw [List.length_take]; omega
    · rw [if_neg hn] at h2 ⊢
      by_cases hm : D.mayE (secB F C a) ≠ 0
      · rw [if_pos hm] at h2
        exact absurd h2 hm
      · rw [if_neg hm] at h2 ⊢
        refine ih _ _ ?_ h2
        have h3 := secP_len D F C a (hl _) hC
        have h4 := secF_in (a := a)
        rw [List.length_append, List.length_drop, h3]
        omega
structure LogB (L : LogM) : Prop where
  fe : L.fin = L.beg + L.tail.length
  b0 : 1 ≤ L.beg
  bs : L.beg ≤ 3000000000000000000
end Go.Proofs.YtnbfhdgojmflhaaGreat
namespace Go.Proofs.YtnbfhdgojmflhaaGreat
open Go.RowKit
structure LogR (L : LogM) : Prop where
  ri : Rises L.lsns
  n1 : ∀ k, k < L.lsns.length → 1 ≤ L.lsns.getD k 0
  nx : ∀ k, k + 1 < L.lsns.length → L.lsns.getD (k + 1) 0 - L.lsns.getD k 0 ≤ 10000 ∧ L.lsns.getD (k + 1) 0 ≤ L.fin
  nl : ∀ k, k + 1 = L.lsns.length → L.lsns.getD k 0 ≤ L.fin ∧ L.fin - L.lsns.getD k 0 ≤ 10000
  ll : L.lsns.length ≤ 1000000000
def ReadPost (w : World) (x : Option RecM × Int) (e : Ending) (w' : World) : Prop := Kept (fun _ => False) w w' ∧
  (x.1 = none → e = .returned (.tuple #[.agg zRecC, .int .i64 x.2])) ∧
  (∀ r, x.1 = some r → ∃ A1 c1 A2 c2, e = .returned (.tuple #[.agg (recC r A1 c1 A2 c2), .int .i64 x.2]) ∧
    OwnV w' w.heap.size (.slice A1 r.old.length c1) r.old ∧ OwnV w' w.heap.size (.slice A2 r.new.length c2) r.new ∧ (∀ x, (Value.slice A1 r.old.length c1).ownBlock = some x → (Value.slice A2 r.new.length c2).ownBlock = some x → False))
theorem ReadPost.no {w w' : World} {x : Option RecM × Int} {e : Ending} (hk : Kept (fun _ => False) w w') (h : x.1 = none) (he : e = .returned (.tuple #[.agg zRecC, .int .i64 x.2])) : ReadPost w x e w' :=
  ⟨hk, fun _ => he, fun r hr => by rw [h] at hr; cases hr⟩
theorem OwnV.capM {w : World} {base : Nat} {A : Option Addr} {n c : Nat} {l : Bytes} (h : OwnV w base (.slice A n c) l) : c ≤ 9223372036854775807 := by
  rcases h.form with ⟨h1, rfl⟩ | ⟨g, cap, h1, h2⟩
  · cases h1; decide
  · cases h1
    obtain ⟨cur, _, _, _, h6, _⟩ := h2.form
    exact h6
end Go.Proofs.YtnbfhdgojmflhaaGreat
namespace Go.Proofs.YtnbfhdgojmflhaaGreat
open Go.RowKit
def LogM.trim (L : LogM) (lsn : Int) : LogM × Int :=
  if (foundM L.lsns lsn = false ∧ lsn ≠ L.fin) ∨ L.safe < lsn then (L, 2) else ({ L with oldest := lsn, lsns := L.lsns.drop (findM L.lsns lsn) }, 0)
theorem sizeI64 (w : World) : (sizeOf ((Tryz.prog).elem 63)).run Tryz.prog w = .ok 1 w := by
  have h : ((Tryz.prog).info? ((Tryz.prog).elem 63)).map (·.size) = some 1 := by kernel_rfl
  cases hq : (Tryz.prog).info? ((Tryz.prog).elem 63) with
  | none => simp [hq] at h
  | some i =>
    have h1 : i.size = 1 := by simpa [hq] using h
    simp [sizeOf, typeInfo, hq, h1]
theorem underI64 : (Tryz.prog).underlying 63 = some (.slice ((Tryz.prog).elem 63)) := by kernel_rfl
theorem exec_slI {ev : Operand → Value} {o : Oper} (x z : Operand) (k : Nat) (ho : o.op = .slice 63 x (some z) none none) (A : Option Addr) (n c : Nat) (hI : Int) (hx : ev x = .slice A n c) (hz : ev z = .int .i64 hI) (e : hI = (k : Int)) (hk : k ≤ n) (w : World) :
    (execOp ev o).run Tryz.prog w = .ok (.value (.slice (slA A k c) (n - k) (c - k))) w := by
  subst e
  have h : (Instr.slice 63 (.slice A n c) (some (.int .i64 k)) none none).run Tryz.prog w = .ok (.slice (slA A k c) (n - k) (c - k)) w := by
    rw [run_slice_l w 63 A n c underI64 .i64 (k : Int) (by omega) (by omega), sizeI64]
    rfl
  simp only [execOp, ho, hx, hz, Option.map, Sem.run_bind, run_sliceAt_slice w 63 _ _ _ _ underI64, h, Result.andThen]
  rfl
theorem slA_block {A : Option Addr} {k c n m c' : Nat} : (Value.slice (slA A k c) n c').ownBlock = (Value.slice A m c).ownBlock := by
  unfold slA
  split
  · cases A <;> rfl
  · cases A with
    | none => rfl
    | some a =>
      show some (a.add (k * 1)).block = some a.block
      unfold Addr.add
      split <;> rfl
theorem LsV.drop {w : World} {base : Nat} {A : Option Addr} {n c : Nat} {l : List Int} (h : LsV w base (.slice A n c) l) (k : Nat) (hk : k ≤ n) : LsV w base (.slice (slA A k c) (n - k) (c - k)) (l.drop k) := by
  rcases h with ⟨h1, rfl⟩ | ⟨g, off, c', cur, h1, h2, h3, h4, h5, h6, h7⟩
  · cases h1
    have : k = 0 := by omega
    subst this
    exact .inl ⟨rfl, rfl⟩
  · cases h1
    unfold slA
    by_cases hck : c = k
    · rw [if_pos hck]
      refine .inr ⟨g, off, c - k, cur, by rw [List.length_drop], h2, h3, by rw [List.length_drop]; omega, by omega, by omega, fun j x hx => ?_⟩
      rw [List.getElem?_eq_none (by rw [List.length_drop]; omega)] at hx
      cases hx
    · rw [if_neg hck]
      refine .inr ⟨g, off + k, c - k, cur, ?_, h2, h3, by rw [List.length_drop]; omega, by omega, by omega, fun j x hx => ?_⟩
      · rw [List.length_drop, Nat.mul_one]
        show Value.slice (some ((⟨g, off, none⟩ : Addr).add k)) _ _ = _
        rw [Addr.add_mid]
      · rw [List.getElem?_drop] at hx
        rw [Nat.add_assoc]
        exact h7 _ x hx
def TrimPost (w : World) (q p ms mo : Nat) (lv tv : Value) (L : LogM) (D : DevM) (x : LogM × Int) (e : Ending) (w' : World) : Prop := e = .returned (.int .i64 x.2) ∧
  ∃ lv', LogS w' q p ms mo lv' tv x.1 D ∧ Kept (fun x => x = q) w w' ∧ lv'.ownBlock = lv.ownBlock
set_option maxRecDepth 100000 in
set_option maxHeartbeats 1600000 in
theorem trim_any (w : World) (q p ms mo : Nat) (lv tv : Value) (L : LogM) (D : DevM) (h : LogS w q p ms mo lv tv L D) (hri : Rises L.lsns) (hll : L.lsns.length ≤ 1000000000) (lsn : Int) :
    Calls Tryz.prog 57 #[.pointer (some ⟨q, 0, none⟩), .int .i64 lsn] w (TrimPost w q p ms mo lv tv L D (L.trim lsn)) := by
  obtain ⟨Al, nl, cl, hlv, hnl⟩ := h.hl.form3
  subst hlv
  obtain ⟨k, hk⟩ : ∃ k, k = findM L.lsns lsn := ⟨_, rfl⟩
  have HBS := Lib.hid (show Calls Tryz.prog 100 #[.slice Al nl cl, .int .i64 lsn] w fun e w' => e = .returned (.tuple #[.int .i64 (k : Nat), .bool (foundM L.lsns lsn)]) ∧ w = w' from by
    obtain ⟨A, c, h1, h2, h3, h4⟩ := h.hl.slice
    cases h1
    rw [hk]
    exact bsearch_any _ _ _ _ _ hri hll h4)
  have hkl : k ≤ nl := by
    rw [hk, hnl]
    unfold findM
    exact (List.takeWhile_sublist _).length_le
  obtain ⟨X, hX⟩ : ∃ X, X = L.trim lsn := ⟨_, rfl⟩
  have hv : X = if (foundM L.lsns lsn = false ∧ lsn ≠ L.fin) ∨ L.safe < lsn then (L, 2) else ({ L with oldest := lsn, lsns := L.lsns.drop k }, 0) := by rw [hX, hk]; rfl
  rw [← hX]
  have HV := Lib.hid hv
  have HTH := Lib.hid (there_some w q p _ tv L h.hq)
  have c7 : w.cell? ⟨q, 7, none⟩ = some (.slice Al nl cl) := cell_blk h.hq rfl
  have c5 : w.cell? ⟨q, 5, none⟩ = some (.int .i64 L.fin) := cell_blk h.hq rfl
  have c6 : w.cell? ⟨q, 6, none⟩ = some (.int .i64 L.safe) := cell_blk h.hq rfl
  have H := Lib.hid h
  obtain ⟨FI, hFI⟩ : ∃ FI, FI = L.fin := ⟨_, rfl⟩
  obtain ⟨SA, hSA⟩ : ∃ SA, SA = L.safe := ⟨_, rfl⟩
  obtain ⟨FO, hFO⟩ : ∃ FO, FO = foundM L.lsns lsn := ⟨_, rfl⟩
  rw [← hFI] at c5 HV
  rw [← hSA] at c6 HV
  rw [← hFO] at HBS HV
  have hk9 : k ≤ 1000000000 := by omega
  have HFI := Lib.hid hFI
  have HSA := Lib.hid hSA
  clear h hk hnl hX hv hri hll hFI hSA hFO
  by_cases hbad : (FO = false ∧ lsn ≠ FI) ∨ SA < lsn
  · have hx : X = (L, 2) := by rw [HV.out, if_pos hbad]
    have HX := Lib.hid hx
    clear hx HV
    go_enter Tryz.func57, Tryz.ntmps57
    go_wp2_with fail
    refine HTH.out.mono ?_
    rintro e wx ⟨rfl, rfl⟩
    go_wp2_with fail
    refine HBS.out.mono ?_
    rintro e wx ⟨rfl, rfl⟩
    by_cases h1 : FO = false
    · subst h1
      by_cases h2 : lsn = FI
      · have h2b : (lsn != FI) = false := by rw [h2]; simp
        have h3 : SA < lsn := by rcases hbad with ⟨_, h⟩ | h; exact absurd h2 h; exact h
        clear hbad h2
        go_wp2
        go_ret
        unfold TrimPost
        rw [HX.out]
        exact ⟨rfl, _, H.out, Kept.refl _ _, rfl⟩
      · have h2b : (lsn != FI) = true := by simpa using h2
        clear hbad h2
        go_wp2
        go_ret
        unfold TrimPost
        rw [HX.out]
        exact ⟨rfl, _, H.out, Kept.refl _ _, rfl⟩
    · have h1' : FO = true := by
        rcases Bool.eq_false_or_eq_true FO with h | h
        · exact h
        · exact absurd h h1
      subst h1'
      have h3 : SA < lsn := by rcases hbad with ⟨h, _⟩ | h; cases h; exact h
      clear hbad h1
      go_wp2
      go_ret
      unfold TrimPost
      rw [HX.out]
      exact ⟨rfl, _, H.out, Kept.refl _ _, rfl⟩
  · have hx : X = ({ L with oldest := lsn, lsns := L.lsns.drop k }, 0) := (HV.out.trans (if_neg hbad)).trans (by rw [HFI.out, HSA.out])
    have HX := Lib.hid hx
    have h3 : ¬ SA < lsn := fun h => hbad (.inr h)
    have h2 : FO = true ∨ (FO = false ∧ lsn = FI) := by
      rcases Bool.eq_false_or_eq_true FO with h | h
      · exact .inl h
      · exact .inr ⟨h, Decidable.byContradiction (fun hn => hbad (.inl ⟨h, hn⟩))⟩
    clear hx HV hbad
    have HFB := Lib.hid h2
    have hb1 : FO = false → (lsn != FI) = false := fun h => by
      rcases h2 with h2 | ⟨_, h2⟩
      · rw [h] at h2; cases h2
      · rw [h2]; simp
    clear h2
    go_enter Tryz.func57, Tryz.ntmps57
    go_wp2_with fail
    refine HTH.out.mono ?_
    rintro e wx ⟨rfl, rfl⟩
    go_wp2_with fail
    refine HBS.out.mono ?_
    rintro e wx ⟨rfl, rfl⟩
    go_upto_region 4 with fail
    go_cut [36] from 19 to 36 (fun v wx => v = .bool false ∧ w = wx)
    case first =>
      cases FO
      · have hb2 := hb1 rfl
        clear hb1
        go_wp2
        go_meet
        case rel => exact ⟨by rw [decide_eq_false (by omega : ¬ SA < lsn)], rfl⟩
      · clear hb1
        go_wp2
        go_meet
        case rel => exact ⟨by rw [decide_eq_false (by omega : ¬ SA < lsn)], rfl⟩
    case rest =>
      obtain ⟨rfl, rfl⟩ := hcut
      have HQ := Lib.hid H.out.hq
      have HQd := Lib.hid (show LogQ w.drew q p (.slice Al nl cl) tv L from H.out.hq)
      go_wp2_with fail
      refine startL 14 (fun w' => LogQ w' q p (.slice Al nl cl) tv L ∨ LogQ w' q p (.slice Al nl cl) tv { L with oldest := lsn }) (by kernel_rfl) (.inl HQd.out) (fun hH => ?_)
      simp only [List.length_cons, List.length_nil, List.replicate]
      refine takeL 0 ?_ rfl (by kernel_rfl) (fun _ _ _ h => h) (by rfl) (fun w' hw' => ?_) hH ?_
      rotate_left
      · have c7 : w'.cell? ⟨q, 7, none⟩ = some (.slice Al nl cl) := (by rcases hw' with h | h; exact cell_blk h rfl; exact cell_blk h rfl)
        go_simp
        all_goals with_reducible rfl
      simp only [Act.put, List.setIfInBounds_toArray, List.set_cons_zero, List.set_cons_succ]
      refine takeL 1 ?_ rfl (by kernel_rfl) (fun _ _ _ h => h) (by rfl) (fun w' hw' => ?_) hH ?_
      rotate_left
      · have c7 : w'.cell? ⟨q, 7, none⟩ = some (.slice Al nl cl) := (by rcases hw' with h | h; exact cell_blk h rfl; exact cell_blk h rfl)
        go_simp
        all_goals with_reducible rfl
      simp only [Act.put, List.setIfInBounds_toArray, List.set_cons_zero, List.set_cons_succ]
      refine takeL 2 ?_ rfl (by kernel_rfl) (fun _ _ _ h => h) (by rfl) (fun w' hw' => ?_) hH ?_
      rotate_left
      · have c7 : w'.cell? ⟨q, 7, none⟩ = some (.slice Al nl cl) := (by rcases hw' with h | h; exact cell_blk h rfl; exact cell_blk h rfl)
        go_simp
        all_goals with_reducible rfl
      simp only [Act.put, List.setIfInBounds_toArray, List.set_cons_zero, List.set_cons_succ]
      refine takeL 3 ?_ rfl (by kernel_rfl) (fun _ _ _ h => h) (by rfl) (fun w' hw' => ?_) hH ?_
      rotate_left
      · have c7 : w'.cell? ⟨q, 7, none⟩ = some (.slice Al nl cl) := (by rcases hw' with h | h; exact cell_blk h rfl; exact cell_blk h rfl)
        go_simp
        all_goals with_reducible rfl
      simp only [Act.put, List.setIfInBounds_toArray, List.set_cons_zero, List.set_cons_succ]
      refine takeL 4 ?_ rfl (by kernel_rfl) (fun _ _ _ h => h) (by rfl) (fun w' hw' => ?_) hH ?_
      rotate_left
      · have c7 : w'.cell? ⟨q, 7, none⟩ = some (.slice Al nl cl) := (by rcases hw' with h | h; exact cell_blk h rfl; exact cell_blk h rfl)
        go_simp
        all_goals with_reducible rfl
      simp only [Act.put, List.setIfInBounds_toArray, List.set_cons_zero, List.set_cons_succ]
      refine takeL 5 ?_ rfl (by kernel_rfl) (fun _ _ _ h => h) (by rfl) (fun w' hw' => ?_) hH ?_
      rotate_left
      · have c7 : w'.cell? ⟨q, 7, none⟩ = some (.slice Al nl cl) := (by rcases hw' with h | h; exact cell_blk h rfl; exact cell_blk h rfl)
        go_simp
        all_goals with_reducible rfl
      simp only [Act.put, List.setIfInBounds_toArray, List.set_cons_zero, List.set_cons_succ]
      refine takeL 6 ?_ rfl (by kernel_rfl) (fun _ _ _ h => h) (by rfl) (fun w' hw' => ?_) hH ?_
      rotate_left
      · have c7 : w'.cell? ⟨q, 7, none⟩ = some (.slice Al nl cl) := (by rcases hw' with h | h; exact cell_blk h rfl; exact cell_blk h rfl)
        go_simp
        all_goals with_reducible rfl
      simp only [Act.put, List.setIfInBounds_toArray, List.set_cons_zero, List.set_cons_succ]
      refine takeL 7 ?_ rfl (by kernel_rfl) (fun _ _ _ h => h) (by rfl) (fun w' hw' => ?_) hH ?_
      rotate_left
      · have c7 : w'.cell? ⟨q, 7, none⟩ = some (.slice Al nl cl) := (by rcases hw' with h | h; exact cell_blk h rfl; exact cell_blk h rfl)
        go_simp
        all_goals with_reducible rfl
      simp only [Act.put, List.setIfInBounds_toArray, List.set_cons_zero, List.set_cons_succ]
      refine takeL 8 (.slice (slA Al k cl) (nl - k) (cl - k)) rfl (by kernel_rfl) (fun _ _ _ h => h) (by rfl) (fun w' _ => exec_slI _ _ k rfl Al nl cl _ rfl rfl rfl hkl w') hH ?_
      simp only [Act.put, List.setIfInBounds_toArray, List.set_cons_zero, List.set_cons_succ]
      refine stepL 9 rfl (by kernel_rfl) (fun K hK => ?_)
      go_simp
      refine hK.out _ _ (fun _ => hH) (fun _ => ?_)
      simp only [List.setIfInBounds_toArray, List.set_cons_zero, List.set_cons_succ]
      clear hK K
      refine stepL 10 rfl (by kernel_rfl) (fun K hK => ?_)
      go_simp
      refine hK.out _ _ (fun _ => hH) (fun _ => ?_)
      simp only [List.setIfInBounds_toArray, List.set_cons_zero, List.set_cons_succ]
      clear hK K
      refine stepL 11 rfl (by kernel_rfl) (fun K hK => ?_)
      refine step_store1 rfl 2 _ _ (by rfl) q 4 (.int .i64 lsn) (logC p (.slice Al nl cl) tv L) (by rfl) (by rfl) HQd.out (by kernel_rfl) (by show 4 < 10; decide) rfl ?_
      intro w2 hb2 hk2
      have HQ2 := Lib.hid (show LogQ w2 q p (.slice Al nl cl) tv { L with oldest := lsn } from hb2)
      have HK2 := Lib.hid (((Kept.refl (fun x => x = q) w).drew).trans' hk2)
      clear hb2 hk2 hH
      refine hK.out _ _ (fun _ => .inr HQ2.out) (fun hH => ?_)
      simp only [Act.put, List.setIfInBounds_toArray, List.set_cons_zero, List.set_cons_succ]
      clear hK K
      refine stepL 12 rfl (by kernel_rfl) (fun K hK => ?_)
      go_simp
      refine hK.out _ _ (fun _ => .inr HQ2.out) (fun hH => ?_)
      simp only [List.setIfInBounds_toArray, List.set_cons_zero, List.set_cons_succ]
      clear hK K
      refine stepL 13 rfl (by kernel_rfl) (fun K hK => ?_)
      go_simp
      refine hK.out _ _ (fun _ => .inr HQ2.out) (fun hH => ?_)
      simp only [List.setIfInBounds_toArray, List.set_cons_zero, List.set_cons_succ]
      clear hK K
      refine stepL 14 rfl (by kernel_rfl) (fun K hK => ?_)
      refine step_store1 rfl 63 _ _ (by rfl) q 7 (.slice (slA Al k cl) (nl - k) (cl - k)) (logC p (.slice Al nl cl) tv { L with oldest := lsn }) (by rfl) (by rfl) HQ2.out (by kernel_rfl) (by show 7 < 10; decide) rfl ?_
      intro w3 hb3 hk3
      have HQ3 := Lib.hid (show LogQ w3 q p (.slice (slA Al k cl) (nl - k) (cl - k)) tv { L with oldest := lsn, lsns := L.lsns.drop k } from hb3)
      have HK3 := Lib.hid (HK2.out.trans' hk3)
      clear hb3 hk3
      refine hK.out _ _ (fun h => absurd rfl h) (fun _ => ?_)
      simp only [Act.put, List.setIfInBounds_toArray, List.set_cons_zero, List.set_cons_succ]
      clear hK K hH
      refine doneL (by kernel_rfl) ?_ _
      go_wp2
      go_ret
      unfold TrimPost
      rw [HX.out]
      have hob : (Value.slice (slA Al k cl) (nl - k) (cl - k)).ownBlock = (Value.slice Al nl cl).ownBlock := slA_block
      refine ⟨rfl, _, ⟨H.out.dev.keep HK3.out H.out.nq.1 H.out.nq.2.1 H.out.nq.2.2, HQ3.out, (H.out.hl.drop k hkl).keep HK3.out (fun x hx => (H.out.nl x (hob ▸ hx)).1), H.out.ht.keep HK3.out (fun x hx => (H.out.nt x hx).1), H.out.nq, fun x hx => H.out.nl x (hob ▸ hx), H.out.nt⟩, HK3.out, hob⟩
end Go.Proofs.YtnbfhdgojmflhaaGreat
