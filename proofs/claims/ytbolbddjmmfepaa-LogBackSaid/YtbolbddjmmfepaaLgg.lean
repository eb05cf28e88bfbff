/-
  No statement is proved here: slices.BinarySearch of int64.
-/
import Derived.Test.YtbolbddjmmfepaaLgf
import Derived.Deep.LoopGhost
namespace Go.Proofs.Ytbolbddjmmfepaa
open Go.RowKit

theorem cnan_any (x : Int) (w : World) : Calls Try.prog 118 #[.int .i64 x] w fun e w' => e = .returned (.bool false) ∧ w = w' := by
  go_enter Try.func118, Try.ntmps118
  go_wp2
  go_ret
  exact ⟨by simp, rfl⟩
theorem snan_any (x : Int) (w : World) : Calls Try.prog 92 #[.int .i64 x] w fun e w' => e = .returned (.bool false) ∧ w = w' := by
  go_enter Try.func92, Try.ntmps92
  go_wp2
  go_ret
  exact ⟨by simp, rfl⟩
theorem less_any (x y : Int) (w : World) : Calls Try.prog 91 #[.int .i64 x, .int .i64 y] w fun e w' => e = .returned (.bool (decide (x < y))) ∧ w = w' := by
  go_enter Try.func91, Try.ntmps91
  go_wp2_with (go_at_call 118; refine (cnan_any _ _).mono ?_; rintro e w' ⟨rfl, rfl⟩)
  go_ret
  exact ⟨rfl, rfl⟩
theorem find_at : ∀ (l : List Int) (x : Int) (i : Nat), i ≤ l.length → (∀ t, t < i → l.getD t 0 < x) → (∀ t, i ≤ t → t < l.length → x ≤ l.getD t 0) → findM l x = i
  | [], x, i, h, _, _ => by simp at h; subst h; rfl
  | y :: l, x, 0, _, _, h => by
    have := h 0 (Nat.le_refl _) (by simp)
    simp at this
    unfold findM
    rw [List.takeWhile_cons_of_neg (by simpa using this)]
    rfl
  | y :: l, x, i + 1, h0, h1, h2 => by
    have h3 := h1 0 (by omega)
    simp at h3
    have ih := find_at l x i (by simpa using h0) (fun t ht => by simpa using h1 (t + 1) (by omega)) (fun t ht hl => by simpa using h2 (t + 1) (by omega) (by simpa using hl))
    unfold findM at ih ⊢
    rw [List.takeWhile_cons_of_pos (by simpa using h3), List.length_cons, ih]
/-- A row rises. -/
def Rises (l : List Int) : Prop := ∀ i j, i < j → j < l.length → l.getD i 0 < l.getD j 0
/-- Is it found? -/
def foundM (l : List Int) (x : Int) : Bool := decide (findM l x < l.length ∧ l.getD (findM l x) 0 = x)
theorem ret2_bs {i j : Nat} {a b : Bool} (h1 : i = j) (h2 : a = b) : Ending.returned (.tuple #[.int .i64 (i : Nat), .bool a]) = .returned (.tuple #[.int .i64 (j : Nat), .bool b]) := by rw [h1, h2]
set_option maxRecDepth 100000 in
set_option maxHeartbeats 800000 in
theorem bsearch_any (A : Option Addr) (c : Nat) (l : List Int) (x : Int) (w : World) (hr : Rises l) (hl : l.length ≤ 1000000000) (hcell : ∀ k x, l[k]? = some x → ∃ g off, A = some ⟨g, off, none⟩ ∧ w.cell? ⟨g, off + k, none⟩ = some (.int .i64 x)) :
    Calls Try.prog 56 #[.slice A l.length c, .int .i64 x] w fun e w' => e = .returned (.tuple #[.int .i64 (findM l x : Nat), .bool (foundM l x)]) ∧ w = w' := by
  have C := Lib.hid (show ∀ k, k < l.length → ∃ g off, A = some ⟨g, off, none⟩ ∧ w.cell? ⟨g, off + k, none⟩ = some (.int .i64 (l.getD k 0)) from fun k hk => by
    refine hcell k _ ?_
    rw [List.getD_eq_getElem?_getD, List.getElem?_eq_getElem hk]
    rfl)
  have S := Lib.hid hr
  obtain ⟨n, hn⟩ : ∃ n, n = l.length := ⟨_, rfl⟩
  rw [← hn] at C hl ⊢
  have N := Lib.hid hn
  clear hr hcell hn
  go_enter Try.func56, Try.ntmps56
  go_wp2
  go_loopg [7, 8] n (fun g i j wr => ∃ lo hi : Nat, i = .int .i64 lo ∧ j = .int .i64 hi ∧ lo ≤ hi ∧ hi ≤ n ∧ hi - lo ≤ g ∧ w = wr ∧ (∀ t, t < lo → l.getD t 0 < x) ∧ (∀ t, hi ≤ t → t < n → x ≤ l.getD t 0))
  case atStart => exact ⟨0, n, rfl, rfl, Nat.zero_le _, Nat.le_refl _, Nat.le_refl _, rfl, fun t ht => absurd ht (by omega), fun t h1 h2 => absurd h1 (by omega)⟩
  case round =>
    obtain ⟨lo, hi, rfl, rfl, hlh, hin, hg, rfl, h1, h2⟩ := hrel
    have I := Lib.hid (And.intro h1 h2)
    clear h1 h2
    by_cases hlt : lo < hi
    · obtain ⟨g0, o0, hA, cm⟩ := C.out ((lo + hi) / 2) (by omega)
      subst hA
      obtain ⟨y, hy⟩ : ∃ y, y = l.getD ((lo + hi) / 2) 0 := ⟨_, rfl⟩
      rw [← hy] at cm
      have Y := Lib.hid hy.symm
      clear hy
      by_cases hyx : y < x
      · go_wp2_with (go_at_call 91; refine (less_any _ _ _).mono ?_; rintro e w' ⟨rfl, rfl⟩)
        go_roundg (hi - ((lo + hi) / 2 + 1))
        case measure => omega
        case rel =>
          refine ⟨(lo + hi) / 2 + 1, hi, by go_num, rfl, by omega, hin, Nat.le_refl _, rfl, fun t ht => ?_, I.out.2⟩
          rcases Nat.lt_or_ge t ((lo + hi) / 2) with h | h
          · have := S.out t ((lo + hi) / 2) h (by rw [← N.out]; omega)
            rw [Y.out] at this
            omega
          · have : t = (lo + hi) / 2 := by omega
            rw [this, Y.out]; exact hyx
      · go_wp2_with (go_at_call 91; refine (less_any _ _ _).mono ?_; rintro e w' ⟨rfl, rfl⟩)
        go_roundg ((lo + hi) / 2 - lo)
        case measure => omega
        case rel =>
          refine ⟨lo, (lo + hi) / 2, rfl, by go_num, by omega, by omega, Nat.le_refl _, rfl, I.out.1, fun t ht htn => ?_⟩
          rcases Nat.lt_or_ge ((lo + hi) / 2) t with h | h
          · have := S.out ((lo + hi) / 2) t h (by rw [← N.out]; omega)
            rw [Y.out] at this
            omega
          · have : t = (lo + hi) / 2 := by omega
            rw [this, Y.out]; omega
    · have : hi = lo := by omega
      subst this
      have hf := find_at l x hi (by rw [← N.out]; omega) I.out.1 (fun t h3 h4 => I.out.2 t h3 (by rw [N.out]; exact h4))
      have E := Lib.hid hf
      have EF := Lib.hid (show foundM l x = decide (hi < n ∧ l.getD hi 0 = x) from by unfold foundM; rw [hf, N.out])
      clear hf
      by_cases hn : hi < n
      · obtain ⟨g0, o0, hA, cm⟩ := C.out hi hn
        subst hA
        obtain ⟨y, hy⟩ : ∃ y, y = l.getD hi 0 := ⟨_, rfl⟩
        rw [← hy] at cm EF
        clear hy
        by_cases hyx : y = x
        · subst hyx
          go_wp2_with (go_at_call 92; refine (snan_any _ _).mono ?_; rintro e w' ⟨rfl, rfl⟩)
          go_ret2
          exact ⟨ret2_bs E.out.symm (EF.out.trans (decide_eq_true (⟨hn, by trivial⟩ : _ ∧ _))).symm, rfl⟩
        · have hyb : (y == x) = false := by simpa using hyx
          go_wp2_with (go_at_call 92; refine (snan_any _ _).mono ?_; rintro e w' ⟨rfl, rfl⟩)
          go_ret2
          exact ⟨ret2_bs E.out.symm (EF.out.trans (decide_eq_false (show ¬ (hi < n ∧ y = x) from fun h => hyx h.2))).symm, rfl⟩
      · go_wp2_with (go_at_call 92; refine (snan_any _ _).mono ?_; rintro e w' ⟨rfl, rfl⟩)
        go_ret2
        exact ⟨ret2_bs E.out.symm (EF.out.trans (decide_eq_false (show ¬ (hi < n ∧ l.getD hi 0 = x) from fun h => hn h.1))).symm, rfl⟩
end Go.Proofs.Ytbolbddjmmfepaa
