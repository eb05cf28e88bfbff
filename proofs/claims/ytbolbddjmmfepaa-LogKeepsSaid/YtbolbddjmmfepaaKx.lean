/-
  No statement is proved here: LogKeeps, however long its arguments; what they read as.
-/
import Derived.Test.YtbolbddjmmfepaaKw
import Derived.Test.YtbolbddjmmfepaaReadr
namespace Go.Proofs.Ytbolbddjmmfepaa
open Go.RowKit

set_option maxRecDepth 100000 in
theorem keeps_all (A FA : Option Addr) (c cF : Nat) (l : List Int) (fl : List Fates) (w : World) (hl : RdI w A l) (hf : RdFF w FA fl) :
    Calls Try.prog 6 #[.slice A l.length c, .slice FA fl.length cF] w fun e w' => e = .returned (.bool true) ∧ Kept (fun _ => False) w w' := by
  by_cases h1 : l.length ≤ 100
  · by_cases h2 : fl.length ≤ 100
    · exact keeps_any A FA c cF l fl w hl hf h1 h2
    · have g1 : ¬ (100 : Int) < (l.length : Int) := by omega
      have g2 : (100 : Int) < (fl.length : Int) := by omega
      clear hl hf h1 h2
      go_enter Try.func6, Try.ntmps6
      go_wp2_with (go_at_call 7; refine (awake_any _).mono ?_; rintro e w1 ⟨rfl, hk1⟩)
      go_ret
      exact ⟨rfl, hk1⟩
  · have g1 : (100 : Int) < (l.length : Int) := by omega
    clear hl hf h1
    go_enter Try.func6, Try.ntmps6
    go_wp2_with (go_at_call 7; refine (awake_any _).mono ?_; rintro e w1 ⟨rfl, hk1⟩)
    go_ret
    exact ⟨rfl, hk1⟩
section
variable {H : Type} {enc : TypeId × Value → H} {w : World} {base : Nat} {spare : Nat → Bool} {held : Bool}
theorem cellsFate : (Try.prog).cellsOf 117 = 2 := by kernel_rfl
theorem cellsFates : (Try.prog).cellsOf 67 = 1 := by kernel_rfl
theorem list2F {l : List Value} (h : l.length = 2) : ∃ a b, l = [a, b] := by
  match l, h with | [a, b], _ => exact ⟨a, b, rfl⟩
theorem open_fates {fuel : Nat} {cs : List Value} {x : DataW H × List MemPlace} (h : DataW.trod enc Try.prog w base spare held fuel 67 cs = some x) :
    ∃ (A : Option Addr) (c : Nat) (l : Fates), cs = [.slice A l.length c] ∧ l.length ≤ maxLen ∧ RdF w A l := by
  obtain ⟨A, len, c, l, rfl, rfl, hm, hx⟩ := open_list (α := Int × UInt8) Try.underlying67 cellsFate (by omega) (fun y cs => cs = [.int .i64 y.1, .int .u8 y.2.toNat]) (fun fuel cs x h => by
    obtain ⟨xs, n, _, _, hl, hxl, hf⟩ := DataW.trod_struct Try.underlying117 h
    obtain ⟨c0, c1, rfl⟩ := list2F (hl.trans cellsFate)
    obtain ⟨_, f0⟩ := fld hf 0 _ rfl (by simp [hxl]) 3 rfl 0 rfl 1 cells3
    obtain ⟨_, f1⟩ := fld hf 1 _ rfl (by simp [hxl]) 5 rfl 1 rfl 1 cells5
    obtain ⟨n0, e0, _, _⟩ := DataW.trod_int Try.underlying3 f0
    obtain ⟨n1, e1, _, w1⟩ := DataW.trod_int Try.underlying5 f1
    obtain ⟨b, rfl⟩ := wf_u8 w1
    cases e0; cases e1
    exact ⟨(n0, b), rfl⟩) h
  refine ⟨A, c, l, rfl, hm, fun hne => ?_⟩
  obtain ⟨b, off, hA, hc⟩ := hx hne
  refine ⟨b, off, hA, fun i y hy => ?_⟩
  obtain ⟨cs', _, h1, rfl⟩ := hc i y hy
  exact ⟨h1 0 (by omega), h1 1 (by omega)⟩
theorem open_ints {fuel : Nat} {cs : List Value} {x : DataW H × List MemPlace} (h : DataW.trod enc Try.prog w base spare held fuel 63 cs = some x) :
    ∃ (A : Option Addr) (c : Nat) (l : List Int), cs = [.slice A l.length c] ∧ RdI w A l := by
  obtain ⟨A, len, c, l, rfl, rfl, hm, hx⟩ := open_list (α := Int) Try.underlying63 cells3 (by omega) (fun y cs => cs = [.int .i64 y]) (fun fuel cs x h => by
    obtain ⟨n, rfl, _, _⟩ := DataW.trod_int Try.underlying3 h
    exact ⟨n, rfl⟩) h
  refine ⟨A, c, l, rfl, fun hne => ?_⟩
  obtain ⟨b, off, hA, hc⟩ := hx hne
  refine ⟨b, off, hA, fun i y hy => ?_⟩
  obtain ⟨cs', _, h1, rfl⟩ := hc i y hy
  have := h1 0 (by omega)
  rw [Nat.mul_one, Nat.add_zero] at this
  exact this
theorem open_fatess {fuel : Nat} {cs : List Value} {x : DataW H × List MemPlace} (h : DataW.trod enc Try.prog w base spare held fuel 64 cs = some x) :
    ∃ (A : Option Addr) (c : Nat) (l : List Fates), cs = [.slice A l.length c] ∧ RdFF w A l := by
  obtain ⟨A, len, c, l, rfl, rfl, hm, hx⟩ := open_list (α := Fates) Try.underlying64 cellsFates (by omega) (fun y cs => ∃ FA c, cs = [.slice FA y.length c] ∧ y.length ≤ maxLen ∧ RdF w FA y) (fun fuel cs x h => by
    obtain ⟨FA, c, fs, h1, h2, h3⟩ := open_fates h
    exact ⟨fs, FA, c, h1, h2, h3⟩) h
  refine ⟨A, c, l, rfl, fun hne => ?_⟩
  obtain ⟨b, off, hA, hc⟩ := hx hne
  refine ⟨b, off, hA, fun i y hy => ?_⟩
  obtain ⟨cs', _, h1, FA, cF, rfl, h2, h3⟩ := hc i y hy
  have := h1 0 (by omega)
  rw [Nat.mul_one, Nat.add_zero] at this
  exact ⟨FA, cF, this, h3, h2⟩
end
end Go.Proofs.Ytbolbddjmmfepaa
