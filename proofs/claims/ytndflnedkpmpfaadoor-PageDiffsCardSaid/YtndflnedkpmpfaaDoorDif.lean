/-
  No statement is proved here: Diff and the document's Diff, of any two rows of bytes.
-/
import Derived.Test.YtndflnedkpmpfaaDoorSmt
import Derived.Test.YtndflnedkpmpfaaDoorSpl
namespace Go.Proofs.YtndflnedkpmpfaaDoor
open Go.RowKit

def dM (a b : Bytes) : Sp := if a.length = 512 ∧ b.length = 512 then diffM a b else []
theorem dM_ok (a b : Bytes) : ∀ s ∈ dM a b, s.1 < s.2 ∧ s.2 ≤ a.length ∧ s.2 ≤ b.length := by
  intro s hs
  unfold dM at hs
  split at hs
  · rename_i h
    have := (diffM_good a b).ok s hs
    exact ⟨this.1, by rw [h.1]; exact this.2.1, by rw [h.2]; exact this.2.1⟩
  · cases hs
theorem dM_len (a b : Bytes) : (dM a b).length ≤ 57 := by
  unfold dM
  split
  · exact diffM_len a b
  · simp
theorem dM_segs {a b : Bytes} {L : List SpD} (h : L.map (fun s => (s.f, s.t)) = dM a b) : ∀ s ∈ L, (segB a (s.f, s.t)).length = s.t - s.f ∧ (segB b (s.f, s.t)).length = s.t - s.f := by
  intro s hs
  have hm : (s.f, s.t) ∈ dM a b := by rw [← h]; exact List.mem_map.2 ⟨s, hs, rfl⟩
  obtain ⟨h1, h2, h3⟩ := dM_ok a b _ hm
  exact ⟨segB_len (s := (s.f, s.t)) h2, segB_len (s := (s.f, s.t)) h3⟩
theorem OwnSp.none (w : World) (B : Nat) : OwnSp w B (.slice none 0 0) [] := ⟨rfl, .inl ⟨rfl, rfl⟩⟩
theorem diff_all (A B : Option Addr) (ac bc : Nat) (a b : Bytes) (w : World) (ha : RdB w A a) (hb : RdB w B b) (hac : a.length ≤ ac) (hac2 : ac ≤ 9223372036854775807) (hbc : b.length ≤ bc) (hbc2 : bc ≤ 9223372036854775807) :
    Calls Tryd.prog 14 #[.slice A a.length ac, .slice B b.length bc] w fun e w' => ∃ v L, e = .returned v ∧ OwnSp w' w.heap.size v L ∧ SegsAt w' w.heap.size a b L ∧ L.map (fun s => (s.f, s.t)) = dM a b ∧ GsN L ∧ Kept (fun _ => False) w w' := by
  by_cases h : a.length = 512 ∧ b.length = 512
  · have e : dM a b = diffM a b := by unfold dM; rw [if_pos h]
    obtain ⟨la, lb⟩ := h
    rw [e, la, lb]
    exact diff_anyN A B ac bc a b w ha hb la lb (by omega) hac2 (by omega) hbc2
  · have e : dM a b = [] := by unfold dM; rw [if_neg h]
    refine (diff_none A B a.length b.length ac bc w h).mono ?_
    rintro _ w' ⟨rfl, hk⟩
    exact ⟨_, [], rfl, OwnSp.none _ _, (fun _ hs => by cases hs), e.symm, List.nodup_nil, hk⟩
/-- One of them is no page. -/
theorem rdiff_none (A B : Option Addr) (n m ac bc : Nat) (w : World) (h : ¬ (n = 512 ∧ m = 512)) :
    Calls Tryd.prog 17 #[.slice A n ac, .slice B m bc] w fun e w' => e = .returned (.slice none 0 0) ∧ Kept (fun _ => False) w w' := by
  by_cases h1 : n = 512
  · have h2 : ¬ m = 512 := fun e => h ⟨h1, e⟩
    subst h1
    have e2 : ((m : Int) != 512) = true := by rw [bne_iff_ne]; omega
    clear h
    go_enter Tryd.func17, Tryd.ntmps17
    go_wp2
    go_ret
    exact ⟨rfl, Kept.refl _ _⟩
  · have e2 : ((n : Int) != 512) = true := by rw [bne_iff_ne]; omega
    clear h
    go_enter Tryd.func17, Tryd.ntmps17
    go_wp2
    go_ret
    exact ⟨rfl, Kept.refl _ _⟩
theorem rdiff_all (A B : Option Addr) (ac bc : Nat) (a b : Bytes) (w : World) (ha : RdB w A a) (hb : RdB w B b) (hac : a.length ≤ ac) (hac2 : ac ≤ 9223372036854775807) (hbc : b.length ≤ bc) (hbc2 : bc ≤ 9223372036854775807) :
    Calls Tryd.prog 17 #[.slice A a.length ac, .slice B b.length bc] w fun e w' => ∃ v L, e = .returned v ∧ OwnSp w' w.heap.size v L ∧ SegsAt w' w.heap.size a b L ∧ L.map (fun s => (s.f, s.t)) = dM a b ∧ Kept (fun _ => False) w w' := by
  by_cases h : a.length = 512 ∧ b.length = 512
  · have e : dM a b = diffM a b := by unfold dM; rw [if_pos h]
    obtain ⟨la, lb⟩ := h
    rw [e, la, lb]
    exact rdiff_any A B ac bc a b w ha hb la lb (by omega) hac2 (by omega) hbc2
  · have e : dM a b = [] := by unfold dM; rw [if_neg h]
    refine (rdiff_none A B a.length b.length ac bc w h).mono ?_
    rintro _ w' ⟨rfl, hk⟩
    exact ⟨_, [], rfl, OwnSp.none _ _, (fun _ hs => by cases hs), e.symm, hk⟩
theorem sameSpans_nil (A1 A2 : Option Addr) (c1 c2 : Nat) (w : World) :
    Calls Tryd.prog 16 #[.slice A1 0 c1, .slice A2 0 c2] w fun e w' => e = .returned (.bool true) ∧ Kept (fun _ => False) w w' := by
  go_enter Tryd.func16, Tryd.ntmps16
  go_wp2
  go_loopw [5] (fun v wr => v = .int .i64 0 ∧ Kept (fun _ => False) w wr) (fun _ _ => 0)
  case atStart => exact ⟨rfl, Kept.refl _ _⟩
  case round =>
    obtain ⟨rfl, hk⟩ := hrel
    go_wp2
    go_ret
    exact ⟨rfl, hk⟩
theorem sameSpans_all (a b : Bytes) (v1 v2 : Value) (L1 L2 : List SpD) (B1 B2 : Nat) (w : World) (h1 : OwnSp w B1 v1 L1) (s1 : SegsAt w B1 a b L1) (h2 : OwnSp w B2 v2 L2) (s2 : SegsAt w B2 a b L2)
    (m1 : L1.map (fun s => (s.f, s.t)) = dM a b) (m2 : L2.map (fun s => (s.f, s.t)) = dM a b) :
    Calls Tryd.prog 16 #[v1, v2] w fun e w' => e = .returned (.bool true) ∧ Kept (fun _ => False) w w' := by
  by_cases h : a.length = 512 ∧ b.length = 512
  · have e : dM a b = diffM a b := by unfold dM; rw [if_pos h]
    rw [e] at m1 m2
    exact sameSpans_any a b v1 v2 L1 L2 B1 B2 w h1 s1 h2 s2 h.1 h.2 m1 m2
  · have e : dM a b = [] := by unfold dM; rw [if_neg h]
    rw [e] at m1 m2
    have e1 := List.map_eq_nil_iff.1 m1
    have e2 := List.map_eq_nil_iff.1 m2
    subst e1
    subst e2
    obtain ⟨G1, cap1, rfl, -⟩ := h1.view
    obtain ⟨G2, cap2, rfl, -⟩ := h2.view
    exact sameSpans_nil G1 G2 cap1 cap2 w
end Go.Proofs.YtndflnedkpmpfaaDoor
