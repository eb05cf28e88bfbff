/-
  PROVED: parchmentlaw10.LogBack returns true for every record, every number and every byte, and its arguments read behind the call as they read before. No condition.
-/
import Derived.Test.YtbolbddjmmfepaaRows
import Derived.Test.YtbolbddjmmfepaaRk
import Derived.Test.YtbolbddjmmfepaaRh
import Derived.SizedLaws
import Derived.ChangeOld
import Derived.Carry
namespace Go.Proofs.Ytbolbddjmmfepaa.logBack
open Go.ChangeShapes Go.WideShapes Go.ChangeAt Go.RowKit

theorem own : ownKnob (Try.prog).godebug = none := by kernel_rfl
theorem laidOut : laidOutB Try.prog = true := by kernel_rfl

set_option maxRecDepth 100000 in
theorem lifted (os : Os) (started : os.Started) (H : Type) (enc : TypeId × Value → H) :
    ReturnsInHanded {} Try.checked os 4 .any (Rows.logBackSpec.pre6 enc Try.prog Try.f4 Rows.logBackRow.domain false) (Rows.logBackSpec.post enc Try.prog Try.f4 false true false false) := by
  refine returnsInHanded_of_change_sized (C := Try.checked) own started (by kernel_rfl) Try.func4
    (ChangeSpec.witness6 (enc := enc) (C := Try.checked) false ⟨#[], #[.agg zRecC, .int .i64 0, .int .u8 0], []⟩ 8 (by kernel_rfl) (by kernel_rfl) (by kernel_rfl) (by kernel_rfl)) ?_
  intro W base args ds gs before hval0 hW hcnd hsz0 _
  have hW' := hW
  obtain ⟨p, q, hA0, hV, rfl, hfz, hnd⟩ := hW
  have hA : DataW.TrodAll enc Try.prog W 0 (fun _ => true) true Try.f4.params.toList args.toList ds p := hA0
  have hval : ∀ (j : Nat) t v, Try.f4.params[j]? = some t → args[j]? = some v → Value.okWide Try.prog W .any base t v := hval0
  have hsz : (DataW.weightsEach Try.prog (Try.f4.params.toList ++ Rows.logBackSpec.plain.varTypes Try.prog) (ds ++ gs)).all (· ≤ reachBytes) = true := hsz0
  rw [Try.params4] at hA hval hsz
  obtain ⟨v0, vs0, d0, ds0, p0, q0, hargs, rfl, rfl, h0, r0⟩ := trodAll_cons hA
  obtain ⟨v1, vs1, d1, ds1, p1, q1, rfl, rfl, rfl, h1, r1⟩ := trodAll_cons r0
  obtain ⟨v2, vs2, d2, ds2, p2, q2, rfl, rfl, rfl, h2, r2⟩ := trodAll_cons r1
  obtain ⟨rfl, rfl, rfl⟩ := trodAll_nil r2
  obtain rfl : args = #[v0, v1, v2] := by cases args; simp_all
  obtain ⟨rfl, rfl⟩ := trodVars_none hV
  have k0 := h0
  have lt0 : ∀ x ∈ p0, x.block < W.heap.size := by obtain ⟨m, hm⟩ := k0; exact DataW.trod_lt m _ _ _ hm
  have k1 := h1
  have lt1 : ∀ x ∈ p1, x.block < W.heap.size := by obtain ⟨m, hm⟩ := k1; exact DataW.trod_lt m _ _ _ hm
  have k2 := h2
  have lt2 : ∀ x ∈ p2, x.block < W.heap.size := by obtain ⟨m, hm⟩ := k2; exact DataW.trod_lt m _ _ _ hm
  obtain ⟨cs, rfl, -⟩ := okWide_struct Try.underlying27 (hval 0 27 v0 rfl rfl)
  obtain ⟨n1, rfl⟩ := okWide_int Try.underlying3 (hval 1 3 v1 rfl rfl)
  obtain ⟨n2, rfl⟩ := okWide_int Try.underlying5 (hval 2 5 v2 rfl rfl)
  obtain ⟨y, rfl⟩ : ∃ y : UInt8, n2 = (y.toNat : Int) := by
    obtain ⟨fuel, hf⟩ := h2
    obtain ⟨n, e, _, hw⟩ := DataW.trod_int Try.underlying5 hf
    obtain ⟨b, rfl⟩ := wf_u8 hw
    cases e
    exact ⟨b, rfl⟩
  have hall : ∀ k ∈ d0.weights Try.prog 27, k ≤ reachBytes := fun k hk => by
    have h1 := List.all_eq_true.1 hsz k (DataW.weights_mem_each (j := 0) (t := 27) (d := d0) rfl rfl k hk)
    simpa using h1
  obtain ⟨r, A1, c1, A2, c2, e0, hok, hr1, hr2, hs⟩ : ∃ r A1 c1 A2 c2, cs = recC r A1 c1 A2 c2 ∧ RecOk r ∧ RdB W A1 r.old ∧ RdB W A2 r.new ∧ r.old.length ≤ 140737488355328 ∧ r.new.length ≤ 140737488355328 := by
    obtain ⟨fuel, hf⟩ := h0
    obtain ⟨r, A1, c1, A2, c2, hcs, ho, q1, q2, _⟩ := open_rec hf
    have h1 := rec_sized (r := r) (A1 := A1) (c1 := c1) (A2 := A2) (c2 := c2) (by rw [← hcs]; exact hf) hall
    exact ⟨r, A1, c1, A2, c2, Array.toList_inj.1 hcs, ho, q1, q2, h1⟩
  subst e0
  clear hA0 hval0
  refine (logBack_any r A1 A2 c1 c2 n1 y W hok hr1 hr2 hs.1 hs.2).mono fun e W' ⟨he, hk⟩ => ?_
  have bel : Below W.heap.size W W' := hk.below (Nat.le_refl _) (fun _ _ h => h)
  subst he
  exact ⟨_, rfl, _, _, _, [], _, [], hW', trodAll_mk1 (shut_bool Try.underlying4 _), (trodAll_cons_mk (Below.trod laidOut (by kernel_rfl) (of_decide_eq_true (by kernel_rfl)) k0 bel lt0) (trodAll_cons_mk (Below.trod laidOut (by kernel_rfl) (of_decide_eq_true (by kernel_rfl)) k1 bel lt1) (trodAll_cons_mk (Below.trod laidOut (by kernel_rfl) (of_decide_eq_true (by kernel_rfl)) k2 bel lt2) trodAll_mk0))), rfl, bel.frame _, fun h => by cases h⟩

theorem over : Rows.logBackRow.holds Try.pinned (OpenSpec.ofChange Rows.logBackSpec) :=
  OpenClaim.holds_of_wide 4 Try.f4 rfl rfl rfl rfl rfl rfl rfl ⟨rfl, rfl, rfl, rfl, rfl⟩ rfl rfl rfl rfl rfl (by kernel_rfl) Try.func4 (by kernel_rfl)
    (of_decide_eq_true (by kernel_rfl)) (by unfold Func.isWrapper; first | (rw [if_pos (by decide +kernel)]; kernel_rfl) | (rw [if_neg (by decide +kernel)]; exact ⟨rfl, rfl⟩))
    (fun os started H enc _ => lifted os started H enc)

theorem proved : Rows.LogBackSaid := over
#print axioms proved
end Go.Proofs.Ytbolbddjmmfepaa.logBack
