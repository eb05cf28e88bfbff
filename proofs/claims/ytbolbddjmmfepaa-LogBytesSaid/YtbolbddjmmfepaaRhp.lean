/-
  PROVED: parchmentlaw10.LogBytes returns true for every record and every bytes, and its arguments read behind the call as they read before. No condition.
-/
import Derived.Test.YtbolbddjmmfepaaRows
import Derived.Test.YtbolbddjmmfepaaRg
import Derived.Test.YtbolbddjmmfepaaRh
import Derived.Test.YtbolbddjmmfepaaReadb
import Derived.SizedLaws
import Derived.ChangeOld
import Derived.Carry
namespace Go.Proofs.Ytbolbddjmmfepaa.logBytes
open Go.ChangeShapes Go.WideShapes Go.ChangeAt Go.RowKit

theorem own : ownKnob (Try.prog).godebug = none := by kernel_rfl
theorem laidOut : laidOutB Try.prog = true := by kernel_rfl

set_option maxRecDepth 100000 in
theorem lifted (os : Os) (started : os.Started) (H : Type) (enc : TypeId × Value → H) :
    ReturnsInHanded {} Try.checked os 3 .any (Rows.logBytesSpec.pre6 enc Try.prog Try.f3 Rows.logBytesRow.domain false) (Rows.logBytesSpec.post enc Try.prog Try.f3 false true false false) := by
  refine returnsInHanded_of_change_sized (C := Try.checked) own started (by kernel_rfl) Try.func3
    (ChangeSpec.witness6 (enc := enc) (C := Try.checked) false ⟨#[], #[.agg zRecC, .slice none 0 0], []⟩ 8 (by kernel_rfl) (by kernel_rfl) (by kernel_rfl) (by kernel_rfl)) ?_
  intro W base args ds gs before hval0 hW hcnd hsz0 _
  have hW' := hW
  obtain ⟨p, q, hA0, hV, rfl, hfz, hnd⟩ := hW
  have hA : DataW.TrodAll enc Try.prog W 0 (fun _ => true) true Try.f3.params.toList args.toList ds p := hA0
  have hval : ∀ (j : Nat) t v, Try.f3.params[j]? = some t → args[j]? = some v → Value.okWide Try.prog W .any base t v := hval0
  have hsz : (DataW.weightsEach Try.prog (Try.f3.params.toList ++ Rows.logBytesSpec.plain.varTypes Try.prog) (ds ++ gs)).all (· ≤ reachBytes) = true := hsz0
  rw [Try.params3] at hA hval hsz
  obtain ⟨v0, vs0, d0, ds0, p0, q0, hargs, rfl, rfl, h0, r0⟩ := trodAll_cons hA
  obtain ⟨v1, vs1, d1, ds1, p1, q1, rfl, rfl, rfl, h1, r1⟩ := trodAll_cons r0
  obtain ⟨rfl, rfl, rfl⟩ := trodAll_nil r1
  obtain rfl : args = #[v0, v1] := by cases args; simp_all
  obtain ⟨rfl, rfl⟩ := trodVars_none hV
  have k0 := h0
  have lt0 : ∀ x ∈ p0, x.block < W.heap.size := by obtain ⟨m, hm⟩ := k0; exact DataW.trod_lt m _ _ _ hm
  have k1 := h1
  have lt1 : ∀ x ∈ p1, x.block < W.heap.size := by obtain ⟨m, hm⟩ := k1; exact DataW.trod_lt m _ _ _ hm
  obtain ⟨cs, rfl, -⟩ := okWide_struct Try.underlying27 (hval 0 27 v0 rfl rfl)
  obtain ⟨B, bn, bc, rfl⟩ := okWide_slice Try.underlying23 (hval 1 23 v1 rfl rfl)
  have hall : ∀ (j : Nat) t d, [27, 23][j]? = some t → [d0, d1][j]? = some d → ∀ k ∈ d.weights Try.prog t, k ≤ reachBytes := fun j t d ht hd k hk => by
    have h1 := List.all_eq_true.1 hsz k (DataW.weights_mem_each (j := j) (t := t) (d := d) (by match j, ht with | 0, ht => exact ht | 1, ht => exact ht) (by match j, hd with | 0, hd => exact hd | 1, hd => exact hd) k hk)
    simpa using h1
  obtain ⟨r, A1, c1, A2, c2, e0, hok, hr1, hr2, hs⟩ : ∃ r A1 c1 A2 c2, cs = recC r A1 c1 A2 c2 ∧ RecOk r ∧ RdB W A1 r.old ∧ RdB W A2 r.new ∧ r.old.length ≤ 140737488355328 ∧ r.new.length ≤ 140737488355328 := by
    obtain ⟨fuel, hf⟩ := h0
    obtain ⟨r, A1, c1, A2, c2, hcs, ho, q1, q2, _⟩ := open_rec hf
    have h1 := rec_sized (r := r) (A1 := A1) (c1 := c1) (A2 := A2) (c2 := c2) (by rw [← hcs]; exact hf) (hall 0 _ d0 rfl rfl)
    exact ⟨r, A1, c1, A2, c2, Array.toList_inj.1 hcs, ho, q1, q2, h1⟩
  subst e0
  have hbs : bn ≤ 140737488355328 := by
    obtain ⟨fuel, hf⟩ := h1
    exact bytes_w hf (hall 1 _ d1 rfl rfl)
  obtain ⟨b, hb, rfl, hbc, hbc2⟩ := bytes_arg h1
  clear hA0 hval0
  refine (logBytes_any r A1 A2 B c1 c2 bc b W hok hr1 hr2 hb hbc hbc2 hs.1 hs.2 hbs).mono fun e W' ⟨he, hk⟩ => ?_
  have bel : Below W.heap.size W W' := hk.below (Nat.le_refl _) (fun _ _ h => h)
  subst he
  exact ⟨_, rfl, _, _, _, [], _, [], hW', trodAll_mk1 (shut_bool Try.underlying4 _), (trodAll_cons_mk (Below.trod laidOut (by kernel_rfl) (of_decide_eq_true (by kernel_rfl)) k0 bel lt0) (trodAll_cons_mk (Below.trod laidOut (by kernel_rfl) (of_decide_eq_true (by kernel_rfl)) k1 bel lt1) trodAll_mk0)), rfl, bel.frame _, fun h => by cases h⟩

theorem over : Rows.logBytesRow.holds Try.pinned (OpenSpec.ofChange Rows.logBytesSpec) :=
  OpenClaim.holds_of_wide 3 Try.f3 rfl rfl rfl rfl rfl rfl rfl ⟨rfl, rfl, rfl, rfl, rfl⟩ rfl rfl rfl rfl rfl (by kernel_rfl) Try.func3 (by kernel_rfl)
    (of_decide_eq_true (by kernel_rfl)) (by unfold Func.isWrapper; first | (rw [if_pos (by decide +kernel)]; kernel_rfl) | (rw [if_neg (by decide +kernel)]; exact ⟨rfl, rfl⟩))
    (fun os started H enc _ => lifted os started H enc)

theorem proved : Rows.LogBytesSaid := over
#print axioms proved
end Go.Proofs.Ytbolbddjmmfepaa.logBytes
