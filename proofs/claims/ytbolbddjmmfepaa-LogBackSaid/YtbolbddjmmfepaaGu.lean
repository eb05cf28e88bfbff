/-
  No statement is proved here: 'Put' of log.
-/
import Derived.Test.YtbolbddjmmfepaaGt
import Derived.Test.YtbolbddjmmfepaaOrd
import Derived.Deep.CutRange
import Derived.Deep.RegionHeld3
namespace Go.Proofs.Ytbolbddjmmfepaa
open Go.RowKit

/-- 'append' in a drawn region, bytes appended (or none) onto bytes of the call's own (or none). -/
theorem step_appendV {w : World} {ops : Array Oper} {o : Oper} {a : Act} {K : Act → World → Prop} {Q : Exit → Act → World → Prop} {E : Prop} (hgd : o.guard = none) (s x : Operand)
    (ho : o.op = .call { callee := .builtin .append, args := #[s, x], argTypes := #[23, 23] }) (base : Nat) (v : Value) (l m : Bytes) (hs : a.eval s = v) (hown : OwnV w base v l)
    (A : Option Addr) (c : Nat) (hx : a.eval x = .slice A m.length c) (hm : RdB w A m) (h63 : l.length + m.length ≤ 140737488355328) (hbase : base ≤ w.heap.size)
    (k : ∀ v' w', OwnV w' base v' (l ++ m) → Kept (fun x => base ≤ x) w w' → K (a.put o.dst v') w') : if Region.wanted o (yielded ops a.tmps) = true then Oper.wp Try.prog o a w K Q else E := by
  rw [if_pos (by unfold Region.wanted; rw [hgd])]
  have key : ∃ v' w', (Builtin.append_ #[23, 23] o.type #[v, .slice A m.length c]).run Try.prog w = .ok v' w' ∧ OwnV w' base v' (l ++ m) ∧ Kept (fun x => base ≤ x) w w' := by
    obtain ⟨i, hi, h2, h3, h4⟩ := info_parts info5
    by_cases h0 : m = []
    · subst h0
      exact ⟨v, w, run_append_owned_empty (P := Try.prog) (w := w) base 23 o.type 5 i 1 Try.underlying23 hi v l.length _ hown A c, by simpa using hown, Kept.refl _ w⟩
    · obtain ⟨b, off, rfl, hc⟩ := hm h0
      have : 0 < m.length := List.length_pos_iff.2 h0
      have e63 : maxLen = 9223372036854775807 := rfl
      obtain ⟨g', cap', w', hr, ho', _, hat, _⟩ := run_append_split (P := Try.prog) (w := w) 23 o.type base 5 Try.underlying23 info5 rfl (by omega) v l.length _ hown ⟨b, off, none⟩ m.length c (cellsOf m).toList (by rw [cellsOf_len, Nat.mul_one]) (fun j u hu => by rw [Addr.add_mid]; exact hc j u (by simpa using hu)) (fun u hu => (Array.all_eq_true_iff_forall_mem.1 (one_cellsOf m)) u (by simpa using hu)) this (by omega) (by omega) hbase
      refine ⟨_, w', hr, ?_, ?_⟩
      · show World.ownsRow _ _ _ _ _ _ _
        rw [List.length_append, cellsOf_append]
        exact ho'
      · rcases hat with ⟨e, hk⟩ | ⟨e, hk⟩
        · exact hk.mono (fun x _ hx => by subst hx; exact (hown.base_le (by rw [e]; rfl)).1)
        · exact hk.mono (fun _ _ h => h.elim)
  obtain ⟨v', w', hr, h1, h2⟩ := key
  unfold Oper.wp
  simp [execOp, ho, resolve, invoke, builtin, hs, hx, hr, Result.andThen]
  exact k v' w' h1 h2
end Go.Proofs.Ytbolbddjmmfepaa
