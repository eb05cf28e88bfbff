/-
  PROVED: parchmentlaw14.SpaceOnce returns true for every row of steps, and its argument reads behind the call as it read before. No condition.
-/
import Derived.Test.YtfgagakepmigbaaGreatRows
import Derived.Test.YtfgagakepmigbaaGreatJLob
import Derived.Test.YtfgagakepmigbaaGreatJLra
import Derived.ChangeOld
import Derived.Carry
namespace Go.Proofs.YtfgagakepmigbaaGreat.spaceOnce
open Go.ChangeShapes Go.WideShapes Go.ChangeAt Go.RowKit
theorem own:ownKnob (Tryz.prog).godebug=none:=by kernel_rfl
theorem zLiM:laidOutB Tryz.prog=true:=by kernel_rfl
set_option maxRecDepth 100000 in
theorem lifted (os:Os) (started:os.Started) (H:Type) (enc:TypeId×Value->H) :
  ReturnsInHanded {} Tryz.checked os 5 .any (Rows.spaceOnceSpec.pre6 enc Tryz.prog Tryz.f5 Rows.spaceOnceRow.domain false) (Rows.spaceOnceSpec.post enc Tryz.prog Tryz.f5 false true false false):=by
 refine returnsInHanded_of_change (C:=Tryz.checked) own started (by kernel_rfl) Tryz.func5
  (ChangeSpec.witness6 (enc:=enc) (C:=Tryz.checked) false ⟨#[],#[.slice none 0 0],[]⟩ 8 (by kernel_rfl) (by kernel_rfl) (by kernel_rfl) (by kernel_rfl)) ?_
 intro W base args ds gs before hval0 hW hcnd _
 have hW':=hW
 obtain ⟨p,q,hA0,hV,rfl,hfz,hnd⟩:=hW
 have hA:DataW.TrodAll enc Tryz.prog W 0 (fun _=>true) true Tryz.f5.params.toList args.toList ds p:=hA0
 have hval:∀ (j:Nat) t v,Tryz.f5.params[j]?=some t->args[j]?=some v->Value.okWide Tryz.prog W .any base t v:=hval0
 rw [Tryz.params5] at hA hval
 obtain ⟨v0,vs0,d0,ds0,p0,q0,hargs,rfl,rfl,h0,r0⟩:=trodAll_cons hA
 obtain ⟨rfl,rfl,rfl⟩:=trodAll_nil r0
 obtain rfl:args=#[v0]:=by cases args;simp_all
 obtain ⟨rfl,rfl⟩:=trodVars_none hV
 have k0:=h0
 have lt0:∀ x∈p0,x.block < W.heap.size:=by obtain ⟨m,hm⟩:=k0;exact DataW.trod_lt m _ _ _ hm
 obtain ⟨a0,len0,cap0,rfl⟩:=okWide_slice Tryz.underlying42 (hval 0 42 v0 rfl rfl)
 obtain ⟨l,w0,hl,hc,e0⟩:∃ l:List DoM,RdDo W a0 l/\l.length<=maxLen/\l.length<=cap0/\len0=l.length:=by
  obtain ⟨fuel,hf⟩:=h0
  obtain ⟨A,c,l,hcs,hm,hc,hl⟩:=zx3n hf
  simp [Value.cells] at hcs
  obtain ⟨rfl,rfl,rfl⟩:=hcs
  exact ⟨l,hl,hm,hc,rfl⟩
 subst e0
 clear hA0 hval0
 refine (zUqH W a0 cap0 l w0 hl hc).mono fun e W' ⟨he,hk⟩=>?_
 have bel:Below W.heap.size W W':=hk.below (Nat.le_refl _) (fun _ _ h=>h)
 subst he
 exact ⟨_,rfl,_,_,_,[],_,[],hW',trodAll_mk1 (shut_bool Tryz.underlying4 _),(trodAll_cons_mk (Below.trod zLiM (by kernel_rfl) (of_decide_eq_true (by kernel_rfl)) k0 bel lt0) trodAll_mk0),rfl,bel.frame _,fun h=>by cases h⟩
theorem over:Rows.spaceOnceRow.holds Tryz.pinned (OpenSpec.ofChange Rows.spaceOnceSpec):=
 OpenClaim.holds_of_wide 5 Tryz.f5 rfl rfl rfl rfl rfl rfl rfl ⟨rfl,rfl,rfl,rfl,rfl⟩ rfl rfl rfl rfl rfl (by kernel_rfl) Tryz.func5 (by kernel_rfl)
  (of_decide_eq_true (by kernel_rfl)) (by unfold Func.isWrapper;first | (rw [if_pos (by decide +kernel)];kernel_rfl) | (rw [if_neg (by decide +kernel)];exact ⟨rfl,rfl⟩))
  (fun os started H enc _=>lifted os started H enc)
theorem proved:Rows.SpaceOnceSaid:=over
#print axioms proved
end Go.Proofs.YtfgagakepmigbaaGreat.spaceOnce
