/-
  PROVED: parchmentlaw11.PoolNone returns true for every page and every span, and its arguments read behind the call as they read before. No condition.
-/
import Derived.Test.YtnbfhdgojmflhaaRows
import Derived.Test.YtnbfhdgojmflhaaJPnb
import Derived.Test.YtnbfhdgojmflhaaJReadr
import Derived.ChangeOld
import Derived.Carry
namespace Go.Proofs.Ytnbfhdgojmflhaa.poolNone
open Go.ChangeShapes Go.WideShapes Go.ChangeAt Go.RowKit
theorem own:ownKnob (Try.prog).godebug=none:=by kernel_rfl
theorem zLiM:laidOutB Try.prog=true:=by kernel_rfl
set_option maxRecDepth 100000 in
theorem lifted (os:Os) (started:os.Started) (H:Type) (enc:TypeId×Value->H) :
  ReturnsInHanded {} Try.checked os 4 .any (Rows.poolNoneSpec.pre6 enc Try.prog Try.f4 Rows.poolNoneRow.domain false) (Rows.poolNoneSpec.post enc Try.prog Try.f4 false true false false):=by
 refine returnsInHanded_of_change (C:=Try.checked) own started (by kernel_rfl) Try.func4
  (ChangeSpec.witness6 (enc:=enc) (C:=Try.checked) false ⟨#[],#[.int .i64 0,.agg (spnC 0 0 none 0 0 none 0 0)],[]⟩ 8 (by kernel_rfl) (by kernel_rfl) (by kernel_rfl) (by kernel_rfl)) ?_
 intro W base args ds gs before hval0 hW hcnd _
 have hW':=hW
 obtain ⟨p,q,hA0,hV,rfl,hfz,hnd⟩:=hW
 have hA:DataW.TrodAll enc Try.prog W 0 (fun _=>true) true Try.f4.params.toList args.toList ds p:=hA0
 have hval:∀ (j:Nat) t v,Try.f4.params[j]?=some t->args[j]?=some v->Value.okWide Try.prog W .any base t v:=hval0
 rw [Try.params4] at hA hval
 obtain ⟨v0,vs0,d0,ds0,p0,q0,hargs,rfl,rfl,h0,r0⟩:=trodAll_cons hA
 obtain ⟨v1,vs1,d1,ds1,p1,q1,rfl,rfl,rfl,h1,r1⟩:=trodAll_cons r0
 obtain ⟨rfl,rfl,rfl⟩:=trodAll_nil r1
 obtain rfl:args=#[v0,v1]:=by cases args;simp_all
 obtain ⟨rfl,rfl⟩:=trodVars_none hV
 have k0:=h0
 have lt0:∀ x∈p0,x.block < W.heap.size:=by obtain ⟨m,hm⟩:=k0;exact DataW.trod_lt m _ _ _ hm
 have k1:=h1
 have lt1:∀ x∈p1,x.block < W.heap.size:=by obtain ⟨m,hm⟩:=k1;exact DataW.trod_lt m _ _ _ hm
 obtain ⟨n0,rfl⟩:=okWide_int Try.underlying3 (hval 0 3 v0 rfl rfl)
 obtain ⟨cs,rfl,-⟩:=okWide_struct Try.underlying42 (hval 1 42 v1 rfl rfl)
 obtain ⟨bk,ofs,A1,m1,c1,A2,m2,c2,e0⟩:∃ bk ofs A1 m1 c1 A2 m2 c2,cs=spnC bk ofs A1 m1 c1 A2 m2 c2:=by
  obtain ⟨fuel,gf⟩:=h1
  obtain ⟨ys,m,_,_,gl,gxl,gf⟩:=DataW.trod_struct Try.underlying42 gf
  obtain ⟨c0,c1,c2,c3,e5⟩:=list4 (gl.trans z9qb)
  rw [e5] at gf
  obtain ⟨_,g0⟩:=fld gf 0 _ rfl (by simp [gxl]) 3 rfl 0 rfl 1 zpF0
  obtain ⟨_,g1⟩:=fld gf 1 _ rfl (by simp [gxl]) 3 rfl 1 rfl 1 zpF0
  obtain ⟨_,g2⟩:=fld gf 2 _ rfl (by simp [gxl]) 37 rfl 2 rfl 1 zVhp
  obtain ⟨_,g3⟩:=fld gf 3 _ rfl (by simp [gxl]) 37 rfl 3 rfl 1 zVhp
  obtain ⟨n6,e6,_,w6⟩:=DataW.trod_int Try.underlying3 g0
  obtain ⟨n7,e7,_,w7⟩:=DataW.trod_int Try.underlying3 g1
  obtain ⟨A1,k1,l1,e8,_,r1⟩:=zmt1 g2
  obtain ⟨A2,k2,l2,e9,_,r2⟩:=zmt1 g3
  cases e6;cases e7;cases e8;cases e9
  exact ⟨n6,n7,A1,_,k1,A2,_,k2,Array.toList_inj.1 e5⟩
 subst e0
 clear hA0 hval0
 refine (zUjc W n0 bk ofs A1 m1 c1 A2 m2 c2).mono fun e W' ⟨he,hk⟩=>?_
 have bel:Below W.heap.size W W':=hk.below (Nat.le_refl _) (fun _ _ h=>h)
 subst he
 exact ⟨_,rfl,_,_,_,[],_,[],hW',trodAll_mk1 (shut_bool Try.underlying4 _),(trodAll_cons_mk (Below.trod zLiM (by kernel_rfl) (of_decide_eq_true (by kernel_rfl)) k0 bel lt0) (trodAll_cons_mk (Below.trod zLiM (by kernel_rfl) (of_decide_eq_true (by kernel_rfl)) k1 bel lt1) trodAll_mk0)),rfl,bel.frame _,fun h=>by cases h⟩
theorem over:Rows.poolNoneRow.holds Try.pinned (OpenSpec.ofChange Rows.poolNoneSpec):=
 OpenClaim.holds_of_wide 4 Try.f4 rfl rfl rfl rfl rfl rfl rfl ⟨rfl,rfl,rfl,rfl,rfl⟩ rfl rfl rfl rfl rfl (by kernel_rfl) Try.func4 (by kernel_rfl)
  (of_decide_eq_true (by kernel_rfl)) (by unfold Func.isWrapper;first | (rw [if_pos (by decide +kernel)];kernel_rfl) | (rw [if_neg (by decide +kernel)];exact ⟨rfl,rfl⟩))
  (fun os started H enc _=>lifted os started H enc)
theorem proved:Rows.PoolNoneSaid:=over
#print axioms proved
end Go.Proofs.Ytnbfhdgojmflhaa.poolNone
