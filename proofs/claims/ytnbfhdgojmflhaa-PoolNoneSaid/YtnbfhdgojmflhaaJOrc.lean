/-
  No statement is proved here.
-/
import Derived.Test.YtnbfhdgojmflhaaJOrd
namespace Go.Proofs.Ytnbfhdgojmflhaa
section
variable {P:Program} {ops:Array Oper} {Q:Exit->Act->World->Prop} {md:Region.Mode} {S:World->Prop} {last:Nat}
theorem zOv6 {i:Nat} {oi:Oper} {v:Value} (Y:Act->Prop) (_hi:ops[i]?=some oi)
  (hy1:∀ {K:Act->World->Prop} {a:Act} {w:World},Y a->S w->K (a.put oi.dst v) w->wpOp P ops Q i K a w)
  (hy2:∀ {j:Nat} {oj:Oper} {K:Act->World->Prop} {a:Act} {w:World},ops[j]?=some oj->oi.apart ops oj=true->Y a->wpOp P ops Q j K (a.put oi.dst v) w->wpOp P ops Q j (fun a' w'=>Y a'/\K (a'.put oi.dst v) w') a w)
  (hw:zCI6 md ops ops.size last i=true) :
  ∀ (fuel:Nat) (listed:Array Bool) (a:Act) (w:World),
   (∀ j oj,ops[j]?=some oj->j≠i->listed.getD j true=false->(∀ e∈oj.after,Region.binds md e=true->e.on≠i)->oi.apart ops oj=true) ->
   zC84 md ops listed->i∈Region.ready md ops listed->Y a->S w ->
   zzmR P md ops Q S last fuel (listed.setIfInBounds i true) (a.put oi.dst v) w->zzmR P md ops Q S last (fuel+1) listed a w:=by
 intro fuel
 induction fuel with
 | zero=>
  intro listed a w _ _ hr hy hS H
  refine ⟨fun h=>(by rw [h] at hr;cases hr),fun j hj=>?_⟩
  rcases Decidable.em (j=i) with rfl | hji
  ·exact hy1 hy hS ⟨fun _=>hS,H⟩
  ·have none:=ready_mono hj hji
   rw [H.1] at none
   cases none
 | succ fuel ih=>
  intro listed a w hfree hcl hr hy hS H
  refine ⟨fun h=>(by rw [h] at hr;cases hr),fun j hj=>?_⟩
  rcases Decidable.em (j=i) with rfl | hji
  ·exact hy1 hy hS ⟨fun _=>hS,H⟩
  ·obtain ⟨hjun,oj,hoj,hall⟩:=mem_ready.1 hj
   have hoff:listed.getD i false≠true:=fun on=>by
    have off:=(mem_ready.1 hr).1
    rcases Nat.lt_or_ge i listed.size with lt | ge
    ·simp [lt] at off on;rw [off] at on;cases on
    ·simp [Array.getElem?_eq_none ge] at on
   have hjl:j≠last:=fun e=>hoff (z6En _ _ _ _ hcl (.inr (e▸hj)) hw)
   refine wpOp_mono (fun a' w' k=>⟨k.2.1,ih (listed.setIfInBounds j true) a' w' (fun m om hm hmi hmun hno=>?_) (hcl.put hj) (ready_mono hr (Ne.symm hji)) k.1 (k.2.1 hjl) ?_⟩)
    (hy2 hoj (hfree j oj hoj hji hjun (fun e he hb heq=>hoff (heq▸hall e he hb))) hy (H.2 j (ready_mono hj hji)))
   ·refine hfree m om hm hmi ?_ hno
    rcases Decidable.em (j=m) with rfl | hjm
    ·exact hjun
    ·rwa [getD_set_ne true hjm] at hmun
   ·rw [Array.setIfInBounds_comm _ _ hji]
    exact k.2.2
theorem zpjN {j:Nat} {oi oj:Oper} (hj:ops[j]?=some oj) (hsi:∀ cs b,oi.op≠.select cs b) (hap:oi.apart ops oj=true) {K:Act->World->Prop} {a:Act} {w:World}
  (h:wpOp P ops Q j K a w):wpOp P ops Q j (fun a' w'=>execOp a'.eval oi=execOp a.eval oi/\K a' w') a w:=by
 have k3:=(Oper.apart_spec hap).2.2
 have eq:∀ (b:Act) (u:Value),execOp (b.put oj.dst u).eval oi=execOp b.eval oi:=fun b u=>execOp_put oi hsi b oj.dst u k3
 unfold wpOp at *
 simp only [hj] at *
 by_cases hw:Region.wanted oj (yielded ops a.tmps)=true
 ·rw [if_pos hw] at h ⊢
  refine h.imp (fun h=>?_) id
  unfold Oper.wp at *
  generalize (execOp a.eval oj).run P w=out at *
  match out,h with
  | .ok (.value u) _,h=>exact ⟨eq a u,h⟩
  | .ok .skip _,h=>exact ⟨eq a _,h⟩
  | .ok (.defer d) _,h=>exact ⟨(eq { a with defers:=d :: a.defers } _).trans rfl,h⟩
  | .ok (.enter _ _) _,h=>
   refine Calls.mono h (fun e w2 he=>?_)
   cases e with
   | returned u=>exact ⟨eq a u,he⟩
   | panicked c=>exact he
   | outgrown=>exact he
  | .ok (.row _ _) _,h=>exact Rows.mono h (fun u w2 he=>⟨eq a u,he⟩)
  | .halt x _,h=>cases x<;>exact h
 ·rw [if_neg hw] at h ⊢
  exact ⟨eq a _,h⟩
def zio5 (P:Program) (ops:Array Oper) (S:World->Prop) (o:Oper) (v:Value) (a:Act):Prop:=
 Region.wanted o (yielded ops a.tmps)=true/\∀ w,S w->∃ f args,(execOp a.eval o).run P w=.ok (.enter f args) w/\Calls P f args w fun e w'=>e=.returned v/\w=w'
theorem zio5.wpOp {i:Nat} {o:Oper} {v:Value} {a:Act} (hi:ops[i]?=some o) (hy:zio5 P ops S o v a) {K:Act->World->Prop} {w:World} (hS:S w) (h:K (a.put o.dst v) w):Go.wpOp P ops Q i K a w:=by
 obtain ⟨hw,hv⟩:=hy
 obtain ⟨f,args,hr,hc⟩:=hv w hS
 unfold Go.wpOp
 simp only [hi]
 rw [if_pos hw]
 refine .inl ?_
 unfold Oper.wp
 rw [hr,Oper.upon_enter]
 refine hc.mono ?_
 rintro e w' ⟨rfl,rfl⟩
 exact h
theorem zio5.past {j i:Nat} {oi oj:Oper} {v:Value} (_hi:ops[i]?=some oi) (hj:ops[j]?=some oj) (hap:oi.apart ops oj=true) (hsi:∀ cs b,oi.op≠.select cs b) (hsj:∀ cs b,oj.op≠.select cs b)
  (hQ:∀ c a w,Q (.panic c) (a.put oi.dst v) w->Q (.panic c) a w) (hv:v≠undef) {K:Act->World->Prop} {a:Act} {w:World} (hy:zio5 P ops S oi v a)
  (h:Go.wpOp P ops Q j K (a.put oi.dst v) w):Go.wpOp P ops Q j (fun a' w'=>zio5 P ops S oi v a'/\K (a'.put oi.dst v) w') a w:=by
 have y0:YieldsIf P ops (fun _=>False) oi v a:=.inl ⟨hy.1,fun _ h=>h.elim⟩
 refine wpOp_mono (fun a' w' k=>⟨?_,k.2.2⟩) (zpjN hj hsi hap (wpOp_putIf hj hap hsi hsj hQ y0 h))
 obtain ⟨ke,ky,_⟩:=k
 rcases ky with ⟨kw,_⟩ | ⟨_,ku⟩
 ·exact ⟨kw,by rw [ke];exact hy.2⟩
 ·exact absurd ku hv
theorem takeC (i:Nat) (v:Value) {l:List Oper} {oi:Oper} {fuel:Nat} {listed:Array Bool} {a:Act} {w:World} (hi:atL l i=some oi)
  (hs:(Region.noSelect l.toArray && Region.free md l.toArray listed i && (Region.ready md l.toArray listed).contains i && zCI6 md l.toArray l.toArray.size last i && zjwu md l.toArray listed)=true)
  (hQ:∀ c a w,Q (.panic c) (a.put oi.dst v) w->Q (.panic c) a w)
  (hwant:Region.wanted oi (yielded l.toArray a.tmps)=true) (hu:v≠undef) (f:FuncId) (args:Array Value) (hr:∀ w,S w->(execOp a.eval oi).run P w=.ok (.enter f args) w)
  (hv:∀ w,S w->Calls P f args w fun e w'=>e=.returned v/\w=w') (hS:S w)
  (h:zzmR P md l.toArray Q S last fuel (listed.setIfInBounds i true) (a.put oi.dst v) w):zzmR P md l.toArray Q S last (fuel+1) listed a w:=by
 obtain ⟨hs,h5⟩:=(Bool.and_eq_true _ _).mp hs
 obtain ⟨hs,h4⟩:=(Bool.and_eq_true _ _).mp hs
 obtain ⟨hs,h3⟩:=(Bool.and_eq_true _ _).mp hs
 obtain ⟨h1,h2⟩:=(Bool.and_eq_true _ _).mp hs
 have hi':l.toArray[i]?=some oi:=by rw [<- hi,zX7e];simp
 exact zOv6 (zio5 P l.toArray S oi v) hi' (fun hy hS h=>hy.wpOp hi' hS h)
  (fun hj hap hy h=>zio5.past hi' hj hap (fun cs b=>Region.noSelect_spec h1 i oi cs b hi') (fun cs b=>Region.noSelect_spec h1 _ _ cs b hj) hQ hu hy h)
  h4 fuel listed a w (Region.free_spec hi' h2) (zryu h5) (by simpa using h3) ⟨hwant,fun w hw=>⟨f,args,hr w hw,hv w hw⟩⟩ hS h
theorem skipL (i:Nat) {l:List Oper} {oi:Oper} {fuel:Nat} {listed:Array Bool} {a:Act} {w:World} (hi:atL l i=some oi)
  (hs:(Region.noSelect l.toArray && Region.free md l.toArray listed i && (Region.ready md l.toArray listed).contains i && zCI6 md l.toArray l.toArray.size last i && zjwu md l.toArray listed)=true)
  (hQ:∀ c a w,Q (.panic c) (a.put oi.dst undef) w->Q (.panic c) a w)
  (hwant:Region.wanted oi (yielded l.toArray a.tmps)=false) (hS:S w)
  (h:zzmR P md l.toArray Q S last fuel (listed.setIfInBounds i true) (a.put oi.dst undef) w):zzmR P md l.toArray Q S last (fuel+1) listed a w:=by
 obtain ⟨hs,h5⟩:=(Bool.and_eq_true _ _).mp hs
 obtain ⟨hs,h4⟩:=(Bool.and_eq_true _ _).mp hs
 obtain ⟨hs,h3⟩:=(Bool.and_eq_true _ _).mp hs
 obtain ⟨h1,h2⟩:=(Bool.and_eq_true _ _).mp hs
 have hi':l.toArray[i]?=some oi:=by rw [<- hi,zX7e];simp
 exact zMf2 hi' (Region.noSelect_spec h1) hQ h4 fuel listed a w (Region.free_spec hi' h2) (zryu h5) (by simpa using h3) (.inr ⟨hwant,rfl⟩) hS h
end
end Go.Proofs.Ytnbfhdgojmflhaa
