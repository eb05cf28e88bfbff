/-
  No statement is proved here.
-/
import Derived.Test.YtnbfhdgojmflhaaJOrc
namespace Go.Proofs.Ytnbfhdgojmflhaa
section
variable {P:Program} {ops:Array Oper} {Q:Exit->Act->World->Prop} {md:Region.Mode} {S:World->Prop} {late:List Nat}
def zJ0G (P:Program) (md:Region.Mode) (ops:Array Oper) (Q:Exit->Act->World->Prop) (S:World->Prop) (late:List Nat):Nat->Array Bool->Act->World->Prop
 | 0,listed,a,w=>Region.ready md ops listed=[]/\Q .normal a w
 | fuel+1,listed,a,w=>
  (Region.ready md ops listed=[]->Q .normal a w) /\
  ∀ i∈Region.ready md ops listed,wpOp P ops Q i (fun a' w'=>(late.contains i=false->S w')/\zJ0G P md ops Q S late fuel (listed.setIfInBounds i true) a' w') a w
theorem zyiP:∀ (fuel:Nat) (listed:Array Bool) (a:Act) (w:World),zJ0G P md ops Q S late fuel listed a w->wpAny P md ops Q fuel listed a w
 | 0,_,_,_,h=>h
 | fuel+1,_,_,_,h=>⟨h.1,fun i hi=>wpOp_mono (fun a' w' h'=>zyiP fuel _ a' w' h'.2) (h.2 i hi)⟩
def zUTx (ops:Array Oper) (k:Nat):Bool:=match ops[k]? with
 | some o=>(match o.op with | .move _=>true | _=>false)
 | none=>false
theorem zNya {j:Nat} {oj:Oper} (hj:ops[j]?=some oj) (hm:zUTx ops j=true) {K:Act->World->Prop} {a:Act} {w:World} (h:wpOp P ops Q j K a w):wpOp P ops Q j (fun a' w'=>w'=w/\K a' w') a w:=by
 unfold zUTx at hm
 simp only [hj] at hm
 have hx:∃ x,oj.op=.move x:=by
  cases ho:oj.op<;>simp [ho] at hm
  exact ⟨_,rfl⟩
 obtain ⟨x,hx⟩:=hx
 unfold wpOp at *
 simp only [hj] at *
 by_cases hw:Region.wanted oj (yielded ops a.tmps)=true
 ·rw [if_pos hw] at h ⊢
  refine h.imp (fun h=>?_) id
  have hr:(execOp a.eval oj).run P w=.ok (.value (a.eval x)) w:=by simp [execOp,hx]
  unfold Oper.wp at *
  rw [hr] at h ⊢
  exact ⟨rfl,h⟩
 ·rw [if_neg hw] at h ⊢
  exact ⟨by trivial,h⟩
theorem zhEL {i:Nat} {oi:Oper} {v:Value} (hi:ops[i]?=some oi) (hsel:∀ (j:Nat) (o:Oper) cs b,ops[j]?=some o->o.op≠.select cs b)
  (hQ:∀ c a w,Q (.panic c) (a.put oi.dst v) w->Q (.panic c) a w) (hw:∀ k,late.contains k=true->(zCI6 md ops ops.size k i || zUTx ops k)=true) :
  ∀ (fuel:Nat) (listed:Array Bool) (a:Act) (w:World),
   (∀ j oj,ops[j]?=some oj->j≠i->listed.getD j true=false->(∀ e∈oj.after,Region.binds md e=true->e.on≠i)->oi.apart ops oj=true) ->
   zC84 md ops listed->i∈Region.ready md ops listed->YieldsIf P ops S oi v a->S w ->
   zJ0G P md ops Q S late fuel (listed.setIfInBounds i true) (a.put oi.dst v) w->zJ0G P md ops Q S late (fuel+1) listed a w:=by
 intro fuel
 induction fuel with
 | zero=>
  intro listed a w _ _ hr hy hS H
  refine ⟨fun h=>(by rw [h] at hr;cases hr),fun j hj=>?_⟩
  by_cases hji:j=i
  ·subst hji;exact hy.wpOp hi hS ⟨fun _=>hS,H⟩
  ·have:=ready_mono hj hji
   rw [H.1] at this
   cases this
 | succ fuel ih=>
  intro listed a w hfree hcl hr hy hS H
  refine ⟨fun h=>(by rw [h] at hr;cases hr),fun j hj=>?_⟩
  by_cases hji:j=i
  ·subst hji;exact hy.wpOp hi hS ⟨fun _=>hS,H⟩
  ·have h1:=H.2 j (ready_mono hj hji)
   obtain ⟨hjun,oj,hoj,hall⟩:=mem_ready.1 hj
   have hoff:listed.getD i false≠true:=fun h1=>by
    have h0:=(mem_ready.1 hr).1
    rcases Nat.lt_or_ge i listed.size with h' | h'
    ·simp [h'] at h0 h1;rw [h0] at h1;cases h1
    ·simp [Array.getElem?_eq_none h'] at h1
   have hnot:∀ e∈oj.after,Region.binds md e=true->e.on≠i:=fun e he hb heq=>hoff (heq▸hall e he hb)
   have h2:=wpOp_putIf hoj (hfree j oj hoj hji hjun hnot) (fun cs b=>hsel i oi cs b hi) (fun cs b=>hsel j oj cs b hoj) hQ hy h1
   have hfree':∀ k ok,ops[k]?=some ok->k≠i->(listed.setIfInBounds j true).getD k true=false ->
     (∀ e∈ok.after,Region.binds md e=true->e.on≠i)->oi.apart ops ok=true:=fun k ok hk hki hun hno=>by
    refine hfree k ok hk hki ?_ hno
    by_cases hjk:j=k
    ·subst hjk;exact hjun
    ·rw [getD_set_ne true hjk] at hun;exact hun
   have hSj:wpOp P ops Q j (fun a' w'=>S w'/\(YieldsIf P ops S oi v a'/\(late.contains j=false->S w')/\zJ0G P md ops Q S late fuel ((listed.setIfInBounds i true).setIfInBounds j true) (a'.put oi.dst v) w')) a w:=by
    by_cases hlj:late.contains j=true
    ·have hm:zUTx ops j=true:=by
      rcases (Bool.or_eq_true _ _).mp (hw j hlj) with h4 | h4
      ·exact absurd (z6En _ _ _ _ hcl (.inr hj) h4) hoff
      ·exact h4
     refine wpOp_mono ?_ (zNya hoj hm h2)
     intro a' w' h3
     exact ⟨by rw [h3.1];exact hS,h3.2⟩
    ·exact wpOp_mono (fun a' w' h3=>⟨h3.2.1 (by simpa using hlj),h3⟩) h2
   refine wpOp_mono (fun a' w' h3=>⟨h3.2.2.1,ih (listed.setIfInBounds j true) a' w' hfree' (hcl.put hj) (ready_mono hr (Ne.symm hji)) h3.2.1 h3.1 ?_⟩) hSj
   rw [Array.setIfInBounds_comm _ _ hji]
   exact h3.2.2.2
theorem takeM (i:Nat) (v:Value) {l:List Oper} {oi:Oper} {fuel:Nat} {listed:Array Bool} {a:Act} {w:World} (hi:atL l i=some oi)
  (hs:(Region.noSelect l.toArray && Region.free md l.toArray listed i && (Region.ready md l.toArray listed).contains i && late.all (fun k=>zCI6 md l.toArray l.toArray.size k i || zUTx l.toArray k) && zjwu md l.toArray listed)=true)
  (hQ:∀ c a w,Q (.panic c) (a.put oi.dst v) w->Q (.panic c) a w)
  (hwant:Region.wanted oi (yielded l.toArray a.tmps)=true) (hv:∀ w,S w->(execOp a.eval oi).run P w=.ok (.value v) w) (hS:S w)
  (h:zJ0G P md l.toArray Q S late fuel (listed.setIfInBounds i true) (a.put oi.dst v) w):zJ0G P md l.toArray Q S late (fuel+1) listed a w:=by
 obtain ⟨hs,h5⟩:=(Bool.and_eq_true _ _).mp hs
 obtain ⟨hs,h4⟩:=(Bool.and_eq_true _ _).mp hs
 obtain ⟨hs,h3⟩:=(Bool.and_eq_true _ _).mp hs
 obtain ⟨h1,h2⟩:=(Bool.and_eq_true _ _).mp hs
 have hi':l.toArray[i]?=some oi:=by rw [<- hi,zX7e];simp
 exact zhEL hi' (Region.noSelect_spec h1) hQ (fun k hk=>List.all_eq_true.1 h4 k (by simpa using hk)) fuel listed a w (Region.free_spec hi' h2) (zryu h5) (by simpa using h3) (.inl ⟨hwant,hv⟩) hS h
theorem zd3v {i:Nat} {oi:Oper} {v:Value} (hi:ops[i]?=some oi) (hsel:∀ (j:Nat) (o:Oper) cs b,ops[j]?=some o->o.op≠.select cs b)
  (hQ:∀ c a w,Q (.panic c) (a.put oi.dst v) w->Q (.panic c) a w) (hl:late.contains i=true) :
  ∀ (fuel:Nat) (listed:Array Bool) (a:Act) (w:World),
   (∀ j oj,ops[j]?=some oj->j≠i->listed.getD j true=false->(∀ e∈oj.after,Region.binds md e=true->e.on≠i)->oi.apart ops oj=true) ->
   zC84 md ops listed->i∈Region.ready md ops listed->YieldsIf P ops (fun _=>True) oi v a ->
   zJ0G P md ops Q S late fuel (listed.setIfInBounds i true) (a.put oi.dst v) w->zJ0G P md ops Q S late (fuel+1) listed a w:=by
 have hno:late.contains i=false->False:=fun h=>by rw [hl] at h;cases h
 intro fuel
 induction fuel with
 | zero=>
  intro listed a w _ _ hr hy H
  refine ⟨fun h=>(by rw [h] at hr;cases hr),fun j hj=>?_⟩
  by_cases hji:j=i
  ·subst hji;exact hy.wpOp hi trivial ⟨fun h=>(hno h).elim,H⟩
  ·have:=ready_mono hj hji
   rw [H.1] at this
   cases this
 | succ fuel ih=>
  intro listed a w hfree hcl hr hy H
  refine ⟨fun h=>(by rw [h] at hr;cases hr),fun j hj=>?_⟩
  by_cases hji:j=i
  ·subst hji;exact hy.wpOp hi trivial ⟨fun h=>(hno h).elim,H⟩
  ·have h1:=H.2 j (ready_mono hj hji)
   obtain ⟨hjun,oj,hoj,hall⟩:=mem_ready.1 hj
   have hoff:listed.getD i false≠true:=fun h1=>by
    have h0:=(mem_ready.1 hr).1
    rcases Nat.lt_or_ge i listed.size with h' | h'
    ·simp [h'] at h0 h1;rw [h0] at h1;cases h1
    ·simp [Array.getElem?_eq_none h'] at h1
   have hnot:∀ e∈oj.after,Region.binds md e=true->e.on≠i:=fun e he hb heq=>hoff (heq▸hall e he hb)
   have h2:=wpOp_putIf hoj (hfree j oj hoj hji hjun hnot) (fun cs b=>hsel i oi cs b hi) (fun cs b=>hsel j oj cs b hoj) hQ hy h1
   have hfree':∀ k ok,ops[k]?=some ok->k≠i->(listed.setIfInBounds j true).getD k true=false ->
     (∀ e∈ok.after,Region.binds md e=true->e.on≠i)->oi.apart ops ok=true:=fun k ok hk hki hun hno=>by
    refine hfree k ok hk hki ?_ hno
    by_cases hjk:j=k
    ·subst hjk;exact hjun
    ·rw [getD_set_ne true hjk] at hun;exact hun
   refine wpOp_mono (fun a' w' h3=>⟨h3.2.1,ih (listed.setIfInBounds j true) a' w' hfree' (hcl.put hj) (ready_mono hr (Ne.symm hji)) h3.1 ?_⟩) h2
   rw [Array.setIfInBounds_comm _ _ hji]
   exact h3.2.2
theorem takeU (i:Nat) (v:Value) {l:List Oper} {oi:Oper} {fuel:Nat} {listed:Array Bool} {a:Act} {w:World} (hi:atL l i=some oi)
  (hs:(Region.noSelect l.toArray && Region.free md l.toArray listed i && (Region.ready md l.toArray listed).contains i && late.contains i && zjwu md l.toArray listed)=true)
  (hQ:∀ c a w,Q (.panic c) (a.put oi.dst v) w->Q (.panic c) a w)
  (hwant:Region.wanted oi (yielded l.toArray a.tmps)=true) (hv:∀ w,(execOp a.eval oi).run P w=.ok (.value v) w)
  (h:zJ0G P md l.toArray Q S late fuel (listed.setIfInBounds i true) (a.put oi.dst v) w):zJ0G P md l.toArray Q S late (fuel+1) listed a w:=by
 obtain ⟨hs,h5⟩:=(Bool.and_eq_true _ _).mp hs
 obtain ⟨hs,h4⟩:=(Bool.and_eq_true _ _).mp hs
 obtain ⟨hs,h3⟩:=(Bool.and_eq_true _ _).mp hs
 obtain ⟨h1,h2⟩:=(Bool.and_eq_true _ _).mp hs
 have hi':l.toArray[i]?=some oi:=by rw [<- hi,zX7e];simp
 exact zd3v hi' (Region.noSelect_spec h1) hQ h4 fuel listed a w (Region.free_spec hi' h2) (zryu h5) (by simpa using h3) (.inl ⟨hwant,fun w _=>hv w⟩) h
theorem stepM (i:Nat) {l:List Oper} {oi:Oper} {fuel:Nat} {listed:Array Bool} {a:Act} {w:World} (hi:atL l i=some oi) (hr:Region.ready md l.toArray listed=[i])
  (h:∀ K':Act->World->Prop,RowKit.Hid (∀ a w,(late.contains i=false->S w)->((late.contains i=false->S w)->zJ0G P md l.toArray Q S late fuel (listed.setIfInBounds i true) a w)->K' a w)->if Region.wanted oi (yielded l.toArray a.tmps)=true then Oper.wp P oi a w K' Q else K' (a.put oi.dst undef) w) :
  zJ0G P md l.toArray Q S late (fuel+1) listed a w:=by
 have hi':l.toArray[i]?=some oi:=by rw [<- hi,zX7e];simp
 refine ⟨fun h0=>(by rw [hr] at h0;cases h0),?_⟩
 rw [hr]
 intro j hj
 obtain rfl:j=i:=by simpa using hj
 exact wpOp_step hi' (fun K' hK=>h K' (qh (fun a w hS hW=>hK a w ⟨hS,hW hS⟩)))
theorem doneM {listed:Array Bool} {a:Act} {w:World} (hr:Region.ready md ops listed=[]) (h:Q .normal a w):∀ fuel,zJ0G P md ops Q S late fuel listed a w
 | 0=>⟨hr,h⟩
 | _+1=>⟨fun _=>h,by rw [hr];simp⟩
theorem zV2I (late:List Nat) (S:World->Prop) {l:List Oper} {id:Nat} {a:Act} {w:World} (hm:P.follows .mixedOrders=true) (hS:S w.drew)
  (h:S w.drew->zJ0G P .any l.toArray Q S late l.length (List.replicate l.length false).toArray a w.drew):(Code.region id l.toArray true).wp P Q a w:=by
 refine wp_region_any hm (zyiP (S:=S) (late:=late) _ _ _ _ ?_)
 have:=h hS
 simpa using this
end
end Go.Proofs.Ytnbfhdgojmflhaa
