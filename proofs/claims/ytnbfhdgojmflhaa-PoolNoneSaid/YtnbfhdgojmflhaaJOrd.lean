/-
  No statement is proved here.
-/
import Derived.Test.YtnbfhdgojmflhaaJBase
import Derived.Deep.RegionHeld3
namespace Go.Proofs.Ytnbfhdgojmflhaa
theorem oZa {α:Type _} (l:List α) (i:Nat) (a:α):l.toArray.setIfInBounds i a=(l.set i a).toArray:=List.setIfInBounds_toArray ..
theorem oZb {α:Type _} (x:α) (xs:List α) (a:α):(x :: xs).set 0 a=a :: xs:=rfl
theorem oZc {α:Type _} (x:α) (xs:List α) (n:Nat) (a:α):(x :: xs).set (n+1) a=x :: xs.set n a:=rfl
section
variable {P:Program} {ops:Array Oper} {Q:Exit->Act->World->Prop} {md:Region.Mode} {S:World->Prop} {last:Nat}
def zC84 (md:Region.Mode) (ops:Array Oper) (l:Array Bool):Prop:=
 ∀ (k:Nat) (o:Oper),ops[k]?=some o->l.getD k false=true->∀ e∈o.after,Region.binds md e=true->l.getD e.on false=true
def zCI6 (md:Region.Mode) (ops:Array Oper):Nat->Nat->Nat->Bool
 | 0,_,_=>false
 | f+1,k,i=>match ops[k]? with
  | none=>false
  | some o=>o.after.any fun e=>Region.binds md e && (e.on == i || zCI6 md ops f e.on i)
theorem z6En:∀ (f k i:Nat) (l:Array Bool),zC84 md ops l->(l.getD k false=true\/k∈Region.ready md ops l)->zCI6 md ops f k i=true->l.getD i false=true
 | 0,_,_,_,_,_,h=>by simp [zCI6] at h
 | f+1,k,i,l,hc,hk,h=>by
  unfold zCI6 at h
  cases ho:ops[k]? with
  | none=>simp [ho] at h
  | some o=>
   simp only [ho] at h
   obtain ⟨e,he,hb⟩:=Array.any_eq_true'.1 h
   simp only [Bool.and_eq_true,Bool.or_eq_true,beq_iff_eq] at hb
   have hon:l.getD e.on false=true:=by
    rcases hk with hk | hk
    ·exact hc k o ho hk e he hb.1
    ·obtain ⟨-,o',ho',hall⟩:=mem_ready.1 hk
     rw [ho] at ho'
     cases ho'
     exact hall e he hb.1
   rcases hb.2 with h1 | h1
   ·rw [<- h1];exact hon
   ·exact z6En f e.on i l hc (.inl hon) h1
theorem zC84.put {l:Array Bool} (hc:zC84 md ops l) {j:Nat} (hj:j∈Region.ready md ops l):zC84 md ops (l.setIfInBounds j true):=by
 intro k o ho hk e he hb
 by_cases hkj:j=k
 ·subst hkj
  obtain ⟨-,o',ho',hall⟩:=mem_ready.1 hj
  rw [ho] at ho'
  cases ho'
  exact getD_set_true (hall e he hb)
 ·rw [getD_set_ne false hkj] at hk
  exact getD_set_true (hc k o ho hk e he hb)
def zzmR (P:Program) (md:Region.Mode) (ops:Array Oper) (Q:Exit->Act->World->Prop) (S:World->Prop) (last:Nat):Nat->Array Bool->Act->World->Prop
 | 0,listed,a,w=>Region.ready md ops listed=[]/\Q .normal a w
 | fuel+1,listed,a,w=>
  (Region.ready md ops listed=[]->Q .normal a w) /\
  ∀ i∈Region.ready md ops listed,wpOp P ops Q i (fun a' w'=>(i≠last->S w')/\zzmR P md ops Q S last fuel (listed.setIfInBounds i true) a' w') a w
theorem z3DD:∀ (fuel:Nat) (listed:Array Bool) (a:Act) (w:World),zzmR P md ops Q S last fuel listed a w->wpAny P md ops Q fuel listed a w
 | 0,_,_,_,h=>h
 | fuel+1,_,_,_,h=>⟨h.1,fun i hi=>wpOp_mono (fun a' w' h'=>z3DD fuel _ a' w' h'.2) (h.2 i hi)⟩
theorem zMf2 {i:Nat} {oi:Oper} {v:Value} (hi:ops[i]?=some oi) (hsel:∀ (j:Nat) (o:Oper) cs b,ops[j]?=some o->o.op≠.select cs b)
  (hQ:∀ c a w,Q (.panic c) (a.put oi.dst v) w->Q (.panic c) a w) (hw:zCI6 md ops ops.size last i=true) :
  ∀ (fuel:Nat) (listed:Array Bool) (a:Act) (w:World),
   (∀ j oj,ops[j]?=some oj->j≠i->listed.getD j true=false->(∀ e∈oj.after,Region.binds md e=true->e.on≠i)->oi.apart ops oj=true) ->
   zC84 md ops listed->i∈Region.ready md ops listed->YieldsIf P ops S oi v a->S w ->
   zzmR P md ops Q S last fuel (listed.setIfInBounds i true) (a.put oi.dst v) w->zzmR P md ops Q S last (fuel+1) listed a w:=by
 intro fuel
 induction fuel with
 | zero=>
  intro listed a w _ _ hr hy hS H
  refine ⟨fun h=>(by rw [h] at hr;cases hr),fun j hj=>?_⟩
  by_cases hji:j=i
  ·subst hji;exact hy.wpOp hi hS ⟨fun _=>hS,H⟩
  ·have:=ready_mono hj hji
   rw [H.1] at this
   cases this
 | succ fuel ih=>
  intro listed a w hfree hcl hr hy hS H
  refine ⟨fun h=>(by rw [h] at hr;cases hr),fun j hj=>?_⟩
  by_cases hji:j=i
  ·subst hji;exact hy.wpOp hi hS ⟨fun _=>hS,H⟩
  ·have h1:=H.2 j (ready_mono hj hji)
   obtain ⟨hjun,oj,hoj,hall⟩:=mem_ready.1 hj
   have hoff:listed.getD i false≠true:=fun h1=>by
    have h0:=(mem_ready.1 hr).1
    rcases Nat.lt_or_ge i listed.size with h' | h'
    ·simp [h'] at h0 h1;rw [h0] at h1;cases h1
    ·simp [Array.getElem?_eq_none h'] at h1
   have hnot:∀ e∈oj.after,Region.binds md e=true->e.on≠i:=fun e he hb heq=>hoff (heq▸hall e he hb)
   have hjl:j≠last:=fun e=>hoff (z6En _ _ _ _ hcl (.inr (e▸hj)) hw)
   have h2:=wpOp_putIf hoj (hfree j oj hoj hji hjun hnot) (fun cs b=>hsel i oi cs b hi) (fun cs b=>hsel j oj cs b hoj) hQ hy h1
   have hfree':∀ k ok,ops[k]?=some ok->k≠i->(listed.setIfInBounds j true).getD k true=false ->
     (∀ e∈ok.after,Region.binds md e=true->e.on≠i)->oi.apart ops ok=true:=fun k ok hk hki hun hno=>by
    refine hfree k ok hk hki ?_ hno
    by_cases hjk:j=k
    ·subst hjk;exact hjun
    ·rw [getD_set_ne true hjk] at hun;exact hun
   refine wpOp_mono (fun a' w' h3=>⟨h3.2.1,ih (listed.setIfInBounds j true) a' w' hfree' (hcl.put hj) (ready_mono hr (Ne.symm hji)) h3.1 (h3.2.1 hjl) ?_⟩) h2
   rw [Array.setIfInBounds_comm _ _ hji]
   exact h3.2.2
def zjwu (md:Region.Mode) (ops:Array Oper) (l:Array Bool):Bool:=
 (List.range ops.size).all fun k=>!l.getD k false || match ops[k]? with
  | none=>true
  | some o=>o.after.all fun e=>!Region.binds md e || l.getD e.on false
theorem zryu {l:Array Bool} (h:zjwu md ops l=true):zC84 md ops l:=by
 intro k o ho hk e he hb
 simp only [zjwu,List.all_eq_true,List.mem_range] at h
 have h1:=h k (Array.getElem?_eq_some_iff.1 ho).1
 simp only [ho,hk,Bool.not_true,Bool.false_or] at h1
 have h2:=Array.all_eq_true_iff_forall_mem.1 h1 e he
 simpa [hb] using h2
def atL:List Oper->Nat->Option Oper
 | [],_=>none
 | o :: _,0=>some o
 | _ :: os,n+1=>atL os n
theorem zX7e:∀ (l:List Oper) (n:Nat),atL l n=l[n]?
 | [],_=>by simp [atL]
 | o :: _,0=>by simp [atL]
 | _ :: os,n+1=>by simp [atL,zX7e os n]
theorem takeL (i:Nat) (v:Value) {l:List Oper} {oi:Oper} {fuel:Nat} {listed:Array Bool} {a:Act} {w:World} (hi:atL l i=some oi)
  (hs:(Region.noSelect l.toArray && Region.free md l.toArray listed i && (Region.ready md l.toArray listed).contains i && zCI6 md l.toArray l.toArray.size last i && zjwu md l.toArray listed)=true)
  (hQ:∀ c a w,Q (.panic c) (a.put oi.dst v) w->Q (.panic c) a w)
  (hwant:Region.wanted oi (yielded l.toArray a.tmps)=true) (hv:∀ w,S w->(execOp a.eval oi).run P w=.ok (.value v) w) (hS:S w)
  (h:zzmR P md l.toArray Q S last fuel (listed.setIfInBounds i true) (a.put oi.dst v) w):zzmR P md l.toArray Q S last (fuel+1) listed a w:=by
 obtain ⟨hs,h5⟩:=(Bool.and_eq_true _ _).mp hs
 obtain ⟨hs,h4⟩:=(Bool.and_eq_true _ _).mp hs
 obtain ⟨hs,h3⟩:=(Bool.and_eq_true _ _).mp hs
 obtain ⟨h1,h2⟩:=(Bool.and_eq_true _ _).mp hs
 have hi':l.toArray[i]?=some oi:=by rw [<- hi,zX7e];simp
 exact zMf2 hi' (Region.noSelect_spec h1) hQ h4 fuel listed a w (Region.free_spec hi' h2) (zryu h5) (by simpa using h3) (.inl ⟨hwant,hv⟩) hS h
theorem tK (i:Nat) (v:Value) {l:List Oper} {oi:Oper} {fuel:Nat} {listed:Array Bool} {a:Act} {w:World} (hv:∀ w,S w->(execOp a.eval oi).run P w=.ok (.value v) w) (hS:S w)
  (h:zzmR P md l.toArray Q S last fuel (listed.setIfInBounds i true) (a.put oi.dst v) w) (hi:atL l i=some oi:=by rfl)
  (hs:(Region.noSelect l.toArray && Region.free md l.toArray listed i && (Region.ready md l.toArray listed).contains i && zCI6 md l.toArray l.toArray.size last i && zjwu md l.toArray listed)=true:=by kernel_rfl)
  (hQ:∀ c a w,Q (.panic c) (a.put oi.dst v) w->Q (.panic c) a w:=by exact fun _ _ _ h=>h)
  (hwant:Region.wanted oi (yielded l.toArray a.tmps)=true:=by rfl):zzmR P md l.toArray Q S last (fuel+1) listed a w:=takeL i v hi hs hQ hwant hv hS h
theorem stepL (i:Nat) {l:List Oper} {oi:Oper} {fuel:Nat} {listed:Array Bool} {a:Act} {w:World} (hi:atL l i=some oi) (hr:Region.ready md l.toArray listed=[i])
  (h:∀ K':Act->World->Prop,RowKit.Hid (∀ a w,(i≠last->S w)->((i≠last->S w)->zzmR P md l.toArray Q S last fuel (listed.setIfInBounds i true) a w)->K' a w)->if Region.wanted oi (yielded l.toArray a.tmps)=true then Oper.wp P oi a w K' Q else K' (a.put oi.dst undef) w) :
  zzmR P md l.toArray Q S last (fuel+1) listed a w:=by
 have hi':l.toArray[i]?=some oi:=by rw [<- hi,zX7e];simp
 refine ⟨fun h0=>(by rw [hr] at h0;cases h0),?_⟩
 rw [hr]
 intro j hj
 obtain rfl:j=i:=by simpa using hj
 exact wpOp_step hi' (fun K' hK=>h K' (qh (fun a w hS hW=>hK a w ⟨hS,hW hS⟩)))
theorem doneL {listed:Array Bool} {a:Act} {w:World} (hr:Region.ready md ops listed=[]) (h:Q .normal a w):∀ fuel,zzmR P md ops Q S last fuel listed a w
 | 0=>⟨hr,h⟩
 | _+1=>⟨fun _=>h,by rw [hr];simp⟩
theorem znCh (last:Nat) (S:World->Prop) {l:List Oper} {id:Nat} {a:Act} {w:World} (hm:P.follows .mixedOrders=true) (hS:S w.drew)
  (h:S w.drew->zzmR P .any l.toArray Q S last l.length (List.replicate l.length false).toArray a w.drew):(Code.region id l.toArray true).wp P Q a w:=by
 refine wp_region_any hm (z3DD (S:=S) (last:=last) _ _ _ _ ?_)
 have:=h hS
 simpa using this
end
end Go.Proofs.Ytnbfhdgojmflhaa
