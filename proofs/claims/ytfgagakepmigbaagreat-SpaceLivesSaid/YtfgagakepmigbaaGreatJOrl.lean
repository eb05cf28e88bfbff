/-
  No statement is proved here.
-/
import Derived.Test.YtfgagakepmigbaaGreatJBase
import Derived.Deep.RegionHeld3
namespace Go.Proofs.YtfgagakepmigbaaGreat
theorem oZa {α:Type _} (l:List α) (i:Nat) (a:α):l.toArray.setIfInBounds i a=(l.set i a).toArray:=List.setIfInBounds_toArray ..
theorem oZb {α:Type _} (x:α) (xs:List α) (a:α):(x :: xs).set 0 a=a :: xs:=rfl
theorem oZc {α:Type _} (x:α) (xs:List α) (n:Nat) (a:α):(x :: xs).set (n+1) a=x :: xs.set n a:=rfl
section
variable {P:Program} {ops:Array Oper} {Q:Exit->Act->World->Prop} {md:Region.Mode} {S:World->Prop} {last:Nat}
def zC84 (md:Region.Mode) (ops:Array Oper) (l:Array Bool):Prop:=
 ∀ (k:Nat) (o:Oper),ops[k]?=some o->l.getD k false=true->∀ e∈o.after,Region.binds md e=true->l.getD e.on false=true
def zCI6 (md:Region.Mode) (ops:Array Oper):Nat->Nat->Nat->Bool
 | 0,_,_=>false
 | f+1,k,i=>match ops[k]? with
  | none=>false
  | some o=>o.after.any fun e=>Region.binds md e && (e.on == i || zCI6 md ops f e.on i)
theorem z6En:∀ (f k i:Nat) (l:Array Bool),zC84 md ops l->(l.getD k false=true\/k∈Region.ready md ops l)->zCI6 md ops f k i=true->l.getD i false=true
 | 0,_,_,_,_,_,h=>by simp [zCI6] at h
 | f+1,k,i,l,hc,hk,h=>by
  unfold zCI6 at h
  cases ho:ops[k]? with
  | none=>simp [ho] at h
  | some o=>
   simp only [ho] at h
   obtain ⟨e,he,hb⟩:=Array.any_eq_true'.1 h
   simp only [Bool.and_eq_true,Bool.or_eq_true,beq_iff_eq] at hb
   have hon:l.getD e.on false=true:=by
    rcases hk with hk | hk
    ·exact hc k o ho hk e he hb.1
    ·obtain ⟨-,o',ho',hall⟩:=mem_ready.1 hk
     rw [ho] at ho'
     cases ho'
     exact hall e he hb.1
   rcases hb.2 with h1 | h1
   ·rw [<- h1];exact hon
   ·exact z6En f e.on i l hc (.inl hon) h1
theorem zC84.put {l:Array Bool} (hc:zC84 md ops l) {j:Nat} (hj:j∈Region.ready md ops l):zC84 md ops (l.setIfInBounds j true):=by
 intro k o ho hk e he hb
 by_cases hkj:j=k
 ·subst hkj
  obtain ⟨-,o',ho',hall⟩:=mem_ready.1 hj
  rw [ho] at ho'
  cases ho'
  exact getD_set_true (hall e he hb)
 ·rw [getD_set_ne false hkj] at hk
  exact getD_set_true (hc k o ho hk e he hb)
def zzmR (P:Program) (md:Region.Mode) (ops:Array Oper) (Q:Exit->Act->World->Prop) (S:World->Prop) (last:Nat):Nat->Array Bool->Act->World->Prop
 | 0,listed,a,w=>Region.ready md ops listed=[]/\Q .normal a w
 | fuel+1,listed,a,w=>
  (Region.ready md ops listed=[]->Q .normal a w) /\
  ∀ i∈Region.ready md ops listed,wpOp P ops Q i (fun a' w'=>(i≠last->S w')/\zzmR P md ops Q S last fuel (listed.setIfInBounds i true) a' w') a w
theorem wpAny_of_L:∀ (fuel:Nat) (listed:Array Bool) (a:Act) (w:World),zzmR P md ops Q S last fuel listed a w->wpAny P md ops Q fuel listed a w
 | 0,_,_,_,h=>h
 | fuel+1,_,_,_,h=>⟨h.1,fun i hi=>wpOp_mono (fun a' w' h'=>wpAny_of_L fuel _ a' w' h'.2) (h.2 i hi)⟩
theorem zMf2 {i:Nat} {oi:Oper} {v:Value} (hi:ops[i]?=some oi) (hsel:∀ (j:Nat) (o:Oper) cs b,ops[j]?=some o->o.op≠.select cs b)
  (hQ:∀ c a w,Q (.panic c) (a.put oi.dst v) w->Q (.panic c) a w) (hw:zCI6 md ops ops.size last i=true) :
  ∀ (fuel:Nat) (listed:Array Bool) (a:Act) (w:World),
   (∀ j oj,ops[j]?=some oj->j≠i->listed.getD j true=false->(∀ e∈oj.after,Region.binds md e=true->e.on≠i)->oi.apart ops oj=true) ->
   zC84 md ops listed->i∈Region.ready md ops listed->YieldsIf P ops S oi v a->S w ->
   zzmR P md ops Q S last fuel (listed.setIfInBounds i true) (a.put oi.dst v) w->zzmR P md ops Q S last (fuel+1) listed a w:=by
 intro fuel
 induction fuel with
 | zero=>
  intro listed a w _ _ hr hy hS H
  refine ⟨fun h=>(by rw [h] at hr;cases hr),fun j hj=>?_⟩
  by_cases hji:j=i
  ·subst hji;exact hy.wpOp hi hS ⟨fun _=>hS,H⟩
  ·have:=ready_mono hj hji
   rw [H.1] at this
   cases this
 | succ fuel ih=>
  intro listed a w hfree hcl hr hy hS H
  refine ⟨fun h=>(by rw [h] at hr;cases hr),fun j hj=>?_⟩
  by_cases hji:j=i
  ·subst hji;exact hy.wpOp hi hS ⟨fun _=>hS,H⟩
  ·have h1:=H.2 j (ready_mono hj hji)
   obtain ⟨hjun,oj,hoj,hall⟩:=mem_ready.1 hj
   have hoff:listed.getD i false≠true:=fun h1=>by
    have h0:=(mem_ready.1 hr).1
    rcases Nat.lt_or_ge i listed.size with h' | h'
    ·simp [h'] at h0 h1;rw [h0] at h1;cases h1
    ·simp [Array.getElem?_eq_none h'] at h1
   have hnot:∀ e∈oj.after,Region.binds md e=true->e.on≠i:=fun e he hb heq=>hoff (heq▸hall e he hb)
   have hjl:j≠last:=fun e=>hoff (z6En _ _ _ _ hcl (.inr (e▸hj)) hw)
   have h2:=wpOp_putIf hoj (hfree j oj hoj hji hjun hnot) (fun cs b=>hsel i oi cs b hi) (fun cs b=>hsel j oj cs b hoj) hQ hy h1
   have hfree':∀ k ok,ops[k]?=some ok->k≠i->(listed.setIfInBounds j true).getD k true=false ->
     (∀ e∈ok.after,Region.binds md e=true->e.on≠i)->oi.apart ops ok=true:=fun k ok hk hki hun hno=>by
    refine hfree k ok hk hki ?_ hno
    by_cases hjk:j=k
    ·subst hjk;exact hjun
    ·rw [getD_set_ne true hjk] at hun;exact hun
   refine wpOp_mono (fun a' w' h3=>⟨h3.2.1,ih (listed.setIfInBounds j true) a' w' hfree' (hcl.put hj) (ready_mono hr (Ne.symm hji)) h3.1 (h3.2.1 hjl) ?_⟩) h2
   rw [Array.setIfInBounds_comm _ _ hji]
   exact h3.2.2
def zjwu (md:Region.Mode) (ops:Array Oper) (l:Array Bool):Bool:=
 (List.range ops.size).all fun k=>!l.getD k false || match ops[k]? with
  | none=>true
  | some o=>o.after.all fun e=>!Region.binds md e || l.getD e.on false
theorem zryu {l:Array Bool} (h:zjwu md ops l=true):zC84 md ops l:=by
 intro k o ho hk e he hb
 simp only [zjwu,List.all_eq_true,List.mem_range] at h
 have h1:=h k (Array.getElem?_eq_some_iff.1 ho).1
 simp only [ho,hk,Bool.not_true,Bool.false_or] at h1
 have h2:=Array.all_eq_true_iff_forall_mem.1 h1 e he
 simpa [hb] using h2
def atL:List Oper->Nat->Option Oper
 | [],_=>none
 | o :: _,0=>some o
 | _ :: os,n+1=>atL os n
theorem zX7e:∀ (l:List Oper) (n:Nat),atL l n=l[n]?
 | [],_=>by simp [atL]
 | o :: _,0=>by simp [atL]
 | _ :: os,n+1=>by simp [atL,zX7e os n]
theorem takeL (i:Nat) (v:Value) {l:List Oper} {oi:Oper} {fuel:Nat} {listed:Array Bool} {a:Act} {w:World} (hi:atL l i=some oi)
  (hs:(Region.noSelect l.toArray && Region.free md l.toArray listed i && (Region.ready md l.toArray listed).contains i && zCI6 md l.toArray l.toArray.size last i && zjwu md l.toArray listed)=true)
  (hQ:∀ c a w,Q (.panic c) (a.put oi.dst v) w->Q (.panic c) a w)
  (hwant:Region.wanted oi (yielded l.toArray a.tmps)=true) (hv:∀ w,S w->(execOp a.eval oi).run P w=.ok (.value v) w) (hS:S w)
  (h:zzmR P md l.toArray Q S last fuel (listed.setIfInBounds i true) (a.put oi.dst v) w):zzmR P md l.toArray Q S last (fuel+1) listed a w:=by
 obtain ⟨hs,h5⟩:=(Bool.and_eq_true _ _).mp hs
 obtain ⟨hs,h4⟩:=(Bool.and_eq_true _ _).mp hs
 obtain ⟨hs,h3⟩:=(Bool.and_eq_true _ _).mp hs
 obtain ⟨h1,h2⟩:=(Bool.and_eq_true _ _).mp hs
 have hi':l.toArray[i]?=some oi:=by rw [<- hi,zX7e];simp
 exact zMf2 hi' (Region.noSelect_spec h1) hQ h4 fuel listed a w (Region.free_spec hi' h2) (zryu h5) (by simpa using h3) (.inl ⟨hwant,hv⟩) hS h
theorem tK (i:Nat) (v:Value) {l:List Oper} {oi:Oper} {fuel:Nat} {listed:Array Bool} {a:Act} {w:World} (hv:∀ w,S w->(execOp a.eval oi).run P w=.ok (.value v) w) (hS:S w)
  (h:zzmR P md l.toArray Q S last fuel (listed.setIfInBounds i true) (a.put oi.dst v) w) (hi:atL l i=some oi:=by rfl)
  (hs:(Region.noSelect l.toArray && Region.free md l.toArray listed i && (Region.ready md l.toArray listed).contains i && zCI6 md l.toArray l.toArray.size last i && zjwu md l.toArray listed)=true:=by kernel_rfl)
  (hQ:∀ c a w,Q (.panic c) (a.put oi.dst v) w->Q (.panic c) a w:=by exact fun _ _ _ h=>h)
  (hwant:Region.wanted oi (yielded l.toArray a.tmps)=true:=by rfl):zzmR P md l.toArray Q S last (fuel+1) listed a w:=takeL i v hi hs hQ hwant hv hS h
theorem stepL (i:Nat) {l:List Oper} {oi:Oper} {fuel:Nat} {listed:Array Bool} {a:Act} {w:World} (hi:atL l i=some oi) (hr:Region.ready md l.toArray listed=[i])
  (h:∀ K':Act->World->Prop,RowKit.Hid (∀ a w,(i≠last->S w)->((i≠last->S w)->zzmR P md l.toArray Q S last fuel (listed.setIfInBounds i true) a w)->K' a w)->if Region.wanted oi (yielded l.toArray a.tmps)=true then Oper.wp P oi a w K' Q else K' (a.put oi.dst undef) w) :
  zzmR P md l.toArray Q S last (fuel+1) listed a w:=by
 have hi':l.toArray[i]?=some oi:=by rw [<- hi,zX7e];simp
 refine ⟨fun h0=>(by rw [hr] at h0;cases h0),?_⟩
 rw [hr]
 intro j hj
 obtain rfl:j=i:=by simpa using hj
 exact wpOp_step hi' (fun K' hK=>h K' (qh (fun a w hS hW=>hK a w ⟨hS,hW hS⟩)))
theorem doneL {listed:Array Bool} {a:Act} {w:World} (hr:Region.ready md ops listed=[]) (h:Q .normal a w):∀ fuel,zzmR P md ops Q S last fuel listed a w
 | 0=>⟨hr,h⟩
 | _+1=>⟨fun _=>h,by rw [hr];simp⟩
theorem znCh (last:Nat) (S:World->Prop) {l:List Oper} {id:Nat} {a:Act} {w:World} (hm:P.follows .mixedOrders=true) (hS:S w.drew)
  (h:S w.drew->zzmR P .any l.toArray Q S last l.length (List.replicate l.length false).toArray a w.drew):(Code.region id l.toArray true).wp P Q a w:=by
 refine wp_region_any hm (wpAny_of_L (S:=S) (last:=last) _ _ _ _ ?_)
 have:=h hS
 simpa using this
end
section
variable {P:Program} {ops:Array Oper} {Q:Exit->Act->World->Prop} {md:Region.Mode} {S:World->Prop} {last:Nat}
theorem zOv6 {i:Nat} {oi:Oper} {v:Value} (Y:Act->Prop) (_hi:ops[i]?=some oi)
  (hy1:∀ {K:Act->World->Prop} {a:Act} {w:World},Y a->S w->K (a.put oi.dst v) w->wpOp P ops Q i K a w)
  (hy2:∀ {j:Nat} {oj:Oper} {K:Act->World->Prop} {a:Act} {w:World},ops[j]?=some oj->oi.apart ops oj=true->Y a->wpOp P ops Q j K (a.put oi.dst v) w->wpOp P ops Q j (fun a' w'=>Y a'/\K (a'.put oi.dst v) w') a w)
  (hw:zCI6 md ops ops.size last i=true) :
  ∀ (fuel:Nat) (listed:Array Bool) (a:Act) (w:World),
   (∀ j oj,ops[j]?=some oj->j≠i->listed.getD j true=false->(∀ e∈oj.after,Region.binds md e=true->e.on≠i)->oi.apart ops oj=true) ->
   zC84 md ops listed->i∈Region.ready md ops listed->Y a->S w ->
   zzmR P md ops Q S last fuel (listed.setIfInBounds i true) (a.put oi.dst v) w->zzmR P md ops Q S last (fuel+1) listed a w:=by
 intro fuel
 induction fuel with
 | zero=>
  intro listed a w _ _ hr hy hS H
  refine ⟨fun h=>(by rw [h] at hr;cases hr),fun j hj=>?_⟩
  rcases Decidable.em (j=i) with rfl | hji
  ·exact hy1 hy hS ⟨fun _=>hS,H⟩
  ·have none:=ready_mono hj hji
   rw [H.1] at none
   cases none
 | succ fuel ih=>
  intro listed a w hfree hcl hr hy hS H
  refine ⟨fun h=>(by rw [h] at hr;cases hr),fun j hj=>?_⟩
  rcases Decidable.em (j=i) with rfl | hji
  ·exact hy1 hy hS ⟨fun _=>hS,H⟩
  ·obtain ⟨hjun,oj,hoj,hall⟩:=mem_ready.1 hj
   have hoff:listed.getD i false≠true:=fun on=>by
    have off:=(mem_ready.1 hr).1
    rcases Nat.lt_or_ge i listed.size with lt | ge
    ·simp [lt] at off on;rw [off] at on;cases on
    ·simp [Array.getElem?_eq_none ge] at on
   have hjl:j≠last:=fun e=>hoff (z6En _ _ _ _ hcl (.inr (e▸hj)) hw)
   refine wpOp_mono (fun a' w' k=>⟨k.2.1,ih (listed.setIfInBounds j true) a' w' (fun m om hm hmi hmun hno=>?_) (hcl.put hj) (ready_mono hr (Ne.symm hji)) k.1 (k.2.1 hjl) ?_⟩)
    (hy2 hoj (hfree j oj hoj hji hjun (fun e he hb heq=>hoff (heq▸hall e he hb))) hy (H.2 j (ready_mono hj hji)))
   ·refine hfree m om hm hmi ?_ hno
    rcases Decidable.em (j=m) with rfl | hjm
    ·exact hjun
    ·rwa [getD_set_ne true hjm] at hmun
   ·rw [Array.setIfInBounds_comm _ _ hji]
    exact k.2.2
theorem zpjN {j:Nat} {oi oj:Oper} (hj:ops[j]?=some oj) (hsi:∀ cs b,oi.op≠.select cs b) (hap:oi.apart ops oj=true) {K:Act->World->Prop} {a:Act} {w:World}
  (h:wpOp P ops Q j K a w):wpOp P ops Q j (fun a' w'=>execOp a'.eval oi=execOp a.eval oi/\K a' w') a w:=by
 have k3:=(Oper.apart_spec hap).2.2
 have eq:∀ (b:Act) (u:Value),execOp (b.put oj.dst u).eval oi=execOp b.eval oi:=fun b u=>execOp_put oi hsi b oj.dst u k3
 unfold wpOp at *
 simp only [hj] at *
 by_cases hw:Region.wanted oj (yielded ops a.tmps)=true
 ·rw [if_pos hw] at h ⊢
  refine h.imp (fun h=>?_) id
  unfold Oper.wp at *
  generalize (execOp a.eval oj).run P w=out at *
  match out,h with
  | .ok (.value u) _,h=>exact ⟨eq a u,h⟩
  | .ok .skip _,h=>exact ⟨eq a _,h⟩
  | .ok (.defer d) _,h=>exact ⟨(eq { a with defers:=d :: a.defers } _).trans rfl,h⟩
  | .ok (.enter _ _) _,h=>
   refine Calls.mono h (fun e w2 he=>?_)
   cases e with
   | returned u=>exact ⟨eq a u,he⟩
   | panicked c=>exact he
   | outgrown=>exact he
  | .ok (.row _ _) _,h=>exact Rows.mono h (fun u w2 he=>⟨eq a u,he⟩)
  | .halt x _,h=>cases x<;>exact h
 ·rw [if_neg hw] at h ⊢
  exact ⟨eq a _,h⟩
def zio5 (P:Program) (ops:Array Oper) (S:World->Prop) (o:Oper) (v:Value) (a:Act):Prop:=
 Region.wanted o (yielded ops a.tmps)=true/\∀ w,S w->∃ f args,(execOp a.eval o).run P w=.ok (.enter f args) w/\Calls P f args w fun e w'=>e=.returned v/\w=w'
theorem zio5.wpOp {i:Nat} {o:Oper} {v:Value} {a:Act} (hi:ops[i]?=some o) (hy:zio5 P ops S o v a) {K:Act->World->Prop} {w:World} (hS:S w) (h:K (a.put o.dst v) w):Go.wpOp P ops Q i K a w:=by
 obtain ⟨hw,hv⟩:=hy
 obtain ⟨f,args,hr,hc⟩:=hv w hS
 unfold Go.wpOp
 simp only [hi]
 rw [if_pos hw]
 refine .inl ?_
 unfold Oper.wp
 rw [hr,Oper.upon_enter]
 refine hc.mono ?_
 rintro e w' ⟨rfl,rfl⟩
 exact h
theorem zio5.past {j i:Nat} {oi oj:Oper} {v:Value} (_hi:ops[i]?=some oi) (hj:ops[j]?=some oj) (hap:oi.apart ops oj=true) (hsi:∀ cs b,oi.op≠.select cs b) (hsj:∀ cs b,oj.op≠.select cs b)
  (hQ:∀ c a w,Q (.panic c) (a.put oi.dst v) w->Q (.panic c) a w) (hv:v≠undef) {K:Act->World->Prop} {a:Act} {w:World} (hy:zio5 P ops S oi v a)
  (h:Go.wpOp P ops Q j K (a.put oi.dst v) w):Go.wpOp P ops Q j (fun a' w'=>zio5 P ops S oi v a'/\K (a'.put oi.dst v) w') a w:=by
 have y0:YieldsIf P ops (fun _=>False) oi v a:=.inl ⟨hy.1,fun _ h=>h.elim⟩
 refine wpOp_mono (fun a' w' k=>⟨?_,k.2.2⟩) (zpjN hj hsi hap (wpOp_putIf hj hap hsi hsj hQ y0 h))
 obtain ⟨ke,ky,_⟩:=k
 rcases ky with ⟨kw,_⟩ | ⟨_,ku⟩
 ·exact ⟨kw,by rw [ke];exact hy.2⟩
 ·exact absurd ku hv
theorem takeC (i:Nat) (v:Value) {l:List Oper} {oi:Oper} {fuel:Nat} {listed:Array Bool} {a:Act} {w:World} (hi:atL l i=some oi)
  (hs:(Region.noSelect l.toArray && Region.free md l.toArray listed i && (Region.ready md l.toArray listed).contains i && zCI6 md l.toArray l.toArray.size last i && zjwu md l.toArray listed)=true)
  (hQ:∀ c a w,Q (.panic c) (a.put oi.dst v) w->Q (.panic c) a w)
  (hwant:Region.wanted oi (yielded l.toArray a.tmps)=true) (hu:v≠undef) (f:FuncId) (args:Array Value) (hr:∀ w,S w->(execOp a.eval oi).run P w=.ok (.enter f args) w)
  (hv:∀ w,S w->Calls P f args w fun e w'=>e=.returned v/\w=w') (hS:S w)
  (h:zzmR P md l.toArray Q S last fuel (listed.setIfInBounds i true) (a.put oi.dst v) w):zzmR P md l.toArray Q S last (fuel+1) listed a w:=by
 obtain ⟨hs,h5⟩:=(Bool.and_eq_true _ _).mp hs
 obtain ⟨hs,h4⟩:=(Bool.and_eq_true _ _).mp hs
 obtain ⟨hs,h3⟩:=(Bool.and_eq_true _ _).mp hs
 obtain ⟨h1,h2⟩:=(Bool.and_eq_true _ _).mp hs
 have hi':l.toArray[i]?=some oi:=by rw [<- hi,zX7e];simp
 exact zOv6 (zio5 P l.toArray S oi v) hi' (fun hy hS h=>hy.wpOp hi' hS h)
  (fun hj hap hy h=>zio5.past hi' hj hap (fun cs b=>Region.noSelect_spec h1 i oi cs b hi') (fun cs b=>Region.noSelect_spec h1 _ _ cs b hj) hQ hu hy h)
  h4 fuel listed a w (Region.free_spec hi' h2) (zryu h5) (by simpa using h3) ⟨hwant,fun w hw=>⟨f,args,hr w hw,hv w hw⟩⟩ hS h
theorem skipL (i:Nat) {l:List Oper} {oi:Oper} {fuel:Nat} {listed:Array Bool} {a:Act} {w:World} (hi:atL l i=some oi)
  (hs:(Region.noSelect l.toArray && Region.free md l.toArray listed i && (Region.ready md l.toArray listed).contains i && zCI6 md l.toArray l.toArray.size last i && zjwu md l.toArray listed)=true)
  (hQ:∀ c a w,Q (.panic c) (a.put oi.dst undef) w->Q (.panic c) a w)
  (hwant:Region.wanted oi (yielded l.toArray a.tmps)=false) (hS:S w)
  (h:zzmR P md l.toArray Q S last fuel (listed.setIfInBounds i true) (a.put oi.dst undef) w):zzmR P md l.toArray Q S last (fuel+1) listed a w:=by
 obtain ⟨hs,h5⟩:=(Bool.and_eq_true _ _).mp hs
 obtain ⟨hs,h4⟩:=(Bool.and_eq_true _ _).mp hs
 obtain ⟨hs,h3⟩:=(Bool.and_eq_true _ _).mp hs
 obtain ⟨h1,h2⟩:=(Bool.and_eq_true _ _).mp hs
 have hi':l.toArray[i]?=some oi:=by rw [<- hi,zX7e];simp
 exact zMf2 hi' (Region.noSelect_spec h1) hQ h4 fuel listed a w (Region.free_spec hi' h2) (zryu h5) (by simpa using h3) (.inr ⟨hwant,rfl⟩) hS h
end
section
variable {P:Program} {ops:Array Oper} {Q:Exit->Act->World->Prop} {md:Region.Mode} {S:World->Prop} {late:List Nat}
def zJ0G (P:Program) (md:Region.Mode) (ops:Array Oper) (Q:Exit->Act->World->Prop) (S:World->Prop) (late:List Nat):Nat->Array Bool->Act->World->Prop
 | 0,listed,a,w=>Region.ready md ops listed=[]/\Q .normal a w
 | fuel+1,listed,a,w=>
  (Region.ready md ops listed=[]->Q .normal a w) /\
  ∀ i∈Region.ready md ops listed,wpOp P ops Q i (fun a' w'=>(late.contains i=false->S w')/\zJ0G P md ops Q S late fuel (listed.setIfInBounds i true) a' w') a w
theorem zyiP:∀ (fuel:Nat) (listed:Array Bool) (a:Act) (w:World),zJ0G P md ops Q S late fuel listed a w->wpAny P md ops Q fuel listed a w
 | 0,_,_,_,h=>h
 | fuel+1,_,_,_,h=>⟨h.1,fun i hi=>wpOp_mono (fun a' w' h'=>zyiP fuel _ a' w' h'.2) (h.2 i hi)⟩
def zUTx (ops:Array Oper) (k:Nat):Bool:=match ops[k]? with
 | some o=>(match o.op with | .move _=>true | _=>false)
 | none=>false
theorem zNya {j:Nat} {oj:Oper} (hj:ops[j]?=some oj) (hm:zUTx ops j=true) {K:Act->World->Prop} {a:Act} {w:World} (h:wpOp P ops Q j K a w):wpOp P ops Q j (fun a' w'=>w'=w/\K a' w') a w:=by
 unfold zUTx at hm
 simp only [hj] at hm
 have hx:∃ x,oj.op=.move x:=by
  cases ho:oj.op<;>simp [ho] at hm
  exact ⟨_,rfl⟩
 obtain ⟨x,hx⟩:=hx
 unfold wpOp at *
 simp only [hj] at *
 by_cases hw:Region.wanted oj (yielded ops a.tmps)=true
 ·rw [if_pos hw] at h ⊢
  refine h.imp (fun h=>?_) id
  have hr:(execOp a.eval oj).run P w=.ok (.value (a.eval x)) w:=by simp [execOp,hx]
  unfold Oper.wp at *
  rw [hr] at h ⊢
  exact ⟨rfl,h⟩
 ·rw [if_neg hw] at h ⊢
  exact ⟨by trivial,h⟩
theorem zhEL {i:Nat} {oi:Oper} {v:Value} (hi:ops[i]?=some oi) (hsel:∀ (j:Nat) (o:Oper) cs b,ops[j]?=some o->o.op≠.select cs b)
  (hQ:∀ c a w,Q (.panic c) (a.put oi.dst v) w->Q (.panic c) a w) (hw:∀ k,late.contains k=true->(zCI6 md ops ops.size k i || zUTx ops k)=true) :
  ∀ (fuel:Nat) (listed:Array Bool) (a:Act) (w:World),
   (∀ j oj,ops[j]?=some oj->j≠i->listed.getD j true=false->(∀ e∈oj.after,Region.binds md e=true->e.on≠i)->oi.apart ops oj=true) ->
   zC84 md ops listed->i∈Region.ready md ops listed->YieldsIf P ops S oi v a->S w ->
   zJ0G P md ops Q S late fuel (listed.setIfInBounds i true) (a.put oi.dst v) w->zJ0G P md ops Q S late (fuel+1) listed a w:=by
 intro fuel
 induction fuel with
 | zero=>
  intro listed a w _ _ hr hy hS H
  refine ⟨fun h=>(by rw [h] at hr;cases hr),fun j hj=>?_⟩
  by_cases hji:j=i
  ·subst hji;exact hy.wpOp hi hS ⟨fun _=>hS,H⟩
  ·have:=ready_mono hj hji
   rw [H.1] at this
   cases this
 | succ fuel ih=>
  intro listed a w hfree hcl hr hy hS H
  refine ⟨fun h=>(by rw [h] at hr;cases hr),fun j hj=>?_⟩
  by_cases hji:j=i
  ·subst hji;exact hy.wpOp hi hS ⟨fun _=>hS,H⟩
  ·have h1:=H.2 j (ready_mono hj hji)
   obtain ⟨hjun,oj,hoj,hall⟩:=mem_ready.1 hj
   have hoff:listed.getD i false≠true:=fun h1=>by
    have h0:=(mem_ready.1 hr).1
    rcases Nat.lt_or_ge i listed.size with h' | h'
    ·simp [h'] at h0 h1;rw [h0] at h1;cases h1
    ·simp [Array.getElem?_eq_none h'] at h1
   have hnot:∀ e∈oj.after,Region.binds md e=true->e.on≠i:=fun e he hb heq=>hoff (heq▸hall e he hb)
   have h2:=wpOp_putIf hoj (hfree j oj hoj hji hjun hnot) (fun cs b=>hsel i oi cs b hi) (fun cs b=>hsel j oj cs b hoj) hQ hy h1
   have hfree':∀ k ok,ops[k]?=some ok->k≠i->(listed.setIfInBounds j true).getD k true=false ->
     (∀ e∈ok.after,Region.binds md e=true->e.on≠i)->oi.apart ops ok=true:=fun k ok hk hki hun hno=>by
    refine hfree k ok hk hki ?_ hno
    by_cases hjk:j=k
    ·subst hjk;exact hjun
    ·rw [getD_set_ne true hjk] at hun;exact hun
   have hSj:wpOp P ops Q j (fun a' w'=>S w'/\(YieldsIf P ops S oi v a'/\(late.contains j=false->S w')/\zJ0G P md ops Q S late fuel ((listed.setIfInBounds i true).setIfInBounds j true) (a'.put oi.dst v) w')) a w:=by
    by_cases hlj:late.contains j=true
    ·have hm:zUTx ops j=true:=by
      rcases (Bool.or_eq_true _ _).mp (hw j hlj) with h4 | h4
      ·exact absurd (z6En _ _ _ _ hcl (.inr hj) h4) hoff
      ·exact h4
     refine wpOp_mono ?_ (zNya hoj hm h2)
     intro a' w' h3
     exact ⟨by rw [h3.1];exact hS,h3.2⟩
    ·exact wpOp_mono (fun a' w' h3=>⟨h3.2.1 (by simpa using hlj),h3⟩) h2
   refine wpOp_mono (fun a' w' h3=>⟨h3.2.2.1,ih (listed.setIfInBounds j true) a' w' hfree' (hcl.put hj) (ready_mono hr (Ne.symm hji)) h3.2.1 h3.1 ?_⟩) hSj
   rw [Array.setIfInBounds_comm _ _ hji]
   exact h3.2.2.2
theorem takeM (i:Nat) (v:Value) {l:List Oper} {oi:Oper} {fuel:Nat} {listed:Array Bool} {a:Act} {w:World} (hi:atL l i=some oi)
  (hs:(Region.noSelect l.toArray && Region.free md l.toArray listed i && (Region.ready md l.toArray listed).contains i && late.all (fun k=>zCI6 md l.toArray l.toArray.size k i || zUTx l.toArray k) && zjwu md l.toArray listed)=true)
  (hQ:∀ c a w,Q (.panic c) (a.put oi.dst v) w->Q (.panic c) a w)
  (hwant:Region.wanted oi (yielded l.toArray a.tmps)=true) (hv:∀ w,S w->(execOp a.eval oi).run P w=.ok (.value v) w) (hS:S w)
  (h:zJ0G P md l.toArray Q S late fuel (listed.setIfInBounds i true) (a.put oi.dst v) w):zJ0G P md l.toArray Q S late (fuel+1) listed a w:=by
 obtain ⟨hs,h5⟩:=(Bool.and_eq_true _ _).mp hs
 obtain ⟨hs,h4⟩:=(Bool.and_eq_true _ _).mp hs
 obtain ⟨hs,h3⟩:=(Bool.and_eq_true _ _).mp hs
 obtain ⟨h1,h2⟩:=(Bool.and_eq_true _ _).mp hs
 have hi':l.toArray[i]?=some oi:=by rw [<- hi,zX7e];simp
 exact zhEL hi' (Region.noSelect_spec h1) hQ (fun k hk=>List.all_eq_true.1 h4 k (by simpa using hk)) fuel listed a w (Region.free_spec hi' h2) (zryu h5) (by simpa using h3) (.inl ⟨hwant,hv⟩) hS h
theorem zd3v {i:Nat} {oi:Oper} {v:Value} (hi:ops[i]?=some oi) (hsel:∀ (j:Nat) (o:Oper) cs b,ops[j]?=some o->o.op≠.select cs b)
  (hQ:∀ c a w,Q (.panic c) (a.put oi.dst v) w->Q (.panic c) a w) (hl:late.contains i=true) :
  ∀ (fuel:Nat) (listed:Array Bool) (a:Act) (w:World),
   (∀ j oj,ops[j]?=some oj->j≠i->listed.getD j true=false->(∀ e∈oj.after,Region.binds md e=true->e.on≠i)->oi.apart ops oj=true) ->
   zC84 md ops listed->i∈Region.ready md ops listed->YieldsIf P ops (fun _=>True) oi v a ->
   zJ0G P md ops Q S late fuel (listed.setIfInBounds i true) (a.put oi.dst v) w->zJ0G P md ops Q S late (fuel+1) listed a w:=by
 have hno:late.contains i=false->False:=fun h=>by rw [hl] at h;cases h
 intro fuel
 induction fuel with
 | zero=>
  intro listed a w _ _ hr hy H
  refine ⟨fun h=>(by rw [h] at hr;cases hr),fun j hj=>?_⟩
  by_cases hji:j=i
  ·subst hji;exact hy.wpOp hi trivial ⟨fun h=>(hno h).elim,H⟩
  ·have:=ready_mono hj hji
   rw [H.1] at this
   cases this
 | succ fuel ih=>
  intro listed a w hfree hcl hr hy H
  refine ⟨fun h=>(by rw [h] at hr;cases hr),fun j hj=>?_⟩
  by_cases hji:j=i
  ·subst hji;exact hy.wpOp hi trivial ⟨fun h=>(hno h).elim,H⟩
  ·have h1:=H.2 j (ready_mono hj hji)
   obtain ⟨hjun,oj,hoj,hall⟩:=mem_ready.1 hj
   have hoff:listed.getD i false≠true:=fun h1=>by
    have h0:=(mem_ready.1 hr).1
    rcases Nat.lt_or_ge i listed.size with h' | h'
    ·simp [h'] at h0 h1;rw [h0] at h1;cases h1
    ·simp [Array.getElem?_eq_none h'] at h1
   have hnot:∀ e∈oj.after,Region.binds md e=true->e.on≠i:=fun e he hb heq=>hoff (heq▸hall e he hb)
   have h2:=wpOp_putIf hoj (hfree j oj hoj hji hjun hnot) (fun cs b=>hsel i oi cs b hi) (fun cs b=>hsel j oj cs b hoj) hQ hy h1
   have hfree':∀ k ok,ops[k]?=some ok->k≠i->(listed.setIfInBounds j true).getD k true=false ->
     (∀ e∈ok.after,Region.binds md e=true->e.on≠i)->oi.apart ops ok=true:=fun k ok hk hki hun hno=>by
    refine hfree k ok hk hki ?_ hno
    by_cases hjk:j=k
    ·subst hjk;exact hjun
    ·rw [getD_set_ne true hjk] at hun;exact hun
   refine wpOp_mono (fun a' w' h3=>⟨h3.2.1,ih (listed.setIfInBounds j true) a' w' hfree' (hcl.put hj) (ready_mono hr (Ne.symm hji)) h3.1 ?_⟩) h2
   rw [Array.setIfInBounds_comm _ _ hji]
   exact h3.2.2
theorem takeU (i:Nat) (v:Value) {l:List Oper} {oi:Oper} {fuel:Nat} {listed:Array Bool} {a:Act} {w:World} (hi:atL l i=some oi)
  (hs:(Region.noSelect l.toArray && Region.free md l.toArray listed i && (Region.ready md l.toArray listed).contains i && late.contains i && zjwu md l.toArray listed)=true)
  (hQ:∀ c a w,Q (.panic c) (a.put oi.dst v) w->Q (.panic c) a w)
  (hwant:Region.wanted oi (yielded l.toArray a.tmps)=true) (hv:∀ w,(execOp a.eval oi).run P w=.ok (.value v) w)
  (h:zJ0G P md l.toArray Q S late fuel (listed.setIfInBounds i true) (a.put oi.dst v) w):zJ0G P md l.toArray Q S late (fuel+1) listed a w:=by
 obtain ⟨hs,h5⟩:=(Bool.and_eq_true _ _).mp hs
 obtain ⟨hs,h4⟩:=(Bool.and_eq_true _ _).mp hs
 obtain ⟨hs,h3⟩:=(Bool.and_eq_true _ _).mp hs
 obtain ⟨h1,h2⟩:=(Bool.and_eq_true _ _).mp hs
 have hi':l.toArray[i]?=some oi:=by rw [<- hi,zX7e];simp
 exact zd3v hi' (Region.noSelect_spec h1) hQ h4 fuel listed a w (Region.free_spec hi' h2) (zryu h5) (by simpa using h3) (.inl ⟨hwant,fun w _=>hv w⟩) h
theorem stepM (i:Nat) {l:List Oper} {oi:Oper} {fuel:Nat} {listed:Array Bool} {a:Act} {w:World} (hi:atL l i=some oi) (hr:Region.ready md l.toArray listed=[i])
  (h:∀ K':Act->World->Prop,RowKit.Hid (∀ a w,(late.contains i=false->S w)->((late.contains i=false->S w)->zJ0G P md l.toArray Q S late fuel (listed.setIfInBounds i true) a w)->K' a w)->if Region.wanted oi (yielded l.toArray a.tmps)=true then Oper.wp P oi a w K' Q else K' (a.put oi.dst undef) w) :
  zJ0G P md l.toArray Q S late (fuel+1) listed a w:=by
 have hi':l.toArray[i]?=some oi:=by rw [<- hi,zX7e];simp
 refine ⟨fun h0=>(by rw [hr] at h0;cases h0),?_⟩
 rw [hr]
 intro j hj
 obtain rfl:j=i:=by simpa using hj
 exact wpOp_step hi' (fun K' hK=>h K' (qh (fun a w hS hW=>hK a w ⟨hS,hW hS⟩)))
theorem doneM {listed:Array Bool} {a:Act} {w:World} (hr:Region.ready md ops listed=[]) (h:Q .normal a w):∀ fuel,zJ0G P md ops Q S late fuel listed a w
 | 0=>⟨hr,h⟩
 | _+1=>⟨fun _=>h,by rw [hr];simp⟩
theorem zV2I (late:List Nat) (S:World->Prop) {l:List Oper} {id:Nat} {a:Act} {w:World} (hm:P.follows .mixedOrders=true) (hS:S w.drew)
  (h:S w.drew->zJ0G P .any l.toArray Q S late l.length (List.replicate l.length false).toArray a w.drew):(Code.region id l.toArray true).wp P Q a w:=by
 refine wp_region_any hm (zyiP (S:=S) (late:=late) _ _ _ _ ?_)
 have:=h hS
 simpa using this
end
end Go.Proofs.YtfgagakepmigbaaGreat
namespace Go.Proofs.YtfgagakepmigbaaGreat
open Go.RowKit
theorem zhQZ {P:Program} {ops:Array Oper} {Q:Exit->Act->World->Prop} {E:Prop} {K:Act->World->Prop} {a:Act} {w:World} {o:Oper} (hg:o.guard=none) (t:TypeId) (ho:o.op=.alloc t) (cs:Array Value) (hz:∀ w,(zeroValue t).run P w=.ok (.agg cs) w)
  (k:∀ g w',w.heap.size<=g->g < w'.heap.size->w'.heap[g]?=some (.cells cs t (0,0))->Kept (fun _=>False) w w'->K (a.put o.dst (.pointer (some ⟨g,0,none⟩))) w'):if Region.wanted o (yielded ops a.tmps)=true then Oper.wp P o a w K Q else E:=by
 have hk:=k w.heap.size _ (Nat.le_refl _) (by simp) (heap_alloc_new w _) ((Kept.refl _ w).alloc _)
 rw [if_pos (by simp [Region.wanted,hg])]
 unfold Oper.wp
 have hr:(execOp a.eval o).run P w=.ok (.value (.pointer (some ⟨w.heap.size,0,none⟩))) (w.alloc (.cells cs t (0,0))):=by
  simp only [execOp,ho,Instr.alloc,newVar,newRow,newObj,Sem.run_bind,Sem.run,Result.andThen,hz w]
  rfl
 rw [hr]
 exact hk
end Go.Proofs.YtfgagakepmigbaaGreat
