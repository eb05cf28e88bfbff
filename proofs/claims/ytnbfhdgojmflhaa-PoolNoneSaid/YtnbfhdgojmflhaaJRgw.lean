/-
  No statement is proved here.
-/
import Derived.Test.YtnbfhdgojmflhaaJOrd
namespace Go.Proofs.Ytnbfhdgojmflhaa
open Go.RowKit
def findR (k:Nat):Code->Option (Array Oper)
 | .region id ops _=>if id=k then some ops else none
 | .seq a b=>match findR k a with
  | some x=>some x
  | none=>findR k b
 | .cond _ a b=>match findR k a with
  | some x=>some x
  | none=>findR k b
 | .block _ b=>findR k b
 | .loop b=>findR k b
 | .rangeFunc _ _ _ b=>findR k b
 | .scope b=>findR k b
 | _=>none
def findF (f:Func) (k:Nat):Option (Array Oper):=match f.body with
 | some c=>findR k c
 | none=>none
theorem zC9F {P:Program} {Q:Exit->Act->World->Prop} (l':List Oper) (n:Nat) (last:Nat) (S:World->Prop) {l:List Oper} {id:Nat} {a:Act} {w:World} (hl:l=l') (hn:l'.length=n) (hm:P.follows .mixedOrders=true) (hS:S w.drew)
  (h:S w.drew->zzmR P .any l'.toArray Q S last n (List.replicate n false).toArray a w.drew):(Code.region id l.toArray true).wp P Q a w:=by
 subst hl;subst hn
 exact znCh last S hm hS h
def setK {α:Type}:List α->Nat->α->(List α->Option (List α))->Option (List α)
 | [],_,_,k=>k []
 | _ :: as,0,v,k=>k (v :: as)
 | a :: as,n+1,v,k=>setK as n v (fun r=>k (a :: r))
theorem zZOq {α:Type}:∀ (l:List α) (n:Nat) (v:α) (k:List α->Option (List α)),setK l n v k=k (l.set n v)
 | [],_,_,_=>rfl
 | _ :: _,0,_,_=>rfl
 | _ :: as,n+1,v,k=>by unfold setK;rw [zZOq as n v];rfl
def lsd (n:Nat) (d:List Nat):List Bool:=(List.range n).map fun j=>d.contains j
theorem zego {n i:Nat} {d:List Nat} (h:i < (lsd n d).length):(lsd n d)[i]=d.contains i:=by
 simp [lsd]
theorem z84C {n k:Nat} {d:List Nat}:(lsd n d).set k true=lsd n (k :: d):=by
 apply List.ext_getElem (by simp [lsd])
 intro i h1 h2
 have h3:i < (lsd n d).length:=by rw [List.length_set] at h1;exact h1
 rw [List.getElem_set,zego h2,zego h3]
 by_cases h:k=i
 ·rw [if_pos h,h];simp
 ·rw [if_neg h,Bool.eq_iff_iff];simp [Ne.symm h]
def chkT (l:List Oper) (n last:Nat) (d:List Nat) (k:Nat):Bool:=Region.noSelect l.toArray && Region.free .any l.toArray (lsd n d).toArray k && (Region.ready .any l.toArray (lsd n d).toArray).contains k && zCI6 .any l.toArray l.toArray.size last k && zjwu .any l.toArray (lsd n d).toArray
def chkS (l:List Oper) (n:Nat) (d:List Nat) (k:Nat):Bool:=decide (Region.ready .any l.toArray (lsd n d).toArray=[k])
section
variable {P:Program} {Q:Exit->Act->World->Prop} {S:World->Prop} {last n:Nat} {l:List Oper}
theorem zHn1 (l':List Oper) (n:Nat) (last:Nat) (S:World->Prop) {l:List Oper} {id:Nat} {a:Act} {w:World} (hl:l=l') (hn:l'.length=n) (hm:P.follows .mixedOrders=true) (hS:S w.drew)
  (h:S w.drew->zzmR P .any l'.toArray Q S last n (lsd n []).toArray a w.drew):(Code.region id l.toArray true).wp P Q a w:=by
 refine zC9F l' n last S hl hn hm hS ?_
 have e:lsd n []=List.replicate n false:=by
  apply List.ext_getElem (by simp [lsd])
  intro i h1 h2
  simp [lsd]
 rw [<- e]
 exact h
theorem takeS (d:List Nat) (k:Nat) (v:Value) {oi:Oper} {fuel t:Nat} {ts ts':List Value} {df} {w:World} (hs:chkT l n last d k=true) (hi:atL l k=some oi) (hd:oi.dst=some t) (hQ:∀ c a w,Q (.panic c) (a.put oi.dst v) w->Q (.panic c) a w)
  (hwant:Region.wanted oi (yielded l.toArray ts.toArray)=true) (hv:∀ w,S w->(execOp (Act.eval { tmps:=ts.toArray,defers:=df }) oi).run P w=.ok (.value v) w) (hS:S w) (h2:setK ts t v some=some ts')
  (h:zzmR P .any l.toArray Q S last fuel (lsd n (k :: d)).toArray { tmps:=ts'.toArray,defers:=df } w):zzmR P .any l.toArray Q S last (fuel+1) (lsd n d).toArray { tmps:=ts.toArray,defers:=df } w:=by
 refine takeL k v hi hs hQ hwant hv hS ?_
 rw [zZOq] at h2
 injection h2 with h2
 subst h2
 rw [hd]
 have e:(lsd n d).toArray.setIfInBounds k true=(lsd n (k :: d)).toArray:=by rw [List.setIfInBounds_toArray,z84C]
 rw [e]
 simpa [Act.put] using h
theorem stepS (d:List Nat) (k:Nat) {oi:Oper} {fuel:Nat} {a:Act} {w:World} (hs:chkS l n d k=true) (hi:atL l k=some oi)
  (h:∀ K':Act->World->Prop,RowKit.Hid (∀ a w,(k≠last->S w)->((k≠last->S w)->zzmR P .any l.toArray Q S last fuel (lsd n (k :: d)).toArray a w)->K' a w)->if Region.wanted oi (yielded l.toArray a.tmps)=true then Oper.wp P oi a w K' Q else K' (a.put oi.dst undef) w) :
  zzmR P .any l.toArray Q S last (fuel+1) (lsd n d).toArray a w:=by
 refine stepL k hi (of_decide_eq_true hs) ?_
 have e:(lsd n d).toArray.setIfInBounds k true=(lsd n (k :: d)).toArray:=by rw [List.setIfInBounds_toArray,z84C]
 rw [e]
 exact h
end
def edgeB (l:List Oper) (k i:Nat):Bool:=match atL l k with
 | some o=>o.after.any fun e=>Region.binds .any e && e.on == i
 | none=>false
theorem zEIV {l:List Oper} {k i:Nat} (h:edgeB l k i=true) (f:Nat):zCI6 .any l.toArray (f+1) k i=true:=by
 unfold edgeB at h
 rw [zX7e] at h
 unfold zCI6
 rw [List.getElem?_toArray]
 cases ho:l[k]? with
 | none=>rw [ho] at h;cases h
 | some o=>
  rw [ho] at h
  dsimp only at h ⊢
  rw [Array.any_eq_true] at h ⊢
  obtain ⟨x,hx,h⟩:=h
  exact ⟨x,hx,by simp only [Bool.and_eq_true] at h ⊢;exact ⟨h.1,by rw [h.2];rfl⟩⟩
theorem zd68 {l:List Oper} {j i:Nat} (h:edgeB l j i=true):∀ (f k:Nat),zCI6 .any l.toArray f k j=true->zCI6 .any l.toArray (f+1) k i=true
 | 0,k,hw=>by simp [zCI6] at hw
 | f+1,k,hw=>by
  unfold zCI6 at hw ⊢
  rw [List.getElem?_toArray] at hw ⊢
  cases ho:l[k]? with
  | none=>rw [ho] at hw;cases hw
  | some o=>
   rw [ho] at hw
   dsimp only at hw ⊢
   rw [Array.any_eq_true] at hw ⊢
   obtain ⟨x,hx,hw⟩:=hw
   refine ⟨x,hx,?_⟩
   simp only [Bool.and_eq_true,Bool.or_eq_true] at hw ⊢
   refine ⟨hw.1,.inr ?_⟩
   rcases hw.2 with h2 | h2
   ·rw [eq_of_beq h2];exact zEIV h f
   ·exact zd68 h f _ h2
theorem zb6s {ops:Array Oper} {i:Nat}:∀ (f k:Nat),zCI6 .any ops f k i=true->zCI6 .any ops (f+1) k i=true
 | 0,k,hw=>by simp [zCI6] at hw
 | f+1,k,hw=>by
  unfold zCI6 at hw ⊢
  cases ho:ops[k]? with
  | none=>rw [ho] at hw;cases hw
  | some o=>
   rw [ho] at hw
   dsimp only at hw ⊢
   rw [Array.any_eq_true] at hw ⊢
   obtain ⟨x,hx,hw⟩:=hw
   refine ⟨x,hx,?_⟩
   simp only [Bool.and_eq_true,Bool.or_eq_true] at hw ⊢
   exact ⟨hw.1,hw.2.imp id (zb6s f _)⟩
theorem zmSZ {ops:Array Oper} {i k f g:Nat} (h:zCI6 .any ops f k i=true) (hfg:f<=g):zCI6 .any ops g k i=true:=by
 induction hfg with
 | refl=>exact h
 | step _ ih=>exact zb6s _ _ ih
def witB (l:List Oper) (last:Nat) (s:List Nat):Bool:=(List.range last).all fun i=>decide (i < s.getD i 0) && decide (s.getD i 0<=last) && edgeB l (s.getD i 0) i
theorem zoTF {l:List Oper} {last:Nat} {s:List Nat} (h:witB l last s=true):∀ (d i:Nat),last=i+(d+1)->zCI6 .any l.toArray (d+1) last i=true:=by
 intro d
 induction d using Nat.strongRecOn with
 | _ d ih=>
  intro i hd
  have h1:=List.all_eq_true.1 h i (List.mem_range.2 (by omega))
  simp only [Bool.and_eq_true,decide_eq_true_eq] at h1
  obtain ⟨⟨h1,h2⟩,h3⟩:=h1
  by_cases he:s.getD i 0=last
  ·rw [he] at h3
   exact zEIV h3 d
  ·have h4:=ih (last - s.getD i 0 - 1) (by omega) (s.getD i 0) (by omega)
   exact zmSZ (zd68 h3 _ _ h4) (by omega)
def chkU (l:List Oper) (n last:Nat) (d:List Nat) (k:Nat):Bool:=decide (k < last) && Region.noSelect l.toArray && Region.free .any l.toArray (lsd n d).toArray k && (Region.ready .any l.toArray (lsd n d).toArray).contains k && zjwu .any l.toArray (lsd n d).toArray
def ordD (o:List Nat) (m:Nat):List Nat:=(o.take m).reverse
theorem all_T {l:List Oper} {n last:Nat} {s o:List Nat} (hw:witB l last s=true) (hl:last+1=l.length) {ms:List Nat} (h:(ms.all fun m=>chkU l n last (ordD o m) (o.getD m 0))=true) (m:Nat) (hm:ms.contains m=true):chkT l n last (ordD o m) (o.getD m 0)=true:=by
 have h1:=List.all_eq_true.1 h m (by simpa using hm)
 unfold chkU at h1
 simp only [Bool.and_eq_true,decide_eq_true_eq] at h1
 obtain ⟨⟨⟨⟨h1,h2⟩,h3⟩,h4⟩,h5⟩:=h1
 have h6:=zmSZ (zoTF hw (last - o.getD m 0 - 1) (o.getD m 0) (by omega)) (show last - o.getD m 0 - 1+1<=l.toArray.size from by simp;omega)
 unfold chkT
 simp only [Bool.and_eq_true]
 exact ⟨⟨⟨⟨h2,h3⟩,h4⟩,h6⟩,h5⟩
theorem all_S {l:List Oper} {n:Nat} {o:List Nat} {ms:List Nat} (h:(ms.all fun m=>chkS l n (ordD o m) (o.getD m 0))=true) (m:Nat) (hm:ms.contains m=true):chkS l n (ordD o m) (o.getD m 0)=true:=List.all_eq_true.1 h m (by simpa using hm)
end Go.Proofs.Ytnbfhdgojmflhaa
