/-
  No statement is proved here.
-/
import Derived.Test.YtnbfhdgojmflhaaJQa
namespace Go.Proofs.Ytnbfhdgojmflhaa
open Go.RowKit
structure PoolN (P:PoolM):Prop where
 f0:0<=P.first
 fb:P.first+P.blocks<=65536
 m0:1<=P.most
 m1:P.most<=1024
 len:(P.ring.length:Int)<=P.most
 h0:0<=P.hand
 h1:P.hand<=P.ring.length
 pg:∀ f∈P.ring,0<=f.page/\f.page < P.blocks
 nd:(P.ring.map (·.page)).Nodup
theorem zz3g {w:World} {base g cap n:Nat} {e:TypeId} {xs:List Value} (h:w.ownsRow base e 1 (.slice (some ⟨g,0,none⟩) n cap) n xs) {k:Nat} {v:Value} (hk:xs[k]?=some v):w.cell? ⟨g,k,none⟩=some v:=by
 have hl:k < n:=by
  have h1:=(List.getElem?_eq_some_iff.1 hk).1
  have h2:=h.1
  omega
 rw [h.cellAt k (by omega)]
 exact hk
section
variable {w w':World} {a:Adr} {P:PoolM} {L:LogM} {D:DevM}
theorem PoolS.len (h:PoolS w a P L D):P.ring.length=a.xs.length:=by rw [h.ring,List.length_map]
theorem PoolS.rowAt (h:PoolS w a P L D) (hl:0 < a.xs.length):∃ g c,a.rv=.slice (some ⟨g,0,none⟩) a.xs.length c:=by
 obtain ⟨g,c,e,_⟩:=h.row.form hl
 exact ⟨g,c,e⟩
set_option maxRecDepth 100000 in
set_option maxHeartbeats 1600000 in
theorem z0wP (h:PoolS w a P L D) (hn:PoolN P) (hl:0 < a.xs.length) :
  Calls Try.prog 84 #[.pointer (some ⟨a.pb,5,none⟩)] w (fun e w'=>∃ x,a.xs[(P.hand % (a.xs.length:Int)).toNat]?=some x/\e=.returned (.tuple #[ptrV x.k,.int .i64 ((P.hand % (a.xs.length:Int)).toNat:Int)]) /\
   w'.heap[a.pb]?=some (.cells (poolC a { P with hand:=((P.hand % (a.xs.length:Int)).toNat:Int)+1 }) 57 (0,0))/\Kept (fun z=>z=a.pb) w w'):=by
 obtain ⟨g,c,hrv⟩:=h.rowAt hl
 obtain ⟨n,hn0⟩:∃ n,n=a.xs.length:=⟨_,rfl⟩
 have n0:0 < n:=by omega
 have n1:(n:Int)<=1024:=by have h1:=hn.len;have h2:=hn.m1;rw [h.len] at h1;omega
 have h0:=hn.h0
 have h1:P.hand<=1024:=by have e1:=hn.h1;have e2:=hn.len;have e3:=hn.m1;omega
 obtain ⟨k,hk⟩:∃ k,k=(P.hand % (n:Int)).toNat:=⟨_,rfl⟩
 have e1:P.hand.tmod (n:Int)=(k:Int):=by
  have:=Int.emod_nonneg P.hand (show (n:Int)≠0 by omega)
  rw [Int.tmod_eq_emod_of_nonneg h0,hk];omega
 have kn:k < n:=by
  have:=Int.emod_lt_of_pos P.hand (show 0 < (n:Int) by omega)
  have:=Int.emod_nonneg P.hand (show (n:Int)≠0 by omega)
  omega
 obtain ⟨x,hx⟩:∃ x,a.xs[k]?=some x:=⟨_,List.getElem?_eq_getElem (by omega)⟩
 have hrow:=h.row
 rw [<- hn0] at hrv hrow ⊢
 rw [<- hk]
 rw [hrv] at hrow
 have hcx:∀ w6,Kept (fun z=>z=a.pb) w w6->w6.cell? ⟨g,k,none⟩=some (.pointer (some ⟨x.k,0,none⟩)):=fun w6 h6=>zz3g (zh0U hrow h6 (fun z hz e=>by
  cases hz
  exact (h.trv (x:=g) (by rw [hrv];rfl)).ne h.tpb (by decide) e)) (k:=k) (v:=ptrV x.k) (by rw [List.getElem?_map,hx];rfl)
 have HB:=qh h.hp
 have HX:=qh hx
 have HRV:=qh hrv
 have cp5:w.cell? ⟨a.pb,5,none⟩=some (.slice (some ⟨g,0,none⟩) n c):=by rw [<- hrv];exact zcjX h.hp rfl
 have cp6:w.cell? ⟨a.pb,6,none⟩=some (.int .i64 P.hand):=zcjX h.hp rfl
 have HCX:=qh hcx
 obtain ⟨POST,hPOST⟩:∃ POST:Ending->World->Prop,POST=(fun e w'=>∃ x,a.xs[k]?=some x/\e=.returned (.tuple #[ptrV x.k,.int .i64 (k:Int)]) /\
   w'.heap[a.pb]?=some (.cells (poolC a { P with hand:=(k:Int)+1 }) 57 (0,0))/\Kept (fun z=>z=a.pb) w w'):=⟨_,rfl⟩
 rw [<- hPOST]
 have HPO:=qh (show ∀ w',w'.heap[a.pb]?=some (.cells (poolC a { P with hand:=(k:Int)+1 }) 57 (0,0))->Kept (fun z=>z=a.pb) w w'->POST (.returned (.tuple #[.pointer (some ⟨x.k,0,none⟩),.int .i64 (k:Int)])) w' from fun w' h1 h2=>by
  rw [hPOST];exact ⟨x,hx,rfl,h1,h2⟩)
 clear h hn hl hn0 hk hx hrv hrow hcx hPOST HX
 go_enter Try.func84,Try.ntmps84
 go_wp2_with fail
 go_quiet (fail)
 go_wp2_with (refine z2q7 rfl 3 _ _ rfl a.pb 6 (.int .i64 ((k:Int)+1)) (poolC a P) rfl rfl HB.out (by kernel_rfl) (by show 6 < 8;decide) rfl ?_)
 intro w6 hb6 hk6
 have HB6:=qh hb6
 have HK6:=qh (show Kept (fun z=>z=a.pb) w w6 from ((Kept.refl _ w).drewN _).trans' hk6)
 clear hb6 hk6
 have c5:w6.cell? ⟨a.pb,5,none⟩=some (.slice (some ⟨g,0,none⟩) n c):=by rw [<- HRV.out];exact zcjX HB6.out rfl
 have c7:w6.cell? ⟨g,k,none⟩=some (.pointer (some ⟨x.k,0,none⟩)):=HCX.out _ HK6.out
 go_wp2
 exact HPO.out _ HB6.out HK6.out
end
end Go.Proofs.Ytnbfhdgojmflhaa
namespace Go.Proofs.Ytnbfhdgojmflhaa
open Go.RowKit
open Go.ChangeMaps (setBlock heap_setBlock_same heap_setBlock_other)
def EnAt (w:World) (b:Nat) (f:Int->Option Value) (n:Int) (cl:Int):Prop:=
 ∃ es clock z,w.heap[b]?=some (.map (es.push { key:=.int .i64 n,val:=z,born:=clock }) (clock+1))/\cl=(clock:Int)/\MapKept.Stamped es clock/\(∀ x∈es.toList,MapKept.IsKey (.int .i64) x.key) /\
  (∀ n v,f n=some v↔∃ x∈es.toList,x.key=.int .i64 n/\x.val=v)/\∀ x∈es.toList,x.key≠.int .i64 n
section
variable {P:Program} {w w':World} {b:Nat} {f:Int->Option Value} {t k e:TypeId}
theorem IMap.entry (h:IMap w b f) (ht:P.underlying t=some (.map k e)) (hk:P.underlying k=some (.int .i64)) {z:Value} (hz:(zeroValue e).run P w=.ok z w) (n:Int) (hn:f n=none) :
  ∃ w' cl,(Instr.mapEntry t (.map (some b)) (.int .i64 n)).run P w=.ok (.tuple #[z,.int .i64 cl]) w'/\EnAt w' b f n cl/\Kept (· = b) w w':=by
 obtain ⟨es,clock,hb,hs,hks,hf⟩:=h
 rcases zkwn hks hf n with ⟨h1,h2,hno⟩ | ⟨j,x,h1,hj,hxk,h2⟩
 ·refine ⟨setBlock w b (.map (es.push { key:=.int .i64 n,val:=z,born:=clock }) (clock+1)),clock,?_,⟨es,clock,z,heap_setBlock_same hb _,rfl,hs,hks,hf,hno⟩,(Kept.refl (fun x=>x=b) w).setBlock (Or.inr rfl) _⟩
  simp [Instr.mapEntry,run_underlying ht,MapKept.run_getObj_map hb,MapKept.run_checkKey hk (show MapKept.IsKey (.int .i64) (.int .i64 n) from rfl),MapKept.run_findKey hk h1,hz,MapKept.run_setObj_map _ hb,Result.andThen,setBlock,goInt]
 ·rw [hn] at h2;cases h2
theorem EnAt.store {cl n:Int} (h:EnAt w b f n cl) (t:TypeId) (v:Value):∃ w',(Instr.entryStore t (.map (some b)) (.int .i64 cl) v).run P w=.ok () w'/\IMap w' b (updF f n v)/\Kept (· = b) w w':=by
 obtain ⟨es,clock,z,hb,rfl,hs,hks,hf,hno⟩:=h
 have h1:=((MapKept.stamped_iff es clock).1 hs).1
 have hfi:(es.push { key:=.int .i64 n,val:=z,born:=clock }).findIdx? (fun e=>(e.born:Int) == (clock:Int))=some es.size:=by
  rw [Array.findIdx?_push]
  have:es.findIdx? (fun e=>(e.born:Int) == (clock:Int))=none:=by
   rw [Array.findIdx?_eq_none_iff]
   intro x hx
   have:=h1 x (by simpa using hx)
   simp;omega
  rw [this]
  simp
 have hm:(es.push { key:=.int .i64 n,val:=z,born:=clock }).modify es.size (fun e=>{ e with val:=v })=es.push { key:=.int .i64 n,val:=v,born:=clock }:=by
  apply Array.ext_getElem?
  intro i
  rw [Array.getElem?_modify,Array.getElem?_push,Array.getElem?_push]
  by_cases hi:es.size=i
  ·subst hi;simp
  ·have:¬ i=es.size:=fun e=>hi e.symm
   simp [hi,this]
 refine ⟨setBlock w b (.map (es.push { key:=.int .i64 n,val:=v,born:=clock }) (clock+1)),?_,⟨_,_,heap_setBlock_same hb _,MapKept.stamped_push hs hno,?_,?_⟩,(Kept.refl (fun x=>x=b) w).setBlock (Or.inr rfl) _⟩
 ·simp [Instr.entryStore,MapKept.run_getObj_map hb,Result.andThen,asInt,asIntOf,hfi,hm,MapKept.run_setObj_map _ hb,setBlock]
 ·intro x hx
  simp only [Array.toList_push,List.mem_append,List.mem_singleton] at hx
  rcases hx with hx | rfl
  ·exact hks x hx
  ·rfl
 ·intro m u
  simp only [Array.toList_push,List.mem_append,List.mem_singleton,updF]
  by_cases hm:m=n
  ·subst hm
   simp only [if_true,Option.some.injEq]
   constructor
   ·rintro rfl;exact ⟨_,.inr rfl,rfl,rfl⟩
   ·rintro ⟨x,hx | rfl,hxk,hxv⟩
    ·exact absurd hxk (hno x hx)
    ·exact hxv
  ·simp only [hm,if_false,hf]
   constructor
   ·rintro ⟨x,hx,r⟩;exact ⟨x,.inl hx,r⟩
   ·rintro ⟨x,hx | rfl,hxk,hxv⟩
    ·exact ⟨x,hx,hxk,hxv⟩
    ·injection hxk with _ e;exact absurd e.symm hm
theorem zxHU {ops:Array Oper} {Q:Exit->Act->World->Prop} {E:Prop} {K:Act->World->Prop} {a:Act} {o:Oper} (hg:o.guard=none) (v:Value) (hr:(execOp a.eval o).run P w=.ok (.value v) w') (hk:K (a.put o.dst v) w') :
  if Region.wanted o (yielded ops a.tmps)=true then Oper.wp P o a w K Q else E:=by
 rw [if_pos (by simp [Region.wanted,hg])]
 unfold Oper.wp
 rw [hr]
 exact hk
theorem zoRo {ops:Array Oper} {Q:Exit->Act->World->Prop} {E:Prop} {K:Act->World->Prop} {a:Act} {o:Oper} (hg:o.guard=none) (hr:(execOp a.eval o).run P w=.ok .skip w') (hk:K (a.put o.dst undef) w') :
  if Region.wanted o (yielded ops a.tmps)=true then Oper.wp P o a w K Q else E:=by
 rw [if_pos (by simp [Region.wanted,hg])]
 unfold Oper.wp
 rw [hr]
 exact hk
end
theorem zHj9 {ops:Array Oper} {Q:Exit->Act->World->Prop} {E:Prop} {K:Act->World->Prop} {a:Act} {w:World} {o:Oper} (hg:o.guard=none) (m x:Operand) (t kt:TypeId) (ho:o.op=.call { callee:=.builtin .delete,args:=#[m,x],argTypes:=#[t,kt] })
  {b:Nat} {n:Int} {f:Int->Option Value} {e:TypeId} (hm:a.eval m=.map (some b)) (hx:a.eval x=.int .i64 n) (h:IMap w b f) (ht:(Try.prog).underlying t=some (.map kt e)) (hk:(Try.prog).underlying kt=some (.int .i64))
  (k:∀ w',IMap w' b (delF f n)->Kept (· = b) w w'->K (a.put o.dst (.tuple #[])) w'):if Region.wanted o (yielded ops a.tmps)=true then Oper.wp Try.prog o a w K Q else E:=by
 rw [if_pos (by simp [Region.wanted,hg])]
 obtain ⟨w',hr,h1,h2,_⟩:=h.delete ht hk n o.type
 unfold Oper.wp
 simp [execOp,ho,resolve,invoke,builtin,hm,hx,hr,Result.andThen]
 exact k w' h1 h2
theorem z8mm {ops:Array Oper} {Q:Exit->Act->World->Prop} {E:Prop} {K:Act->World->Prop} {a:Act} {w:World} {o:Oper} (hg:o.guard=none) (t:TypeId) (m x:Operand) (ho:o.op=.mapEntry t m x)
  {b:Nat} {n:Int} {f:Int->Option Value} {kt e:TypeId} (hm:a.eval m=.map (some b)) (hx:a.eval x=.int .i64 n) (h:IMap w b f) (ht:(Try.prog).underlying t=some (.map kt e)) (hk:(Try.prog).underlying kt=some (.int .i64)) {z:Value} (hz:(zeroValue e).run Try.prog w=.ok z w) (hn:f n=none)
  (k:∀ w' cl,EnAt w' b f n cl->Kept (· = b) w w'->K (a.put o.dst (.tuple #[z,.int .i64 cl])) w'):if Region.wanted o (yielded ops a.tmps)=true then Oper.wp Try.prog o a w K Q else E:=by
 obtain ⟨w',cl,hr,h1,h2⟩:=h.entry ht hk hz n hn
 refine zxHU hg (.tuple #[z,.int .i64 cl]) ?_ (k w' cl h1 h2)
 simp [execOp,ho,hm,hx,hr,Result.andThen]
theorem zhT4 {ops:Array Oper} {Q:Exit->Act->World->Prop} {E:Prop} {K:Act->World->Prop} {a:Act} {w:World} {o:Oper} (hg:o.guard=none) (t:TypeId) (m x y:Operand) (ho:o.op=.entryStore t m x y)
  {b:Nat} {n cl:Int} {f:Int->Option Value} (v:Value) (hm:a.eval m=.map (some b)) (hx:a.eval x=.int .i64 cl) (hy:a.eval y=v) (h:EnAt w b f n cl)
  (k:∀ w',IMap w' b (updF f n v)->Kept (· = b) w w'->K (a.put o.dst undef) w'):if Region.wanted o (yielded ops a.tmps)=true then Oper.wp Try.prog o a w K Q else E:=by
 obtain ⟨w',hr,h1,h2⟩:=h.store (P:=Try.prog) t v
 refine zoRo hg ?_ (k w' h1 h2)
 simp [execOp,ho,hm,hx,hy,hr,Result.andThen]
theorem zpse {ops:Array Oper} {Q:Exit->Act->World->Prop} {E:Prop} {K:Act->World->Prop} {a:Act} {w:World} {o:Oper} (hg:o.guard=none) (t:TypeId) (x y:Operand) (ho:o.op=.store t x y) {base g n cap i:Nat} {e:TypeId} {xs:List Value} (v:Value)
  (hx:a.eval x=.pointer (some ⟨g,i,none⟩)) (hy:a.eval y=v) (h:w.ownsRow base e 1 (.slice (some ⟨g,0,none⟩) n cap) n xs) (hi:((Try.prog).info? t).map (·.size)=some 1) (hlt:i < n) (h1:v.oneCell'=true)
  (k:∀ w',w'.ownsRow base e 1 (.slice (some ⟨g,0,none⟩) n cap) n (xs.set i v)->Kept (fun x=>x=g) w w'->K (a.put o.dst undef) w'):if Region.wanted o (yielded ops a.tmps)=true then Oper.wp Try.prog o a w K Q else E:=by
 obtain ⟨hl,h⟩:=h
 rcases h with ⟨e1,_⟩ | ⟨g',cap',cur,e1,hb,hh,h2,h3,h4,h5⟩
 ·cases e1
 ·cases e1
  refine zRRc hg t x y ho g i v cur hx hy hh hi (by omega) h1 (fun w' hb' hk=>k w' ⟨by rw [List.length_set];exact hl,.inr ⟨g,cap,_,rfl,hb,hb',h2,h3,by simpa using h4,?_⟩⟩ hk)
  rw [Array.toList_setIfInBounds,List.take_set,h5]
end Go.Proofs.Ytnbfhdgojmflhaa
namespace Go.Proofs.Ytnbfhdgojmflhaa
open Go.RowKit
def ptrs (xs:List FrD):List Value:=xs.map fun x=>ptrV x.k
structure PoolT (w0 w':World) (a0:Adr) (P1:PoolM) (L1:LogM) (D1:DevM) (rv':Value) (vs:List Value) (f':Int->Option Value):Prop where
 s:PoolS w0 a0 P1 L1 D1
 k:Kept (fun z=>z=a0.pb\/z=a0.mb\/a0.rv.ownBlock=some z) w0 w'
 hp:w'.heap[a0.pb]?=some (.cells (poolC { a0 with rv:=rv' } P1) 57 (0,0))
 own:OwnTo w0 a0.rv rv'
 row:w'.ownsRow 0 92 1 rv' vs.length vs
 map:IMap w' a0.mb f'
structure AdrTo (w:World) (a:Adr) (w':World) (a':Adr):Prop where
 fix:a.Fix a'
 k:Kept a.K w w'
 g:∀ x,a'.K x->a.K x\/w.heap.size<=x
theorem AdrTo.refl (w:World) (a:Adr):AdrTo w a w a:=⟨.refl a,Kept.refl _ _,fun _ h=>.inl h⟩
theorem AdrTo.trans {w w1 w2:World} {a a1 a2:Adr} (h:AdrTo w a w1 a1) (k:AdrTo w1 a1 w2 a2):AdrTo w a w2 a2:=⟨h.fix.trans k.fix,h.k.trans k.k (fun x hx h'=>by
 rcases h.g x h' with h1 | h1
 ·exact h1
 ·omega),fun x hx=>by
 rcases k.g x hx with h1 | h1
 ·exact h.g x h1
 ·have:=h.k.size;exact .inr (by omega)⟩
theorem AdrTo.keep0 {w w1 w2:World} {a a1:Adr} (h:AdrTo w a w1 a1) (k:Kept (fun _=>False) w1 w2):AdrTo w a w2 a1:=⟨h.fix,h.k.trans0 k,h.g⟩
theorem AdrTo.post {w w1:World} {a a1:Adr} {P:PoolM} {L:LogM} {D:DevM} (h:AdrTo w a w1 a1) (hs:PoolS w1 a1 P L D):PPost w a P L D w1:=⟨a1,h.fix,hs,h.k,h.g⟩
def z9dm (w:World) (a:Adr) (P:PoolM) (L:LogM) (D:DevM) (e:Ending) (w':World):Prop:=
 if (P.ring.length:Int) < P.most then e=.returned (.tuple #[.int .i64 a.xs.length,.int .i64 0])/\∃ rv',PoolT w w' a P L D rv' (ptrs a.xs ++ [.pointer none]) (pagesF a.xs)
 else
  let X:=zNrE (2*P.most+1).toNat P L D
  if X.2.2.2.2≠0 then e=.returned (.tuple #[.int .i64 0,.int .i64 X.2.2.2.2])/\PPost w a X.1 X.2.1 X.2.2.1 w'
  else e=.returned (.tuple #[.int .i64 X.2.2.2.1,.int .i64 0])/\∃ w0 a0 x0,AdrTo w a w0 a0/\a0.xs[X.2.2.2.1]?=some x0/\PoolT w0 w' a0 X.1 X.2.1 X.2.2.1 a0.rv (ptrs a0.xs) (delF (pagesF a0.xs) x0.m.page)
theorem zHZI {P:PoolM} {L:LogM} {D:DevM} {m k:Nat} {f:FrM} (hk:(P.hand % P.ring.length).toNat=k) (hf:P.ring[k]?=some f):zNrE (m+1) P L D =
  (if 0 < f.held then zNrE m { P with hand:=(k:Int)+1 } L D else
   if f.used then zNrE m { P with hand:=(k:Int)+1,ring:=P.ring.set k { f with used:=false } } L D else
   if f.dirty then
    let x:=wrF P.first f L D
    if x.2.2.2≠0 then ({ P with hand:=(k:Int)+1 },x.2.1,x.2.2.1,0,x.2.2.2) else ({ P with hand:=(k:Int)+1,ring:=P.ring.set k x.1 },x.2.1,x.2.2.1,k,0)
   else ({ P with hand:=(k:Int)+1 },L,D,k,0)):=by
 subst hk
 rw [zNrE]
 simp only [hf]
theorem zpOZ (P:PoolM) (L:LogM) (D:DevM):zNrE 0 P L D=(P,L,D,0,9):=rfl
section
variable {w w':World} {a:Adr} {P:PoolM} {L:LogM} {D:DevM}
theorem PoolS.setH (h:PoolS w a P L D) {n:Int} (hb:w'.heap[a.pb]?=some (.cells (poolC a { P with hand:=n }) 57 (0,0))) (hk:Kept (fun z=>z=a.pb) w w') :
  PoolS w' a { P with hand:=n } L D/\AdrTo w a w' a:=by
 have far:∀ z,a.logK z->¬ (z=a.pb):=fun z hz e=>(h.far hz).1 e
 refine ⟨⟨h.log.keep hk far,hb,h.map.kept hk (fun e=>h.tpb.nem h.map e.symm),zh0U h.row hk (fun z hz e=>(h.trv hz).ne h.tpb (by decide) e),fun x hx=>⟨hk.heap (h.fr x hx).1 (fun e=>(h.tk hx).ne h.tpb (by decide) e),(h.fr x hx).2.keep hk (fun e=>(h.tg hx).ne h.tpb (by decide) e)⟩,h.ring,h.ndk,h.ndg,h.ngt,h.nm⟩,
  .refl a,hk.mono (fun z _ e=>.inr (.inl e)),fun z hz=>.inl hz⟩
theorem PoolN.hand (h:PoolN P) {n:Int} (h0:0<=n) (h1:n<=P.ring.length):PoolN { P with hand:=n }:=⟨h.f0,h.fb,h.m0,h.m1,h.len,h0,h1,h.pg,h.nd⟩
theorem PoolN.set (h:PoolN P) {k:Nat} {f g:FrM} (hf:P.ring[k]?=some f) (hp:g.page=f.page):PoolN { P with ring:=P.ring.set k g }:=by
 have e:(P.ring.set k g).map (·.page)=P.ring.map (·.page):=zBCX hf hp
 refine ⟨h.f0,h.fb,h.m0,h.m1,by show ((P.ring.set k g).length:Int)<=_;rw [List.length_set];exact h.len,h.h0,by show P.hand<=((P.ring.set k g).length:Int);rw [List.length_set];exact h.h1,fun x hx=>?_,by show ((P.ring.set k g).map (·.page)).Nodup;rw [e];exact h.nd⟩
 have hm:x.page∈(P.ring.set k g).map (·.page):=List.mem_map_of_mem hx
 rw [e] at hm
 obtain ⟨y,hy,e2⟩:=List.mem_map.1 hm
 rw [<- e2]
 exact h.pg y hy
theorem PoolS.unuse (h:PoolS w a P L D) {i:Nat} {x:FrD} (u:Bool) (hx:a.xs[i]?=some x) (hb:w'.heap[x.k]?=some (.cells (frC { x with m:={ x.m with used:=u } }) 94 (0,0))) (hk:Kept (fun z=>z=x.k) w w') :
  PoolS w' { a with xs:=a.xs.set i { x with m:={ x.m with used:=u } } } { P with ring:=P.ring.set i { x.m with used:=u } } L D/\AdrTo w a w' { a with xs:=a.xs.set i { x with m:={ x.m with used:=u } } }:=by
 have hxm:=List.mem_of_getElem? hx
 have:=h.setF (y:={ x with m:={ x.m with used:=u } }) hx rfl rfl rfl hb ((h.fr x hxm).2.keep hk (fun e=>(h.tg hxm).ne (h.tk hxm) (by decide) e)) (hk.mono (fun z _ e=>.inl e))
 exact ⟨this.1,⟨rfl,rfl,rfl,rfl,rfl,rfl⟩,this.2.1,this.2.2⟩
theorem zcC1 {pf:Int} {f:FrM} (h:(wrF pf f L D).2.2.2≠0):(wrF pf f L D).1=f:=by
 obtain ⟨y,hy⟩:∃ y,y=(if L.safe<=f.last then L.force D else (L,D,0)):=⟨_,rfl⟩
 have e:wrF pf f L D=(if y.2.2≠0 then (f,y.1,y.2.1,y.2.2) else if (y.2.1.write (pf+f.page) f.b).1≠0 then (f,y.1,(y.2.1.write (pf+f.page) f.b).2,(y.2.1.write (pf+f.page) f.b).1) else ({ f with dirty:=false,first:=0 },y.1,(y.2.1.write (pf+f.page) f.b).2,0)):=by rw [hy];rfl
 rw [e] at h ⊢
 split
 ·rfl
 ·rename_i h1
  rw [if_neg h1] at h
  split
  ·rfl
  ·rename_i h2
   rw [if_neg h2] at h
   exact absurd rfl h
theorem z1vm.to {i:Nat} {x:FrD} {e:Ending} (hx:a.xs[i]?=some x) (h:z1vm w a P L D i x e w'):e=.returned (.int .i64 (wrF P.first x.m L D).2.2.2) /\
  ∃ a',PoolS w' a' { P with ring:=P.ring.set i (wrF P.first x.m L D).1 } (wrF P.first x.m L D).2.1 (wrF P.first x.m L D).2.2.1/\AdrTo w a w' a'/\a'.xs[i]?=some { x with m:=(wrF P.first x.m L D).1 }/\a'.xs.map (·.k)=a.xs.map (·.k):=by
 obtain ⟨he,tv',hs,hk,hg⟩:=h
 refine ⟨he,_,hs,⟨⟨rfl,rfl,rfl,rfl,rfl,rfl⟩,hk,hg⟩,?_,zBCX hx rfl⟩
 have hl:=(List.getElem?_eq_some_iff.1 hx).1
 exact List.getElem?_set_self hl
end
section
variable {w w':World} {a:Adr} {P:PoolM} {L:LogM} {D:DevM}
theorem zEZX:((Try.prog).info? 92).map (fun i=>(i.zero,i.size,i.bytes))=some (some (.pointer none),1,8):=by kernel_rfl
set_option maxRecDepth 100000 in
set_option maxHeartbeats 1600000 in
theorem z8ai (h:PoolS w a P L D) (hn:PoolN P) (hl:(P.ring.length:Int) < P.most):Calls Try.prog 68 #[ptrV a.pb] w (z9dm w a P L D):=by
 have hl2:=hl
 rw [h.len] at hl2
 have hm1:=hn.m1
 obtain ⟨n,hn0⟩:∃ n,n=a.xs.length:=⟨_,rfl⟩
 have H:=qh h
 have HB:=qh h.hp
 have hrow:=h.row
 obtain ⟨ra,rn,rc,hrv,hrn⟩:∃ A n c,a.rv=.slice A n c/\n=a.xs.length:=by
  rcases hrow.2 with ⟨e,h0⟩ | ⟨g,c,cur,e,_⟩
  ·exact ⟨none,0,0,e,h0.symm⟩
  ·exact ⟨_,_,_,e,rfl⟩
 have hrn2:rn=n:=by omega
 subst hrn2
 have cp5:w.cell? ⟨a.pb,5,none⟩=some (.slice ra rn rc):=by rw [<- hrv];exact zcjX h.hp rfl
 have cp4:w.cell? ⟨a.pb,4,none⟩=some (.int .i64 P.most):=zcjX h.hp rfl
 have hpb:a.rv.ownBlock≠some a.pb:=fun e=>(h.trv e).ne h.tpb (by decide) rfl
 have hmb:a.rv.ownBlock≠some a.mb:=fun e=>(h.trv e).nem h.map rfl
 have HPB:=qh hpb
 have HMB:=qh hmb
 rw [<- hn0] at hrow hl2
 have HR:=qh hrow
 have HRV:=qh hrv
 obtain ⟨POST,hPOST⟩:∃ POST:Ending->World->Prop,POST=z9dm w a P L D:=⟨_,rfl⟩
 have HPO:=qh (show ∀ w' rv',PoolT w w' a P L D rv' (ptrs a.xs ++ [.pointer none]) (pagesF a.xs)->POST (.returned (.tuple #[.int .i64 (rn:Int),.int .i64 0])) w' from fun w' rv' h1=>by
  rw [hPOST];unfold z9dm;rw [if_pos hl,<- hn0];exact ⟨rfl,rv',h1⟩)
 have HLT:=qh (show (rn:Int) < P.most from hl2)
 have HN:=qh hn0
 rw [<- hPOST]
 clear h hl hn hn0 hrow hrv hpb hmb hPOST hrn
 unfold ptrV
 go_enter Try.func68,Try.ntmps68
 go_wp2_with fail
 go_quiet (fail)
 generalize hwd:w.drewN nq=wd
 have HWD:=qh (show Kept (fun _=>False) w wd from by rw [<- hwd];exact (Kept.refl (fun _=>False) w).drewN _)
 have HBd:=qh (HWD.out.heap HB.out id)
 have HRd:=qh (show wd.ownsRow 0 92 1 (.slice ra rn rc) rn (ptrs a.xs) from by rw [<- HRV.out];exact zh0U HR.out HWD.out (fun _ _=>id))
 have cp5d:wd.cell? ⟨a.pb,5,none⟩=some (.slice ra rn rc):=by rw [<- hwd];exact cp5
 clear hwd cp5 cp4 HR
 go_wp2_with (at_builtin;refine zdvL rfl _ _ 52 rfl 0 92 Try.underlying52 zEZX rfl (by omega) (.slice ra rn rc) rn (ptrs a.xs) rfl ?hrow wd.heap.size 0 1 1 [.pointer none] rfl rfl (fun j u hu=>?hnews) (fun u hu=>?h1) (by omega) ?h63 ?hbytes (Nat.zero_le _) ?_)
 case hrow=>exact zh0U HRd.out ((Kept.refl (fun _=>False) wd).alloc _) (fun _ _=>id)
 case hnews=>
  have hj:j=0:=by have:=(List.getElem?_eq_some_iff.1 hu).1;simpa using this
  subst hj
  cases hu
  exact zcjX (heap_alloc_new wd _) rfl
 case h1=>rw [List.mem_singleton] at hu;subst hu;rfl
 case h63=>have e63:maxLen=9223372036854775807:=rfl;omega
 case hbytes=>omega
 intro g cap w5 ho5 _ hg5 hl5
 have HO5:=qh ho5
 have KA:=qh (HWD.out.alloc (.cells #[Value.pointer none] 92))
 have HK5:=qh (show Kept (fun z=>a.rv.ownBlock=some z) w w5 from by
  rw [HRV.out]
  rcases hg5 with ⟨⟨e1,e2⟩,hk⟩ | ⟨e1,hk⟩
  ·exact (KA.out.mono (fun _ _ h=>h.elim)).trans hk (fun x _ hx=>by subst hx;rw [e1];rfl)
  ·exact (KA.out.mono (fun _ _ h=>h.elim)).trans0 hk)
 have HG5:=qh (show ∀ x,(Value.slice (some ⟨g,0,none⟩) (rn+1) cap).ownBlock=some x->a.rv.ownBlock=some x\/w.heap.size<=x from fun x hx=>by
  cases hx
  rw [HRV.out]
  rcases hg5 with ⟨⟨e1,e2⟩,hk⟩ | ⟨e1,hk⟩
  ·left;rw [e1];rfl
  ·right
   have e2:g=wd.heap.size+1:=e1
   show w.heap.size<=g
   have:=HWD.out.size
   omega)
 have HNG:=qh (show g≠a.pb/\g≠a.mb from by
  rcases HG5.out g rfl with h | h
  ·exact ⟨fun e=>HPB.out (e▸h),fun e=>HMB.out (e▸h)⟩
  ·have h1:=zvKu HB.out
   have h2:=H.out.map.lt
   exact ⟨by omega,by omega⟩)
 have HB5:=qh (HK5.out.heap HB.out (fun e=>HPB.out e))
 clear ho5 hg5
 go_wp2_with (refine z2q7 rfl 52 _ _ rfl a.pb 5 (.slice (some ⟨g,0,none⟩) (rn+1) cap) (poolC a P) rfl rfl HB5.out (by kernel_rfl) (by show 5 < 8;decide) rfl ?_)
 intro w6 hb6 hk6
 have HB6:=qh hb6
 have HK6:=qh hk6
 have cp6:w6.cell? ⟨a.pb,5,none⟩=some (.slice (some ⟨g,0,none⟩) (rn+1) cap):=zcjX hb6 rfl
 clear hb6 hk6
 go_wp2
 refine HPO.out _ (.slice (some ⟨g,0,none⟩) (rn+1) cap) ⟨H.out,?_,HB6.out,?_,?_,?_⟩
 ·exact (HK5.out.mono (fun _ _ h=>.inr (.inr h))).trans HK6.out (fun x _ hx=>.inl hx)
 ·rcases HG5.out g rfl with h | h
  ·exact .inl h.symm
  ·exact .inr (fun x hx=>by cases hx;exact h)
 ·have e:(ptrs a.xs ++ [Value.pointer none]).length=rn+1:=by rw [HN.out];simp [ptrs]
  rw [e]
  exact zh0U HO5.out HK6.out (fun x hx e=>by cases hx;exact HNG.out.1 e)
 ·exact (H.out.map.kept HK5.out (fun e=>HMB.out e)).kept HK6.out (fun e=>H.out.tpb.nem H.out.map e.symm)
end
end Go.Proofs.Ytnbfhdgojmflhaa
