/-
  No statement is proved here.
-/
import Derived.Test.YtfgagakepmigbaaGreatJSmh
import Derived.Test.YtfgagakepmigbaaGreatJSwk
import Derived.Test.YtfgagakepmigbaaGreatJSnd
namespace Go.Proofs.YtfgagakepmigbaaGreat
open Go.RowKit
structure LV (S:BkA) (Z Y:SpM):Prop where
 r:Rel S Z
 y:S.inT=true->RelS S.was S.pages Y.tk Y.roots/\Y.pages=S.pages/\Y.inT=false
def zy4p (S S':BkA) (Y:SpM) (e e':Int) (Z':SpM):Prop:=(S.inT=true/\Puts S S'/\Z'.inT=true/\e=5/\e'=0)\/(e=e'/\LV S' Z' Y)
section
variable {S S':BkA} {Z Z' Y:SpM} {e e':Int}
theorem LV.begin (h:LV S Z Y) (hT:S.inT=false):∃ S1,S.begin=(S1,0)/\LV S1 { Z with inT:=true } Z:=by
 unfold BkA.begin
 rw [if_neg (by rw [hT];decide)]
 exact ⟨_,rfl,⟨h.r.pg,rfl,h.r.r⟩,fun _=>⟨h.r.r,h.r.pg,h.r.inT.trans hT⟩⟩
theorem LV.commit (h:LV S Z Y) (hT:S.inT=true):∃ S1,S.commit=(S1,0)/\LV S1 { Z with inT:=false } Y:=by
 unfold BkA.commit
 rw [if_neg (by rw [hT];decide)]
 exact ⟨_,rfl,⟨h.r.pg,rfl,h.r.r⟩,fun e=>by cases e⟩
theorem LV.abort (h:LV S Z Y) (hT:S.inT=true) (hp:Puts S S'):∃ S1,S'.abort=(S1,0)/\LV S1 Y Y:=by
 obtain ⟨y1,y2,y3⟩:=h.y hT
 unfold BkA.abort
 rw [if_neg (by rw [hp.inT,hT];decide)]
 have hpg:=hp.pages
 refine ⟨_,rfl,⟨y2.trans hpg.symm,y3,?_⟩,fun e=>by cases e⟩
 show RelS S'.was S'.pages Y.tk Y.roots
 rw [hp.was,hpg];exact y1
theorem LV.of (h:LV S Z Y) (hT:S.inT=true) (hz:Z'.inT=Z.inT) (o:zodf S S' e e' Z'):zy4p S S' Y e e' Z':=by
 obtain ⟨o1,o2⟩:=o
 rcases o2 with ⟨a,b⟩ | ⟨a,b⟩
 ·exact .inl ⟨hT,o1,hz.trans (h.r.inT.trans hT),a,b⟩
 ·refine .inr ⟨a,b,fun _=>?_⟩
  rw [o1.was,o1.pages]
  exact h.y hT
theorem LV.not (h:LV S Z Y) (hT:¬ S.inT=true):S.inT=false/\Z.inT=false:=by
 have:S.inT=false:=by cases hs:S.inT with
  | true=>exact absurd hs hT
  | false=>rfl
 exact ⟨this,h.r.inT.trans this⟩
theorem LV.format (h:LV S Z Y):zy4p S S.format.1 Y S.format.2 Z.format.2 Z.format.1:=by
 by_cases hT:S.inT=true
 ·exact h.of hT (by unfold SpM.format;split;rfl;split<;>rfl) (h.r.format hT)
 ·obtain ⟨a,b⟩:=h.not hT
  unfold BkA.format SpM.format
  rw [if_pos a,if_pos b]
  exact .inr ⟨rfl,h⟩
theorem LV.give (h:LV S Z Y) (q:Int):zy4p S (S.give q).1 Y (S.give q).2 (Z.give q).2 (Z.give q).1:=by
 by_cases hT:S.inT=true
 ·exact h.of hT (by unfold SpM.give;split;rfl;split;rfl;split<;>rfl) (h.r.give hT q)
 ·obtain ⟨a,b⟩:=h.not hT
  unfold BkA.give SpM.give
  rw [if_pos a,if_pos b]
  exact .inr ⟨rfl,h⟩
theorem LV.setRoot (h:LV S Z Y) (k p:Int):zy4p S (S.setRoot k p).1 Y (S.setRoot k p).2 (Z.setRoot k p).2 (Z.setRoot k p).1:=by
 by_cases hT:S.inT=true
 ·exact h.of hT (by unfold SpM.setRoot;split;rfl;split;rfl;split<;>rfl) (h.r.setRoot hT k p)
 ·obtain ⟨a,b⟩:=h.not hT
  unfold BkA.setRoot SpM.setRoot
  rw [if_pos a,if_pos b]
  exact .inr ⟨rfl,h⟩
theorem z0Nc (Z:SpM):Z.take.2.2=0\/Z.take.2.1=0:=by
 unfold SpM.take
 split
 ·exact .inr rfl
 ·split
  ·exact .inr rfl
  ·split
   ·exact .inr rfl
   ·exact .inl rfl
theorem LV.take (h:LV S Z Y):zy4p S S.take.1 Y S.take.2.2 Z.take.2.2 Z.take.1/\(S.take.2.2=Z.take.2.2->S.take.2.1=Z.take.2.1):=by
 by_cases hT:S.inT=true
 ·obtain ⟨a,b,c⟩:=h.r.take hT
  refine ⟨h.of hT (by unfold SpM.take;split;rfl;split;rfl;split<;>rfl) a,fun e=>?_⟩
  by_cases h0:S.take.2.2=0
  ·exact c h0
  ·rw [b h0]
   rcases z0Nc Z with x | x
   ·exact absurd (e.trans x) h0
   ·exact x.symm
 ·obtain ⟨a,b⟩:=h.not hT
  unfold BkA.take SpM.take
  rw [if_pos a,if_pos b]
  exact ⟨.inr ⟨rfl,h⟩,fun _=>rfl⟩
theorem LV.fresh {n:Int} (n0:24<=n) (n1:n<=65536):LV (zT5q n) ⟨(zT5q n).pages,false,[],List.replicate 8 0⟩ ⟨(zT5q n).pages,false,[],List.replicate 8 0⟩:=⟨zFuH n0 n1,fun e=>by cases e⟩
theorem Rel.fit (h:Rel S Z):10<=Z.pages/\Z.pages<=65536/\Z.roots.length=8/\(Z.tk=[]\/Z.tk.length=Z.pages.toNat):=by
 have h0:=h.r.p0
 have h1:=h.r.p1
 have hp:=h.pg
 refine ⟨by omega,by omega,h.r.rt,?_⟩
 rcases h.r.is with ⟨a,_⟩ | ⟨a,_⟩
 ·exact .inl a
 ·exact .inr (by rw [a,hp])
end
def OwnT (w:World) (base:Nat) (v:Value) (l:List Bool):Prop:=w.ownsRow base 4 1 v l.length (l.map Value.bool)
theorem infoT:(Tryz.prog.info? 4).map (fun i=>(i.zero,i.size,i.bytes))=some (some (.bool false),1,1):=by kernel_rfl
section
variable {w w':World} {base g cap:Nat} {v:Value} {l:List Bool}
theorem OwnT.nil (w:World) (base:Nat):OwnT w base (.slice none 0 0) []:=⟨rfl,.inl ⟨rfl,rfl⟩⟩
theorem OwnT.form (h:OwnT w base v l):(v=.slice none 0 0/\l=[])\/∃ g cap,v=.slice (some ⟨g,0,none⟩) l.length cap/\base<=g/\(∃ cur,w.heap[g]?=some (.cells cur 4 (0,0))/\l.length<=cur.size)/\l.length<=cap/\cap<=maxLen:=by
 rcases h.2 with ⟨rfl,h2⟩ | ⟨g,cap,cur,rfl,h3,h4,h5,h6,h7,h8⟩
 ·exact .inl ⟨rfl,List.length_eq_zero_iff.1 h2⟩
 ·exact .inr ⟨g,cap,rfl,h3,⟨cur,h4,by omega⟩,h5,h6⟩
theorem OwnT.at (h:OwnT w base (.slice (some ⟨g,0,none⟩) l.length cap) l) {i:Nat} (hi:i < l.length):w.cell? ⟨g,i,none⟩=some (.bool (l.getD i false)):=by
 unfold OwnT at h
 rw [h.cellAt i (by omega),List.getElem?_map,List.getElem?_eq_getElem hi,List.getD_eq_getElem?_getD,List.getElem?_eq_getElem hi]
 rfl
theorem OwnT.set (h:OwnT w base (.slice (some ⟨g,0,none⟩) l.length cap) l) (i:Nat) (b:Bool):OwnT (w.setCell ⟨g,i,none⟩ (.bool b)) base (.slice (some ⟨g,0,none⟩) l.length cap) (l.set i b):=by
 unfold OwnT at *
 have:=(h.stored i (.bool b)).1
 rw [List.length_set,List.map_set]
 exact this
theorem OwnT.keep {S:Nat->Prop} (h:OwnT w base v l) (hk:Kept S w w') (hn:∀ x,v.ownBlock=some x->¬ S x):OwnT w' base v l:=zh0U h hk hn
theorem OwnT.lt (h:OwnT w base v l) {x:Nat} (hx:v.ownBlock=some x):base<=x/\x < w.heap.size:=World.ownsRow.lt h x hx
theorem OwnT.low {base':Nat} (h:OwnT w base v l) (hb:base'<=base):OwnT w base' v l:=by
 obtain ⟨h1,h2 | ⟨g,cap,cur,e1,e2,e3⟩⟩:=h
 ·exact ⟨h1,.inl h2⟩
 ·exact ⟨h1,.inr ⟨g,cap,cur,e1,Nat.le_trans hb e2,e3⟩⟩
theorem zNq5 {ops:Array Oper} {Q:Exit->Act->World->Prop} {a:Act} {rest:List Oper} {o:Oper} (hg:o.guard=none) (x c:Operand) (ho:o.op=.makeSlice 57 x c)
  (n:Nat) (hl:a.eval x=.int .i64 n) (hc:a.eval c=.int .i64 n) (hm:n<=1000000)
  (k:∀ g w',OwnT w' w.heap.size (.slice (some ⟨g,0,none⟩) n n) (List.replicate n false)->Kept (fun _=>False) w w'->wpList Tryz.prog ops Q rest (a.put o.dst (.slice (some ⟨g,0,none⟩) n n)) w'):wpList Tryz.prog ops Q (o :: rest) a w:=by
 obtain ⟨i,hi,h2,h3,h4⟩:=info_parts infoT
 have hr:=run_make (P:=Tryz.prog) w 57 4 i _ Tryz.underlying57 hi h2 .i64 .i64 (n:Int) (n:Int) (by omega) (by omega) (by rw [h4];omega) (by omega)
 simp only [Int.toNat_natCast,h3,Nat.mul_one] at hr
 refine z3Ho hg (v:=.slice (some ⟨w.heap.size,0,none⟩) n n) (w':=w.alloc (.cells (madeCells (Value.bool false).cells n) 4)) ?_ (k w.heap.size _ ⟨by simp,.inr ⟨w.heap.size,n,_,by rw [List.length_replicate],Nat.le_refl _,heap_alloc_new w _,by rw [List.length_replicate];omega,by have:maxLen=9223372036854775807:=rfl;omega,by rw [size_madeCells,Nat.mul_one],?_⟩⟩ ((Kept.refl _ w).alloc _))
 ·simp [execOp,ho,hl,hc,hr,Result.andThen]
 ·rw [show (Value.bool false).cells=#[Value.bool false] from rfl,toList_madeCells_one]
  simp
theorem OwnT.news (h:OwnT w base (.slice (some ⟨g,0,none⟩) l.length cap) l):∀ j u,(l.map Value.bool)[j]?=some u->w.cell? ⟨g,0+j,none⟩=some u:=by
 intro j u hu
 have hj:=(List.getElem?_eq_some_iff.1 hu).1
 rw [List.length_map] at hj
 unfold OwnT at h
 rw [Nat.zero_add,h.cellAt j (by omega)]
 exact hu
theorem zB7V {ops:Array Oper} {rest:List Oper} {o:Oper} {a:Act} {Q:Exit->Act->World->Prop} (hgd:o.guard=none) (s x:Operand)
  (ho:o.op=.call { callee:=.builtin .append,args:=#[s,x],argTypes:=#[57,57] }) (base:Nat) (v:Value) (hs:a.eval s=v) (hown:OwnT w base v [])
  {B:Nat} (u:Value) (l:List Bool) (hx:a.eval x=u) (hm:OwnT w B u l) (h63:l.length<=1000000) (hbase:base<=w.heap.size)
  (k:∀ v' w',OwnT w' base v' l->Kept (fun x=>v.ownBlock=some x) w w'->OwnTo w v v'->wpList Tryz.prog ops Q rest (a.put o.dst v') w'):wpList Tryz.prog ops Q (o :: rest) a w:=by
 rcases hm.form with ⟨rfl,rfl⟩ | ⟨g,cap,rfl,h1,h2,h3,h4⟩
 ·exact zbY4 hgd s x 57 ho base 4 Tryz.underlying57 infoT _ 0 _ hs hown none 0 hx (k v w hown (Kept.refl _ w) (.inl rfl))
 ·by_cases h0:l=[]
  ·subst h0
   exact zbY4 hgd s x 57 ho base 4 Tryz.underlying57 infoT _ 0 _ hs hown _ cap hx (k v w hown (Kept.refl _ w) (.inl rfl))
  ·have:0 < l.length:=List.length_pos_iff.2 h0
   have e63:maxLen=9223372036854775807:=rfl
   refine wl_append hgd s x 57 ho base 4 Tryz.underlying57 infoT rfl (by omega) _ 0 _ hs hown g 0 l.length cap (l.map Value.bool) hx (by rw [List.length_map,Nat.mul_one]) hm.news (fun u hu=>by obtain ⟨b,_,rfl⟩:=List.mem_map.1 hu;rfl) this (by omega) (by omega) hbase ?_
   intro g' cap' w' ho' hk' hat m'
   rw [Nat.zero_add] at ho' ⊢
   refine k _ w' ho' hk' ?_
   rcases hat with e | e
   ·exact .inl e.symm
   ·refine .inr (fun x hx=>?_)
    have:g'=x:=by simpa [Value.ownBlock] using hx
    omega
end
def spC (Z:SpM) (tv:Value):Array Value:=(Value.int .i64 Z.pages :: .bool Z.inT :: tv :: Z.roots.map (Value.int .i64)).toArray
structure SpW (w:World) (B q:Nat) (tv:Value) (Z:SpM):Prop where
 hb:w.heap[q]?=some (.cells (spC Z tv) 60 (0,0))
 ow:OwnT w B tv Z.tk
 bq:B<=q
 ln:Z.roots.length=8
def SpK (q:Nat) (tv:Value) (z:Nat):Prop:=z=q\/tv.ownBlock=some z
section
variable {w w':World} {B q:Nat} {tv:Value} {Z:SpM}
theorem SpW.keep {T:Nat->Prop} (h:SpW w B q tv Z) (hk:Kept T w w') (hn:∀ z,SpK q tv z->¬ T z):SpW w' B q tv Z:=
 ⟨hk.heap h.hb (hn q (.inl rfl)),h.ow.keep hk (fun x hx=>hn x (.inr hx)),h.bq,h.ln⟩
theorem SpW.keep0 (h:SpW w B q tv Z) (hk:Kept (fun _=>False) w w'):SpW w' B q tv Z:=h.keep hk (fun _ _ h=>h)
theorem SpW.lt (h:SpW w B q tv Z) {z:Nat} (hz:SpK q tv z):B<=z/\z < w.heap.size:=by
 rcases hz with rfl | hz
 ·exact ⟨h.bq,zvKu h.hb⟩
 ·exact h.ow.lt hz
theorem SpW.ne (h:SpW w B q tv Z):tv.ownBlock≠some q:=by
 intro e
 rcases h.ow.form with ⟨rfl,_⟩ | ⟨g,cap,rfl,_,⟨cur,hc,_⟩,_⟩
 ·cases e
 ·have:g=q:=by simpa [Value.ownBlock] using e
  subst this
  rw [h.hb] at hc
  injection hc with hc
  injection hc with _ h2
  exact absurd h2 (by decide)
theorem SpW.cells (h:SpW w B q tv Z):w.cell? ⟨q,0,none⟩=some (.int .i64 Z.pages)/\w.cell? ⟨q,1,none⟩=some (.bool Z.inT)/\w.cell? ⟨q,2,none⟩=some tv:=⟨zcjX h.hb rfl,zcjX h.hb rfl,zcjX h.hb rfl⟩
theorem SpW.root (h:SpW w B q tv Z) {k:Nat} (hk:k < 8):w.cell? ⟨q,3+k,none⟩=some (.int .i64 (Z.roots.getD k 0)):=by
 refine zcjX h.hb ?_
 have:=h.ln
 unfold spC
 rw [show 3+k=k+1+1+1 by omega]
 simp only [List.getElem?_toArray,List.getElem?_cons_succ,List.getElem?_map]
 rw [List.getElem?_eq_getElem (by omega),List.getD_eq_getElem?_getD,List.getElem?_eq_getElem (by omega)]
 rfl
theorem zvuy (Z:SpM) (tv:Value) (h:Z.roots.length=8):(spC Z tv).size=11:=by
 unfold spC
 simp [h]
theorem zjVf {w:World} {B:Nat} {tv:Value} {l:List Bool} (h:OwnT w B tv l):tv.oneCell'=true:=by
 rcases h.form with ⟨rfl,_⟩ | ⟨g,cap,rfl,_⟩<;>rfl
theorem SpW.one (h:SpW w B q tv Z):(spC Z tv).all (·.oneCell')=true:=by
 rw [Array.all_eq_true_iff_forall_mem]
 intro v hv
 unfold spC at hv
 simp at hv
 rcases hv with rfl | rfl | rfl | ⟨b,_,rfl⟩
 ·rfl
 ·rfl
 ·exact zjVf h.ow
 ·rfl
end
def spZ:Array Value:=spC ⟨0,false,[],List.replicate 8 0⟩ (.slice none 0 0)
theorem z4az:(Tryz.prog.info? 60).map (fun i=>(i.zero,i.size))=some (some (.agg spZ),11):=by kernel_rfl
theorem z1RX (w:World):(zeroValue 60).run Tryz.prog w=.ok (.agg spZ) w:=(zero_of_info z4az).1 w
theorem zE6Q:(Tryz.prog.info? 60).map (·.size)=some 11:=(zero_of_info z4az).2
theorem spC_1 (Z:SpM) (tv:Value) (b:Bool):(spC Z tv).setIfInBounds 1 (.bool b)=spC { Z with inT:=b } tv:=by simp [spC]
theorem spC_2 (Z:SpM) (tv u:Value):(spC Z tv).setIfInBounds 2 u=spC Z u:=by simp [spC]
theorem spC_r (Z:SpM) (tv:Value) (k:Nat) (p:Int):(spC Z tv).setIfInBounds (3+k) (.int .i64 p)=spC { Z with roots:=Z.roots.set k p } tv:=by
 unfold spC
 rw [show 3+k=k+1+1+1 by omega]
 simp [List.map_set]
section
variable {w w':World} {B q:Nat} {tv:Value} {Z:SpM}
theorem OwnT.slice {l:List Bool} (h:OwnT w B tv l):∃ A c,tv=.slice A l.length c/\(l≠[]->∃ g,A=some ⟨g,0,none⟩)/\l.length<=c:=by
 rcases h.form with ⟨rfl,rfl⟩ | ⟨g,cap,rfl,h1,h2,h3,h4⟩
 ·exact ⟨none,0,rfl,fun h=>absurd rfl h,Nat.le_refl _⟩
 ·exact ⟨_,cap,rfl,fun _=>⟨g,rfl⟩,h3⟩
theorem SpW.low {B':Nat} (h:SpW w B q tv Z) (hb:B'<=B):SpW w B' q tv Z:=⟨h.hb,h.ow.low hb,Nat.le_trans hb h.bq,h.ln⟩
def zIUt (w:World) (B q:Nat) (tv:Value) (Z':SpM) (w':World):Prop:=∃ tv',SpW w' B q tv' Z'/\Kept (SpK q tv) w w'/\OwnTo w tv tv'
theorem zIUt.same (h:SpW w B q tv Z):zIUt w B q tv Z w:=⟨tv,h,.refl _ _,.inl rfl⟩
theorem SpW.in1 (h:SpW w B q tv Z) {b:Bool} (hb:w'.heap[q]?=some (.cells ((spC Z tv).setIfInBounds 1 (.bool b)) 60 (0,0))) (hk:Kept (fun z=>z=q) w w'):SpW w' B q tv { Z with inT:=b }/\Kept (SpK q tv) w w':=by
 rw [spC_1] at hb
 exact ⟨⟨hb,h.ow.keep hk (fun z hz e=>h.ne (by rw [<- e];exact hz)),h.bq,h.ln⟩,hk.mono fun z _ e=>.inl e⟩
theorem SpW.inR (h:SpW w B q tv Z) {k:Nat} {p:Int} (hb:w'.heap[q]?=some (.cells ((spC Z tv).setIfInBounds (3+k) (.int .i64 p)) 60 (0,0))) (hk:Kept (fun z=>z=q) w w'):SpW w' B q tv { Z with roots:=Z.roots.set k p }/\Kept (SpK q tv) w w':=by
 rw [spC_r] at hb
 exact ⟨⟨hb,h.ow.keep hk (fun z hz e=>h.ne (by rw [<- e];exact hz)),h.bq,by rw [List.length_set];exact h.ln⟩,hk.mono fun z _ e=>.inl e⟩
theorem zuKH (n:Int) (p0:10<=n) (p1:n<=65536) (w:World):Calls Tryz.prog 100 #[.int .i64 n] w fun e w'=>e=.returned (.int .i64 (ownS n))/\w=w':=by
 have e2:wrap64 (n+4095)=n+4095:=by unfold wrap64;omega
 have e3:(n+4095).tdiv 4096=(n+4095) / 4096:=Int.tdiv_eq_ediv_of_nonneg (by omega)
 have e4:wrap64 ((n+4095) / 4096)=(n+4095) / 4096:=by unfold wrap64;omega
 have e5:wrap64 (1+(n+4095) / 4096)=ownS n:=by unfold wrap64 ownS;omega
 go_enter Tryz.func100,Tryz.ntmps100
 go_wp2
 go_ret
 exact ⟨rfl,rfl⟩
set_option maxRecDepth 100000 in
theorem zdHN (h:SpW w B q tv Z) (hl:Z.tk.length<=1000000):Calls Tryz.prog 54 #[ptrV q] w fun e w'=>∃ q' tv',e=.returned (ptrV q')/\SpW w' w.heap.size q' tv' Z/\Kept (fun _=>False) w w':=by
 have HS:=qh h
 have HSZ:=qh (zvuy Z tv h.ln)
 have HL:=qh hl
 obtain ⟨cs,hcs⟩:∃ cs,cs=spC Z tv:=⟨_,rfl⟩
 have HB:=qh (show w.heap[q]?=some (.cells cs 60 (0,0)) from by rw [hcs];exact h.hb)
 have HC:=qh hcs
 unfold ptrV
 clear h hl hcs
 go_enter Tryz.func54,Tryz.ntmps54
 go_wp2_with (first
  | refine zFcC rfl 60 _ rfl q rfl cs HB.out Tryz.underlying60 rfl (by rw [HC.out,HSZ.out];exact zE6Q) ?_
  | refine zNko rfl 60 rfl spZ z1RX ?_)
 intro g w1 l1 m1 hb1 hk1
 have HB1:=qh hb1
 have HK1:=qh hk1
 have HG:=Lib.hid l1
 clear hb1 hk1 l1 m1
 go_wp2_with (refine zxQF rfl 60 _ _ rfl g cs spZ rfl rfl HB1.out (by rw [HC.out,HSZ.out];exact zE6Q) (by rw [HC.out,HSZ.out];rfl) (by rw [HC.out];exact HS.out.one) ?_)
 intro w2 hb2 hk2
 have HB2:=qh hb2
 have HK2:=qh (HK1.out.new hk2 (fun z hz=>by rw [hz];exact HG.out))
 clear hb2 hk2 HB1 HK1
 go_wp2_with (refine zFfS rfl 57 4 rfl Tryz.underlying57 (by kernel_rfl) ?_)
 intro p w3 l3 m3 hb3 hk3
 have HK3:=qh (HK2.out.trans0 hk3)
 have HB3:=qh (hk3.heap HB2.out id)
 have HP:=qh (show g < p from by have:=zvKu HB2.out;omega)
 have HO3:=qh (show OwnT w3 w.heap.size (.slice (some ⟨p,0,none⟩) 0 0) [] from ⟨rfl,.inr ⟨p,0,#[],rfl,by have:=HG.out;have:=HP.out;omega,hb3,Nat.le_refl _,Nat.zero_le _,rfl,rfl⟩⟩)
 have HS3:=qh (HS.out.keep0 HK3.out)
 have d2:=HS3.out.cells.2.2
 clear hb3 hk3 l3 m3 HB2 HK2
 go_wp2_with (refine zB7V rfl _ _ rfl w.heap.size (.slice (some ⟨p,0,none⟩) 0 0) rfl HO3.out tv Z.tk rfl HS3.out.ow HL.out HK3.out.size ?_)
 intro v' w4 ho4 hk4 hto4
 have HO4:=qh ho4
 have HK4:=qh (HK3.out.new hk4 (fun z hz=>by
  have e:p=z:=by simpa [Value.ownBlock] using hz
  have:=HG.out;have:=HP.out;omega))
 have HNE:=qh (show v'.ownBlock≠some g from fun e=>by
  have:=HP.out
  rcases hto4 with x | x
  ·rw [x] at e
   have:p=g:=by simpa [Value.ownBlock] using e
   omega
  ·have:=x g e
   have:=zvKu HB3.out
   omega)
 have HB4:=qh (hk4.heap HB3.out (fun e=>by
  have e:p=g:=by simpa [Value.ownBlock] using e
  have:=HP.out;omega))
 clear ho4 hk4 hto4 HB3 HO3 HK3 HS3 d2
 have HV1:=qh (zjVf HO4.out)
 go_wp2_with (refine z2q7 rfl _ _ _ rfl g 2 v' cs rfl rfl HB4.out (by kernel_rfl) (by rw [HC.out,HSZ.out];decide) HV1.out ?_)
 intro w5 hb5 hk5
 have HB5:=qh (show w5.heap[g]?=some (.cells (spC Z v') 60 (0,0)) from by rw [hb5,HC.out,spC_2])
 have HO5:=qh (HO4.out.keep hk5 (fun z hz e=>HNE.out (by rw [<- e];exact hz)))
 have HK5:=qh (HK4.out.new hk5 (fun z hz=>by rw [hz];exact HG.out))
 clear hb5 hk5
 go_wp2
 go_ret
 exact ⟨g,v',rfl,⟨HB5.out,HO5.out,HG.out,HS.out.ln⟩,HK5.out⟩
end
theorem z2mx {w:World} {ops:Array Oper} {rest:List Oper} {o:Oper} {a:Act} {Q:Exit->Act->World->Prop} (hg:o.guard=none) (t:TypeId) (x y:Operand) (ho:o.op=.store t x y) (hsz:((Tryz.prog).info? t).map (·.size)=some 1)
  (B g cap:Nat) (l:List Bool) (i:Nat) (b:Bool) (hx:a.eval x=.pointer (some ⟨g,i,none⟩)) (hy:a.eval y=.bool b) (hown:OwnT w B (.slice (some ⟨g,0,none⟩) l.length cap) l) (hi:i < l.length)
  (k:∀ w',OwnT w' B (.slice (some ⟨g,0,none⟩) l.length cap) (l.set i b)->Kept (fun z=>z=g) w w'->wpList Tryz.prog ops Q rest (a.put o.dst undef) w'):wpList Tryz.prog ops Q (o :: rest) a w:=by
 refine zLKC hg ?_ (k (w.setCell ⟨g,i,none⟩ (.bool b)) (hown.set i b) ((Kept.refl (fun x=>x=g) w).setCell (.inr rfl) _))
 have hc:=hown.at hi
 have hfz:=World.ownsRow.frozenAt hown i
 cases hq:(Tryz.prog).info? t with
 | none=>simp [hq] at hsz
 | some n=>
  have hs:n.size=1:=by simpa [hq] using hsz
  have hst:=run_store Tryz.prog w ⟨g,i,none⟩ (.bool b) .plain rfl
  rw [hc] at hst
  simp [hfz] at hst
  simp [execOp,ho,hx,hy,Instr.storeAt,Instr.sureAddr,storeVar,Value.cells,sizeOf,typeInfo,hq,hs,storeCells,Sem.run_bind,Result.andThen]
  rw [Addr.add_zero',hst]
def SpM.frN (Z:SpM) (k:Nat):Nat:=((List.range k).filter fun q=>!Z.at q).length
theorem zygi (Z:SpM) (k:Nat):Z.frN (k+1)=Z.frN k+if Z.at k=true then 0 else 1:=by
 unfold SpM.frN
 rw [List.range_succ,List.filter_append,List.length_append]
 cases h:Z.at k<;>simp [h]
theorem zp22 (Z:SpM) (k:Nat):Z.frN k<=k:=by
 unfold SpM.frN
 have:=List.length_filter_le (fun q=>!Z.at q) (List.range k)
 rw [List.length_range] at this
 exact this
theorem SpM.freeQ_at {Z:SpM} {i:Nat} (hi:i < Z.pages.toNat) (h:∀ r,r < i->Z.at r=true) (h0:Z.at i=false):Z.freeQ=some i:=by
 unfold SpM.freeQ
 rw [List.find?_range_eq_some]
 exact ⟨by rw [h0];rfl,List.mem_range.2 hi,fun r hr=>by rw [h r hr];rfl⟩
theorem SpM.freeQ_no {Z:SpM} (h:∀ r,r < Z.pages.toNat->Z.at r=true):Z.freeQ=none:=by
 unfold SpM.freeQ
 rw [List.find?_eq_none]
 intro r hr
 rw [h r (List.mem_range.1 hr)]
 simp
def fillT (n i:Nat):List Bool:=(List.range n).map fun (r:Nat)=>decide (r < i)
theorem zdf7 (n i:Nat):(fillT n i).length=n:=by simp [fillT]
theorem ztJ3 (n:Nat):fillT n 0=List.replicate n false:=by
 unfold fillT
 apply List.ext_getElem<;>simp
theorem zGds (n i:Nat):(fillT n i).set i true=fillT n (i+1):=by
 unfold fillT
 apply List.ext_getElem
 ·simp
 ·intro r h1 h2
  simp [List.getElem_set]
  by_cases c:i=r
  ·simp [c]
  ·by_cases d:r < i
   ·simp [d];omega
   ·simp [d,c];omega
structure SpF (w:World) (B q:Nat) (tv:Value) (Z:SpM):Prop where
 s:SpW w B q tv Z
 p0:10<=Z.pages
 p1:Z.pages<=65536
 tk:Z.tk=[]\/Z.tk.length=Z.pages.toNat
section
variable {w w':World} {B q:Nat} {tv:Value} {Z:SpM}
theorem SpF.has (h:SpF w B q tv Z) (ht:Z.tk≠[]):∃ (n g c:Nat),Z.pages=n/\Z.tk.length=n/\10<=n/\n<=65536/\tv=.slice (some ⟨g,0,none⟩) n c/\n<=c:=by
 have hl:=h.tk.resolve_left ht
 have h0:=h.p0
 have h1:=h.p1
 obtain ⟨A,c,e,hA,hc⟩:=h.s.ow.slice
 obtain ⟨g,rfl⟩:=hA ht
 exact ⟨Z.pages.toNat,g,c,by omega,hl,by omega,by omega,by rw [e,hl],by omega⟩
theorem SpF.bare (h:SpF w B q tv Z) (ht:Z.tk=[]):∃ A c,tv=.slice A 0 c:=by
 obtain ⟨A,c,e,-⟩:=h.s.ow.slice
 rw [ht] at e
 exact ⟨A,c,e⟩
theorem SpF.bit {n g c i:Nat} (h:SpF w B q (.slice (some ⟨g,0,none⟩) n c) Z) (hn:Z.tk.length=n) (hi:i < n):w.cell? ⟨g,i,none⟩=some (.bool (Z.at i)):=by
 have:=h.s.ow
 rw [<- hn] at this
 exact this.at (by omega)
set_option maxRecDepth 100000 in
theorem z0aK (h:SpF w B q tv Z) (r:Int):Calls Tryz.prog 60 #[ptrV q,.int .i64 r] w fun e w'=>e=.returned (.tuple #[.bool (Z.taken r).1,.int .i64 (Z.taken r).2])/\w=w':=by
 obtain ⟨d0,-,d2⟩:=h.s.cells
 unfold ptrV
 by_cases ht:Z.tk=[]
 ·obtain ⟨A,c,rfl⟩:=h.bare ht
  obtain ⟨V,hV⟩:∃ V,V=Z.taken r:=⟨_,rfl⟩
  have:V=(false,4):=by rw [hV];unfold SpM.taken;rw [if_pos ht]
  rw [<- hV,this]
  clear h ht hV this d0
  go_enter Tryz.func60,Tryz.ntmps60
  go_wp2
  go_ret2
  exact ⟨rfl,rfl⟩
 ·obtain ⟨n,g,c,hp,hn,n0,n1,rfl,hc⟩:=h.has ht
  have H:=qh h
  rw [hp] at d0
  obtain ⟨V,hV⟩:∃ V,V=Z.taken r:=⟨_,rfl⟩
  have hV2:V=(decide (0<=r/\r < (n:Int)) && Z.at r.toNat,0):=by rw [hV];unfold SpM.taken;rw [if_neg ht,hp]
  rw [<- hV]
  clear h ht hV hp
  by_cases c0:0<=r
  ·by_cases c1:r < (n:Int)
   ·obtain ⟨k,rfl⟩:∃ k:Nat,r=k:=⟨r.toNat,by omega⟩
    rw [decide_eq_true ⟨c0,c1⟩,Int.toNat_natCast,Bool.true_and] at hV2
    have hb:=H.out.bit hn (i:=k) (by omega)
    obtain ⟨b,hbb⟩:∃ b,b=Z.at k:=⟨_,rfl⟩
    rw [<- hbb] at hV2 hb
    rw [hV2]
    clear hV2 hbb hn
    go_enter Tryz.func60,Tryz.ntmps60
    go_wp2
    go_ret2
    exact ⟨rfl,rfl⟩
   ·rw [decide_eq_false (by omega),Bool.false_and] at hV2
    rw [hV2]
    clear hV2 hn
    go_enter Tryz.func60,Tryz.ntmps60
    go_wp2
    go_ret2
    exact ⟨rfl,rfl⟩
  ·rw [decide_eq_false (by omega),Bool.false_and] at hV2
   rw [hV2]
   clear hV2 hn
   go_enter Tryz.func60,Tryz.ntmps60
   go_wp2
   go_ret2
   exact ⟨rfl,rfl⟩
set_option maxRecDepth 100000 in
theorem zp29 (h:SpF w B q tv Z) (k:Int):Calls Tryz.prog 61 #[ptrV q,.int .i64 k] w fun e w'=>e=.returned (.tuple #[.int .i64 (Z.root k).1,.int .i64 (Z.root k).2])/\w=w':=by
 obtain ⟨-,-,d2⟩:=h.s.cells
 obtain ⟨V,hV⟩:∃ V,V=Z.root k:=⟨_,rfl⟩
 rw [<- hV]
 unfold SpM.root at hV
 unfold ptrV
 by_cases k0:k < 0
 ·rw [if_pos (.inl k0)] at hV
  rw [hV]
  clear hV h d2
  go_enter Tryz.func61,Tryz.ntmps61
  go_wp2
  go_ret2
  exact ⟨rfl,rfl⟩
 ·by_cases k7:7 < k
  ·rw [if_pos (.inr k7)] at hV
   rw [hV]
   clear hV h d2
   go_enter Tryz.func61,Tryz.ntmps61
   go_wp2
   go_ret2
   exact ⟨rfl,rfl⟩
  ·rw [if_neg (by omega)] at hV
   by_cases ht:Z.tk=[]
   ·obtain ⟨A,c,rfl⟩:=h.bare ht
    rw [if_pos ht] at hV
    rw [hV]
    clear hV h ht
    go_enter Tryz.func61,Tryz.ntmps61
    go_wp2
    go_ret2
    exact ⟨rfl,rfl⟩
   ·obtain ⟨n,g,c,hp,hn,n0,n1,rfl,hc⟩:=h.has ht
    rw [if_neg ht] at hV
    obtain ⟨j,rfl⟩:∃ j:Nat,k=j:=⟨k.toNat,by omega⟩
    have hr:=h.s.root (k:=j) (by omega)
    rw [Int.toNat_natCast] at hV
    obtain ⟨v,hv⟩:∃ v,v=Z.roots.getD j 0:=⟨_,rfl⟩
    rw [<- hv] at hr hV
    rw [hV]
    have j8:(j:Int) < 8:=by omega
    clear hV h ht hp hn hv
    go_enter Tryz.func61,Tryz.ntmps61
    go_wp2
    go_ret2
    exact ⟨rfl,rfl⟩
set_option maxRecDepth 100000 in
theorem zRtr (h:SpF w B q tv Z):Calls Tryz.prog 62 #[ptrV q] w fun e w'=>e=.returned (.tuple #[.int .i64 Z.free.1,.int .i64 Z.free.2])/\w=w':=by
 obtain ⟨d0,-,d2⟩:=h.s.cells
 obtain ⟨V,hV⟩:∃ V,V=Z.free:=⟨_,rfl⟩
 rw [<- hV]
 unfold SpM.free at hV
 unfold ptrV
 by_cases ht:Z.tk=[]
 ·obtain ⟨A,c,rfl⟩:=h.bare ht
  rw [if_pos ht] at hV
  rw [hV]
  clear hV h ht d0
  go_enter Tryz.func62,Tryz.ntmps62
  go_wp2
  go_ret2
  exact ⟨rfl,rfl⟩
 ·obtain ⟨n,g,c,hp,hn,n0,n1,rfl,hc⟩:=h.has ht
  rw [if_neg ht] at hV
  have hfr:Z.freeN=Z.frN n:=by unfold SpM.freeN SpM.frN;rw [hp,Int.toNat_natCast]
  rw [hfr] at hV
  rw [hp] at d0
  have H:=qh h
  have HN:=qh hn
  have HV:=qh hV
  obtain ⟨POST,hPOST⟩:∃ POST:Ending->World->Prop,POST=fun e w'=>e=.returned (.tuple #[.int .i64 V.1,.int .i64 V.2])/\w=w':=⟨_,rfl⟩
  rw [<- hPOST]
  have HPO:=qh (show ∀ F:Nat,F=Z.frN n->POST (.returned (.tuple #[.int .i64 (F:Int),.int .i64 0])) w from fun F hF=>by rw [hPOST,HV.out,hF];exact ⟨rfl,rfl⟩)
  clear h ht hp hn hfr hV hPOST
  go_enter Tryz.func62,Tryz.ntmps62
  go_wp2_with fail
  go_loopw [5,4] (fun i m wr=>∃ (k F:Nat),i=.int .i64 k/\m=.int .i64 (F:Int)/\wr=w/\k<=n/\F=Z.frN k/\F<=100000) (fun i _ _=>100000 - (intOf i).toNat)
  case atStart=>exact ⟨0,0,rfl,rfl,rfl,by omega,rfl,by omega⟩
  case round=>
   obtain ⟨k,F,rfl,rfl,rfl,hk,hF,hFl⟩:=hrel
   have HF:=qh hF
   clear hF
   by_cases hkn:k < n
   ·have i1:(k:Int) < (n:Int):=by omega
    have hb:=H.out.bit HN.out hkn
    have HF1:=qh (show Z.frN (k+1)=F+if Z.at k=true then 0 else 1 from by rw [zygi,HF.out])
    obtain ⟨b,hbb⟩:∃ b,b=Z.at k:=⟨_,rfl⟩
    rw [<- hbb] at hb HF1
    clear hbb
    cases b with
    | true=>
     rw [if_pos rfl] at HF1
     go_wp2
     go_roundw
     case rel=>exact ⟨k+1,F,by go_num,by go_num,by first | rfl | trivial,by omega,HF1.out.symm,hFl⟩
     case measure=>simp [intOf];omega
    | false=>
     rw [if_neg (by decide)] at HF1
     have j4:(F:Int)+1<=100001:=by omega
     go_wp2
     go_roundw
     case rel=>exact ⟨k+1,F+1,by go_num,by go_num,by first | rfl | trivial,by omega,HF1.out.symm,by rw [<- HF1.out];have:=zp22 Z (k+1);omega⟩
     case measure=>simp [intOf];omega
   ·have i1:¬ (k:Int) < (n:Int):=by omega
    have e:k=n:=by omega
    subst e
    go_wp2
    exact HPO.out F HF.out
end
def putS (l:List Value) (o:Nat) (vs:List Value):List Value:=l.take o ++ vs ++ l.drop (o+vs.length)
theorem zbhy {P:Program} {w:World} (t:TypeId) (g off:Nat) (cs old:Array Value) {te:TypeId} (hb:w.heap[g]?=some (.cells old te (0,0))) (hi:(P.info? t).map (·.size)=some cs.size) (hold:off+cs.size<=old.size) (h1:∀ v∈cs.toList,v.oneCell'=true) :
  (Instr.storeAt t (.pointer (some ⟨g,off,none⟩)) (.agg cs)).run P w=.ok () (w.setRow g (putS old.toList off cs.toList).toArray):=by
 have hst:=run_storeCells_at P g off te cs.toList 0 old w hb (by simpa using hold) h1
 cases hq:P.info? t with
 | none=>simp [hq] at hi
 | some i=>
  have hs:i.size=cs.size:=by simpa [hq] using hi
  simp [Instr.storeAt,Instr.sureAddr,storeVar,Value.cells,sizeOf,typeInfo,hq,hs,Sem.run_bind,Result.andThen,hst,putS]
theorem zuOP {P:Program} {ops:Array Oper} {Q:Exit->Act->World->Prop} {a:Act} {w:World} {rest:List Oper} {o:Oper} (hg:o.guard=none) (t:TypeId) (x y:Operand) (ho:o.op=.store t x y) (g off:Nat) (cs old:Array Value) (hx:a.eval x=.pointer (some ⟨g,off,none⟩)) (hy:a.eval y=.agg cs) {te:TypeId}
  (hb:w.heap[g]?=some (.cells old te (0,0))) (hi:(P.info? t).map (·.size)=some cs.size) (hold:off+cs.size<=old.size) (h1:∀ v∈cs.toList,v.oneCell'=true)
  (k:∀ w',w'.heap[g]?=some (.cells (putS old.toList off cs.toList).toArray te (0,0))->Kept (fun x=>x=g) w w'->wpList P ops Q rest (a.put o.dst undef) w'):wpList P ops Q (o :: rest) a w:=by
 refine zLKC hg ?_ (k _ (setRow_heap w g old _ te (0,0) hb) ((Kept.refl (fun x=>x=g) w).setRow (.inr rfl) _))
 have:=zbhy (P:=P) t g off cs old hb hi hold h1
 simp only [execOp,ho,hx,hy]
 rw [Sem.run_bind,this]
 rfl
section
variable {w w':World} {B q:Nat} {tv:Value} {Z:SpM}
theorem SpW.bitTo {g c n i:Nat} {b:Bool} (h:SpW w B q (.slice (some ⟨g,0,none⟩) n c) Z) (ho:OwnT w' B (.slice (some ⟨g,0,none⟩) n c) (Z.tk.set i b)) (hk:Kept (fun z=>z=g) w w'):SpW w' B q (.slice (some ⟨g,0,none⟩) n c) { Z with tk:=Z.tk.set i b }/\Kept (SpK q (.slice (some ⟨g,0,none⟩) n c)) w w':=by
 have hne:g≠q:=fun e=>h.ne (by rw [e];rfl)
 exact ⟨⟨hk.heap h.hb (fun e=>hne e.symm),ho,h.bq,h.ln⟩,hk.mono fun z _ e=>.inr (by rw [e];rfl)⟩
set_option maxRecDepth 100000 in
theorem zsqC (h:SpF w B q tv Z) (k p:Int):Calls Tryz.prog 59 #[ptrV q,.int .i64 k,.int .i64 p] w fun e w'=>e=.returned (.int .i64 (Z.setRoot k p).2)/\zIUt w B q tv (Z.setRoot k p).1 w':=by
 obtain ⟨d0,d1,d2⟩:=h.s.cells
 obtain ⟨POST,hPOST⟩:∃ POST:Ending->World->Prop,POST=fun e w'=>e=.returned (.int .i64 (Z.setRoot k p).2)/\zIUt w B q tv (Z.setRoot k p).1 w':=⟨_,rfl⟩
 rw [<- hPOST]
 have HPO:=qh (show ∀ Z' n w',Z.setRoot k p=(Z',n)->zIUt w B q tv Z' w'->POST (.returned (.int .i64 n)) w' from fun Z' n w' h1 h2=>by rw [hPOST,h1];exact ⟨rfl,h2⟩)
 have HV:=qh (show Z.setRoot k p=if Z.inT=false then (Z,7) else if k < 0\/7 < k\/p < 0\/Z.pages<=p then (Z,2) else if Z.tk=[] then (Z,4) else ({ Z with roots:=Z.roots.set k.toNat p },0) from rfl)
 have H:=qh h
 have HSP:=qh (zIUt.same h.s)
 unfold ptrV
 clear hPOST
 obtain ⟨T,hT⟩:∃ T,T=Z.inT:=⟨_,rfl⟩
 rw [<- hT] at d1
 have HTT:=qh hT.symm
 cases T with
 | false=>
  have HG:=qh (show Z.setRoot k p=(Z,7) from by rw [HV.out,if_pos HTT.out])
  clear h hT d0 d2
  go_enter Tryz.func59,Tryz.ntmps59
  go_wp2
  exact HPO.out _ _ _ HG.out HSP.out
 | true=>
  obtain ⟨n,hn⟩:∃ n,n=Z.pages:=⟨_,rfl⟩
  rw [<- hn] at d0
  have p0:=h.p0
  rw [<- hn] at p0
  by_cases hc:k < 0\/7 < k\/p < 0\/n<=p
  ·have HG:=qh (show Z.setRoot k p=(Z,2) from by rw [HV.out,if_neg (by rw [HTT.out];decide),if_pos (by rw [<- hn];exact hc)])
   clear h hT hn
   by_cases k0:k < 0
   ·go_enter Tryz.func59,Tryz.ntmps59
    go_wp2
    exact HPO.out _ _ _ HG.out HSP.out
   ·by_cases k7:7 < k
    ·go_enter Tryz.func59,Tryz.ntmps59
     go_wp2
     exact HPO.out _ _ _ HG.out HSP.out
    ·by_cases p1:p < 0
     ·go_enter Tryz.func59,Tryz.ntmps59
      go_wp2
      exact HPO.out _ _ _ HG.out HSP.out
     ·have p2:n<=p:=by omega
      clear hc
      go_enter Tryz.func59,Tryz.ntmps59
      go_wp2
      exact HPO.out _ _ _ HG.out HSP.out
  ·have k0:¬ k < 0:=by omega
   have k7:¬ 7 < k:=by omega
   have p1:¬ p < 0:=by omega
   have p2:¬ n<=p:=by omega
   by_cases ht:Z.tk=[]
   ·have HG:=qh (show Z.setRoot k p=(Z,4) from by rw [HV.out,if_neg (by rw [HTT.out];decide),if_neg (by rw [<- hn];exact hc),if_pos ht])
    obtain ⟨A,c,rfl⟩:=h.bare ht
    clear h hT hn hc ht
    go_enter Tryz.func59,Tryz.ntmps59
    go_wp2
    exact HPO.out _ _ _ HG.out HSP.out
   ·obtain ⟨m,g,c,hp,hm,m0,m1,rfl,hmc⟩:=h.has ht
    obtain ⟨j,rfl⟩:∃ j:Nat,k=j:=⟨k.toNat,by omega⟩
    have HG:=qh (show Z.setRoot j p=({ Z with roots:=Z.roots.set j p },0) from by rw [HV.out,if_neg (by rw [HTT.out];decide),if_neg (by rw [<- hn];exact hc),if_neg ht,Int.toNat_natCast])
    have j8:(j:Int) < 8:=by omega
    have HSZ:=qh (show 3+j < (spC Z (.slice (some ⟨g,0,none⟩) m c)).size from by rw [zvuy _ _ h.s.ln];omega)
    clear h hT hn hc ht hp hm
    go_enter Tryz.func59,Tryz.ntmps59
    go_wp2_with (refine z2q7 rfl _ _ _ rfl q (3+j) (.int .i64 p) (spC Z (.slice (some ⟨g,0,none⟩) m c)) rfl rfl H.out.s.hb (by kernel_rfl) HSZ.out rfl ?_)
    intro w2 hb2 hk2
    have HX:=qh (H.out.s.inR hb2 hk2)
    clear hb2 hk2
    go_wp2
    exact HPO.out _ _ _ HG.out ⟨_,HX.out.1,HX.out.2,.inl rfl⟩
set_option maxRecDepth 100000 in
theorem zbWI (h:SpF w B q tv Z) (r:Int):Calls Tryz.prog 58 #[ptrV q,.int .i64 r] w fun e w'=>e=.returned (.int .i64 (Z.give r).2)/\zIUt w B q tv (Z.give r).1 w':=by
 obtain ⟨d0,d1,d2⟩:=h.s.cells
 obtain ⟨POST,hPOST⟩:∃ POST:Ending->World->Prop,POST=fun e w'=>e=.returned (.int .i64 (Z.give r).2)/\zIUt w B q tv (Z.give r).1 w':=⟨_,rfl⟩
 rw [<- hPOST]
 have HPO:=qh (show ∀ Z' n w',Z.give r=(Z',n)->zIUt w B q tv Z' w'->POST (.returned (.int .i64 n)) w' from fun Z' n w' h1 h2=>by rw [hPOST,h1];exact ⟨rfl,h2⟩)
 have HV:=qh (show Z.give r=if Z.inT=false then (Z,7) else if Z.tk=[] then (Z,4) else if r < ownS Z.pages\/Z.pages<=r\/Z.at r.toNat=false then (Z,2) else ({ Z with tk:=Z.tk.set r.toNat false },0) from rfl)
 have H:=qh h
 have HSP:=qh (zIUt.same h.s)
 unfold ptrV
 clear hPOST
 obtain ⟨T,hT⟩:∃ T,T=Z.inT:=⟨_,rfl⟩
 rw [<- hT] at d1
 have HTT:=qh hT.symm
 cases T with
 | false=>
  have HG:=qh (show Z.give r=(Z,7) from by rw [HV.out,if_pos HTT.out])
  clear h hT d0 d2
  go_enter Tryz.func58,Tryz.ntmps58
  go_wp2
  exact HPO.out _ _ _ HG.out HSP.out
 | true=>
  by_cases ht:Z.tk=[]
  ·have HG:=qh (show Z.give r=(Z,4) from by rw [HV.out,if_neg (by rw [HTT.out];decide),if_pos ht])
   obtain ⟨A,c,rfl⟩:=h.bare ht
   clear h hT ht d0
   go_enter Tryz.func58,Tryz.ntmps58
   go_wp2
   exact HPO.out _ _ _ HG.out HSP.out
  ·obtain ⟨n,g,c,hp,hm,m0,m1,rfl,hmc⟩:=h.has ht
   rw [hp] at d0
   obtain ⟨own,hown⟩:∃ own,own=ownS n:=⟨_,rfl⟩
   have HWN:=qh hown
   have HOW:=qh (zuKH (n:Int) (by omega) (by omega))
   rw [<- hown] at HOW
   have o2:2<=own:=by rw [hown];unfold ownS;omega
   have HN:=qh hm
   clear h hT hm hown
   by_cases c0:r < own
   ·have HG:=qh (show Z.give r=(Z,2) from by rw [HV.out,if_neg (by rw [HTT.out];decide),if_neg ht,if_pos (.inl (by rw [hp,<- HWN.out];exact c0))])
    clear ht hp
    go_enter Tryz.func58,Tryz.ntmps58
    go_wp2_with fail
    refine (HOW.out _).mono ?_
    rintro e wx ⟨rfl,rfl⟩
    go_wp2
    exact HPO.out _ _ _ HG.out HSP.out
   ·by_cases c1:(n:Int)<=r
    ·have HG:=qh (show Z.give r=(Z,2) from by rw [HV.out,if_neg (by rw [HTT.out];decide),if_neg ht,if_pos (.inr (.inl (by rw [hp];exact c1)))])
     clear ht hp
     go_enter Tryz.func58,Tryz.ntmps58
     go_wp2_with fail
     refine (HOW.out _).mono ?_
     rintro e wx ⟨rfl,rfl⟩
     go_wp2
     exact HPO.out _ _ _ HG.out HSP.out
    ·obtain ⟨k,rfl⟩:∃ k:Nat,r=k:=⟨r.toNat,by omega⟩
     have hb:=H.out.bit HN.out (i:=k) (by omega)
     have i1:(k:Int) < (n:Int):=by omega
     obtain ⟨b,hbb⟩:∃ b,b=Z.at k:=⟨_,rfl⟩
     rw [<- hbb] at hb
     cases b with
     | false=>
      have HG:=qh (show Z.give k=(Z,2) from by rw [HV.out,if_neg (by rw [HTT.out];decide),if_neg ht,if_pos (.inr (.inr (by rw [Int.toNat_natCast];exact hbb.symm)))])
      clear ht hp hbb
      go_enter Tryz.func58,Tryz.ntmps58
      go_wp2_with fail
      refine (HOW.out _).mono ?_
      rintro e wx ⟨rfl,rfl⟩
      go_wp2
      exact HPO.out _ _ _ HG.out HSP.out
     | true=>
      have HG:=qh (show Z.give k=({ Z with tk:=Z.tk.set k false },0) from by rw [HV.out,if_neg (by rw [HTT.out];decide),if_neg ht,if_neg (by
       rintro (x | x | x)
       ·rw [hp,<- HWN.out] at x;omega
       ·rw [hp] at x;omega
       ·rw [Int.toNat_natCast,<- hbb] at x;cases x),Int.toNat_natCast])
      have HO:=qh (show OwnT w B (.slice (some ⟨g,0,none⟩) Z.tk.length c) Z.tk from by rw [HN.out];exact H.out.s.ow)
      clear ht hp hbb
      go_enter Tryz.func58,Tryz.ntmps58
      go_wp2_with fail
      refine (HOW.out _).mono ?_
      rintro e wx ⟨rfl,rfl⟩
      go_wp2_with (refine z2mx rfl _ _ _ rfl (by kernel_rfl) B g c Z.tk k false rfl rfl HO.out (by rw [HN.out];omega) ?_)
      intro w2 ho2 hk2
      rw [HN.out] at ho2
      have HX:=qh (H.out.s.bitTo ho2 hk2)
      clear ho2 hk2
      go_wp2
      exact HPO.out _ _ _ HG.out ⟨_,HX.out.1,HX.out.2,.inl rfl⟩
set_option maxRecDepth 100000 in
theorem z36R (h:SpF w B q tv Z):Calls Tryz.prog 57 #[ptrV q] w fun e w'=>e=.returned (.tuple #[.int .i64 Z.take.2.1,.int .i64 Z.take.2.2])/\zIUt w B q tv Z.take.1 w':=by
 obtain ⟨d0,d1,d2⟩:=h.s.cells
 obtain ⟨POST,hPOST⟩:∃ POST:Ending->World->Prop,POST=fun e w'=>e=.returned (.tuple #[.int .i64 Z.take.2.1,.int .i64 Z.take.2.2])/\zIUt w B q tv Z.take.1 w':=⟨_,rfl⟩
 rw [<- hPOST]
 have HPO:=qh (show ∀ Z' m n w',Z.take=(Z',m,n)->zIUt w B q tv Z' w'->POST (.returned (.tuple #[.int .i64 m,.int .i64 n])) w' from fun Z' m n w' h1 h2=>by rw [hPOST,h1];exact ⟨rfl,h2⟩)
 have HV:=qh (show Z.take=(if Z.inT=false then (Z,0,7) else if Z.tk=[] then (Z,0,4) else
  match Z.freeQ with
  | none=>(Z,0,5)
  | some q=>({ Z with tk:=Z.tk.set q true },((q:Nat):Int),0):SpM×Int×Int) from rfl)
 have H:=qh h
 have HSP:=qh (zIUt.same h.s)
 unfold ptrV
 clear hPOST
 obtain ⟨T,hT⟩:∃ T,T=Z.inT:=⟨_,rfl⟩
 rw [<- hT] at d1
 have HTT:=qh hT.symm
 cases T with
 | false=>
  have HG:=qh (show Z.take=(Z,0,7) from by rw [HV.out,if_pos HTT.out])
  clear h hT d0 d2
  go_enter Tryz.func57,Tryz.ntmps57
  go_wp2
  exact HPO.out _ _ _ _ HG.out HSP.out
 | true=>
  by_cases ht:Z.tk=[]
  ·have HG:=qh (show Z.take=(Z,0,4) from by rw [HV.out,if_neg (by rw [HTT.out];decide),if_pos ht])
   obtain ⟨A,c,rfl⟩:=h.bare ht
   clear h hT ht d0
   go_enter Tryz.func57,Tryz.ntmps57
   go_wp2
   exact HPO.out _ _ _ _ HG.out HSP.out
  ·obtain ⟨n,g,c,hp,hm,m0,m1,rfl,hmc⟩:=h.has ht
   rw [hp] at d0
   have HN:=qh hm
   have HP:=qh hp
   have HG1:=qh (show ∀ k,k < n->(∀ r,r < k->Z.at r=true)->Z.at k=false->Z.take=({ Z with tk:=Z.tk.set k true },((k:Nat):Int),0) from fun k hk h1 h2=>by
    rw [HV.out,if_neg (by rw [HTT.out];decide),if_neg ht,SpM.freeQ_at (by rw [hp];omega) h1 h2])
   have HG2:=qh (show (∀ r,r < n->Z.at r=true)->Z.take=(Z,0,5) from fun h1=>by
    rw [HV.out,if_neg (by rw [HTT.out];decide),if_neg ht,SpM.freeQ_no (by rw [hp,Int.toNat_natCast];exact h1)])
   have HO:=qh (show OwnT w B (.slice (some ⟨g,0,none⟩) Z.tk.length c) Z.tk from by rw [HN.out];exact H.out.s.ow)
   clear h hT hm hp ht HV
   go_enter Tryz.func57,Tryz.ntmps57
   go_wp2_with fail
   go_loopw [4] (fun i wr=>∃ k:Nat,i=.int .i64 k/\wr=w/\k<=n/\∀ r,r < k->Z.at r=true) (fun i _=>100000 - (intOf i).toNat)
   case atStart=>exact ⟨0,rfl,rfl,by omega,fun r hr=>by omega⟩
   case round=>
    obtain ⟨k,rfl,rfl,hk,hF⟩:=hrel
    have HF:=qh hF
    clear hF
    by_cases hkn:k < n
    ·have i1:(k:Int) < (n:Int):=by omega
     have hb:=H.out.bit HN.out hkn
     obtain ⟨b,hbb⟩:∃ b,b=Z.at k:=⟨_,rfl⟩
     rw [<- hbb] at hb
     have HBB:=qh hbb
     clear hbb
     cases b with
     | true=>
      go_wp2
      go_roundw
      case rel=>exact ⟨k+1,by go_num,by first | rfl | trivial,by omega,fun r hr=>by
       by_cases e:r=k
       ·rw [e];exact HBB.out.symm
       ·exact HF.out r (by omega)⟩
      case measure=>simp [intOf];omega
     | false=>
      have HG:=qh (HG1.out k hkn HF.out HBB.out.symm)
      go_wp2_with (refine z2mx rfl _ _ _ rfl (by kernel_rfl) B g c Z.tk k true rfl rfl HO.out (by rw [HN.out];omega) ?_)
      intro w2 ho2 hk2
      rw [HN.out] at ho2
      have HX:=qh (H.out.s.bitTo ho2 hk2)
      clear ho2 hk2
      go_wp2
      exact HPO.out _ _ _ _ HG.out ⟨_,HX.out.1,HX.out.2,.inl rfl⟩
    ·have i1:¬ (k:Int) < (n:Int):=by omega
     have HG:=qh (HG2.out fun r hr=>HF.out r (by omega))
     go_wp2
     exact HPO.out _ _ _ _ HG.out HSP.out
theorem bRt0 (wz:World):(Instr.build 58 #[]).run Tryz.prog wz=.ok (.agg #[.int .i64 0,.int .i64 0,.int .i64 0,.int .i64 0,.int .i64 0,.int .i64 0,.int .i64 0,.int .i64 0]) wz:=run_build wz _ _ _ (by kernel_rfl)
theorem zyGN:(Tryz.prog.info? 58).map (·.size)=some 8:=by kernel_rfl
theorem zW57 (Z:SpM) (tv:Value) (h:Z.roots.length=8):(putS (spC Z tv).toList 3 [.int .i64 0,.int .i64 0,.int .i64 0,.int .i64 0,.int .i64 0,.int .i64 0,.int .i64 0,.int .i64 0]).toArray=spC { Z with roots:=List.replicate 8 0 } tv:=by
 have:(spC Z tv).toList.drop 11=[]:=List.drop_eq_nil_of_le (by rw [Array.length_toList,zvuy _ _ h];exact Nat.le_refl _)
 unfold putS
 rw [show 3+[Value.int .i64 0,.int .i64 0,.int .i64 0,.int .i64 0,.int .i64 0,.int .i64 0,.int .i64 0,.int .i64 0].length=11 from rfl,this]
 rfl
theorem zITP {n:Nat} {own:Nat} (h:ownS n=own):fillT n own=(List.range (n:Int).toNat).map fun (q:Nat)=>decide ((q:Int) < ownS (n:Int)):=by
 unfold fillT
 rw [Int.toNat_natCast,h]
 exact List.map_congr_left fun a _=>decide_eq_decide.2 (by omega)
set_option maxRecDepth 100000 in
set_option maxHeartbeats 800000 in
theorem zbFT (h:SpF w B q tv Z):Calls Tryz.prog 56 #[ptrV q] w fun e w'=>e=.returned (.int .i64 Z.format.2)/\zIUt w B q tv Z.format.1 w':=by
 obtain ⟨d0,d1,-⟩:=h.s.cells
 obtain ⟨POST,hPOST⟩:∃ POST:Ending->World->Prop,POST=fun e w'=>e=.returned (.int .i64 Z.format.2)/\zIUt w B q tv Z.format.1 w':=⟨_,rfl⟩
 rw [<- hPOST]
 have HPO:=qh (show ∀ Z' n w',Z.format=(Z',n)->zIUt w B q tv Z' w'->POST (.returned (.int .i64 n)) w' from fun Z' n w' h1 h2=>by rw [hPOST,h1];exact ⟨rfl,h2⟩)
 have HV:=qh (show Z.format=if Z.inT=false then (Z,7) else if Z.pages<=ownS Z.pages then (Z,5) else ({ Z with tk:=(List.range Z.pages.toNat).map fun (q:Nat)=>decide ((q:Int) < ownS Z.pages),roots:=List.replicate 8 0 },0) from rfl)
 have H:=qh h
 have HSP:=qh (zIUt.same h.s)
 unfold ptrV
 clear hPOST
 obtain ⟨T,hT⟩:∃ T,T=Z.inT:=⟨_,rfl⟩
 rw [<- hT] at d1
 have HTT:=qh hT.symm
 cases T with
 | false=>
  have HG:=qh (show Z.format=(Z,7) from by rw [HV.out,if_pos HTT.out])
  clear h hT d0
  go_enter Tryz.func56,Tryz.ntmps56
  go_wp2
  exact HPO.out _ _ _ HG.out HSP.out
 | true=>
  have p0:=h.p0
  have p1:=h.p1
  obtain ⟨n,hp⟩:∃ n:Nat,Z.pages=n:=⟨Z.pages.toNat,by omega⟩
  rw [hp] at d0 p0 p1
  obtain ⟨o1,o2,o3⟩:=zju9 p0 p1
  have HOW:=qh (zuKH (n:Int) p0 p1)
  obtain ⟨own,hown⟩:∃ own:Nat,ownS n=own:=⟨(ownS n).toNat,by omega⟩
  have HG:=qh (show Z.format=({ Z with tk:=fillT n own,roots:=List.replicate 8 0 },0) from by rw [HV.out,if_neg (by rw [HTT.out];decide),if_neg (by rw [hp];omega),zITP hown,hp])
  rw [hown] at HOW o3
  have h3:¬ (n:Int)<=(own:Int):=by omega
  have HSZ:=qh (fun (X:SpM) (u:Value) (hx:X.roots.length=8)=>zvuy X u hx)
  have HLN:=qh h.s.ln
  have HBL:=qh (show B<=w.heap.size from Nat.le_trans h.s.bq (Nat.le_of_lt (zvKu h.s.hb)))
  have hB0:=bRt0
  clear h hT hp o1 o2 hown HV
  go_enter Tryz.func56,Tryz.ntmps56
  go_wp2_with fail
  refine (HOW.out _).mono ?_
  rintro e wx ⟨rfl,rfl⟩
  go_wp2_with (refine zNq5 rfl _ _ rfl n rfl rfl (by omega) ?_)
  intro g w2 ho2 hk2
  have HO2:=qh ho2
  have HS2:=qh (H.out.s.keep0 hk2)
  have HK2:=qh hk2
  have HGL:=qh (show w.heap.size<=g from (ho2.lt (x:=g) rfl).1)
  clear ho2 hk2
  go_wp2_with (refine z2q7 rfl _ _ _ rfl q 2 (.slice (some ⟨g,0,none⟩) n n) (spC Z tv) rfl rfl HS2.out.hb (by kernel_rfl) (by rw [HSZ.out _ _ HLN.out];decide) rfl ?_)
  intro w3 hb3 hk3
  have HS3:=qh (show SpW w3 B q (.slice (some ⟨g,0,none⟩) n n) { Z with tk:=fillT n 0 } from ⟨by rw [hb3,spC_2];rfl,by
   have:=(HO2.out.low HBL.out).keep hk3 (fun z hz e=>by
    have e1:g=z:=by simpa [Value.ownBlock] using hz
    have:=HGL.out
    have:=zvKu H.out.s.hb
    omega)
   rw [<- ztJ3] at this
   exact this,H.out.s.bq,HLN.out⟩)
  have HK3:=qh (show Kept (SpK q tv) w w3 from (HK2.out.mono (fun _ _ h=>h.elim)).trans (hk3.mono (T:=SpK q tv) fun z _ e=>.inl e) (fun _ _ h=>h))
  clear hb3 hk3 HO2 HS2 HK2 d0 d1
  go_wp2_with fail
  go_loopw [4] (fun i wr=>∃ k:Nat,i=.int .i64 k/\k<=own/\SpW wr B q (.slice (some ⟨g,0,none⟩) n n) { Z with tk:=fillT n k }/\Kept (SpK q tv) w wr) (fun i _=>100000 - (intOf i).toNat)
  case atStart=>exact ⟨0,rfl,by omega,HS3.out,HK3.out⟩
  case round=>
   clear HS3 HK3
   obtain ⟨k,rfl,hk,h4,h5⟩:=hrel
   have HS4:=qh h4
   have HK4:=qh h5
   have d2:=h4.cells.2.2
   clear h4 h5
   by_cases hko:k < own
   ·have i1:(k:Int) < (own:Int):=by omega
    have i2:(k:Int) < (n:Int):=by omega
    have HO4:=qh (show OwnT wr B (.slice (some ⟨g,0,none⟩) (fillT n k).length n) (fillT n k) from by rw [zdf7];exact HS4.out.ow)
    go_wp2_with (refine z2mx rfl _ _ _ rfl (by kernel_rfl) B g n (fillT n k) k true rfl rfl HO4.out (by rw [zdf7];omega) ?_)
    intro w5 ho5 hk5
    rw [zdf7] at ho5
    have HX:=qh (HS4.out.bitTo ho5 hk5)
    have HK5:=qh (show Kept (SpK q tv) w w5 from HK4.out.trans HX.out.2 (fun z hz e=>by
     rcases e with e | e
     ·exact .inl e
     ·have e1:g=z:=by simpa [Value.ownBlock] using e
      have:=HGL.out
      omega))
    clear ho5 hk5
    go_wp2
    go_roundw
    case rel=>exact ⟨k+1,by go_num,by omega,by have:=HX.out.1;dsimp only at this;rw [zGds] at this;exact this,HK5.out⟩
    case measure=>simp [intOf];omega
   ·have i1:¬ (k:Int) < (own:Int):=by omega
    have e:k=own:=by omega
    subst e
    go_wp2_with (refine zuOP rfl 58 _ _ rfl q 3 #[.int .i64 0,.int .i64 0,.int .i64 0,.int .i64 0,.int .i64 0,.int .i64 0,.int .i64 0,.int .i64 0] (spC { Z with tk:=fillT n k } (.slice (some ⟨g,0,none⟩) n n)) rfl rfl HS4.out.hb zyGN (by rw [HSZ.out _ _ HS4.out.ln];decide) (by simp [Value.oneCell']) ?_)
    intro w5 hb5 hk5
    have HS5:=qh (show SpW w5 B q (.slice (some ⟨g,0,none⟩) n n) { Z with tk:=fillT n k,roots:=List.replicate 8 0 } from ⟨hb5.trans (by rw [zW57 _ _ HS4.out.ln]),HS4.out.ow.keep hk5 (fun z hz e=>HS4.out.ne (by rw [<- e];exact hz)),H.out.s.bq,rfl⟩)
    have HK5:=qh (show Kept (SpK q tv) w w5 from HK4.out.trans (hk5.mono (T:=SpK q tv) fun z _ e=>.inl e) (fun _ _ h=>h))
    clear hb5 hk5
    go_wp2
    exact HPO.out _ _ _ HG.out ⟨_,HS5.out,HK5.out,.inr fun x hx=>by
     have e1:g=x:=by simpa [Value.ownBlock] using hx
     rw [<- e1];exact HGL.out⟩
end
section
variable {w0 w w' w1 w2:World} {x x':BAdr} {S S' S1:BkA} {g g' B q r bk qs qy q':Nat} {tv ts ty t':Value} {Z Z' Y Y':SpM}
theorem SpW.notK (hb:BkW w x S g) (h:SpW w B q tv Z) {z:Nat} (hz:SpK q tv z):¬ x.K z:=by
 rcases hz with rfl | hz
 ·exact hb.notK ⟨_,_,h.hb⟩ (by decide) (by decide) (by decide) (by decide) (by decide) (by decide) (by decide) (by decide)
 ·rcases h.ow.form with ⟨rfl,_⟩ | ⟨g,cap,rfl,_,⟨cur,hc,_⟩,_⟩
  ·cases hz
  ·have e:g=z:=by simpa [Value.ownBlock] using hz
   subst e
   exact hb.notK ⟨_,_,hc⟩ (by decide) (by decide) (by decide) (by decide) (by decide) (by decide) (by decide) (by decide)
theorem SpW.notT (h:SpW w B q tv Z) {y:Nat} {t:TypeId} (hx:IsT w y t) (t1:t≠60) (t2:t≠4):¬ SpK q tv y:=by
 rintro (rfl | hz)
 ·exact hx.ne ⟨_,_,h.hb⟩ t1 rfl
 ·rcases h.ow.form with ⟨rfl,_⟩ | ⟨g,cap,rfl,_,⟨cur,hc,_⟩,_⟩
  ·cases hz
  ·have e:g=y:=by simpa [Value.ownBlock] using hz
   subst e
   exact hx.ne ⟨_,_,hc⟩ t2 rfl
structure RgM (w0 w:World) (r bk:Nat) (x:BAdr) (S:BkA) (g qs:Nat) (ts:Value) (Z:SpM) (qy:Nat) (ty:Value) (Y:SpM):Prop where
 hr:w.heap[r]?=some (.cells #[ptrV bk,ptrV qs,ptrV qy] 63 (0,0))
 lr:w0.heap.size<=r
 b:Bk w0 w x S g
 bk:x.bk=bk
 z:SpW w w0.heap.size qs ts Z
 y:SpW w w0.heap.size qy ty Y
 dis:∀ u,SpK qs ts u->¬ SpK qy ty u
theorem RgM.rK (h:RgM w0 w r bk x S g qs ts Z qy ty Y):¬ x.K r:=h.b.b.notK ⟨_,_,h.hr⟩ (by decide) (by decide) (by decide) (by decide) (by decide) (by decide) (by decide) (by decide)
theorem RgM.rS (h:RgM w0 w r bk x S g qs ts Z qy ty Y):¬ SpK qs ts r:=h.z.notT ⟨_,_,h.hr⟩ (by decide) (by decide)
theorem RgM.rY (h:RgM w0 w r bk x S g qs ts Z qy ty Y):¬ SpK qy ty r:=h.y.notT ⟨_,_,h.hr⟩ (by decide) (by decide)
theorem RgM.book (h:RgM w0 w r bk x S g qs ts Z qy ty Y) (ht:BTo w x w' x') (hb:BkW w' x' S' g'):RgM w0 w' r bk x' S' g' qs ts Z qy ty Y:=
 ⟨ht.k.heap h.hr h.rK,h.lr,h.b.to ht hb,ht.fix.bk.trans h.bk,h.z.keep ht.k (fun _ hu=>SpW.notK h.b.b h.z hu),h.y.keep ht.k (fun _ hu=>SpW.notK h.b.b h.y hu),h.dis⟩
theorem RgM.keep0 (h:RgM w0 w r bk x S g qs ts Z qy ty Y) (hk:Kept (fun _=>False) w w'):RgM w0 w' r bk x S g qs ts Z qy ty Y:=
 ⟨hk.heap h.hr id,h.lr,h.b.keep0 hk,h.bk,h.z.keep0 hk,h.y.keep0 hk,h.dis⟩
theorem RgM.space (h:RgM w0 w r bk x S g qs ts Z qy ty Y) (hp:zIUt w w0.heap.size qs ts Z' w'):∃ ts',RgM w0 w' r bk x S g qs ts' Z' qy ty Y:=by
 obtain ⟨ts',p1,p2,p3⟩:=hp
 refine ⟨ts',p2.heap h.hr h.rS,h.lr,h.b.keep p2 (fun u hu=>(h.z.lt hu).1) (fun u hu e=>SpW.notK h.b.b h.z e hu),h.bk,p1,h.y.keep p2 (fun u hu e=>h.dis u e hu),fun u hu hy=>?_⟩
 rcases hu with rfl | hu
 ·exact h.dis _ (.inl rfl) hy
 ·rcases p3 with e | e
  ·exact h.dis u (.inr (by rw [<- e];exact hu)) hy
  ·have:=e u hu
   have:=(h.y.lt hy).2
   omega
theorem RgM.setY (h:RgM w0 w r bk x S g qs ts Z qy ty Y) (hs:SpW w1 w.heap.size q' t' Y') (hk:Kept (fun _=>False) w w1) (hb:w2.heap[r]?=some (.cells (#[ptrV bk,ptrV qs,ptrV qy].setIfInBounds 2 (ptrV q')) 63 (0,0))) (hk2:Kept (fun z=>z=r) w1 w2):RgM w0 w2 r bk x S g qs ts Z q' t' Y':=by
 have h1:=h.keep0 hk
 have hn:=hs.notT ⟨_,_,h1.hr⟩ (by decide) (by decide)
 refine ⟨hb,h.lr,h1.b.keep hk2 (fun u hu=>by rw [hu];exact h.lr) (fun u hu e=>h.rK (by rw [<- e];exact hu)),h.bk,h1.z.keep hk2 (fun u hu e=>h.rS (by rw [<- e];exact hu)),(hs.low h.b.k.size).keep hk2 (fun u hu e=>hn (by rw [<- e];exact hu)),fun u hu hy=>?_⟩
 have:=(h.z.lt hu).2
 have:=(hs.lt hy).1
 omega
theorem RgM.setS (h:RgM w0 w r bk x S g qs ts Z qy ty Y) (hs:SpW w1 w.heap.size q' t' Z') (hk:Kept (fun _=>False) w w1) (hb:w2.heap[r]?=some (.cells (#[ptrV bk,ptrV qs,ptrV qy].setIfInBounds 1 (ptrV q')) 63 (0,0))) (hk2:Kept (fun z=>z=r) w1 w2):RgM w0 w2 r bk x S g q' t' Z' qy ty Y:=by
 have h1:=h.keep0 hk
 have hn:=hs.notT ⟨_,_,h1.hr⟩ (by decide) (by decide)
 refine ⟨hb,h.lr,h1.b.keep hk2 (fun u hu=>by rw [hu];exact h.lr) (fun u hu e=>h.rK (by rw [<- e];exact hu)),h.bk,(hs.low h.b.k.size).keep hk2 (fun u hu e=>hn (by rw [<- e];exact hu)),h1.y.keep hk2 (fun u hu e=>h.rY (by rw [<- e];exact hu)),fun u hu hy=>?_⟩
 have:=(h.y.lt hy).2
 have:=(hs.lt hu).1
 omega
theorem RgM.cells (h:RgM w0 w r bk x S g qs ts Z qy ty Y):w.cell? ⟨r,0,none⟩=some (.pointer (some ⟨bk,0,none⟩))/\w.cell? ⟨r,1,none⟩=some (.pointer (some ⟨qs,0,none⟩))/\w.cell? ⟨r,2,none⟩=some (.pointer (some ⟨qy,0,none⟩)):=⟨zcjX h.hr rfl,zcjX h.hr rfl,zcjX h.hr rfl⟩
theorem RgM.inT (h:RgM w0 w r bk x S g qs ts Z qy ty Y) (b:Bool) (hb:w'.heap[qs]?=some (.cells ((spC Z ts).setIfInBounds 1 (.bool b)) 60 (0,0))) (hk:Kept (fun z=>z=qs) w w'):∃ ts',RgM w0 w' r bk x S g qs ts' { Z with inT:=b } qy ty Y:=by
 obtain ⟨h1,h2⟩:=h.z.in1 hb hk
 exact h.space ⟨ts,h1,h2,.inl rfl⟩
theorem zJ54 (h:SpW w B q tv Z):1 < (spC Z tv).size:=by rw [zvuy _ _ h.ln];decide
def zV1B (w0:World) (r bk:Nat) (S1:BkA) (g:Nat) (Z' Y':SpM) (e:Ending) (w':World):Prop:=e=.returned (.bool true)/\∃ x' qs' ts' qy' ty',RgM w0 w' r bk x' S1 g qs' ts' Z' qy' ty' Y'
set_option maxRecDepth 100000 in
theorem zx4B (h:RgM w0 w r bk x S g qs ts Z qy ty Y) (hT:Z.inT=false) (hb:S.begin=(S1,0)) (hl:Z.tk.length<=1000000) (hg:g<=1000000000) (op:Int):Calls Tryz.prog 55 #[ptrV r,.int .i64 op] w (zV1B w0 r bk S1 (g+1) { Z with inT:=true } Z):=by
 obtain ⟨POST,hPOST⟩:∃ POST,POST=zV1B w0 r bk S1 (g+1) { Z with inT:=true } Z:=⟨_,rfl⟩
 rw [<- hPOST]
 have HPO:=qh (show ∀ w' x' qs' ts' qy' ty',RgM w0 w' r bk x' S1 (g+1) qs' ts' { Z with inT:=true } qy' ty' Z->POST (.returned (.bool true)) w' from fun w' x' qs' ts' qy' ty' h=>by rw [hPOST];exact ⟨rfl,_,_,_,_,_,h⟩)
 obtain ⟨c0,c1,c2⟩:=h.cells
 have d1:=h.z.cells.2.1
 rw [hT] at d1
 have H:=qh h
 have HL:=qh hl
 have HBG:=qh hb
 unfold ptrV
 clear h hPOST hT hl hb
 go_enter Tryz.func55,Tryz.ntmps55
 go_wp2_with fail
 have hc:=zdHN H.out.z HL.out
 unfold ptrV at hc
 refine hc.mono ?_
 rintro e w1 ⟨q1,t1,rfl,hs1,hk1⟩
 have HS1:=qh hs1
 have HK1:=qh hk1
 have H1:=qh (H.out.keep0 hk1)
 clear hc hs1 hk1 c0 c1 c2 d1
 go_wp2_with (refine z2q7 rfl _ _ _ rfl r 2 (ptrV q1) #[ptrV bk,ptrV qs,ptrV qy] rfl rfl H1.out.hr (by kernel_rfl) (by show 2 < 3;decide) rfl ?_)
 intro w2 hb2 hk2
 have H2:=qh (H.out.setY HS1.out HK1.out hb2 hk2)
 obtain ⟨c0,c1,c2⟩:=H2.out.cells
 clear hb2 hk2 HS1 HK1 H1 H
 go_wp2_with (refine z2q7 rfl _ _ _ rfl qs 1 (.bool true) (spC Z ts) rfl rfl H2.out.z.hb (by kernel_rfl) (zJ54 H2.out.z) rfl ?_)
 intro w3 hb3 hk3
 obtain ⟨ts3,h3⟩:=H2.out.inT true hb3 hk3
 have H3:=qh h3
 clear h3 hb3 hk3 c0 c1 c2 H2
 obtain ⟨c0,c1,c2⟩:=H3.out.cells
 go_wp2_with fail
 have hb:=zvJ4 H3.out.b.b hg
 rw [HBG.out] at hb
 unfold ptrV at hb
 rw [H3.out.bk] at hb
 refine hb.mono ?_
 rintro e w4 ⟨rfl,x4,h1,h2⟩
 have H4:=qh (H3.out.book h1 h2)
 clear h1 h2 hb
 go_wp2
 exact HPO.out _ _ _ _ _ _ H4.out
set_option maxRecDepth 100000 in
theorem zMZC (h:RgM w0 w r bk x S g qs ts Z qy ty Y) (hT:Z.inT=true) (hb:S.commit=(S1,0)) (hg:g<=1000000000):Calls Tryz.prog 55 #[ptrV r,.int .i64 0] w (zV1B w0 r bk S1 (g+1) { Z with inT:=false } Y):=by
 obtain ⟨POST,hPOST⟩:∃ POST,POST=zV1B w0 r bk S1 (g+1) { Z with inT:=false } Y:=⟨_,rfl⟩
 rw [<- hPOST]
 have HPO:=qh (show ∀ w' x' qs' ts' qy' ty',RgM w0 w' r bk x' S1 (g+1) qs' ts' { Z with inT:=false } qy' ty' Y->POST (.returned (.bool true)) w' from fun w' x' qs' ts' qy' ty' h=>by rw [hPOST];exact ⟨rfl,_,_,_,_,_,h⟩)
 obtain ⟨c0,c1,c2⟩:=h.cells
 have d1:=h.z.cells.2.1
 rw [hT] at d1
 have H:=qh h
 have HBG:=qh hb
 unfold ptrV
 clear h hPOST hT hb
 go_enter Tryz.func55,Tryz.ntmps55
 go_wp2_with (refine z2q7 rfl _ _ _ rfl qs 1 (.bool false) (spC Z ts) rfl rfl H.out.z.hb (by kernel_rfl) (zJ54 H.out.z) rfl ?_)
 intro w3 hb3 hk3
 obtain ⟨ts3,h3⟩:=H.out.inT false hb3 hk3
 have H3:=qh h3
 clear h3 hb3 hk3 c0 c1 c2 d1 H
 obtain ⟨c0,c1,c2⟩:=H3.out.cells
 go_wp2_with fail
 have hb:=zlbX H3.out.b.b hg
 rw [HBG.out] at hb
 unfold ptrV at hb
 rw [H3.out.bk] at hb
 refine hb.mono ?_
 rintro e w4 ⟨rfl,x4,h1,h2⟩
 have H4:=qh (H3.out.book h1 h2)
 clear h1 h2 hb
 go_wp2
 exact HPO.out _ _ _ _ _ _ H4.out
set_option maxRecDepth 100000 in
theorem zCRo (h:RgM w0 w r bk x S g qs ts Z qy ty Y) (hT:Z.inT=true) (hb:S.abort=(S1,0)) (hl:Y.tk.length<=1000000) (hg:g<=1000000000):Calls Tryz.prog 55 #[ptrV r,.int .i64 1] w (zV1B w0 r bk S1 (g+1) Y Y):=by
 obtain ⟨POST,hPOST⟩:∃ POST,POST=zV1B w0 r bk S1 (g+1) Y Y:=⟨_,rfl⟩
 rw [<- hPOST]
 have HPO:=qh (show ∀ w' x' qs' ts' qy' ty',RgM w0 w' r bk x' S1 (g+1) qs' ts' Y qy' ty' Y->POST (.returned (.bool true)) w' from fun w' x' qs' ts' qy' ty' h=>by rw [hPOST];exact ⟨rfl,_,_,_,_,_,h⟩)
 obtain ⟨c0,c1,c2⟩:=h.cells
 have d1:=h.z.cells.2.1
 rw [hT] at d1
 have H:=qh h
 have HL:=qh hl
 have HBG:=qh hb
 unfold ptrV
 clear h hPOST hT hl hb
 go_enter Tryz.func55,Tryz.ntmps55
 go_wp2_with (refine z2q7 rfl _ _ _ rfl qs 1 (.bool false) (spC Z ts) rfl rfl H.out.z.hb (by kernel_rfl) (zJ54 H.out.z) rfl ?_)
 intro w3 hb3 hk3
 obtain ⟨ts3,h3⟩:=H.out.inT false hb3 hk3
 have H3:=qh h3
 clear h3 hb3 hk3 c0 c1 c2 d1 H
 obtain ⟨c0,c1,c2⟩:=H3.out.cells
 go_wp2_with fail
 have hc:=zdHN H3.out.y HL.out
 unfold ptrV at hc
 refine hc.mono ?_
 rintro e w4 ⟨q1,t1,rfl,hs1,hk1⟩
 have HS1:=qh hs1
 have HK1:=qh hk1
 have H4:=qh (H3.out.keep0 hk1)
 clear hc hs1 hk1 c0 c1 c2
 go_wp2_with (refine z2q7 rfl _ _ _ rfl r 1 (ptrV q1) #[ptrV bk,ptrV qs,ptrV qy] rfl rfl H4.out.hr (by kernel_rfl) (by show 1 < 3;decide) rfl ?_)
 intro w5 hb5 hk5
 have H5:=qh (H3.out.setS HS1.out HK1.out hb5 hk5)
 clear hb5 hk5 HS1 HK1 H4 H3
 obtain ⟨c0,c1,c2⟩:=H5.out.cells
 go_wp2_with fail
 have hb:=zslo H5.out.b.b hg
 rw [HBG.out] at hb
 unfold ptrV at hb
 rw [H5.out.bk] at hb
 refine hb.mono ?_
 rintro e w6 ⟨rfl,x6,h1,h2⟩
 have H6:=qh (H5.out.book h1 h2)
 clear h1 h2 hb
 go_wp2
 exact HPO.out _ _ _ _ _ _ H6.out
end
end Go.Proofs.YtfgagakepmigbaaGreat
