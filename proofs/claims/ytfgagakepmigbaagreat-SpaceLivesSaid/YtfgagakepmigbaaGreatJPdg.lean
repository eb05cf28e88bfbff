/-
  No statement is proved here.
-/
import Derived.Test.YtfgagakepmigbaaGreatJPgl
import Derived.Laws.BitsLemmas
import Derived.Test.YtfgagakepmigbaaGreatJOrl
import Derived.Deep.RegionHeld3
namespace Go.Proofs.YtfgagakepmigbaaGreat
open Go.RowKit
def over (l:Bytes) (i:Nat) (m:Bytes):Bytes:=l.take i ++ (m.take (l.length - i)) ++ l.drop (i+(m.take (l.length - i)).length)
theorem zcAV {l m:Bytes} {i:Nat} (h:i<=l.length):(over l i m).length=l.length:=by
 unfold over
 simp
 omega
end Go.Proofs.YtfgagakepmigbaaGreat
namespace Go.Proofs.YtfgagakepmigbaaGreat
abbrev Sp:=List (Nat×Nat)
def putD (o:Sp) (f:Int) (t:Nat):Sp:=if 0<=f then o ++ [(f.toNat,t)] else o
def nextD (a b:Bytes) (i:Nat) (o:Sp) (f:Int) (t:Nat):Sp×Int×Nat:=if bAt a i=bAt b i then (o,f,t) else if f < 0\/(8:Int)<=(i:Int) - t then (putD o f t,i,i+1) else (o,f,i+1)
def SpOk (a b:Bytes) (i:Nat) (s:Nat×Nat):Prop:=s.1 < s.2/\s.2<=i/\bAt a s.1≠bAt b s.1/\bAt a (s.2 - 1)≠bAt b (s.2 - 1)
def Apart8 (s u:Nat×Nat):Prop:=s.2+8<=u.1
structure DInv (a b:Bytes) (i:Nat) (o:Sp) (f:Int) (t:Nat):Prop where
 ok:∀ s∈o,SpOk a b i s
 far:o.Pairwise Apart8
 cur:(f = -1/\t=0/\o=[])\/∃ n:Nat,f=n/\SpOk a b i (n,t)/\∀ s∈o,Apart8 s (n,t)
 cov:∀ j,j < i->bAt a j=bAt b j\/(∃ s∈o,s.1<=j/\j < s.2)\/(0<=f/\f<=j/\j < t)
theorem SpOk.le {a b:Bytes} {i k:Nat} {s:Nat×Nat} (h:SpOk a b i s) (hk:i<=k):SpOk a b k s:=⟨h.1,Nat.le_trans h.2.1 hk,h.2.2⟩
theorem DInv.zero (a b:Bytes):DInv a b 0 [] (-1) 0:=⟨fun _ h=>by simp at h,List.Pairwise.nil,.inl ⟨rfl,rfl,rfl⟩,fun j h=>by omega⟩
structure DGood (a b:Bytes) (i:Nat) (o:Sp):Prop where
 ok:∀ s∈o,SpOk a b i s
 far:o.Pairwise Apart8
 cov:∀ j,j < i->bAt a j=bAt b j\/(∃ s∈o,s.1<=j/\j < s.2)
theorem DInv.done {a b:Bytes} {i t:Nat} {o:Sp} {f:Int} (h:DInv a b i o f t):DGood a b i (putD o f t):=by
 rcases h.cur with ⟨rfl,rfl,rfl⟩ | ⟨n,rfl,hn,hf⟩
 ·refine ⟨fun s hs=>by simp [putD] at hs,by simp [putD],fun j hj=>?_⟩
  rcases h.cov j hj with e | ⟨s,hs,_⟩ | ⟨e,_⟩
  ·exact .inl e
  ·simp at hs
  ·omega
 ·have e:putD o n t=o ++ [(n,t)]:=by unfold putD;rw [if_pos (by omega)];simp
  rw [e]
  refine ⟨fun s hs=>?_,?_,fun j hj=>?_⟩
  ·rcases List.mem_append.1 hs with hs | hs
   ·exact h.ok s hs
   ·simp at hs;subst hs;exact hn
  ·rw [List.pairwise_append]
   exact ⟨h.far,by simp,fun s hs u hu=>by simp at hu;subst hu;exact hf s hs⟩
  ·rcases h.cov j hj with e | ⟨s,hs,h1⟩ | ⟨h0,h1,h2⟩
   ·exact .inl e
   ·exact .inr ⟨s,List.mem_append.2 (.inl hs),h1⟩
   ·exact .inr ⟨(n,t),by simp,by simp;omega⟩
theorem DInv.step {a b:Bytes} {i t:Nat} {o:Sp} {f:Int} (h:DInv a b i o f t):DInv a b (i+1) (nextD a b i o f t).1 (nextD a b i o f t).2.1 (nextD a b i o f t).2.2:=by
 unfold nextD
 by_cases he:bAt a i=bAt b i
 ·rw [if_pos he]
  refine ⟨fun s hs=>(h.ok s hs).le (by omega),h.far,?_,fun j hj=>?_⟩
  ·rcases h.cur with h1 | ⟨n,h1,h2,h3⟩
   ·exact .inl h1
   ·exact .inr ⟨n,h1,h2.le (by omega),h3⟩
  ·by_cases e:j=i
   ·subst e;exact .inl he
   ·exact h.cov j (by omega)
 ·rw [if_neg he]
  by_cases h8:f < 0\/(8:Int)<=(i:Int) - t
  ·rw [if_pos h8]
   have hd:=h.done
   refine ⟨fun s hs=>(hd.ok s hs).le (by omega),hd.far,.inr ⟨i,rfl,⟨by simp,by simp,he,by simpa using he⟩,fun s hs=>?_⟩,fun j hj=>?_⟩
   ·show s.2+8<=i
    rcases h.cur with ⟨rfl,rfl,rfl⟩ | ⟨n,rfl,hn,hf⟩
    ·simp [putD] at hs
    ·have h8':(8:Int)<=(i:Int) - t:=by omega
     have e:putD o n t=o ++ [(n,t)]:=by unfold putD;rw [if_pos (by omega)];simp
     rw [e] at hs
     rcases List.mem_append.1 hs with hs | hs
     ·have:=hf s hs
      have h2:=hn.1
      unfold Apart8 at this
      simp at this h2
      omega
     ·simp at hs;subst hs;simp;omega
   ·by_cases e:j=i
    ·subst e;exact .inr (.inr (by simp))
    ·rcases hd.cov j (by omega) with e | hs
     ·exact .inl e
     ·exact .inr (.inl hs)
  ·rw [if_neg h8]
   rcases h.cur with ⟨rfl,rfl,rfl⟩ | ⟨n,rfl,hn,hf⟩
   ·omega
   ·have hn1:=hn.1
    have hn2:=hn.2.1
    simp at hn1 hn2
    refine ⟨fun s hs=>(h.ok s hs).le (by omega),h.far,.inr ⟨n,rfl,⟨by simp;omega,by simp,hn.2.2.1,by simpa using he⟩,fun s hs=>hf s hs⟩,fun j hj=>?_⟩
    by_cases e:j=i
    ·subst e;exact .inr (.inr (by simp;omega))
    ·rcases h.cov j (by omega) with e | hs | ⟨h1,h2,h3⟩
     ·exact .inl e
     ·exact .inr (.inl hs)
     ·exact .inr (.inr ⟨h1,h2,by show j < i+1;omega⟩)
def mixS (a b:Bytes) (S:Sp):Bytes:=(List.range 512).map fun j=>if S.any (fun s=>decide (s.1<=j/\j < s.2)) then bAt b j else bAt a j
def segB (b:Bytes) (s:Nat×Nat):Bytes:=(b.take s.2).drop s.1
theorem zD0j (a b:Bytes) (S:Sp):(mixS a b S).length=512:=by simp [mixS]
theorem zlIX (a b:Bytes) (S:Sp) {j:Nat} (hj:j < 512):bAt (mixS a b S) j=if S.any (fun s=>decide (s.1<=j/\j < s.2)) then bAt b j else bAt a j:=by
 rw [zWfp (by rw [zD0j];exact hj)]
 unfold mixS
 rw [List.getElem_map,List.getElem_range]
theorem zdCA {x y:Bytes} (h:x.length=y.length) (hj:∀ j,j < x.length->bAt x j=bAt y j):x=y:=by
 refine List.ext_getElem h fun j h1 h2=>?_
 have:=hj j h1
 unfold bAt at this
 simpa [h1,h2] using this
theorem zzc0 {a:Bytes} (b:Bytes) (ha:a.length=512):mixS a b []=a:=
 zdCA (by rw [zD0j,ha]) fun j hj=>by rw [zD0j] at hj;rw [zlIX _ _ _ hj];simp
theorem zwo2 {a b:Bytes} {S:Sp} (hb:b.length=512) (h:DGood a b 512 S):mixS a b S=b:=
 zdCA (by rw [zD0j,hb]) fun j hj=>by
  rw [zD0j] at hj
  rw [zlIX _ _ _ hj]
  split
  ·rfl
  ·rename_i hn
   rcases h.cov j hj with e | ⟨s,hs,h1⟩
   ·exact e
   ·exact absurd (List.any_eq_true.2 ⟨s,hs,by simpa using h1⟩) hn
theorem z9LT {b:Bytes} {s:Nat×Nat} (h:s.2<=b.length):(segB b s).length=s.2 - s.1:=by unfold segB;rw [List.length_drop,List.length_take];omega
theorem zDIq {b:Bytes} {s:Nat×Nat} {j:Nat} (h:s.1+j < s.2):bAt (segB b s) j=bAt b (s.1+j):=by
 unfold bAt segB
 simp only [List.getD_eq_getElem?_getD]
 rw [List.getElem?_drop,List.getElem?_take,if_pos h]
theorem zqrL {l m:Bytes} {i j:Nat} (hi:i+m.length<=l.length) (hj:j < l.length):bAt (over l i m) j=if i<=j/\j < i+m.length then bAt m (j - i) else bAt l j:=by
 have e:m.take (l.length - i)=m:=List.take_of_length_le (by omega)
 unfold over bAt
 rw [e]
 simp only [List.getD_eq_getElem?_getD]
 by_cases h1:j < i
 ·rw [if_neg (by omega),List.getElem?_append_left (by simp;omega),List.getElem?_append_left (by simp;omega),List.getElem?_take,if_pos h1]
 ·by_cases h2:j < i+m.length
  ·rw [if_pos (by omega),List.getElem?_append_left (by simp;omega),List.getElem?_append_right (by simp;omega)]
   congr 2
   simp;omega
  ·rw [if_neg (by omega),List.getElem?_append_right (by simp;omega),List.getElem?_drop]
   congr 2
   simp;omega
theorem zuug (a b:Bytes) (S:Sp) {s:Nat×Nat} (h1:s.1 < s.2) (h2:s.2<=512) (hb:b.length=512):over (mixS a b S) s.1 (segB b s)=mixS a b (S ++ [s]):=by
 have hl:=z9LT (b:=b) (s:=s) (by omega)
 have ho:(over (mixS a b S) s.1 (segB b s)).length=512:=by rw [zcAV (by rw [zD0j];omega),zD0j]
 refine zdCA (by rw [ho,zD0j]) fun j hj=>?_
 rw [ho] at hj
 rw [zqrL (by rw [zD0j];omega) (by rw [zD0j];omega),zlIX _ _ _ hj,zlIX _ _ _ hj,List.any_append,hl]
 by_cases hc:s.1<=j/\j < s.2
 ·rw [if_pos (by omega),zDIq (by omega),show s.1+(j - s.1)=j by omega,if_pos (by simp [hc])]
 ·rw [if_neg (by omega)]
  have:([s].any fun s=>decide (s.1<=j/\j < s.2))=false:=by simp;omega
  rw [this,Bool.or_false]
end Go.Proofs.YtfgagakepmigbaaGreat
namespace Go.Proofs.YtfgagakepmigbaaGreat
open Go.RowKit
theorem step_append {P:Program} {w:World} {ops:Array Oper} {o:Oper} {a:Act} {K:Act->World->Prop} {Q:Exit->Act->World->Prop} {E:Prop} (hgd:o.guard=none) (s x:Operand) (t:TypeId)
  (ho:o.op=.call { callee:=.builtin .append,args:=#[s,x],argTypes:=#[t,t] })
  (base:Nat) (e:TypeId) {z:Value} {size bytes:Nat} (ht:P.underlying t=some (.slice e)) (hinf:(P.info? e).map (fun i=>(i.zero,i.size,i.bytes))=some (some z,size,bytes)) (hzs:z.cells.size=size) (hsz:0 < size)
  (v:Value) (n:Nat) (xs:List Value) (hs:a.eval s=v) (hown:w.ownsRow base e size v n xs)
  (b off m c:Nat) (news:List Value) (hx:a.eval x=.slice (some ⟨b,off,none⟩) m c) (hl:news.length=m*size) (hnews:∀ j u,news[j]?=some u->w.cell? ⟨b,off+j,none⟩=some u) (h1:∀ u∈news,u.oneCell'=true)
  (hm:0 < m) (h63:n+m<=maxLen) (hbytes:(n+m)*bytes<=140737488355328) (hbase:base<=w.heap.size)
  (k:∀ g cap w',w'.ownsRow base e size (.slice (some ⟨g,0,none⟩) (n+m) cap) (n+m) (xs ++ news)->Kept (fun x=>v.ownBlock=some x) w w'->(v.ownBlock=some g\/w.heap.size<=g)->g < w'.heap.size ->
   K (a.put o.dst (.slice (some ⟨g,0,none⟩) (n+m) cap)) w') :
  if Region.wanted o (yielded ops a.tmps)=true then Oper.wp P o a w K Q else E:=by
 obtain ⟨i,hi,h2,h3,h4⟩:=info_parts hinf
 refine step_append_lies w hgd s x t ho base e i z size bytes ht hi h2 h3 h4 hzs hsz v n xs hs hown ⟨b,off,none⟩ m c news hx hl (fun j u hu=>by rw [Addr.add_mid];exact hnews j u hu) h1 hm h63 hbytes hbase w.heap.size rfl ?_
 intro g cap w' hown' hgr hat hlt
 exact k g cap w' hown' ((Kept.refl _ w).grown hgr (fun x hx=>.inr hx)) (hat.imp id (fun e=>by omega)) hlt
structure SpD where
 f:Nat
 t:Nat
 g1:Nat
 c1:Nat
 g2:Nat
 c2:Nat
def zfF3 (s:SpD):List Value:=[.int .i64 0,.int .i64 s.f,.slice (some ⟨s.g1,0,none⟩) (s.t - s.f) s.c1,.slice (some ⟨s.g2,0,none⟩) (s.t - s.f) s.c2]
def rowSp (L:List SpD):List Value:=(L.map zfF3).flatten
def OwnSp (w:World) (base:Nat) (v:Value) (L:List SpD):Prop:=w.ownsRow base 84 4 v L.length (rowSp L)
def zRLN (w:World) (base:Nat) (a b:Bytes) (L:List SpD):Prop:=∀ s∈L,OwnB w base s.g1 s.c1 (segB a (s.f,s.t))/\OwnB w base s.g2 s.c2 (segB b (s.f,s.t))
theorem zcCt:((Tryz.prog).info? 84).map (fun i=>(i.zero,i.size,i.bytes))=some (some (.agg #[.int .i64 0,.int .i64 0,.slice none 0 0,.slice none 0 0]),4,64):=by kernel_rfl
def DC (w:World) (cf co ca ct cb:Nat) (A B:Option Addr) (ac bc:Nat) (f:Int) (t:Nat) (v:Value):Prop:=
 w.cell? ⟨cf,0,none⟩=some (.int .i64 f)/\w.cell? ⟨co,0,none⟩=some v/\w.cell? ⟨ca,0,none⟩=some (.slice A 512 ac)/\w.cell? ⟨ct,0,none⟩=some (.int .i64 t)/\w.cell? ⟨cb,0,none⟩=some (.slice B 512 bc)
theorem DC.kept {S:Nat->Prop} {w w':World} {cf co ca ct cb:Nat} {A B:Option Addr} {ac bc:Nat} {f:Int} {t:Nat} {v:Value} (h:DC w cf co ca ct cb A B ac bc f t v) (hk:Kept S w w') (h1:¬ S cf) (h2:¬ S co) (h3:¬ S ca) (h4:¬ S ct) (h5:¬ S cb):DC w' cf co ca ct cb A B ac bc f t v:=by
 obtain ⟨c1,c2,c3,c4,c5⟩:=h
 exact ⟨(World.cell?_of_block (hk.block _ (block_lt_of_cell c1) h1)).trans c1,(World.cell?_of_block (hk.block _ (block_lt_of_cell c2) h2)).trans c2,(World.cell?_of_block (hk.block _ (block_lt_of_cell c3) h3)).trans c3,
  (World.cell?_of_block (hk.block _ (block_lt_of_cell c4) h4)).trans c4,(World.cell?_of_block (hk.block _ (block_lt_of_cell c5) h5)).trans c5⟩
theorem zC7b {x off ac:Nat} {a:Bytes} {w:World} (h:RdB w (some ⟨x,off,none⟩) a) (n t:Nat) (h1:n < t) (h2:t<=a.length) (ha:a.length<=1000000) :
  Calls Tryz.prog 99 #[.slice (some ⟨x,off+n,none⟩) (t - n) (ac - n)] w fun e w'=>∃ g cap,e=.returned (.slice (some ⟨g,0,none⟩) (t - n) cap)/\OwnB w' w.heap.size g cap (segB a (n,t))/\Kept (fun _=>False) w w':=by
 have hl:(segB a (n,t)).length=t - n:=z9LT (s:=(n,t)) h2
 have:=zlgu x (off+n) (ac - n) (segB a (n,t)) w ((h.take t).drop n) (by omega)
 rw [hl] at this
 exact this
set_option maxRecDepth 100000 in
set_option maxHeartbeats 1000000 in
theorem zOal (cf co ca ct cb:Nat) (A B:Option Addr) (ac bc:Nat) (t:Nat) (v:Value) (w:World) (h:DC w cf co ca ct cb A B ac bc (-1) t v) :
  Calls Tryz.prog 98 #[.pointer (some ⟨cf,0,none⟩),.pointer (some ⟨co,0,none⟩),.pointer (some ⟨ca,0,none⟩),.pointer (some ⟨ct,0,none⟩),.pointer (some ⟨cb,0,none⟩)] w fun e w'=>e=.returned (.tuple #[])/\w'=w:=by
 obtain ⟨c1,-⟩:=h
 go_enter Tryz.func98,Tryz.ntmps98
 go_wp2
 go_end0
 exact ⟨rfl,rfl⟩
theorem OwnSp.blk {w:World} {base x:Nat} {v:Value} {L:List SpD} (h:OwnSp w base v L) (hx:v.ownBlock=some x):base<=x/\∃ cur,w.heap[x]?=some (.cells cur 84 (0,0)):=by
 rcases h.2 with ⟨rfl,-⟩ | ⟨g,cap,cur,rfl,hb,hh,-⟩
 ·simp [Value.ownBlock] at hx
 ·have e:g=x:=by simpa [Value.ownBlock] using hx
  subst e
  exact ⟨hb,cur,hh⟩
theorem OwnSp.kept {S:Nat->Prop} {w w':World} {base:Nat} {v:Value} {L:List SpD} (h:OwnSp w base v L) (hk:Kept S w w') (hS:∀ x,S x->x < base):OwnSp w' base v L:=by
 rcases h with ⟨h0,h | ⟨g,cap,cur,hv,hb,hh,r⟩⟩
 ·exact ⟨h0,.inl h⟩
 ·exact ⟨h0,.inr ⟨g,cap,cur,hv,hb,hk.heap hh (fun e=>by have:=hS g e;omega),r⟩⟩
theorem zRLN.keep {S:Nat->Prop} {w w':World} {base:Nat} {a b:Bytes} {L:List SpD} (h:zRLN w base a b L) (hk:Kept S w w') (hS:∀ x cur,w.heap[x]?=some (.cells cur 5 (0,0))->base<=x->¬ S x):zRLN w' base a b L:=by
 intro s hs
 obtain ⟨h1,h2⟩:=h s hs
 have e1:=h1.form
 have e2:=h2.form
 obtain ⟨u1,b1,k1,-⟩:=e1
 obtain ⟨u2,b2,k2,-⟩:=e2
 exact ⟨h1.keep hk (hS _ u1 k1 b1),h2.keep hk (hS _ u2 k2 b2)⟩
theorem zQDn (L:List SpD) (s:SpD):rowSp (L ++ [s])=rowSp L ++ zfF3 s:=by simp [rowSp]
theorem zRLN.snoc {w:World} {base:Nat} {a b:Bytes} {L:List SpD} {s:SpD} (h:zRLN w base a b L) (h1:OwnB w base s.g1 s.c1 (segB a (s.f,s.t))) (h2:OwnB w base s.g2 s.c2 (segB b (s.f,s.t))):zRLN w base a b (L ++ [s]):=by
 intro u hu
 rcases List.mem_append.1 hu with hu | hu
 ·exact h u hu
 ·simp at hu
  subst hu
  exact ⟨h1,h2⟩
theorem OwnB.low {w:World} {base base' g cap:Nat} {l:Bytes} (h:OwnB w base g cap l) (hb:base'<=base):OwnB w base' g cap l:=by
 unfold OwnB at *
 obtain ⟨h0,h⟩:=h
 exact ⟨h0,h.elim .inl (fun ⟨g,cap,cur,hv,hg,r⟩=>.inr ⟨g,cap,cur,hv,Nat.le_trans hb hg,r⟩)⟩
set_option maxRecDepth 100000 in
set_option maxHeartbeats 4000000 in
theorem zWMP (cf co ca ct cb xa oa xb ob:Nat) (ac bc n t base:Nat) (v:Value) (w:World) (a b:Bytes) (L:List SpD) (h:DC w cf co ca ct cb (some ⟨xa,oa,none⟩) (some ⟨xb,ob,none⟩) ac bc (n:Int) t v)
  (ho:w.heap[co]?=some (.cells #[v] 89 (0,0))) (hb:cf < base/\co < base/\ca < base/\ct < base/\cb < base) (hd:cf≠co/\ca≠co/\ct≠co/\cb≠co) (hbs:base<=w.heap.size) (hL:OwnSp w base v L) (hS:zRLN w base a b L)
  (ha:RdB w (some ⟨xa,oa,none⟩) a) (hb':RdB w (some ⟨xb,ob,none⟩) b) (la:a.length=512) (lb:b.length=512) (hac:512<=ac) (hac2:ac<=9223372036854775807) (hbc:512<=bc) (hbc2:bc<=9223372036854775807) (h1:n < t) (h2:t<=512) (hlen:L.length<=600) :
  Calls Tryz.prog 98 #[.pointer (some ⟨cf,0,none⟩),.pointer (some ⟨co,0,none⟩),.pointer (some ⟨ca,0,none⟩),.pointer (some ⟨ct,0,none⟩),.pointer (some ⟨cb,0,none⟩)] w fun e w'=>e=.returned (.tuple #[]) /\
   ∃ v' L',DC w' cf co ca ct cb (some ⟨xa,oa,none⟩) (some ⟨xb,ob,none⟩) ac bc (n:Int) t v'/\w'.heap[co]?=some (.cells #[v'] 89 (0,0))/\OwnSp w' base v' L'/\zRLN w' base a b L'/\L'.map (fun s=>(s.f,s.t))=L.map (fun s=>(s.f,s.t)) ++ [(n,t)]/\Kept (fun x=>x=co\/base<=x) w w':=by
 have H:=qh h
 have HO:=qh ho
 have HL:=qh hL
 have HS:=qh hS
 have HA:=qh ha
 have HB:=qh hb'
 have LA:=Lib.hid la
 have LB:=Lib.hid lb
 have HD:=qh hd
 obtain ⟨c1,c2,c3,c4,c5⟩:=h
 have i0:((n:Int) < 0)=False:=by simp
 have i1:(0:Int)<=(n:Int):=by omega
 have i2:(n:Int)<=(t:Int):=by omega
 have i3:(t:Int)<=(ac:Int):=by omega
 have i4:(t:Int)<=(bc:Int):=by omega
 have i5:¬ ac=n:=by omega
 have i6:¬ bc=n:=by omega
 have i7:n<=t:=by omega
 have i8:t<=ac:=by omega
 have i9:t<=bc:=by omega
 clear ho hL hS ha hb' la lb hd
 have H1:=qh ((show DC w cf co ca ct cb _ _ ac bc (n:Int) t v from ⟨c1,c2,c3,c4,c5⟩).kept ((Kept.refl (fun _=>False) w).drew) id id id id id)
 have HA1:=qh (HA.out.kept ((Kept.refl (fun _=>False) w).drew) (fun _ _ _ _=>id))
 have HB1:=qh (HB.out.kept ((Kept.refl (fun _=>False) w).drew) (fun _ _ _ _=>id))
 go_enter Tryz.func98,Tryz.ntmps98
 go_wp2
 refine znCh 15 (fun w'=>DC w' cf co ca ct cb (some ⟨xa,oa,none⟩) (some ⟨xb,ob,none⟩) ac bc (n:Int) t v) (by kernel_rfl) H1.out (fun hH=>?_)
 simp only [List.length_cons,List.length_nil,List.replicate]
 refine takeL 0 v rfl (by kernel_rfl) (fun _ _ _ h=>h) (by rfl) (fun w' hw'=>?_) hH ?_
 ·obtain ⟨r1,r2,r3,r4,r5⟩:=hw'
  go_simp
 simp only [Act.put,oZa,oZb,oZc]
 refine takeL 1 (.int .i64 (n:Int)) rfl (by kernel_rfl) (fun _ _ _ h=>h) (by rfl) (fun w' hw'=>?_) hH ?_
 ·obtain ⟨r1,r2,r3,r4,r5⟩:=hw'
  go_simp
 simp only [Act.put,oZa,oZb,oZc]
 refine takeL 2 (.slice (some ⟨xa,oa,none⟩) 512 ac) rfl (by kernel_rfl) (fun _ _ _ h=>h) (by rfl) (fun w' hw'=>?_) hH ?_
 ·obtain ⟨r1,r2,r3,r4,r5⟩:=hw'
  go_simp
 simp only [Act.put,oZa,oZb,oZc]
 refine takeL 3 (.int .i64 (n:Int)) rfl (by kernel_rfl) (fun _ _ _ h=>h) (by rfl) (fun w' hw'=>?_) hH ?_
 ·obtain ⟨r1,r2,r3,r4,r5⟩:=hw'
  go_simp
 simp only [Act.put,oZa,oZb,oZc]
 refine takeL 4 (.int .i64 (t:Int)) rfl (by kernel_rfl) (fun _ _ _ h=>h) (by rfl) (fun w' hw'=>?_) hH ?_
 ·obtain ⟨r1,r2,r3,r4,r5⟩:=hw'
  go_simp
 simp only [Act.put,oZa,oZb,oZc]
 refine takeL 7 (.slice (some ⟨xb,ob,none⟩) 512 bc) rfl (by kernel_rfl) (fun _ _ _ h=>h) (by rfl) (fun w' hw'=>?_) hH ?_
 ·obtain ⟨r1,r2,r3,r4,r5⟩:=hw'
  go_simp
 simp only [Act.put,oZa,oZb,oZc]
 refine takeL 8 (.int .i64 (n:Int)) rfl (by kernel_rfl) (fun _ _ _ h=>h) (by rfl) (fun w' hw'=>?_) hH ?_
 ·obtain ⟨r1,r2,r3,r4,r5⟩:=hw'
  go_simp
 simp only [Act.put,oZa,oZb,oZc]
 refine takeL 9 (.int .i64 (t:Int)) rfl (by kernel_rfl) (fun _ _ _ h=>h) (by rfl) (fun w' hw'=>?_) hH ?_
 ·obtain ⟨r1,r2,r3,r4,r5⟩:=hw'
  go_simp
 simp only [Act.put,oZa,oZb,oZc]
 refine tK 5 ?_ (fun w' hw'=>?_) hH ?_
 rotate_left
 ·clear hw'
  go_simp
  with_reducible rfl
 simp only [Act.put,oZa,oZb,oZc]
 refine tK 10 ?_ (fun w' hw'=>?_) hH ?_
 rotate_left
 ·clear hw'
  go_simp
  with_reducible rfl
 simp only [Act.put,oZa,oZb,oZc]
 refine stepL 6 rfl (by kernel_rfl) (fun K hK=>?_)
 go_simp
 go_at_call 99
 refine (zC7b HA1.out n t h1 (by rw [LA.out];exact h2) (by rw [LA.out];decide)).mono ?_
 rintro e w2 ⟨g1,k1,rfl,hx1,hk2⟩
 have hS2:=H1.out.kept hk2 id id id id id
 have K2:=qh hk2
 have X1:=qh hx1
 have HB2:=qh (HB1.out.kept hk2 (fun _ _ _ _=>id))
 clear hx1 hk2
 go_simp
 refine hK.out _ _ (fun _=>hS2) (fun _=>?_)
 simp only [oZa,oZb,oZc]
 clear hK K
 refine stepL 11 rfl (by kernel_rfl) (fun K hK=>?_)
 go_simp
 go_at_call 99
 refine (zC7b HB2.out n t h1 (by rw [LB.out];exact h2) (by rw [LB.out];decide)).mono ?_
 rintro e w3 ⟨g2,k2,rfl,hx2,hk3⟩
 have hS3:=hS2.kept hk3 id id id id id
 have K3:=qh (K2.out.trans0 hk3)
 have X2:=qh hx2
 have X1':=qh (X1.out.kept hk3)
 clear hx2 hk3
 go_simp
 refine hK.out _ _ (fun _=>hS3) (fun _=>?_)
 simp only [oZa,oZb,oZc]
 clear hK K
 refine takeL 12 (.agg #[.int .i64 0,.int .i64 (n:Int),.slice (some ⟨g1,0,none⟩) (t - n) k1,.slice (some ⟨g2,0,none⟩) (t - n) k2]) rfl (by kernel_rfl) (fun _ _ _ h=>h) (by rfl) (fun w' hw'=>?_) hS3 ?_
 ·clear hw'
  go_simp
 simp only [Act.put,oZa,oZb,oZc]
 refine stepL 13 rfl (by kernel_rfl) (fun K hK=>?_)
 go_simp
 have ka3:Kept (fun _=>False) w (w3.alloc (.cells #[.int .i64 0,.int .i64 (n:Int),.slice (some ⟨g1,0,none⟩) (t - n) k1,.slice (some ⟨g2,0,none⟩) (t - n) k2] 84)):=(((Kept.refl (fun _=>False) w).drew).trans0 K3.out).alloc _
 have kb3:Kept (fun _=>False) w3 (w3.alloc (.cells #[.int .i64 0,.int .i64 (n:Int),.slice (some ⟨g1,0,none⟩) (t - n) k1,.slice (some ⟨g2,0,none⟩) (t - n) k2] 84)):=(Kept.refl (fun _=>False) w3).alloc _
 have hS4:=hS3.kept kb3 id id id id id
 refine hK.out _ _ (fun _=>hS4) (fun _=>?_)
 simp only [oZa,oZb,oZc]
 clear hK K
 refine stepL 14 rfl (by kernel_rfl) (fun K hK=>?_)
 have HL3:=qh (HL.out.kept ka3 (fun _ h=>h.elim))
 have KA3:=Lib.hid ka3
 have KB3:=Lib.hid kb3
 have sz3:=ka3.size
 have HX:=qh (fun x (e:v.ownBlock=some x)=>HL3.out.blk e)
 clear ka3 kb3
 refine step_append rfl _ _ _ (by rfl) base 84 Tryz.underlying89 zcCt rfl (by omega) v L.length (rowSp L) (by rfl) HL3.out w3.heap.size 0 1 1 [.int .i64 0,.int .i64 (n:Int),.slice (some ⟨g1,0,none⟩) (t - n) k1,.slice (some ⟨g2,0,none⟩) (t - n) k2] (by rfl) rfl (fun j u hu=>zcjX (heap_alloc_new w3 _) (by simpa using hu)) (by simp [Value.oneCell']) (by omega) (by have:maxLen=9223372036854775807:=rfl;omega) (by omega) (by omega) ?_
 intro g4 k4 w4 ho4 hk4 hat4 m4
 have hS5:=hS4.kept hk4 (fun e=>by have:=(HX.out _ e).1;omega) (fun e=>by have:=(HX.out _ e).1;omega) (fun e=>by have:=(HX.out _ e).1;omega) (fun e=>by have:=(HX.out _ e).1;omega) (fun e=>by have:=(HX.out _ e).1;omega)
 refine hK.out _ _ (fun _=>hS5) (fun _=>?_)
 simp only [Act.put,oZa,oZb,oZc]
 clear hK K
 have hco4:w4.heap[co]?=some (.cells #[v] 89 (0,0)):=hk4.heap (KA3.out.heap HO.out id) (fun e=>by have:=(HX.out _ e).1;omega)
 have c24:=hS5.2.1
 have f4:=zZnw hco4 0
 have HK4:=qh hk4
 have HO4:=qh ho4
 have HC4:=qh hco4
 have HS5:=qh hS5
 clear hk4 ho4 hco4 hS5 hS4 hS3 hS2
 refine stepL 15 rfl (by kernel_rfl) (fun K hK=>?_)
 go_simp
 refine hK.out _ _ (fun h=>absurd rfl h) (fun _=>?_)
 simp only [oZa,oZb,oZc]
 clear hK K
 refine doneL (by kernel_rfl) ?_ _
 go_wp2
 go_end0
 have hl4:Kept (fun x=>x=co\/base<=x) w w4:=(KA3.out.mono (fun _ _ h=>h.elim)).trans HK4.out (fun x _ e=>.inr (HX.out _ e).1)
 have kc:Kept (fun x=>x=co) w4 (w4.setCell ⟨co,0,none⟩ (.slice (some ⟨g4,0,none⟩) (L.length+1) k4)):=Kept.cell _ _ _ _
 refine ⟨rfl,.slice (some ⟨g4,0,none⟩) (L.length+1) k4,L ++ [⟨n,t,g1,k1,g2,k2⟩],?_,?_,?_,?_,?_,?_⟩
 ·obtain ⟨c1,-,c3,c4,c5⟩:=HS5.out
  obtain ⟨d1,d3,d4,d5⟩:=HD.out
  exact ⟨(World.cell?_of_block (kc.block _ (block_lt_of_cell c1) d1)).trans c1,zcjX (zAtc HC4.out 0 _) (by simp),(World.cell?_of_block (kc.block _ (block_lt_of_cell c3) d3)).trans c3,
   (World.cell?_of_block (kc.block _ (block_lt_of_cell c4) d4)).trans c4,(World.cell?_of_block (kc.block _ (block_lt_of_cell c5) d5)).trans c5⟩
 ·simpa using zAtc HC4.out 0 (.slice (some ⟨g4,0,none⟩) (L.length+1) k4)
 ·refine OwnSp.kept (w:=w4) ?_ kc (fun x e=>by omega)
  unfold OwnSp
  rw [zQDn,List.length_append]
  exact HO4.out
 ·refine zRLN.keep (w:=w4) ?_ kc (fun x cur _ hx e=>by omega)
  have hx4:∀ (x:Nat) (cur:Array Value),(w3.alloc _).heap[x]?=some (.cells cur 5 (0,0))->base<=x->¬ v.ownBlock=some x:=fun x cur hx _ e=>by
   obtain ⟨-,cur',h'⟩:=HX.out _ e
   rw [hx] at h'
   cases h'
  refine zRLN.keep (w:=w3.alloc _) ?_ HK4.out hx4
  refine zRLN.snoc (HS.out.keep KA3.out (fun _ _ _ _ h=>h.elim)) ?_ ?_
  ·exact ((X1'.out.kept KB3.out).low (by simpa using hbs))
  ·exact ((X2.out.kept KB3.out).low (by have:=K2.out.size;simp at this;omega))
 ·simp
 ·exact hl4.trans kc (fun x _ e=>.inl e)
def stD (a b:Bytes):Nat->Sp×Int×Nat
 | 0=>([],-1,0)
 | i+1=>nextD a b i (stD a b i).1 (stD a b i).2.1 (stD a b i).2.2
theorem z6Lg (a b:Bytes):∀ i,DInv a b i (stD a b i).1 (stD a b i).2.1 (stD a b i).2.2
 | 0=>DInv.zero a b
 | i+1=>(z6Lg a b i).step
def diffM (a b:Bytes):Sp:=putD (stD a b 512).1 (stD a b 512).2.1 (stD a b 512).2.2
theorem z6BQ (a b:Bytes):DGood a b 512 (diffM a b):=(z6Lg a b 512).done
theorem z3Ur (a b:Bytes):∀ i,(stD a b i).1.length<=i
 | 0=>Nat.le_refl _
 | i+1=>by
  have ih:=z3Ur a b i
  show (nextD a b i (stD a b i).1 (stD a b i).2.1 (stD a b i).2.2).1.length<=i+1
  unfold nextD putD
  split
  ·exact Nat.le_succ_of_le ih
  ·split
   ·split
    ·simp;exact ih
    ·exact Nat.le_succ_of_le ih
   ·exact Nat.le_succ_of_le ih
def DSt (w:World) (base cf co ca ct cb:Nat) (A B:Option Addr) (ac bc:Nat) (a b:Bytes) (o:Sp) (f:Int) (t:Nat):Prop:=
 ∃ v L,w.heap[ca]?=some (.cells #[.slice A 512 ac] 47 (0,0))/\w.heap[cb]?=some (.cells #[.slice B 512 bc] 47 (0,0))/\w.heap[co]?=some (.cells #[v] 89 (0,0)) /\
  w.heap[cf]?=some (.cells #[.int .i64 f] 3 (0,0))/\w.heap[ct]?=some (.cells #[.int .i64 t] 3 (0,0))/\OwnSp w base v L/\zRLN w base a b L/\L.map (fun s=>(s.f,s.t))=o
theorem zVgO {w:World} {x:Nat} {v:Value} {t:TypeId} {fr:Nat×Nat} (h:w.heap[x]?=some (.cells #[v] t fr)):w.cell? ⟨x,0,none⟩=some v:=zcjX h (by simp)
set_option maxRecDepth 100000 in
set_option maxHeartbeats 1000000 in
theorem zS5c (base cf co ca ct cb xa oa xb ob:Nat) (ac bc:Nat) (w:World) (a b:Bytes) (o:Sp) (f:Int) (t:Nat) (h:DSt w base cf co ca ct cb (some ⟨xa,oa,none⟩) (some ⟨xb,ob,none⟩) ac bc a b o f t)
  (hord:ca < cb/\cb < co/\co < cf/\cf < ct/\ct < base) (hbs:base<=w.heap.size)
  (ha:RdB w (some ⟨xa,oa,none⟩) a) (hb':RdB w (some ⟨xb,ob,none⟩) b) (la:a.length=512) (lb:b.length=512) (hac:512<=ac) (hac2:ac<=9223372036854775807) (hbc:512<=bc) (hbc2:bc<=9223372036854775807)
  (hf:f = -1\/∃ n:Nat,f=n/\n < t/\t<=512) (ho:o.length<=600) :
  Calls Tryz.prog 98 #[.pointer (some ⟨cf,0,none⟩),.pointer (some ⟨co,0,none⟩),.pointer (some ⟨ca,0,none⟩),.pointer (some ⟨ct,0,none⟩),.pointer (some ⟨cb,0,none⟩)] w fun e w'=>e=.returned (.tuple #[]) /\
   DSt w' base cf co ca ct cb (some ⟨xa,oa,none⟩) (some ⟨xb,ob,none⟩) ac bc a b (putD o f t) f t/\Kept (fun x=>x=co\/base<=x) w w':=by
 obtain ⟨v,L,h1,h2,h3,h4,h5,h6,h7,h8⟩:=h
 rcases hf with rfl | ⟨n,rfl,hn,ht⟩
 ·refine (zOal cf co ca ct cb (some ⟨xa,oa,none⟩) (some ⟨xb,ob,none⟩) ac bc t v w ⟨zVgO h4,zVgO h3,zVgO h1,zVgO h5,zVgO h2⟩).mono ?_
  rintro e w' ⟨rfl,rfl⟩
  exact ⟨rfl,⟨v,L,h1,h2,h3,h4,h5,h6,h7,h8⟩,Kept.refl _ _⟩
 ·have hlen:L.length=o.length:=by rw [<- h8];simp
  refine (zWMP cf co ca ct cb xa oa xb ob ac bc n t base v w a b L ⟨zVgO h4,zVgO h3,zVgO h1,zVgO h5,zVgO h2⟩ h3 (by omega) (by omega) hbs h6 h7 ha hb' la lb hac hac2 hbc hbc2 hn ht (by omega)).mono ?_
  rintro e w' ⟨rfl,v',L',-,g3,g6,g7,g8,hk⟩
  refine ⟨rfl,⟨v',L',hk.heap h1 (by omega),hk.heap h2 (by omega),g3,hk.heap h4 (by omega),hk.heap h5 (by omega),g6,g7,?_⟩,hk⟩
  rw [g8,h8]
  unfold putD
  rw [if_pos (by omega)]
  simp
theorem DSt.kept {S:Nat->Prop} {w w':World} {base cf co ca ct cb:Nat} {A B:Option Addr} {ac bc:Nat} {a b:Bytes} {o:Sp} {f:Int} {t:Nat} (h:DSt w base cf co ca ct cb A B ac bc a b o f t) (hk:Kept S w w') (hS:∀ x,¬ S x):DSt w' base cf co ca ct cb A B ac bc a b o f t:=by
 obtain ⟨v,L,h1,h2,h3,h4,h5,h6,h7,h8⟩:=h
 exact ⟨v,L,hk.heap h1 (hS _),hk.heap h2 (hS _),hk.heap h3 (hS _),hk.heap h4 (hS _),hk.heap h5 (hS _),h6.kept hk (fun x h=>(hS x h).elim),h7.keep hk (fun x _ _ _=>hS x),h8⟩
theorem DSt.setF {w:World} {base cf co ca ct cb:Nat} {A B:Option Addr} {ac bc:Nat} {a b:Bytes} {o:Sp} {f:Int} {t:Nat} (h:DSt w base cf co ca ct cb A B ac bc a b o f t) (hord:ca < cb/\cb < co/\co < cf/\cf < ct/\ct < base) (f':Int) :
  DSt (w.setCell ⟨cf,0,none⟩ (.int .i64 f')) base cf co ca ct cb A B ac bc a b o f' t:=by
 have kc:Kept (fun x=>x=cf) w (w.setCell ⟨cf,0,none⟩ (.int .i64 f')):=Kept.cell _ _ _ _
 obtain ⟨v,L,h1,h2,h3,h4,h5,h6,h7,h8⟩:=h
 exact ⟨v,L,kc.heap h1 (by omega),kc.heap h2 (by omega),kc.heap h3 (by omega),by simpa using zAtc h4 0 (.int .i64 f'),kc.heap h5 (by omega),h6.kept kc (fun x h=>by omega),h7.keep kc (fun x _ _ hx=>by omega),h8⟩
theorem DSt.setT {w:World} {base cf co ca ct cb:Nat} {A B:Option Addr} {ac bc:Nat} {a b:Bytes} {o:Sp} {f:Int} {t:Nat} (h:DSt w base cf co ca ct cb A B ac bc a b o f t) (hord:ca < cb/\cb < co/\co < cf/\cf < ct/\ct < base) (t':Nat) (u:Int) (hu:u=t') :
  DSt (w.setCell ⟨ct,0,none⟩ (.int .i64 u)) base cf co ca ct cb A B ac bc a b o f t':=by
 subst hu
 have kc:Kept (fun x=>x=ct) w (w.setCell ⟨ct,0,none⟩ (.int .i64 t')):=Kept.cell _ _ _ _
 obtain ⟨v,L,h1,h2,h3,h4,h5,h6,h7,h8⟩:=h
 exact ⟨v,L,kc.heap h1 (by omega),kc.heap h2 (by omega),kc.heap h3 (by omega),kc.heap h4 (by omega),by simpa using zAtc h5 0 (.int .i64 t'),h6.kept kc (fun x h=>by omega),h7.keep kc (fun x _ _ hx=>by omega),h8⟩
theorem zRLN.low {w:World} {base base':Nat} {a b:Bytes} {L:List SpD} (h:zRLN w base a b L) (hb:base'<=base):zRLN w base' a b L:=fun s hs=>⟨(h s hs).1.low hb,(h s hs).2.low hb⟩
theorem OwnSp.low {w:World} {base base':Nat} {v:Value} {L:List SpD} (h:OwnSp w base v L) (hb:base'<=base):OwnSp w base' v L:=by
 unfold OwnSp at *
 obtain ⟨h0,h⟩:=h
 exact ⟨h0,h.elim .inl (fun ⟨g,cap,cur,hv,hg,r⟩=>.inr ⟨g,cap,cur,hv,Nat.le_trans hb hg,r⟩)⟩
theorem DSt.facts {w:World} {base cf co ca ct cb:Nat} {A B:Option Addr} {ac bc:Nat} {a b:Bytes} {o:Sp} {f:Int} {t:Nat} (h:DSt w base cf co ca ct cb A B ac bc a b o f t) :
  w.cell? ⟨ca,0,none⟩=some (.slice A 512 ac)/\w.cell? ⟨cb,0,none⟩=some (.slice B 512 bc)/\w.cell? ⟨cf,0,none⟩=some (.int .i64 f)/\w.cell? ⟨ct,0,none⟩=some (.int .i64 t)/\w.frozen? ⟨cf,0,none⟩=false/\w.frozen? ⟨ct,0,none⟩=false:=by
 obtain ⟨v,L,h1,h2,h3,h4,h5,h6,h7,h8⟩:=h
 exact ⟨zVgO h1,zVgO h2,zVgO h4,zVgO h5,zZnw h4 0,zZnw h5 0⟩
theorem RdB.some {w:World} {A:Option Addr} {l:Bytes} (h:RdB w A l) (hl:l.length=512):∃ b off,A=some ⟨b,off,none⟩:=by
 obtain ⟨b,off,e,-⟩:=h (by rintro rfl;simp at hl)
 exact ⟨b,off,e⟩
set_option maxRecDepth 100000 in
set_option maxHeartbeats 2000000 in
theorem zb7T (A B:Option Addr) (ac bc:Nat) (a b:Bytes) (w:World) (ha:RdB w A a) (hb:RdB w B b) (la:a.length=512) (lb:b.length=512) (hac:512<=ac) (hac2:ac<=9223372036854775807) (hbc:512<=bc) (hbc2:bc<=9223372036854775807) :
  Calls Tryz.prog 52 #[.slice A 512 ac,.slice B 512 bc] w fun e w'=>∃ v L,e=.returned v/\OwnSp w' w.heap.size v L/\zRLN w' w.heap.size a b L/\L.map (fun s=>(s.f,s.t))=diffM a b/\Kept (fun _=>False) w w':=by
 obtain ⟨xa,oa,rfl⟩:=ha.some la
 obtain ⟨xb,ob,rfl⟩:=hb.some lb
 have HA:=qh ha
 have HB:=qh hb
 have LA:=Lib.hid la
 have LB:=Lib.hid lb
 clear ha hb la lb
 have hmf:∀ (fn:Fn) (first cap:Array Value) (w:World),(Instr.makeFunc fn first cap).run Tryz.prog w=.ok (.func fn first cap) w:=fun _ _ _ _=>rfl
 go_enter Tryz.func52,Tryz.ntmps52
 go_wp2_with (refine znBH rfl 47 _ rfl (.slice (some ⟨xa,oa,none⟩) 512 ac) rfl ?_)
 intro ca w1 nca mca hca kca
 have kca':=Lib.hid kca
 clear kca
 go_wp2_with (refine znBH rfl 47 _ rfl (.slice (some ⟨xb,ob,none⟩) 512 bc) rfl ?_)
 intro cb w2 ncb mcb hcb kcb
 have hca2:=kcb.heap hca id
 have cca2:=zVgO hca2
 have ccb2:=zVgO hcb
 have K2:=qh (kca'.out.trans0 kcb)
 have H1:=qh hca2
 have H2:=qh hcb
 have kcb':=qh (kcb.size)
 clear hca kcb hca2 hcb kca'
 go_wp2_with (refine zDLj rfl 89 rfl (.slice none 0 0) rfl (fun _=>rfl) ?_)
 intro co w3 nco mco hco kco
 have K3:=qh (K2.out.trans0 kco)
 have H13:=qh (kco.heap H1.out id)
 have H23:=qh (kco.heap H2.out id)
 have H33:=qh hco
 have o1:ca < cb:=by omega
 have o2:cb < co:=by omega
 clear kco hco H1 H2
 go_wp2_with (refine zDLj rfl 3 rfl (.int .i64 0) rfl (fun _=>rfl) ?_)
 intro cf w4 ncf mcf hcf kcf
 have K4:=qh (K3.out.trans0 kcf)
 have H14:=qh (kcf.heap H13.out id)
 have H24:=qh (kcf.heap H23.out id)
 have H34:=qh (kcf.heap H33.out id)
 have H44:=qh hcf
 have o3:co < cf:=by omega
 clear kcf hcf H13 H23 H33
 refine zDLj rfl 3 rfl (.int .i64 0) rfl (fun _=>rfl) ?_
 intro ct w5 nct mct hct kct
 have K5:=qh (K4.out.trans0 kct)
 have H15:=qh (kct.heap H14.out id)
 have H25:=qh (kct.heap H24.out id)
 have H35:=qh (kct.heap H34.out id)
 have H45:=qh (kct.heap H44.out id)
 have H55:=qh hct
 have o4:cf < ct:=by omega
 have hord:=qh (show ca < cb/\cb < co/\co < cf/\cf < ct/\ct < w5.heap.size from ⟨o1,o2,o3,o4,mct⟩)
 have f4:=zZnw H45.out 0
 have f5:=zZnw hct 0
 have c4:=zVgO H45.out
 have c5:=zVgO hct
 have sz5:=K5.out.size
 clear kct hct H14 H24 H34 H44
 have D0:=qh ((show DSt w5 w5.heap.size cf co ca ct cb (some ⟨xa,oa,none⟩) (some ⟨xb,ob,none⟩) ac bc a b [] 0 0 from ⟨.slice none 0 0,[],H15.out,H25.out,H35.out,H45.out,H55.out,⟨by simp [rowSp],.inl ⟨rfl,rfl⟩⟩,(fun _ h=>by simp at h),rfl⟩).setF hord.out (-1))
 clear H15 H25 H35 H45 H55
 obtain ⟨c1',c2',c4',c5',f4',f5'⟩:=D0.out.facts
 have K6:=qh (K5.out.setCell (p:=⟨cf,0,none⟩) (.inl (by show w.heap.size<=cf;omega)) (.int .i64 (-1)))
 have D1:=qh (D0.out.setT hord.out 0 0 rfl)
 have K7:=qh (K6.out.setCell (p:=⟨ct,0,none⟩) (.inl (by show w.heap.size<=ct;omega)) (.int .i64 0))
 obtain ⟨d1,d2,d4,d5,e4,e5⟩:=D1.out.facts
 clear D0 K6 K5 K4 K3 K2
 go_wp2
 go_loopw [21] (fun i wr=>∃ k:Nat,k<=512/\i=.int .i64 k/\DSt wr w5.heap.size cf co ca ct cb (some ⟨xa,oa,none⟩) (some ⟨xb,ob,none⟩) ac bc a b (stD a b k).1 (stD a b k).2.1 (stD a b k).2.2/\Kept (fun _=>False) w wr/\w5.heap.size<=wr.heap.size) (fun i _=>512 - (intOf i).toNat)
 case atStart=>exact ⟨0,by omega,rfl,D1.out,K7.out,by simp⟩
 case round=>
  obtain ⟨k,hk,rfl,hD,hK,hsz⟩:=hrel
  clear D1 K7 d1 d2 d4 d5 e4 e5 c1' c2' c4' c5' f4' f5'
  obtain ⟨d1,d2,d4,d5,e4,e5⟩:=hD.facts
  by_cases hlt:k < 512
  ·obtain ⟨y1,y2,hy,ya⟩:=(HA.out.kept hK (fun _ _ _ _=>id)).cell (k:=k) (by rw [LA.out];exact hlt)
   cases hy
   obtain ⟨y1,y2,hy,yb⟩:=(HB.out.kept hK (fun _ _ _ _=>id)).cell (k:=k) (by rw [LB.out];exact hlt)
   cases hy
   have i0:(0:Int)<=(k:Int):=by omega
   have i1:(k:Int) < 512:=by omega
   have hinv:=z6Lg a b k
   have hol:=z3Ur a b k
   obtain ⟨o,f,t,hst⟩:∃ o f t,stD a b k=(o,f,t):=⟨_,_,_,rfl⟩
   have hsucc:stD a b (k+1)=nextD a b k o f t:=by show nextD _ _ _ _ _ _=_;rw [hst]
   rw [hst] at hD hinv d4 d5 hol
   have HSU:=qh hsucc
   have HI:=qh hinv
   have HD:=qh hD
   have HK:=qh hK
   have HOL:=qh hol
   clear hst hsucc hinv hD hK hol
   by_cases he:bAt a k=bAt b k
   ·have hq:(((bAt a k).toNat:Int) == ((bAt b k).toNat:Int))=true:=by simp [he]
    have HE:=qh he
    clear he
    go_wp2
    go_quiet (fail)
    go_wp2
    go_roundw
    case rel=>
     refine ⟨k+1,by omega,by go_num,?_,HK.out.drewN _,by simpa using hsz⟩
     rw [HSU.out]
     unfold nextD
     rw [if_pos HE.out]
     exact HD.out.kept ((Kept.refl (fun _=>False) _).drewN _) (fun _=>id)
    case measure=>simp [intOf];omega
   ·have hq:(((bAt a k).toNat:Int) == ((bAt b k).toNat:Int))=false:=by
     rw [beq_eq_false_iff_ne];intro e;exact he (UInt8.toNat_inj.1 (by omega))
    have HE:=qh he
    clear he
    go_wp2
    go_quiet (fail)
    have HD2:=qh (HD.out.kept ((Kept.refl (fun _=>False) wr).drewN nq) (fun _=>id))
    have HK2:=qh (HK.out.drewN nq)
    have hz2:w5.heap.size<=(wr.drewN nq).heap.size:=by simpa using hsz
    clear d1 d2 d4 d5 e4 e5 ya yb hq HD HK hsz
    generalize wr.drewN nq=W at *
    obtain ⟨d1,d2,d4,d5,e4,e5⟩:=HD2.out.facts
    rcases HI.out.cur with ⟨rfl,rfl,rfl⟩ | ⟨n,rfl,hn,-⟩
    ·skip
     have HP:=qh (zS5c w5.heap.size cf co ca ct cb xa oa xb ob ac bc W a b _ _ _ HD2.out hord.out hz2 (HA.out.kept HK2.out (fun _ _ _ _=>id)) (HB.out.kept HK2.out (fun _ _ _ _=>id)) LA.out LB.out hac hac2 hbc hbc2 (.inl rfl) (Nat.le_trans HOL.out (by omega)))
     go_wp2_with (go_at_call 98;refine HP.out.mono ?_;rintro e w6 ⟨rfl,hD6,hK6⟩;obtain ⟨-,-,g4,g5,g6,g7⟩:=hD6.facts;have hD7:=hD6.setF hord.out (k:Int);obtain ⟨-,-,h4,h5,h6,h7⟩:=hD7.facts;have HK6:=qh hK6;have HD7:=qh hD7;clear hK6 hD6 hD7)
     have HD8:=HD7.out.setT hord.out (k+1) ((k:Int)+1) rfl
     have HK8:=((HK2.out.new HK6.out (fun x h=>by omega)).setCell (p:=⟨cf,0,none⟩) (.inl (by show w.heap.size<=cf;omega)) (.int .i64 k)).setCell (p:=⟨ct,0,none⟩) (.inl (by show w.heap.size<=ct;omega)) (.int .i64 ((k:Int)+1))
     have hz8:w5.heap.size<=w6.heap.size:=Nat.le_trans hz2 HK6.out.size
     have hs8:nextD a b k [] (-1) 0=(putD [] (-1) 0,(k:Int),k+1):=by
      unfold nextD
      rw [if_neg HE.out,if_pos (by omega)]
     go_roundw
     case rel=>exact ⟨k+1,by omega,by go_num,by rw [HSU.out,hs8];exact HD8,HK8,by simpa using hz8⟩
     case measure=>simp [intOf];omega
    ·have q1:n < t:=hn.1
     have q2:t<=k:=hn.2.1
     have HN:=qh hn
     have q3:((n:Int) < 0)=False:=by simp
     have q4:IntKind.i64.wrap ((k:Int) - (t:Int))=(k:Int) - (t:Int):=by rw [IntKind.wrap_i64];omega
     clear hn
     by_cases h8:(8:Int)<=(k:Int) - (t:Int)
     ·skip
      have HP:=qh (zS5c w5.heap.size cf co ca ct cb xa oa xb ob ac bc W a b _ _ _ HD2.out hord.out hz2 (HA.out.kept HK2.out (fun _ _ _ _=>id)) (HB.out.kept HK2.out (fun _ _ _ _=>id)) LA.out LB.out hac hac2 hbc hbc2 (.inr ⟨n,rfl,q1,by omega⟩) (Nat.le_trans HOL.out (by omega)))
      go_wp2_with (go_at_call 98;refine HP.out.mono ?_;rintro e w6 ⟨rfl,hD6,hK6⟩;obtain ⟨-,-,g4,g5,g6,g7⟩:=hD6.facts;have hD7:=hD6.setF hord.out (k:Int);obtain ⟨-,-,h4,h5,h6,h7⟩:=hD7.facts;have HK6:=qh hK6;have HD7:=qh hD7;clear hK6 hD6 hD7)
      have HD8:=HD7.out.setT hord.out (k+1) ((k:Int)+1) rfl
      have HK8:=((HK2.out.new HK6.out (fun x h=>by omega)).setCell (p:=⟨cf,0,none⟩) (.inl (by show w.heap.size<=cf;omega)) (.int .i64 k)).setCell (p:=⟨ct,0,none⟩) (.inl (by show w.heap.size<=ct;omega)) (.int .i64 ((k:Int)+1))
      have hz8:w5.heap.size<=w6.heap.size:=Nat.le_trans hz2 HK6.out.size
      have hs8:nextD a b k o n t=(putD o n t,(k:Int),k+1):=by
       unfold nextD
       rw [if_neg HE.out,if_pos (by omega)]
      go_roundw
      case rel=>exact ⟨k+1,by omega,by go_num,by rw [HSU.out,hs8];exact HD8,HK8,by simpa using hz8⟩
      case measure=>simp [intOf];omega
     ·have HD8:=HD2.out.setT hord.out (k+1) ((k:Int)+1) rfl
      have HK8:=HK2.out.setCell (p:=⟨ct,0,none⟩) (.inl (by show w.heap.size<=ct;omega)) (.int .i64 ((k:Int)+1))
      have hs8:nextD a b k o n t=(o,(n:Int),k+1):=by
       unfold nextD
       rw [if_neg HE.out,if_neg (by omega)]
      go_wp2
      go_roundw
      case rel=>exact ⟨k+1,by omega,by go_num,by rw [HSU.out,hs8];exact HD8,HK8,by simpa using hz2⟩
      case measure=>simp [intOf];omega
  ·have hk512:k=512:=by omega
   subst hk512
   have hge:¬ ((512:Int) < 512):=by omega
   have hinv:=z6Lg a b 512
   have hol:=z3Ur a b 512
   have hM:diffM a b=putD (stD a b 512).1 (stD a b 512).2.1 (stD a b 512).2.2:=rfl
   obtain ⟨o,f,t,hst⟩:∃ o f t,stD a b 512=(o,f,t):=⟨_,_,_,rfl⟩
   rw [hst] at hD hinv d4 d5 hol hM
   have HM:=qh hM
   have HD:=qh hD
   have HK:=qh hK
   have hq:f = -1\/∃ n:Nat,f=n/\n < t/\t<=512:=by
    rcases hinv.cur with ⟨e,-⟩ | ⟨n,e,hn,-⟩
    ·exact .inl e
    ·exact .inr ⟨n,e,hn.1,hn.2.1⟩
   have HP:=qh (zS5c w5.heap.size cf co ca ct cb xa oa xb ob ac bc wr a b o f t HD.out hord.out hsz (HA.out.kept HK.out (fun _ _ _ _=>id)) (HB.out.kept HK.out (fun _ _ _ _=>id)) LA.out LB.out hac hac2 hbc hbc2 hq (Nat.le_trans hol (by omega)))
   clear hst hinv hM hD hK hq d1 d2 d4 d5 e4 e5 hol
   go_wp2_with (go_at_call 98;refine HP.out.mono ?_;rintro e w6 ⟨rfl,⟨v,L,-,-,g3,-,-,g6,g7,g8⟩,hK6⟩;have c3:=zVgO g3;have HK6:=qh hK6;have G6:=Lib.hid g6;have G7:=Lib.hid g7;have G8:=Lib.hid g8;clear hK6 g3 g6 g7 g8)
   go_ret
   exact ⟨v,L,rfl,G6.out.low (by omega),G7.out.low (by omega),by rw [G8.out,HM.out],HK.out.new HK6.out (fun x h=>by omega)⟩
end Go.Proofs.YtfgagakepmigbaaGreat
