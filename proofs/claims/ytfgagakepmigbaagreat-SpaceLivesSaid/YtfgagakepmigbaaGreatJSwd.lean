/-
  No statement is proved here.
-/
import Derived.Test.YtfgagakepmigbaaGreatJBlg
namespace Go.Proofs.YtfgagakepmigbaaGreat
open Go.RowKit
def bitB (x:UInt8) (j:Nat):Bool:=x.toNat / 2 ^ j % 2 == 1
def orB (x:UInt8) (j:Nat):UInt8:=UInt8.ofNat (x.toNat ||| 2 ^ j)
def andnB (x:UInt8) (j:Nat):UInt8:=UInt8.ofNat (x.toNat &&& (255 - 2 ^ j))
theorem zXS3 (p:Nat->Nat->Bool) (h:((List.range 256).all fun x=>(List.range 8).all fun j=>p x j)=true) (x:UInt8) {j:Nat} (hj:j < 8):p x.toNat j=true:=by
 have h1:=List.all_eq_true.1 h x.toNat (List.mem_range.2 x.toNat_lt)
 exact List.all_eq_true.1 h1 j (List.mem_range.2 hj)
theorem zkR2 (x:UInt8) {j k:Nat} (hj:j < 8) (hk:k < 8):bitB (orB x j) k=(decide (k=j) || bitB x k):=by
 have h:=zXS3 (fun x j=>(List.range 8).all fun k=>bitB (orB (UInt8.ofNat x) j) k == (decide (k=j) || bitB (UInt8.ofNat x) k)) (by decide +kernel) x hj
 have h1:=List.all_eq_true.1 h k (List.mem_range.2 hk)
 rw [UInt8.ofNat_toNat] at h1
 exact eq_of_beq h1
theorem z1br (x:UInt8) {j k:Nat} (hj:j < 8) (hk:k < 8):bitB (andnB x j) k=(!decide (k=j) && bitB x k):=by
 have h:=zXS3 (fun x j=>(List.range 8).all fun k=>bitB (andnB (UInt8.ofNat x) j) k == (!decide (k=j) && bitB (UInt8.ofNat x) k)) (by decide +kernel) x hj
 have h1:=List.all_eq_true.1 h k (List.mem_range.2 hk)
 rw [UInt8.ofNat_toNat] at h1
 exact eq_of_beq h1
def bitP (b:Bytes) (i:Nat):Bool:=bitB (bAt b (i / 8)) (i % 8)
def setP (b:Bytes) (i:Nat):Bytes:=b.set (i / 8) (orB (bAt b (i / 8)) (i % 8))
def clrP (b:Bytes) (i:Nat):Bytes:=b.set (i / 8) (andnB (bAt b (i / 8)) (i % 8))
theorem z1gX (b:Bytes) (i k:Nat) (x:UInt8) (hi:i < b.length):bAt (b.set i x) k=if k=i then x else bAt b k:=by
 unfold bAt
 simp only [List.getD_eq_getElem?_getD,List.getElem?_set]
 by_cases c:i=k
 ·rw [if_pos c,if_pos hi,if_pos c.symm];rfl
 ·rw [if_neg c,if_neg (fun h=>c h.symm)]
theorem zsVE (b:Bytes) (i:Nat):(setP b i).length=b.length:=by simp [setP]
theorem zpYY (b:Bytes) (i:Nat):(clrP b i).length=b.length:=by simp [clrP]
theorem zqPg {b:Bytes} {i k:Nat} (hi:i / 8 < b.length):bitP (setP b i) k=(decide (k=i) || bitP b k):=by
 unfold bitP setP
 rw [z1gX _ _ _ _ hi]
 by_cases c:k / 8=i / 8
 ·rw [if_pos c,zkR2 _ (by omega) (by omega),c]
  by_cases d:k % 8=i % 8
  ·rw [decide_eq_true d,decide_eq_true (show k=i by omega)]
  ·rw [decide_eq_false d,decide_eq_false (show ¬ k=i by omega)]
 ·rw [if_neg c,decide_eq_false (show ¬ k=i by rintro rfl;exact c rfl),Bool.false_or]
theorem zihH {b:Bytes} {i k:Nat} (hi:i / 8 < b.length):bitP (clrP b i) k=(!decide (k=i) && bitP b k):=by
 unfold bitP clrP
 rw [z1gX _ _ _ _ hi]
 by_cases c:k / 8=i / 8
 ·rw [if_pos c,z1br _ (by omega) (by omega),c]
  by_cases d:k % 8=i % 8
  ·rw [decide_eq_true d,decide_eq_true (show k=i by omega)]
  ·rw [decide_eq_false d,decide_eq_false (show ¬ k=i by omega)]
 ·rw [if_neg c,decide_eq_false (show ¬ k=i by rintro rfl;exact c rfl)];simp
def sgnS:Bytes:=[115,112,97,99,101,1]
def hdrB (f:Int->Bytes):Bool:=(f 0).take 6 == sgnS
def mapP (q:Nat):Int:=((1+q / 4096:Nat):Int)
def takB (f:Int->Bytes) (q:Nat):Bool:=bitP (f (mapP q)) (q % 4096)
def ownS (pages:Int):Int:=1+(pages+4095) / 4096
def freeQ (f:Int->Bytes) (n:Nat):Option Nat:=(List.range n).find? fun q=>!takB f q
def freeN (f:Int->Bytes) (n:Nat):Nat:=((List.range n).filter fun q=>!takB f q).length
def BkA.N (S:BkA):Nat:=S.pages.toNat
def BkA.taken (S:BkA) (q:Int):Bool×Int:=if hdrB S.now=false then (false,4) else if q < 0\/S.pages<=q then (false,0) else (takB S.now q.toNat,0)
def BkA.free (S:BkA):Int×Int:=if hdrB S.now=false then (0,4) else (((freeN S.now S.N:Nat):Int),0)
def thenA (X:BkA×Int) (k:BkA->BkA×Int):BkA×Int:=if X.2≠0 then X else k X.1
def BkA.takeAt (S:BkA) (q:Nat):BkA×Int:=thenA (S.put q (zeros 512)) fun S1=>S1.put (mapP q) (setP (S.now (mapP q)) (q % 4096))
def BkA.take (S:BkA):BkA×Int×Int:=
 if S.inT=false then (S,0,7) else if hdrB S.now=false then (S,0,4) else
 match freeQ S.now S.N with
 | none=>(S,0,5)
 | some q=>((S.takeAt q).1,if (S.takeAt q).2=0 then ((q:Nat):Int) else 0,(S.takeAt q).2)
def BkA.give (S:BkA) (q:Int):BkA×Int:=
 if S.inT=false then (S,7) else if hdrB S.now=false then (S,4) else
 if (S.taken q).1=false\/q < ownS S.pages then (S,2) else S.put (mapP q.toNat) (clrP (S.now (mapP q.toNat)) (q.toNat % 4096))
def rootV (f:Int->Bytes) (k:Nat):Int:=((valN (((f 0).drop (8+4*k)).take 4) 0:Nat):Int)
def BkA.root (S:BkA) (k:Int):Int×Int:=if k < 0\/7 < k then (0,2) else if hdrB S.now=false then (0,4) else (rootV S.now k.toNat,0)
def rootP (b:Bytes) (k:Nat) (p:Int):Bytes:=layO b (8+4*k) (beN p.toNat 4)
def BkA.setRoot (S:BkA) (k p:Int):BkA×Int:=
 if S.inT=false then (S,7) else if k < 0\/7 < k\/p < 0\/S.pages<=p then (S,2) else if hdrB S.now=false then (S,4) else S.put 0 (rootP (S.now 0) k.toNat p)
def ownP:Nat->Bytes
 | 0=>zeros 512
 | k+1=>setP (ownP k) k
def hdrP:Bytes:=sgnS ++ zeros 506
def mapsM (own:Nat):Nat->Nat->BkA->BkA×Int
 | 0,_,S=>(S,0)
 | n+1,i,S=>thenA (S.put i (if i=1 then ownP own else zeros 512)) (mapsM own n (i+1))
def BkA.format (S:BkA):BkA×Int:=
 if S.inT=false then (S,7) else if S.pages<=ownS S.pages then (S,5) else
 thenA (mapsM (ownS S.pages).toNat ((ownS S.pages).toNat - 1) 1 S) fun S1=>S1.put 0 hdrP
def difN (a d:Bytes):Nat->Nat
 | 0=>0
 | i+1=>difN a d i+if bAt a i=bAt d i then 0 else 1
def potS:Sp->Int
 | []=>0
 | s :: l=>(94+3*((s.2:Int) - s.1))+potS l
theorem zDeM (l:Sp) (s:Nat×Nat):potS (l ++ [s])=potS l+(94+3*((s.2:Int) - s.1)):=by
 induction l with
 | nil=>simp [potS]
 | cons x l ih=>simp only [List.cons_append,potS,ih];omega
theorem zCG2 (o:Sp) (f:Int) (t:Nat):potS (putD o f t)=potS o+if 0<=f then 94+3*((t:Int) - f) else 0:=by
 unfold putD
 by_cases h:0<=f
 ·rw [if_pos h,if_pos h,zDeM];simp only;omega
 ·rw [if_neg h,if_neg h];omega
theorem zeuf (a d:Bytes):∀ i,potS (putD (stD a d i).1 (stD a d i).2.1 (stD a d i).2.2)<=97*(difN a d i:Int)/\(stD a d i).2.2<=i
 | 0=>by simp [stD,putD,potS,difN]
 | i+1=>by
  obtain ⟨ih,iht⟩:=zeuf a d i
  rw [zCG2] at ih ⊢
  show potS (nextD a d i (stD a d i).1 (stD a d i).2.1 (stD a d i).2.2).1+_<=97*((difN a d i+if bAt a i=bAt d i then 0 else 1:Nat):Int)/\(nextD a d i (stD a d i).1 (stD a d i).2.1 (stD a d i).2.2).2.2<=i+1
  show potS (nextD a d i (stD a d i).1 (stD a d i).2.1 (stD a d i).2.2).1+(if 0<=(nextD a d i (stD a d i).1 (stD a d i).2.1 (stD a d i).2.2).2.1 then 94+3*(((nextD a d i (stD a d i).1 (stD a d i).2.1 (stD a d i).2.2).2.2:Int) - (nextD a d i (stD a d i).1 (stD a d i).2.1 (stD a d i).2.2).2.1) else 0)<=_/\_
  generalize (stD a d i).1=o at ih ⊢
  generalize (stD a d i).2.1=f at ih ⊢
  generalize (stD a d i).2.2=t at ih iht ⊢
  unfold nextD
  by_cases h:bAt a i=bAt d i
  ·rw [if_pos h,if_pos h];dsimp only;constructor<;>omega
  ·rw [if_neg h,if_neg h]
   by_cases h2:f < 0\/(8:Int)<=(i:Int) - t
   ·rw [if_pos h2]
    dsimp only
    rw [zCG2,if_pos (show (0:Int)<=(i:Int) by omega)]
    constructor
    ·split at ih<;>(try rw [if_pos (by assumption)])<;>(try rw [if_neg (by assumption)])<;>omega
    ·omega
   ·rw [if_neg h2]
    dsimp only
    rw [if_pos (show 0<=f by omega)] at ih ⊢
    constructor<;>omega
theorem zWos (a d:Bytes) (hd:d.length=512):cstD a d+owsD a d=potS (diffM a d):=by
 have h:∀ l:Sp,(∀ s∈l,s.1 < s.2/\s.2<=512)->costM (l.map (spR 0 a d))+owesM (l.map (spR 0 a d))=potS l:=by
  intro l
  induction l with
  | nil=>intro _;rfl
  | cons s l ih=>
   intro hl
   have h1:=hl s (List.mem_cons_self ..)
   have h2:=ih fun x hx=>hl x (List.mem_cons_of_mem _ hx)
   have h3:(spR 0 a d s).new.length=s.2 - s.1:=z9LT (by omega)
   simp only [List.map_cons,costM,owesM,potS,h3]
   omega
 exact h _ fun s hs=>⟨((z6BQ a d).ok s hs).1,((z6BQ a d).ok s hs).2.1⟩
theorem zHIS (a d:Bytes) (hd:d.length=512):cstD a d+owsD a d<=97*(difN a d 512:Int):=by
 rw [zWos a d hd]
 exact (zeuf a d 512).1
theorem zWWR (a d:Bytes) (p:Nat->Bool) (h:∀ j,bAt a j≠bAt d j->p j=true):∀ i,difN a d i<=((List.range i).filter p).length
 | 0=>Nat.le_refl 0
 | i+1=>by
  have ih:=zWWR a d p h i
  rw [List.range_succ,List.filter_append,List.length_append]
  unfold difN
  by_cases c:bAt a i=bAt d i
  ·rw [if_pos c];omega
  ·rw [if_neg c,List.filter_cons_of_pos (h i c)];simp;exact ih
theorem zxGh (a:Bytes):∀ i,difN a a i=0
 | 0=>rfl
 | i+1=>by unfold difN;rw [zxGh a i];simp
theorem zrKb (a:Bytes) (k:Nat) (x:UInt8):∀ i,difN a (a.set k x) i<=if k < i then 1 else 0
 | 0=>by simp [difN]
 | i+1=>by
  have ih:=zrKb a k x i
  unfold difN
  by_cases c:k=i
  ·subst c
   rw [if_neg (Nat.lt_irrefl _)] at ih
   rw [if_pos (Nat.lt_succ_self _)]
   split<;>omega
  ·have e:bAt a i=bAt (a.set k x) i:=by
    unfold bAt
    simp only [List.getD_eq_getElem?_getD,List.getElem?_set]
    rw [if_neg c]
   rw [if_pos e]
   by_cases d:k < i
   ·rw [if_pos d] at ih;rw [if_pos (by omega)];exact ih
   ·rw [if_neg d] at ih;rw [if_neg (by omega)];exact ih
def BkA.slack (S:BkA):Int:=S.room - S.owed
def BkA.aft (S:BkA) (p:Int) (d:Bytes):BkA:={ S with now:=updP S.now p d,room:=S.room - cstD (S.now p) d,owed:=S.owed+owsD (S.now p) d,chg:=S.chg+(diffM (S.now p) d).length }
theorem zoJ0 {S:BkA} (hT:S.inT=true) {p:Int} (h0:0<=p) (h1:p < S.pages) {d:Bytes} (hd:d.length=512):(S.slack < cstD (S.now p) d+owsD (S.now p) d/\S.put p d=(S,5))\/(cstD (S.now p) d+owsD (S.now p) d<=S.slack/\S.put p d=(S.aft p d,0)):=by
 unfold BkA.put BkA.slack
 rw [hT,if_neg (by decide),if_neg (by omega),if_neg (by omega)]
 by_cases c:S.room < cstD (S.now p) d+(S.owed+owsD (S.now p) d)
 ·rw [if_pos c];exact .inl ⟨by omega,rfl⟩
 ·rw [if_neg c];exact .inr ⟨by omega,by unfold BkA.aft;rw [hT]⟩
theorem zRyf (S:BkA) (p:Int) (d:Bytes):(S.aft p d).slack=S.slack - (cstD (S.now p) d+owsD (S.now p) d):=by
 unfold BkA.slack BkA.aft;dsimp only;omega
theorem zGYH (S:BkA) (p q:Int) (d:Bytes):(S.aft p d).now q=if q=p then d else S.now q:=rfl
theorem zco4 (S:BkA) (p:Int) (d:Bytes):(S.aft p d).pages=S.pages:=rfl
structure Puts (S S':BkA):Prop where
 n:S'.n=S.n
 was:S'.was=S.was
 inT:S'.inT=S.inT
theorem Puts.refl (S:BkA):Puts S S:=⟨rfl,rfl,rfl⟩
theorem Puts.trans {S S1 S2:BkA} (h:Puts S S1) (k:Puts S1 S2):Puts S S2:=⟨k.n.trans h.n,k.was.trans h.was,k.inT.trans h.inT⟩
theorem Puts.aft (S:BkA) (p:Int) (d:Bytes):Puts S (S.aft p d):=⟨rfl,rfl,rfl⟩
theorem Puts.pages {S S':BkA} (h:Puts S S'):S'.pages=S.pages:=by unfold BkA.pages;rw [h.n]
section
variable {w w':World} {x:BAdr} {S:BkA} {g:Nat}
theorem BkW.pg (h:BkW w x S g):10<=S.pages/\S.pages<=32766:=by
 obtain ⟨b,P,L,D,h1,h2⟩:=h
 obtain ⟨R,hc,-⟩:=h2.rest
 have:=hc.n24
 have:=hc.n64
 have:=h2.n
 unfold BkA.pages
 omega
theorem zJh4 (h:BkW w x S g):Calls Tryz.prog 35 #[ptrV x.bk] w fun e w'=>e=.returned (.int .i64 (ownS S.pages))/\w=w':=by
 have HP:=qh (zQfR h)
 obtain ⟨p0,p1⟩:=h.pg
 obtain ⟨n,hn⟩:∃ n,n=S.pages:=⟨_,rfl⟩
 rw [<- hn] at HP p0 p1 ⊢
 have e1:wrap64 (n+4096)=n+4096:=by unfold wrap64;omega
 have e2:wrap64 (n+4096 - 1)=n+4095:=by unfold wrap64;omega
 have e3:(n+4095).tdiv 4096=(n+4095) / 4096:=Int.tdiv_eq_ediv_of_nonneg (by omega)
 have e4:wrap64 ((n+4095) / 4096)=(n+4095) / 4096:=by unfold wrap64;omega
 have e5:wrap64 (1+(n+4095) / 4096)=ownS n:=by unfold wrap64 ownS;omega
 unfold ptrV at HP ⊢
 clear h hn
 go_enter Tryz.func35,Tryz.ntmps35
 go_wp2_with fail
 refine HP.out.mono ?_
 rintro e wx ⟨rfl,rfl⟩
 go_wp2
 go_ret
 refine ⟨?_,rfl⟩
 show Ending.returned (.int .i64 (1+(n+4096 - 1) / 4096))=.returned (.int .i64 (ownS n))
 unfold ownS
 rw [show n+4096 - 1=n+4095 by omega]
theorem zjaJ (h:BkW w x S g):Calls Tryz.prog 32 #[ptrV x.bk] w fun e w'=>e=.returned (.int .i64 (if S.inT=true then 0 else 7))/\w=w':=by
 have HP:=qh (zQfR h)
 have HI:=qh (zKxU h)
 obtain ⟨p0,p1⟩:=h.pg
 obtain ⟨n,hn⟩:∃ n,n=S.pages:=⟨_,rfl⟩
 obtain ⟨t,ht⟩:∃ t,t=S.inT:=⟨_,rfl⟩
 rw [<- hn] at HP p0 p1
 rw [<- ht] at HI ⊢
 have e0:(n == 0)=false:=by rw [beq_eq_false_iff_ne];omega
 unfold ptrV at HP HI ⊢
 clear h hn ht
 go_enter Tryz.func32,Tryz.ntmps32
 go_wp2_with fail
 refine HP.out.mono ?_
 rintro e wx ⟨rfl,rfl⟩
 go_wp2_with fail
 refine HI.out.mono ?_
 rintro e wx ⟨rfl,rfl⟩
 cases t with
 | true=>
  go_wp2
  go_ret
  exact ⟨rfl,rfl⟩
 | false=>
  go_wp2
  go_ret
  exact ⟨rfl,rfl⟩
theorem z5LJ (A B:Option Addr) (c d:Nat) (l m:Bytes) (w:World) (hl:l.length=6) (hm:m.length=6) (ha:RdB w A l) (hb:RdB w B m) :
  Calls Tryz.prog 101 #[.slice A 6 c,.slice B 6 d] w fun e w'=>e=.returned (.bool (l == m))/\w=w':=by
 have e1:=zr6v (c:=c) hl ha (by decide)
 have e2:=zr6v (c:=d) hm hb (by decide)
 go_enter Tryz.func101,Tryz.ntmps101
 go_wp2
 go_ret
 exact ⟨rfl,rfl⟩
theorem zqa6 (A B:Option Addr) (c d:Nat) (l m:Bytes) (w:World) (hl:l.length=512) (hc:512<=c) (hm:m.length=6) (ha:RdB w A l) (hb:RdB w B m) :
  Calls Tryz.prog 64 #[.slice A 512 c,.slice B 6 d] w fun e w'=>e=.returned (.bool (l.take 6 == m))/\w=w':=by
 have HE:=qh (z5LJ A B c d (l.take 6) m w (by rw [List.length_take];omega) hm (ha.takeG 6) hb)
 obtain ⟨b,o,rfl⟩:=ha.some hl
 clear ha hb
 go_enter Tryz.func64,Tryz.ntmps64
 go_wp2_with fail
 refine HE.out.mono ?_
 rintro e wx ⟨rfl,rfl⟩
 go_wp2
 go_ret
 exact ⟨rfl,rfl⟩
end
section
variable {w w':World} {x:BAdr} {S:BkA} {g:Nat}
def z08c (w:World) (x:BAdr) (S:BkA) (g:Nat) (e:Ending) (w':World):Prop:=∃ x',BTo w x w' x'/\BkW w' x' S g /\
 (hdrB S.now=false/\e=.returned (.tuple #[.slice none 0 0,.int .i64 4])\/hdrB S.now=true/\∃ y c,(S.now 0).length=512/\e=.returned (.tuple #[.slice (some ⟨y,0,none⟩) 512 c,.int .i64 0])/\OwnB w' w.heap.size y c (S.now 0)/\¬ x'.K y)
theorem bY6 (wz:World):(Instr.buildSlice 47 6 #[(0,.int .u8 115),(1,.int .u8 112),(2,.int .u8 97),(3,.int .u8 99),(4,.int .u8 101),(5,.int .u8 1)]).run Tryz.prog wz =
  .ok (.slice (some ⟨wz.heap.size,0,none⟩) 6 6) (wz.alloc (.cells (cellsOf sgnS) 5)):=by
 obtain ⟨i,hi,h2,h3,h4⟩:=info_parts info5
 exact run_buildSlice wz _ 5 6 _ _ i _ Tryz.underlying47 hi h2 (by rw [h3];decide) (by rw [h3];decide) (by rw [h3];kernel_rfl)
theorem zoLm {w:World} {ops:Array Oper} {rest:List Oper} {o o2:Oper} {a:Act} {Q:Exit->Act->World->Prop} (hgd:o.guard=none) (hgd2:o2.guard=none) (ho:o.op=.buildSlice 47 6 #[(0,.const (.int .u8 115)),(1,.const (.int .u8 112)),(2,.const (.int .u8 97)),(3,.const (.int .u8 99)),(4,.const (.int .u8 101)),(5,.const (.int .u8 1))])
  (ho2:o2.op=.convert 47 47 (.tmp 15)) (hd:o.dst=some 15) (hsz:15 < a.tmps.size)
  (k:∀ g w',w.heap.size<=g->w'.heap[g]?=some (.cells (cellsOf sgnS) 5 (6,7))->Kept (fun _=>False) w w'->wpList Tryz.prog ops Q rest ((a.put (some 15) (.slice (some ⟨g,0,none⟩) 6 6)).put o2.dst (.slice (some ⟨g,0,none⟩) 6 6)) w'):wpList Tryz.prog ops Q (o :: o2 :: rest) a w:=by
 refine z3Ho (w':=w.alloc (.cells (cellsOf sgnS) 5)) (v:=.slice (some ⟨w.heap.size,0,none⟩) 6 6) hgd ?_ (z3Ho (w':=w.alloc (.cells (cellsOf sgnS) 5 (6,7))) (v:=.slice (some ⟨w.heap.size,0,none⟩) 6 6) hgd2 ?_ ?_)
 ·have h:=bY6 w
  simp only [execOp,ho,List.map_toArray,List.map_cons,List.map_nil,Act.eval,Sem.run_bind,h,Result.andThen_ok]
  rfl
 ·have h:=Lib.run_convert_bytes_const (P:=Tryz.prog) w 47 5 (cellsOf sgnS) 6 6 Tryz.underlying47 Tryz.underlying5
  have he:(a.put o.dst (.slice (some ⟨w.heap.size,0,none⟩) 6 6)).eval (.tmp 15)=.slice (some ⟨w.heap.size,0,none⟩) 6 6:=by
   rw [hd]
   simp [Act.put,Act.eval,hsz]
  simp only [execOp,ho2,he,Sem.run_bind,h,Result.andThen_ok]
  rfl
 ·rw [hd]
  exact k w.heap.size _ (Nat.le_refl _) (heap_alloc_new w _) ((Kept.refl _ w).alloc _)
set_option maxRecDepth 100000 in
theorem zCd5 (h:BkW w x S g):Calls Tryz.prog 31 #[ptrV x.bk] w (z08c w x S g):=by
 obtain ⟨p0,p1⟩:=h.pg
 have HP:=qh (zqnz h 0)
 obtain ⟨POST,hPOST⟩:∃ POST,POST=z08c w x S g:=⟨_,rfl⟩
 rw [<- hPOST]
 have HPO:=qh (show ∀ e w',z08c w x S g e w'->POST e w' from fun e w' h=>by rw [hPOST];exact h)
 unfold ptrV at HP ⊢
 clear h hPOST
 go_enter Tryz.func31,Tryz.ntmps31
 go_wp2_with fail
 refine HP.out.mono ?_
 rintro e w1 ⟨x1,h1,h2,⟨h3,rfl⟩ | ⟨h3,y,c,hl,rfl,ho,hn⟩⟩
 ·omega
 ·have H1:=qh h1
  have H2:=qh h2
  have HO:=qh ho
  have HN:=qh hn
  have HL:=qh hl
  obtain ⟨l,hl0⟩:∃ l,l=S.now 0:=⟨_,rfl⟩
  rw [<- hl0] at HO HL
  have HLE:=qh hl0
  clear h1 h2 ho hn hl hl0 HP h3
  have hc:512<=c:=by
   obtain ⟨cur,_,_,hcap,_⟩:=HO.out.form
   rw [HL.out] at hcap;exact hcap
  go_wp2_with (refine zoLm rfl rfl rfl rfl rfl (by show 15 < 20;decide) ?_)
  intro gs w2 l2 hb2 hk2
  have H12:=qh (H1.out.keep0 hk2)
  have H22:=qh (H2.out.keep0 hk2)
  have HO2:=qh (HO.out.kept hk2)
  have HPX:=qh (zqa6 (some ⟨y,0,none⟩) (some ⟨gs,0,none⟩) c 6 l sgnS w2 HL.out hc rfl HO2.out.v.rd (RdB.of_blk hb2))
  clear hb2 hk2 H1 H2 HO
  go_wp2_with fail
  refine HPX.out.mono ?_
  rintro e wx ⟨rfl,rfl⟩
  have HB:=qh (show hdrB S.now=(l.take 6 == sgnS) from by rw [HLE.out];rfl)
  obtain ⟨t,ht⟩:∃ t,t=(l.take 6 == sgnS):=⟨_,rfl⟩
  rw [<- ht] at HB ⊢
  clear ht HPX
  cases t with
  | true=>
   go_wp2
   refine HPO.out _ _ ⟨x1,H12.out,H22.out,.inr ⟨HB.out,y,c,by rw [<- HLE.out];exact HL.out,rfl,by rw [<- HLE.out];exact HO2.out,HN.out⟩⟩
  | false=>
   go_wp2
   refine HPO.out _ _ ⟨x1,H12.out,H22.out,.inl ⟨HB.out,rfl⟩⟩
end
theorem zuSS (x:UInt8) {j:Nat} (hj:j < 8):(bits BinOp.and IntKind.u8 (x.toNat:Int) ((2 ^ j:Nat):Int) != 0)=bitB x j:=by
 have h:=zXS3 (fun x j=>(bits BinOp.and IntKind.u8 (x:Int) ((2 ^ j:Nat):Int) != 0) == bitB (UInt8.ofNat x) j) (by decide +kernel) x hj
 rw [UInt8.ofNat_toNat] at h
 exact eq_of_beq h
theorem z36y (x:UInt8) {j:Nat} (hj:j < 8):bits BinOp.or IntKind.u8 (x.toNat:Int) ((2 ^ j:Nat):Int)=((orB x j).toNat:Int):=by
 have h:=zXS3 (fun x j=>bits BinOp.or IntKind.u8 (x:Int) ((2 ^ j:Nat):Int) == ((orB (UInt8.ofNat x) j).toNat:Int)) (by decide +kernel) x hj
 rw [UInt8.ofNat_toNat] at h
 exact eq_of_beq h
theorem zn2t (x:UInt8) {j:Nat} (hj:j < 8):bits BinOp.andNot IntKind.u8 (x.toNat:Int) ((2 ^ j:Nat):Int)=((andnB x j).toNat:Int):=by
 have h:=zXS3 (fun x j=>bits BinOp.andNot IntKind.u8 (x:Int) ((2 ^ j:Nat):Int) == ((andnB (UInt8.ofNat x) j).toNat:Int)) (by decide +kernel) x hj
 rw [UInt8.ofNat_toNat] at h
 exact eq_of_beq h
theorem zWw4 (x:UInt8) {j:Nat} (hj:j < 8):bits BinOp.and IntKind.u8 ((x.toNat:Int) / 2 ^ j) 1=if bitB x j=true then 1 else 0:=by
 have h:=zXS3 (fun x j=>bits BinOp.and IntKind.u8 ((x:Int) / 2 ^ j) 1 == if bitB (UInt8.ofNat x) j=true then 1 else 0) (by decide +kernel) x hj
 rw [UInt8.ofNat_toNat] at h
 exact eq_of_beq h
section
variable {w w':World} {x:BAdr} {S:BkA} {g:Nat}
set_option maxRecDepth 100000 in
theorem zGKL (h:BkW w x S g) (q:Nat) (hq:(q:Int) < S.pages) (f:FuncId) (cap:Array Value) (R:Int->World->Prop)
  (hcf:∀ (a b c:Value) (wz:World),(callFunc f (#[a,b,c] ++ cap)).run Tryz.prog wz=.ok (.enter f (#[a,b,c] ++ cap)) wz)
  (H:∀ w' x' y c,BTo w x w' x'->BkW w' x' S g->OwnB w' w.heap.size y c (S.now (mapP q))->(S.now (mapP q)).length=512->¬ x'.K y ->
   Calls Tryz.prog f (#[.slice (some ⟨y,0,none⟩) 512 c,.int .i64 ((q % 4096 / 8:Nat):Int),.int .u8 ((2 ^ (q % 8):Nat):Int)] ++ cap) w' fun e w'=>∃ n,e=.returned (.int .i64 n)/\R n w') :
  Calls Tryz.prog 33 #[ptrV x.bk,.int .i64 q,.func (.func f) #[] cap] w fun e w'=>∃ n,e=.returned (.int .i64 n)/\R n w':=by
 obtain ⟨p0,p1⟩:=h.pg
 have hm:0<=mapP q/\mapP q < S.pages:=by unfold mapP;omega
 have HP:=qh (zqnz h (mapP q))
 have HM:=qh hm
 have HH:=Lib.hid H
 have em:mapP q=1+(q:Int) / 4096:=by unfold mapP;omega
 have HE:=Lib.hid em
 have i1:0<=(q:Int):=by omega
 rw [em] at HP
 have hpn:¬ (1+(q:Int) / 4096 < 0):=by omega
 unfold ptrV at HP ⊢
 clear H hm h em
 go_enter Tryz.func33,Tryz.ntmps33
 go_wp2_with fail
 refine HP.out.mono ?_
 rintro e w1 ⟨x1,h1,h2,⟨h3,rfl⟩ | ⟨h3,y,c,hl,rfl,ho,hn⟩⟩
 ·have:=HM.out
  rw [HE.out] at this
  omega
 ·rw [<- HE.out] at hl ho
  have HC:=qh (HH.out w1 x1 y c h1 h2 ho hl hn)
  clear h1 h2 ho hn hl HP h3 HH
  have c1:((q % 4096 / 8:Nat):Int)=(q:Int) % 4096 / 8:=by omega
  have c2:((2 ^ (q % 8):Nat):Int)=2 ^ (q % 8) % 256:=by
   have h:((List.range 8).all fun j=>((2 ^ j:Nat):Int) == 2 ^ j % 256)=true:=by decide +kernel
   exact eq_of_beq (List.all_eq_true.1 h (q % 8) (List.mem_range.2 (by omega)))
  have HC2:=qh (show Calls Tryz.prog f (#[.slice (some ⟨y,0,none⟩) 512 c,.int .i64 ((q:Int) % 4096 / 8),.int .u8 (2 ^ (q % 8) % 256)] ++ cap) w1 fun e w'=>∃ n,e=.returned (.int .i64 n)/\R n w' from by rw [<- c1,<- c2];exact HC.out)
  clear HC c1 c2
  go_wp2_with fail
  refine HC2.out.mono ?_
  rintro e w2 ⟨n,rfl,hr⟩
  have HR:=qh hr
  clear hr HC2
  go_wp2
  go_ret
  exact ⟨n,rfl,HR.out⟩
end
section
variable {w w' w1 w2:World} {x x1:BAdr} {S:BkA} {g:Nat}
theorem BTo.newK {T:Nat->Prop} (h:BTo w x w1 x1) (k:Kept T w1 w2) (hT:∀ z,T z->w.heap.size<=z):BTo w x w2 x1:=⟨h.fix,h.k.trans k (fun z hz h'=>by have:=hT z h';omega),h.g⟩
theorem BkW.notK (h:BkW w x S g) {y:Nat} {t:TypeId} (hx:IsT w y t) (t1:t≠118) (t2:t≠100) (t3:t≠143) (t4:t≠133) (t5:t≠137) (t6:t≠5) (t7:t≠2) (t8:t≠30):¬ x.K y:=by
 obtain ⟨b,P,L,D,h1,h2⟩:=h
 exact h1.notT hx t1 t2 t3 t4 t5 t6 t7 t8
theorem BkW.lt (h:BkW w x S g) {z:Nat} (hz:x.K z):z < w.heap.size:=by
 obtain ⟨b,P,L,D,h1,h2⟩:=h
 exact h1.lt hz
theorem zE2R (y c i j tc:Nat) (b0:Bool) (l:Bytes) (w:World) (ho:w.cell? ⟨y,i,none⟩=some (.int .u8 (bAt l i).toNat)) (hi:i < 512) (hj:j < 8) (ht:w.heap[tc]?=some (.cells #[.bool b0] 4 (0,0))) :
  Calls Tryz.prog 63 #[.slice (some ⟨y,0,none⟩) 512 c,.int .i64 (i:Int),.int .u8 ((2 ^ j:Nat):Int),.pointer (some ⟨tc,0,none⟩)] w fun e w'=>e=.returned (.int .i64 0)/\w'.heap[tc]?=some (.cells #[.bool (bitB (bAt l i) j)] 4 (0,0))/\Kept (fun z=>z=tc) w w':=by
 have hb:=zuSS (bAt l i) hj
 have i1:(i:Int) < 512:=by omega
 obtain ⟨P2,hP2⟩:∃ P2:Int,P2=((2 ^ j:Nat):Int):=⟨_,rfl⟩
 rw [<- hP2] at hb ⊢
 clear hP2
 go_enter Tryz.func63,Tryz.ntmps63
 go_wp2_with (refine z2q7 rfl _ _ _ rfl tc 0 (.bool (bitB (bAt l i) j)) #[.bool b0] rfl (by first | rfl | exact congrArg Value.bool hb) ht (by kernel_rfl) (by show 0 < 1;decide) rfl ?_)
 intro w2 hb2 hk2
 have HB:=qh (show w2.heap[tc]?=some (.cells #[.bool (bitB (bAt l i) j)] 4 (0,0)) from hb2)
 have HK:=qh hk2
 clear hb2 hk2 ht ho
 go_wp2
 go_ret
 exact ⟨rfl,HB.out,HK.out⟩
theorem z7P8 (w:World):(zeroValue 4).run Tryz.prog w=.ok (.bool false) w:=by go_simp
def zvBu (w:World) (x:BAdr) (S:BkA) (g:Nat) (q:Int) (e:Ending) (w':World):Prop:=e=.returned (.tuple #[.bool (S.taken q).1,.int .i64 (S.taken q).2])/\∃ x',BTo w x w' x'/\BkW w' x' S g
set_option maxRecDepth 100000 in
theorem z5xR (h:BkW w x S g) (q:Int):Calls Tryz.prog 30 #[ptrV x.bk,.int .i64 q] w (zvBu w x S g q):=by
 obtain ⟨p0,p1⟩:=h.pg
 have HH:=qh (zCd5 h)
 have HB:=qh h
 obtain ⟨POST,hPOST⟩:∃ POST,POST=zvBu w x S g q:=⟨_,rfl⟩
 rw [<- hPOST]
 have HPO:=qh (show ∀ b n w' x',S.taken q=(b,n)->BTo w x w' x'->BkW w' x' S g->POST (.returned (.tuple #[.bool b,.int .i64 n])) w' from fun b n w' x' h1 h2 h3=>by rw [hPOST];exact ⟨by rw [h1],x',h2,h3⟩)
 have HPG:=qh (show 10<=S.pages/\S.pages<=32766 from ⟨p0,p1⟩)
 have hmf:∀ (fn:Fn) (first cap:Array Value) (w:World),(Instr.makeFunc fn first cap).run Tryz.prog w=.ok (.func fn first cap) w:=fun _ _ _ _=>rfl
 unfold ptrV at HH ⊢
 clear h hPOST p0 p1
 go_enter Tryz.func30,Tryz.ntmps30
 go_wp2_with fail
 refine HH.out.mono ?_
 rintro e w1 ⟨x1,h1,h2,⟨h3,rfl⟩ | ⟨h3,y,c,hl,rfl,ho,hn⟩⟩
 ·have H1:=qh h1
  have H2:=qh h2
  have H3:=qh (show S.taken q=(false,4) from by unfold BkA.taken;rw [if_pos h3])
  clear h1 h2 h3 HH
  go_wp2
  exact HPO.out _ _ _ x1 H3.out H1.out H2.out
 ·have H1:=qh h1
  have H2:=qh h2
  have H3:=qh (show S.taken q=if q < 0\/S.pages<=q then (false,0) else (takB S.now q.toNat,0) from by unfold BkA.taken;rw [if_neg (by rw [h3];decide)])
  have HPN:=qh (zQfR h2)
  have hbk:x1.bk=x.bk:=h1.fix.bk
  unfold ptrV at HPN
  rw [hbk] at HPN
  have HBK:=qh hbk
  obtain ⟨n,hn2⟩:∃ n,n=S.pages:=⟨_,rfl⟩
  rw [<- hn2] at HPN H3 HPG
  have HN:=qh hn2
  clear h1 h2 h3 HH hl ho hn hbk hn2
  by_cases hq0:q < 0
  ·have H4:=qh (show S.taken q=(false,0) from by rw [H3.out,if_pos (.inl hq0)])
   go_wp2
   exact HPO.out _ _ _ x1 H4.out H1.out H2.out
  ·by_cases hq1:n<=q
   ·have H4:=qh (show S.taken q=(false,0) from by rw [H3.out,if_pos (.inr hq1)])
    go_wp2_with fail
    refine HPN.out.mono ?_
    rintro e wx ⟨rfl,rfl⟩
    go_wp2
    exact HPO.out _ _ _ x1 H4.out H1.out H2.out
   ·have H4:=qh (show S.taken q=(takB S.now q.toNat,0) from by rw [H3.out,if_neg (by omega)])
    go_wp2_with fail
    refine HPN.out.mono ?_
    rintro e wx ⟨rfl,rfl⟩
    go_wp2_with (refine zDLj rfl 4 rfl (.bool false) rfl z7P8 ?_)
    intro tc w2 l2 m2 hb2 hk2
    have HB2:=qh hb2
    have H12:=qh (H1.out.keep0 hk2)
    have H22:=qh (H2.out.keep0 hk2)
    have HL2:=qh (show w.heap.size<=tc from by have:=H1.out.k.size;omega)
    clear hb2 hk2 l2 m2
    go_wp2_with (refine z2q7 rfl _ _ _ rfl tc 0 (.bool false) #[.bool false] rfl rfl HB2.out (by kernel_rfl) (by show 0 < 1;decide) rfl ?_)
    intro w3 hb3 hk3
    have HB3:=qh (show w3.heap[tc]?=some (.cells #[.bool false] 4 (0,0)) from hb3)
    have HNT:=qh (show ∀ z,x1.K z->z≠tc from fun z hz e=>by
     subst e
     exact H22.out.notK ⟨_,_,HB2.out⟩ (by decide) (by decide) (by decide) (by decide) (by decide) (by decide) (by decide) (by decide) hz)
    have H13:=qh (H12.out.newK hk3 (fun z hz=>by subst hz;exact HL2.out))
    have H23:=qh (BkW.keep H22.out hk3 HNT.out)
    clear hb3 hk3 HB2 H12 H22 H1 H2 HNT HPN
    obtain ⟨k,hk⟩:∃ k:Nat,q=k:=⟨q.toNat,by omega⟩
    subst hk
    have HQ:=qh (show (k:Int) < S.pages from by rw [<- HN.out];omega)
    rw [Int.toNat_natCast] at H4
    have HBI:=qh (zGKL H23.out k HQ.out 63 #[.pointer (some ⟨tc,0,none⟩)] (fun m w'=>m=0/\∃ x',BTo w x w' x'/\BkW w' x' S g/\w'.heap[tc]?=some (.cells #[.bool (takB S.now k)] 4 (0,0)))
     (fun a b c wz=>rfl) (fun w' x' y c t1 t2 t3 t4 t5=>by
      have hk8:k % 4096 / 8 < 512:=by omega
      have hb:=t1.k.heap HB3.out (fun hK=>H23.out.notK ⟨_,_,HB3.out⟩ (by decide) (by decide) (by decide) (by decide) (by decide) (by decide) (by decide) (by decide) hK)
      refine (zE2R y c (k % 4096 / 8) (k % 8) tc false (S.now (mapP k)) w' (t3.cellAt (by rw [t4];exact hk8)) hk8 (by omega) hb).mono ?_
      rintro e w'' ⟨rfl,r1,r2⟩
      refine ⟨0,rfl,rfl,x',(H13.out.trans t1).newK r2 (fun z hz=>by subst hz;exact HL2.out),BkW.keep t2 r2 (fun z hz e=>?_),?_⟩
      ·subst e
       exact t2.notK ⟨_,_,hb⟩ (by decide) (by decide) (by decide) (by decide) (by decide) (by decide) (by decide) (by decide) hz
      ·rw [r1]
       unfold takB bitP
       rw [show k % 4096 % 8=k % 8 by omega]))
    unfold ptrV at HBI
    rw [HBK.out] at HBI
    go_wp2_with fail
    refine HBI.out.mono ?_
    rintro e w4 ⟨m,rfl,rfl,x4,h4,h5,h6⟩
    have d0:w4.cell? ⟨tc,0,none⟩=some (.bool (takB S.now k)):=zcjX h6 rfl
    have HX:=qh (⟨h4,h5⟩:BTo w x w4 x4/\BkW w4 x4 S g)
    clear h4 h5 h6 HBI H13 H23 HB3
    go_wp2
    exact HPO.out _ _ _ x4 H4.out HX.out.1 HX.out.2
end
end Go.Proofs.YtfgagakepmigbaaGreat
