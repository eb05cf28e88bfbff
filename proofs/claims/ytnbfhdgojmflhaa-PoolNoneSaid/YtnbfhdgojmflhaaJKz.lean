/-
  No statement is proved here.
-/
import Derived.Test.YtnbfhdgojmflhaaJGl
import Derived.Test.YtnbfhdgojmflhaaJLgl
import Derived.Test.YtnbfhdgojmflhaaJLgp
import Derived.Test.YtnbfhdgojmflhaaJLgo
namespace Go.Proofs.Ytnbfhdgojmflhaa
open Go.RowKit
def sx (g:Int->Bytes) (F C n:Int):Bytes:=cut (g (F+n % (C*8) / 8)) (n % (C*8) % 8*64).toNat 64
def fldS (c:Bytes):Int:=sgn (valN (cut c 0 8) 0)
def trnS (c:Bytes):Int:=((valN (cut c 8 4) 0:Nat):Int)
def usdS (c:Bytes):Int:=(((bAt c 12).toNat:Nat):Int)
def HasB (c:Bytes) (fst u o:Int) (B:Int->UInt8):Prop:=∀ i:Nat,(i:Int) < u->o<=fst+i->bAt c (13+i)=B (fst+i)
def stB (B:Int->UInt8) (a:Int) (n:Nat):Bytes:=(List.range n).map fun (i:Nat)=>B (a+(i:Int))
theorem zvfb (B:Int->UInt8) (a:Int) (n:Nat):(stB B a n).length=n:=by simp [stB]
theorem zNSH (B:Int->UInt8) (a:Int) (n i:Nat):(stB B a n)[i]?=if i < n then some (B (a+i)) else none:=by
 unfold stB
 rw [List.getElem?_map]
 by_cases h:i < n
 ·rw [if_pos h,List.getElem?_range h];rfl
 ·rw [if_neg h,List.getElem?_eq_none (by simpa using h)];rfl
theorem zmEd (B:Int->UInt8) (a:Int) (n m:Nat):stB B a n ++ stB B (a+n) m=stB B a (n+m):=by
 apply List.ext_getElem?
 intro i
 rw [zNSH]
 by_cases h:i < n
 ·rw [List.getElem?_append_left (by rw [zvfb];exact h),zNSH,if_pos h,if_pos (by omega)]
 ·rw [List.getElem?_append_right (by rw [zvfb];omega),zNSH,zvfb]
  by_cases h2:i < n+m
  ·rw [if_pos (by omega),if_pos h2]
   congr 2;omega
  ·rw [if_neg (by omega),if_neg h2]
theorem zJ1x {B B':Int->UInt8} {a:Int} {n:Nat} (h:∀ x,a<=x->x < a+n->B x=B' x):stB B a n=stB B' a n:=by
 apply List.ext_getElem?
 intro i
 rw [zNSH,zNSH]
 by_cases hi:i < n
 ·rw [if_pos hi,if_pos hi,h _ (by omega) (by omega)]
 ·rw [if_neg hi,if_neg hi]
theorem z2OZ {c:Bytes} {fst u o:Int} {B:Int->UInt8} (h:HasB c fst u o B) {u':Int} (hu:u'<=u) {o':Int} (ho:o<=o'):HasB c fst u' o' B:=fun i h1 h2=>h i (by omega) (by omega)
theorem zgUT {c:Bytes} {fst u o:Int} {B B':Int->UInt8} (h:HasB c fst u o B) (he:∀ x,o<=x->x < fst+u->B x=B' x):HasB c fst u o B':=fun i h1 h2=>(h i h1 h2).trans (he _ h2 (by omega))
structure AreaS (g:Int->Bytes) (F C T:Int):Prop where
 len:∀ n,(sx g F C n).length=64
 ok:∀ n,fldS (sx g F C n)<=0\/(1<=trnS (sx g F C n)/\usdS (sx g F C n)<=51)
 trn:∀ n,trnS (sx g F C n)<=T
structure StdS (g:Int->Bytes) (F C o p:Int) (B:Int->UInt8):Prop where
 full:∀ n,(o - 1) / 51<=n->n < (p - 1) / 51->fldS (sx g F C n)=51*n+1/\usdS (sx g F C n)=51/\HasB (sx g F C n) (51*n+1) 51 o B
 mono:∀ n,(o - 1) / 51<=n->n+1 < (p - 1) / 51->trnS (sx g F C n)<=trnS (sx g F C (n+1))
 monoL:∀ n,(o - 1) / 51<=n->n+1=(p - 1) / 51->(p - 1) % 51≠0->trnS (sx g F C n)<=trnS (sx g F C (n+1))
 last:o < p->(p - 1) % 51≠0->fldS (sx g F C ((p - 1) / 51))=51*((p - 1) / 51)+1/\usdS (sx g F C ((p - 1) / 51))=(p - 1) % 51/\HasB (sx g F C ((p - 1) / 51)) (51*((p - 1) / 51)+1) ((p - 1) % 51) o B
 stop:fldS (sx g F C ((p - 1) / 51))≠51*((p - 1) / 51)+1\/usdS (sx g F C ((p - 1) / 51))<=(p - 1) % 51 \/
  (o < p/\(p - 1) % 51=0/\trnS (sx g F C ((p - 1) / 51)) < trnS (sx g F C ((p - 1) / 51 - 1)))
end Go.Proofs.Ytnbfhdgojmflhaa
namespace Go.Proofs.Ytnbfhdgojmflhaa
open Go.RowKit
structure RestS (g:Int->Bytes) (F C T o s:Int) (B:Int->UInt8):Prop where
 area:AreaS g F C T
 std:StdS g F C o s B
 stop:fldS (sx g F C ((s - 1) / 51))≠51*((s - 1) / 51)+1\/usdS (sx g F C ((s - 1) / 51))<=(s - 1) % 51
 past:∀ n,(s - 1) / 51 < n->fldS (sx g F C n)=51*n+1->trnS (sx g F C n) < T
def NewS (T o e:Int) (B:Int->UInt8) (m:Int) (c:Bytes):Prop:=c.length=64 /\
 ((51*m+1 < e/\fldS c=51*m+1/\trnS c=T/\usdS c=min 51 (e - (51*m+1))/\HasB c (51*m+1) (min 51 (e - (51*m+1))) o B)\/(e<=51*m+1/\fldS c=0/\trnS c=0))
def MidS (g g':Int->Bytes) (F C T o s e:Int) (B:Int->UInt8):Prop:=
 ∀ n,sx g' F C n=sx g F C n\/∃ m,(s - 1) / 51<=m/\m < (o - 1) / 51+C*8/\m % (C*8)=n % (C*8)/\NewS T o e B m (sx g' F C n)
theorem zZpr {n m N:Int} (h:m % N=n % N) (h1:n - m < N) (h2:m - n < N):m=n:=by
 have hd:N ∣ m - n:=Int.dvd_of_emod_eq_zero (Int.emod_eq_emod_iff_emod_sub_eq_zero.1 h)
 rcases Int.lt_trichotomy m n with h3 | h3 | h3
 ·have:=Int.le_of_dvd (show 0 < n - m by omega) (by rw [<- Int.neg_sub];exact Int.dvd_neg.2 hd)
  omega
 ·exact h3
 ·have:=Int.le_of_dvd (show 0 < m - n by omega) hd
  omega
theorem MidS.refl (g:Int->Bytes) (F C T o s e:Int) (B:Int->UInt8):MidS g g F C T o s e B:=fun _=>.inl rfl
section
variable {g g':Int->Bytes} {F C T o s e:Int} {B:Int->UInt8}
theorem MidS.area (h:MidS g g' F C T o s e B) (hA:AreaS g F C T) (hT:1<=T):AreaS g' F C T:=by
 constructor
 ·intro n
  rcases h n with h1 | ⟨m,_,_,_,h2,_⟩
  ·rw [h1];exact hA.len n
  ·exact h2
 ·intro n
  rcases h n with h1 | ⟨m,_,_,_,h2,⟨_,h3,h4,h5,_⟩ | ⟨_,h3,_⟩⟩
  ·rw [h1];exact hA.ok n
  ·right;omega
  ·left;omega
 ·intro n
  rcases h n with h1 | ⟨m,_,_,_,h2,⟨_,h3,h4,h5,_⟩ | ⟨_,h3,h4⟩⟩
  ·rw [h1];exact hA.trn n
  ·omega
  ·omega
theorem MidS.old (h:MidS g g' F C T o s e B) {n:Int} (h1:(o - 1) / 51<=n) (h2:n < (s - 1) / 51):sx g' F C n=sx g F C n:=by
 rcases h n with h3 | ⟨m,h3,h4,h5,_⟩
 ·exact h3
 ·have:=zZpr h5 (by omega) (by omega)
  omega
def FullS (g':Int->Bytes) (F C T o s:Int) (B:Int->UInt8) (j:Nat):Prop:=∀ n,(s - 1) / 51<=n->n < (s - 1) / 51+j ->
 fldS (sx g' F C n)=51*n+1/\usdS (sx g' F C n)=51/\trnS (sx g' F C n)=T/\HasB (sx g' F C n) (51*n+1) 51 o B
theorem zmo6 (hR:RestS g F C T o s B) (h:MidS g g' F C T o s e B) {j:Nat} (hF:FullS g' F C T o s B j) {n:Int} (h1:(o - 1) / 51<=n) (h2:n < (s - 1) / 51+j) :
  fldS (sx g' F C n)=51*n+1/\usdS (sx g' F C n)=51/\HasB (sx g' F C n) (51*n+1) 51 o B:=by
 by_cases h3:n < (s - 1) / 51
 ·rw [h.old h1 h3];exact hR.std.full n h1 h3
 ·obtain ⟨a,b,_,d⟩:=hF n (by omega) h2
  exact ⟨a,b,d⟩
theorem zSBX (hR:RestS g F C T o s B) (h:MidS g g' F C T o s e B) (hT:1<=T) {j:Nat} (hF:FullS g' F C T o s B j) {n:Int} (h1:(o - 1) / 51<=n) (h2:n+1 < (s - 1) / 51+j):trnS (sx g' F C n)<=trnS (sx g' F C (n+1)):=by
 by_cases h3:n+1 < (s - 1) / 51
 ·rw [h.old h1 (by omega),h.old (by omega) h3];exact hR.std.mono n h1 h3
 ·rw [(hF (n+1) (by omega) h2).2.2.1]
  exact (h.area hR.area hT).trn n
theorem zKlQ (hR:RestS g F C T o s B) (h:MidS g g' F C T o s e B) (hT:1<=T) (h1:1<=o) (hos:o<=s) (hse:s < e) (_hroom:e - o<=408*(C - 1))
  (hall:∀ n,(s - 1) / 51<=n->51*n+1 < e->NewS T o e B n (sx g' F C n)) (hend:(e - 1) % 51=0->fldS (sx g' F C ((e - 1) / 51))≠e):RestS g' F C T o e B:=by
 have hA:=h.area hR.area hT
 have hF:FullS g' F C T o s B ((e - 1) / 51 - (s - 1) / 51).toNat:=by
  intro n a b
  rcases hall n a (by omega) with ⟨_,⟨q1,q2,q3,q4,q5⟩ | ⟨q1,_⟩⟩
  ·rw [Int.min_eq_left (by omega)] at q4 q5
   exact ⟨q2,q4,q3,q5⟩
  ·omega
 have hfull:=fun x a b=>zmo6 hR h hF (n:=x) a b
 have hmono:=fun x a b=>zSBX hR h hT hF (n:=x) a b
 have en:(s - 1) / 51+(((e - 1) / 51 - (s - 1) / 51).toNat:Int)=(e - 1) / 51:=by omega
 rw [en] at hfull hmono
 have hlast:(e - 1) % 51≠0->fldS (sx g' F C ((e - 1) / 51))=51*((e - 1) / 51)+1/\usdS (sx g' F C ((e - 1) / 51))=(e - 1) % 51/\HasB (sx g' F C ((e - 1) / 51)) (51*((e - 1) / 51)+1) ((e - 1) % 51) o B/\trnS (sx g' F C ((e - 1) / 51))=T:=by
  intro hm
  rcases hall ((e - 1) / 51) (by omega) (by omega) with ⟨_,⟨q1,q2,q3,q4,q5⟩ | ⟨q1,_⟩⟩
  ·rw [Int.min_eq_right (by omega)] at q4 q5
   exact ⟨q2,by omega,z2OZ q5 (by omega) (Int.le_refl _),q3⟩
  ·omega
 have hstop:fldS (sx g' F C ((e - 1) / 51))≠51*((e - 1) / 51)+1\/usdS (sx g' F C ((e - 1) / 51))<=(e - 1) % 51:=by
  by_cases hm:(e - 1) % 51=0
  ·left
   have:=hend hm
   omega
  ·right
   have:=(hlast hm).2.1
   omega
 refine ⟨hA,⟨hfull,hmono,?_,?_,?_⟩,hstop,?_⟩
 ·intro x a b c
  rw [b,(hlast c).2.2.2]
  exact hA.trn x
 ·intro a b
  obtain ⟨q1,q2,q3,_⟩:=hlast b
  exact ⟨q1,q2,q3⟩
 ·rcases hstop with h3 | h3
  ·exact .inl h3
  ·exact .inr (.inl h3)
 ·intro n a b
  rcases h n with h3 | ⟨m,h3,h4,h5,_,⟨q1,q2,_⟩ | ⟨q1,q2,_⟩⟩
  ·rw [h3] at b ⊢
   exact hR.past n (by omega) b
  ·omega
  ·omega
theorem RestS.congr (hR:RestS g F C T o s B) {B':Int->UInt8} (he:∀ x,o<=x->x < s->B x=B' x):RestS g F C T o s B':=
 ⟨hR.area,⟨fun n a b=>⟨(hR.std.full n a b).1,(hR.std.full n a b).2.1,zgUT (hR.std.full n a b).2.2 (fun x c d=>he x c (by omega))⟩,hR.std.mono,hR.std.monoL,
  fun a b=>⟨(hR.std.last a b).1,(hR.std.last a b).2.1,zgUT (hR.std.last a b).2.2 (fun x c d=>he x c (by omega))⟩,hR.std.stop⟩,hR.stop,hR.past⟩
theorem RestS.trim (hR:RestS g F C T o s B) {o':Int} (h1:o<=o') (_h2:o'<=s):RestS g F C T o' s B:=
 ⟨hR.area,⟨fun n a b=>⟨(hR.std.full n (by omega) b).1,(hR.std.full n (by omega) b).2.1,z2OZ (hR.std.full n (by omega) b).2.2 (Int.le_refl _) h1⟩,fun n a b=>hR.std.mono n (by omega) b,fun n a b=>hR.std.monoL n (by omega) b,
  fun a b=>⟨(hR.std.last (by omega) b).1,(hR.std.last (by omega) b).2.1,z2OZ (hR.std.last (by omega) b).2.2 (Int.le_refl _) h1⟩,by
   rcases hR.stop with h | h
   ·exact .inl h
   ·exact .inr (.inl h)⟩,hR.stop,hR.past⟩
end
end Go.Proofs.Ytnbfhdgojmflhaa
namespace Go.Proofs.Ytnbfhdgojmflhaa
open Go.RowKit
theorem z6Df {l:Bytes} {a n i:Nat} (hi:i < n):bAt (cut l a n) i=bAt l (a+i):=by
 unfold cut bAt
 simp only [List.getD_eq_getElem?_getD,List.getElem?_take,if_pos hi,List.getElem?_drop]
theorem zG5S {l m:Bytes} {i:Nat} (h:i < l.length):bAt (l ++ m) i=bAt l i:=by
 unfold bAt
 simp only [List.getD_eq_getElem?_getD,List.getElem?_append_left h]
theorem zMjx {l m:Bytes} {i:Nat} (h:l.length<=i):bAt (l ++ m) i=bAt m (i - l.length):=by
 unfold bAt
 simp only [List.getD_eq_getElem?_getD,List.getElem?_append_right h]
theorem zyG3 {a t u:Nat} {x:Bytes} (h:a < 2 ^ 63):fldS (z7b5 a t u ++ x)=(a:Int):=by
 unfold fldS
 have e:cut (z7b5 a t u ++ x) 0 8=beN a 8:=by
  unfold z7b5
  rw [List.append_assoc]
  have:=zDKy [] (beN a 8) (beN t 4 ++ [UInt8.ofNat u] ++ x) 0 8 rfl (zmTu a 8)
  rwa [List.nil_append] at this
 rw [e,z0pR,Nat.mod_eq_of_lt (by omega),zfEu h]
theorem zb4W {a t u:Nat} {x:Bytes} (h:t < 2 ^ 32):trnS (z7b5 a t u ++ x)=(t:Int):=by
 unfold trnS
 have e:cut (z7b5 a t u ++ x) 8 4=beN t 4:=by
  unfold z7b5
  rw [List.append_assoc,List.append_assoc]
  exact zDKy (beN a 8) (beN t 4) ([UInt8.ofNat u] ++ x) 8 4 (zmTu a 8) (zmTu t 4)
 rw [e,z0pR,Nat.mod_eq_of_lt (by omega)]
theorem zn4D {a t u:Nat} {x:Bytes} (h:u < 256):usdS (z7b5 a t u ++ x)=(u:Int):=by
 unfold usdS
 have e:bAt (z7b5 a t u ++ x) 12=UInt8.ofNat u:=by
  rw [zG5S (by rw [zqcD];decide)]
  unfold z7b5
  rw [zMjx (by rw [zmTu];decide),zmTu,zMjx (by rw [zmTu];decide),zmTu]
  rfl
 rw [e,UInt8.toNat_ofNat']
 omega
theorem zGXc {a t u i:Nat} {x:Bytes}:bAt (z7b5 a t u ++ x) (13+i)=bAt x i:=by
 rw [zMjx (by rw [zqcD];omega),zqcD]
 congr 1
 omega
theorem zMf0:fldS (zeros 64)=0:=by decide +kernel
theorem z3Ba:trnS (zeros 64)=0:=by decide +kernel
theorem ze00 {n a k:Nat} (h:a+k<=n):cut (zeros n) a k=zeros k:=by
 unfold cut zeros
 rw [List.drop_replicate,List.take_replicate]
 congr 1
 omega
def secL (T a:Int) (r:Bytes):Bytes:=if r=[] then zeros 64 else z7b5 a.toNat T.toNat (min r.length 51) ++ (r.take 51 ++ zeros (51 - r.length))
theorem z1dI (T a:Int) (r:Bytes):(secL T a r).length=64:=by
 unfold secL
 split
 ·exact zrlC 64
 ·rw [List.length_append,List.length_append,zqcD,List.length_take,zrlC];omega
theorem zNnM {T o e:Int} {B:Int->UInt8} {m:Int} {r:Bytes} (hT:0<=T) (hT2:T < 2 ^ 32) (hm:0<=m) (hm2:51*m+1 < 2 ^ 63) (hr:(r=[]->e<=51*m+1)) (hl:r≠[]->(r.length:Int)=e - (51*m+1)) (hB:∀ i:Nat,i < r.length->o<=51*m+1+i->bAt r i=B (51*m+1+i)) :
  NewS T o e B m (secL T (51*m+1) r):=by
 refine ⟨z1dI _ _ _,?_⟩
 by_cases h:r=[]
 ·right
  rw [show secL T (51*m+1) r=zeros 64 from if_pos h]
  exact ⟨hr h,zMf0,z3Ba⟩
 ·left
  have hp:0 < r.length:=List.length_pos_iff.2 h
  have h1:=hl h
  rw [show secL T (51*m+1) r=z7b5 (51*m+1).toNat T.toNat (min r.length 51) ++ (r.take 51 ++ zeros (51 - r.length)) from if_neg h]
  refine ⟨by omega,?_,?_,?_,fun i hi ho=>?_⟩
  ·rw [zyG3 (by omega)];omega
  ·rw [zb4W (by omega)];omega
  ·rw [zn4D (by omega)];omega
  ·rw [zGXc,zG5S (by rw [List.length_take];omega)]
   have:bAt (r.take 51) i=bAt r i:=by
    unfold bAt
    simp only [List.getD_eq_getElem?_getD,List.getElem?_take,if_pos (show i < 51 by omega)]
   rw [this]
   exact hB i (by omega) ho
theorem zMHW (T:Int):∀ (f j:Nat) (page rest:Bytes) (fst:Int),page.length=512->8<=j+f->j<=8->(∀ k,j<=k->k < 8->cut page (64*k) 64=zeros 64) ->
  (fillM T f page (64*j) rest fst).1.length=512/\(∀ k,k < j->cut (fillM T f page (64*j) rest fst).1 (64*k) 64=cut page (64*k) 64) /\
  (∀ k,j<=k->k < 8->cut (fillM T f page (64*j) rest fst).1 (64*k) 64=secL T (fst+51*((k - j:Nat):Int)) (rest.drop (51*(k - j)))) /\
  (fillM T f page (64*j) rest fst).2.1=rest.drop (51*(8 - j))/\((fillM T f page (64*j) rest fst).2.1≠[]->(fillM T f page (64*j) rest fst).2.2=fst+51*((8 - j:Nat):Int)):=by
 intro f
 induction f with
 | zero=>
  intro j page rest fst hp hj hj8 hz
  have:j=8:=by omega
  subst this
  refine ⟨hp,fun _ _=>rfl,fun k h1 h2=>by omega,by simp [fillM],fun _=>by simp [fillM]⟩
 | succ f ih=>
  intro j page rest fst hp hj hj8 hz
  by_cases hs:rest=[]\/512<=64*j
  ·rw [zrnW hs]
   refine ⟨hp,fun _ _=>rfl,fun k h1 h2=>?_,?_,fun h=>?_⟩
   ·rcases hs with h | h
    ·subst h
     rw [List.drop_nil,hz k h1 h2]
     rfl
    ·omega
   ·rcases hs with h | h
    ·subst h;simp
    ·have:j=8:=by omega
     subst this;simp
   ·rcases hs with h' | h'
    ·exact absurd h' h
    ·have:j=8:=by omega
     subst this;simp
  ·have hr:rest≠[]:=fun h=>hs (.inl h)
   have hj7:j < 8:=by omega
   rw [zA2o hr (by omega)]
   obtain ⟨m,hm⟩:∃ m,m=z7b5 fst.toNat T.toNat (min rest.length 51) ++ rest.take 51:=⟨_,rfl⟩
   rw [<- hm]
   have lm:m.length=13+min rest.length 51:=by rw [hm,List.length_append,zqcD,List.length_take];omega
   rw [<- zTDn (l:=page) (i:=64*j) (m:=m) (by omega)]
   have lo:(ovL page (64*j) m).length=512:=by rw [zvaq (by omega),hp]
   have other:∀ k,k < 8->k≠j->cut (ovL page (64*j) m) (64*k) 64=cut page (64*k) 64:=fun k hk hkj=>by
    refine zPUK (by rw [z08T _ _ _ (by omega),z08T _ _ _ (by omega)]) fun i hi=>?_
    rw [z08T _ _ _ (by omega)] at hi
    rw [z6Df hi,z6Df hi,zfBm (by omega) (by omega),if_neg (by omega)]
   have own:cut (ovL page (64*j) m) (64*j) 64=secL T fst rest:=by
    rw [show secL T fst rest=z7b5 fst.toNat T.toNat (min rest.length 51) ++ (rest.take 51 ++ zeros (51 - rest.length)) from if_neg hr,<- List.append_assoc,<- hm]
    refine zPUK (by rw [z08T _ _ _ (by omega),List.length_append,lm,zrlC];omega) fun i hi=>?_
    rw [z08T _ _ _ (by omega)] at hi
    rw [z6Df hi,zfBm (by omega) (by omega)]
    by_cases h1:i < m.length
    ·rw [if_pos (by omega),zG5S h1]
     congr 1
     omega
    ·rw [if_neg (by omega),zMjx (by omega),ziRd]
     have:=hz j (Nat.le_refl _) hj7
     have h2:=congrArg (fun l=>bAt l i) this
     simp only [z6Df hi,ziRd] at h2
     exact h2
   have e64:64*j+64=64*(j+1):=by omega
   rw [e64]
   obtain ⟨i1,i2,i3,i4,i5⟩:=ih (j+1) (ovL page (64*j) m) (rest.drop 51) (fst+51) lo (by omega) (by omega) (fun k h1 h2=>by rw [other k h2 (by omega)];exact hz k (by omega) h2)
   refine ⟨i1,fun k hk=>by rw [i2 k (by omega),other k (by omega) (by omega)],fun k h1 h2=>?_,?_,fun h=>?_⟩
   ·by_cases hkj:k=j
    ·subst hkj
     rw [i2 k (by omega),own,Nat.sub_self,Nat.mul_zero,List.drop_zero]
     congr 1
     omega
    ·rw [i3 k (by omega) h2,List.drop_drop]
     congr 1
     ·omega
     ·congr 1;omega
   ·rw [i4,List.drop_drop]
    congr 1
    omega
   ·rw [i5 h]
    omega
end Go.Proofs.Ytnbfhdgojmflhaa
namespace Go.Proofs.Ytnbfhdgojmflhaa
open Go.RowKit
def DevM.safeG (D:DevM) (b:Int):Bytes:=(D.safe b).getD (zeros 512)
theorem z4uV (D:DevM) (b:Int) (pg:Bytes) (k:Int):(D.put b pg).latest k=if k=b then pg else D.latest k:=by
 unfold DevM.latest DevM.put updF
 by_cases h:k=b
 ·simp [h]
 ·simp [h]
theorem zJTu (D:DevM) (k:Int):D.crash.latest k=D.latest k:=by
 unfold DevM.latest
 obtain ⟨_,h2,h3⟩:=z4HA D
 rw [h2,h3]
theorem z5n7 {D:DevM} {b:Int} {pg:Bytes} (hm:D.mayE b=0) (hl:pg.length=512):D.write b pg=(zPhp (D.put b pg).crash.down,(D.put b pg).crash):=by
 unfold DevM.write
 rw [if_neg (by rw [hm];decide),if_neg (by rw [hl];decide)]
theorem zm8e {D:DevM} {b:Int} {pg:Bytes} (hm:D.mayE b=0) (hl:pg.length=512) (k:Int):(D.write b pg).2.latest k=if k=b then pg else D.latest k:=by
 rw [z5n7 hm hl]
 show (D.put b pg).crash.latest k=_
 rw [zJTu,z4uV]
theorem zn26 {D:DevM} {b:Int} {pg:Bytes} (hm:D.mayE b=0) (hl:pg.length=512):(D.write b pg).2.n=D.n/\(D.write b pg).2.safe=D.safe/\(∀ k,k≠b->(D.write b pg).2.opn k=D.opn k) /\
  ((D.write b pg).1=0/\(D.write b pg).2.down=false\/(D.write b pg).1=8/\(D.write b pg).2.down=true):=by
 rw [z5n7 hm hl]
 obtain ⟨h1,h2,h3⟩:=z4HA (D.put b pg)
 refine ⟨h1,h2,fun k hk=>?_,?_⟩
 ·show (D.put b pg).crash.opn k=D.opn k
  rw [h3]
  unfold DevM.put updF
  simp [hk]
 ·show zPhp (D.put b pg).crash.down=0/\(D.put b pg).crash.down=false\/zPhp (D.put b pg).crash.down=8/\(D.put b pg).crash.down=true
  cases (D.put b pg).crash.down<;>simp [zPhp]
theorem zgBB {D:DevM} {b:Int} (h:D.mayE b=0):D.down=false/\0<=b/\b < D.n:=by
 unfold DevM.mayE at h
 cases hd:D.down
 ·rw [hd] at h
  by_cases h2:b < 0\/D.n<=b
  ·simp [h2] at h
  ·exact ⟨rfl,by omega,by omega⟩
 ·rw [hd] at h;simp at h
theorem zUSU (m C:Int):m % (C*8) % 8=m % 8:=Int.emod_emod_of_dvd m ⟨C,Int.mul_comm C 8⟩
theorem zrot {m C d:Int} (_hC:0 < C) (h0:0<=m % (C*8)+d) (h1:m % (C*8)+d < C*8):(m+d) % (C*8)=m % (C*8)+d:=by
 have e:m+d=(m % (C*8)+d)+C*8*(m / (C*8)):=by have:=Int.emod_add_mul_ediv m (C*8);omega
 rw [e,Int.add_mul_emod_self_left,Int.emod_eq_of_lt h0 h1]
theorem zQhx (m:Int) {C:Int} (hC:0 < C):0<=m % (C*8)/\m % (C*8) < C*8:=⟨Int.emod_nonneg _ (by omega),Int.emod_lt_of_pos _ (by omega)⟩
theorem zP26 {g g':Int->Bytes} {F C m:Int} {pg:Bytes} (hw:∀ k,g' k=if k=F+m % (C*8) / 8 then pg else g k) (n:Int) :
  sx g' F C n=if n % (C*8) / 8=m % (C*8) / 8 then cut pg (n % (C*8) % 8*64).toNat 64 else sx g F C n:=by
 unfold sx
 rw [hw]
 by_cases h:n % (C*8) / 8=m % (C*8) / 8
 ·rw [if_pos h,if_pos (by omega)]
 ·rw [if_neg h,if_neg (by omega)]
structure TailS (tail:Bytes) (o beg e:Int) (B:Int->UInt8):Prop where
 len:(tail.length:Int)=e - beg
 byte:∀ i:Nat,i < tail.length->o<=beg+i->bAt tail i=B (beg+i)
structure PourS (g:Int->Bytes) (D0 D:DevM) (F C T o s e:Int) (B:Int->UInt8):Prop where
 mid:MidS g D.latest F C T o s e B
 safe:D.safe=D0.safe
 n:D.n=D0.n
 out:∀ k,(k < F\/F+C<=k)->D.opn k=D0.opn k
def UpTo (D:DevM) (F C T o s e:Int) (B:Int->UInt8) (M:Int):Prop:=∀ n,(s - 1) / 51<=n->n < M->NewS T o e B n (sx D.latest F C n)
theorem ztiW {g:Int->Bytes} {D0 D:DevM} {F C T o s e:Int} {B:Int->UInt8} (hP:PourS g D0 D F C T o s e B) (_hlen:∀ k,(D.latest k).length=512) (hC:0 < C) (hT:0<=T) (hT2:T < 2 ^ 32) (ho:1<=o) (hos:o<=s) (he:e < 2 ^ 62) (hroom:e - o<=408*(C - 1))
  (hmay:∀ a,D.mayE (secB F C a)=0) {tail:Bytes} {beg:Int} (hTl:TailS tail o beg e B) {m:Int} (hm:(s - 1) / 51<=m) (hme:51*m+1 < e) (hmb:beg<=51*m+1) (hup:UpTo D F C T o s e B m)
  {pg:Bytes} (hpg:pg.length=512) (h1:∀ k:Nat,(k:Int) < m % (C*8) % 8->cut pg (64*k) 64=cut (D.latest (F+m % (C*8) / 8)) (64*k) 64)
  (h2:∀ k:Nat,m % (C*8) % 8<=k->k < 8->cut pg (64*k) 64=secL T (51*m+1+51*((k:Int) - m % (C*8) % 8)) ((tail.drop (51*m+1 - beg).toNat).drop (51*((k:Int) - m % (C*8) % 8)).toNat)) :
  PourS g D0 (D.write (F+m % (C*8) / 8) pg).2 F C T o s e B/\UpTo (D.write (F+m % (C*8) / 8) pg).2 F C T o s e B (8*(m / 8)+8):=by
 have hmb0:=hmay (51*m+1)
 have esec:secB F C (51*m+1)=F+m % (C*8) / 8:=by unfold secB;rw [show (51*m+1 - 1) / 51=m by omega]
 rw [esec] at hmb0
 have hin:=zQhx m hC
 have hm8:=zUSU m C
 have hw:=zm8e hmb0 hpg
 obtain ⟨w1,w2,w3,_⟩:=zn26 hmb0 hpg
 have key:∀ n,n % (C*8) / 8=m % (C*8) / 8->m % (C*8) % 8<=n % (C*8) % 8 ->
   (m+(n % (C*8) % 8 - m % (C*8) % 8)) % (C*8)=n % (C*8)/\NewS T o e B (m+(n % (C*8) % 8 - m % (C*8) % 8)) (cut pg (n % (C*8) % 8*64).toNat 64):=by
  intro n hb hk
  obtain ⟨kn,hkn⟩:∃ kn:Nat,n % (C*8) % 8=(kn:Int):=⟨(n % (C*8) % 8).toNat,by have:=zQhx n hC;omega⟩
  have hk8:kn < 8:=by omega
  refine ⟨?_,?_⟩
  ·rw [zrot hC (by omega) (by have:=zQhx n hC;omega)]
   omega
  ·rw [hkn,show ((kn:Int)*64).toNat=64*kn by omega,h2 kn (by omega) hk8,List.drop_drop,show 51*m+1+51*((kn:Int) - m % (C*8) % 8)=51*(m+((kn:Int) - m % (C*8) % 8))+1 by omega]
   have hl:=hTl.len
   refine zNnM hT hT2 (by omega) (by omega) (fun h=>?_) (fun h=>?_) (fun i hi hoi=>?_)
   ·have:=congrArg List.length h
    rw [List.length_drop] at this
    simp at this
    omega
   ·rw [List.length_drop]
    have hpos:0 < (tail.drop ((51*m+1 - beg).toNat+(51*((kn:Int) - m % (C*8) % 8)).toNat)).length:=List.length_pos_iff.2 h
    rw [List.length_drop] at hpos
    omega
   ·rw [List.length_drop] at hi
    have hb2:=hTl.byte ((51*m+1 - beg).toNat+(51*((kn:Int) - m % (C*8) % 8)).toNat+i) (by omega) (by omega)
    have e1:beg+(((51*m+1 - beg).toNat+(51*((kn:Int) - m % (C*8) % 8)).toNat+i:Nat):Int)=51*(m+((kn:Int) - m % (C*8) % 8))+1+i:=by omega
    rw [e1] at hb2
    rw [<- hb2]
    unfold bAt
    simp only [List.getD_eq_getElem?_getD,List.getElem?_drop]
 have rng:∀ n,m % (C*8) % 8<=n % (C*8) % 8->m+(n % (C*8) % 8 - m % (C*8) % 8) < (o - 1) / 51+C*8/\m<=m+(n % (C*8) % 8 - m % (C*8) % 8):=by
  intro n hk
  have h8:n % (C*8) % 8 < 8:=by omega
  rw [hm8] at hk ⊢
  have hblk:m / 8<=(o - 1) / 408+(C - 1):=by omega
  omega
 constructor
 ·refine ⟨fun n=>?_,by rw [w2];exact hP.safe,by rw [w1];exact hP.n,fun k hk=>by rw [w3 k (by have:=hin;omega)];exact hP.out k hk⟩
  rw [zP26 hw n]
  by_cases hb:n % (C*8) / 8=m % (C*8) / 8
  ·rw [if_pos hb]
   by_cases hk:m % (C*8) % 8<=n % (C*8) % 8
   ·obtain ⟨k1,k2⟩:=key n hb hk
    obtain ⟨r1,r2⟩:=rng n hk
    exact .inr ⟨_,by omega,r1,k1,k2⟩
   ·obtain ⟨kn,hkn⟩:∃ kn:Nat,n % (C*8) % 8=(kn:Int):=⟨(n % (C*8) % 8).toNat,by have:=zQhx n hC;omega⟩
    have e1:cut pg (n % (C*8) % 8*64).toNat 64=sx D.latest F C n:=by
     rw [hkn,show ((kn:Int)*64).toNat=64*kn by omega,h1 kn (by omega)]
     unfold sx
     rw [hb,hkn,show ((kn:Int)*64).toNat=64*kn by omega]
    rw [e1]
    exact hP.mid n
  ·rw [if_neg hb]
   exact hP.mid n
 ·intro n hn1 hn2
  by_cases hlt:n < m
  ·have hnw:=hup n hn1 hlt
   have e1:sx (D.write (F+m % (C*8) / 8) pg).2.latest F C n=sx D.latest F C n:=by
    rw [zP26 hw n]
    by_cases hb:n % (C*8) / 8=m % (C*8) / 8
    ·rw [if_pos hb]
     by_cases hk:m % (C*8) % 8<=n % (C*8) % 8
     ·obtain ⟨k1,_⟩:=key n hb hk
      obtain ⟨r1,r2⟩:=rng n hk
      have:=zZpr k1 (by omega) (by omega)
      omega
     ·obtain ⟨kn,hkn⟩:∃ kn:Nat,n % (C*8) % 8=(kn:Int):=⟨(n % (C*8) % 8).toNat,by have:=zQhx n hC;omega⟩
      rw [hkn,show ((kn:Int)*64).toNat=64*kn by omega,h1 kn (by omega)]
      unfold sx
      rw [hb,hkn,show ((kn:Int)*64).toNat=64*kn by omega]
    ·rw [if_neg hb]
   rw [e1]
   exact hnw
  ·have hd:n % (C*8)=m % (C*8)+(n - m):=by
    have:=zrot (m:=m) (d:=n - m) hC (by omega) (by omega)
    rwa [show m+(n - m)=n by omega] at this
   have hb:n % (C*8) / 8=m % (C*8) / 8:=by omega
   have hk:m % (C*8) % 8<=n % (C*8) % 8:=by omega
   obtain ⟨_,k2⟩:=key n hb hk
   rw [zP26 hw n,if_pos hb]
   have e2:m+(n % (C*8) % 8 - m % (C*8) % 8)=n:=by omega
   rw [e2] at k2
   exact k2
end Go.Proofs.Ytnbfhdgojmflhaa
namespace Go.Proofs.Ytnbfhdgojmflhaa
open Go.RowKit
theorem zdwB {D D':DevM} {F C:Int} (h:∀ a,D.mayE (secB F C a)=0) (hn:D'.n=D.n) (hd:D'.down=false):∀ a,D'.mayE (secB F C a)=0:=by
 intro a
 obtain ⟨_,h1,h2⟩:=zgBB (h a)
 exact DevM.mayE_ok hd h1 (by omega)
theorem z529 {l:Bytes} {off:Nat} (hl:l.length=512) (ho:off<=512) {k:Nat} (hk:64*k+64<=off):cut (l.take off ++ zeros (512 - off)) (64*k) 64=cut l (64*k) 64:=by
 refine zPUK (by rw [z08T _ _ _ (by rw [List.length_append,List.length_take,zrlC];omega),z08T _ _ _ (by omega)]) fun i hi=>?_
 rw [z08T _ _ _ (by rw [List.length_append,List.length_take,zrlC];omega)] at hi
 rw [z6Df hi,z6Df hi,zG5S (by rw [List.length_take];omega)]
 unfold bAt
 simp only [List.getD_eq_getElem?_getD,List.getElem?_take,if_pos (show 64*k+i < off by omega)]
theorem z1HN {l:Bytes} {off:Nat} (hl:l.length=512) (ho:off<=512) {k:Nat} (hk:off<=64*k) (hk8:k < 8):cut (l.take off ++ zeros (512 - off)) (64*k) 64=zeros 64:=by
 refine zPUK (by rw [z08T _ _ _ (by rw [List.length_append,List.length_take,zrlC];omega),zrlC]) fun i hi=>?_
 rw [z08T _ _ _ (by rw [List.length_append,List.length_take,zrlC];omega)] at hi
 rw [z6Df hi,zMjx (by rw [List.length_take];omega),ziRd,ziRd]
theorem zRCU {g:Int->Bytes} {D0:DevM} {F C T o s e:Int} {B:Int->UInt8} (hC:0 < C) (hT:0<=T) (hT2:T < 2 ^ 32) (ho:1<=o) (hos:o<=s) (he:e < 2 ^ 62) (hroom:e - o<=408*(C - 1))
  {tail:Bytes} {beg:Int} (hTl:TailS tail o beg e B):∀ (f:Nat) (D:DevM) (m:Int),PourS g D0 D F C T o s e B->(∀ k,(D.latest k).length=512)->(∀ a,D.mayE (secB F C a)=0) ->
   (s - 1) / 51<=m->51*m+1 < e->beg<=51*m+1->UpTo D F C T o s e B m->e - (51*m+1) < f ->
   PourS g D0 (pourM F C T f D (tail.drop (51*m+1 - beg).toNat) (51*m+1)).1 F C T o s e B/\(∀ k,((pourM F C T f D (tail.drop (51*m+1 - beg).toNat) (51*m+1)).1.latest k).length=512) /\
   ((pourM F C T f D (tail.drop (51*m+1 - beg).toNat) (51*m+1)).2=0/\(∀ a,(pourM F C T f D (tail.drop (51*m+1 - beg).toNat) (51*m+1)).1.mayE (secB F C a)=0) /\
     (∃ M,M % 8=0/\e<=51*M+1/\UpTo (pourM F C T f D (tail.drop (51*m+1 - beg).toNat) (51*m+1)).1 F C T o s e B M) \/
    (pourM F C T f D (tail.drop (51*m+1 - beg).toNat) (51*m+1)).2=8/\(pourM F C T f D (tail.drop (51*m+1 - beg).toNat) (51*m+1)).1.down=true):=by
 intro f
 induction f with
 | zero=>intro D m _ _ _ _ h1 _ _ h2;omega
 | succ f ih=>
  intro D m hP hlen hmay hm hme hmb hup hf
  have hl:=hTl.len
  obtain ⟨rest,hrest⟩:∃ rest,rest=tail.drop (51*m+1 - beg).toNat:=⟨_,rfl⟩
  have lr:(rest.length:Int)=e - (51*m+1):=by rw [hrest,List.length_drop];omega
  have hr:rest≠[]:=fun h=>by rw [h] at lr;simp at lr;omega
  rw [<- hrest,zVN9 hr]
  have esec:secB F C (51*m+1)=F+m % (C*8) / 8:=by unfold secB;rw [show (51*m+1 - 1) / 51=m by omega]
  have eoff:secO C (51*m+1)=m % (C*8) % 8*64:=by unfold secO;rw [show (51*m+1 - 1) / 51=m by omega]
  have hin:=zQhx m hC
  obtain ⟨j,hj⟩:∃ j:Nat,m % (C*8) % 8=(j:Int):=⟨(m % (C*8) % 8).toNat,by omega⟩
  have hj8:j < 8:=by omega
  have hm8:=zUSU m C
  have hmay0:=hmay (51*m+1)
  rw [esec,eoff,hj,show ((j:Int)*64).toNat=64*j by omega]
  rw [esec] at hmay0
  rw [if_neg (by rw [hmay0];decide)]
  have hlb:=hlen (F+m % (C*8) / 8)
  obtain ⟨i1,i2,i3,i4,i5⟩:=zMHW T 8 j ((D.latest (F+m % (C*8) / 8)).take (64*j) ++ zeros (512 - 64*j)) rest (51*m+1) (by rw [List.length_append,List.length_take,zrlC];omega) (by omega) (by omega)
   (fun k h1 h2=>z1HN hlb (by omega) (by omega) h2)
  obtain ⟨Y,hY⟩:∃ Y,Y=fillM T 8 ((D.latest (F+m % (C*8) / 8)).take (64*j) ++ zeros (512 - 64*j)) (64*j) rest (51*m+1):=⟨_,rfl⟩
  rw [<- hY] at i1 i2 i3 i4 i5 ⊢
  obtain ⟨hP1,hU1⟩:=ztiW hP hlen hC hT hT2 ho hos he hroom hmay hTl hm hme hmb hup i1
   (fun k hk=>by rw [i2 k (by omega)];exact z529 hlb (by omega) (by omega))
   (fun k h1 h2=>by
    rw [i3 k (by omega) h2,<- hrest,hj]
    congr 1
    ·omega
    ·congr 1;omega)
  obtain ⟨w1,w2,w3,w4⟩:=zn26 hmay0 i1
  have hlen1:∀ k,((D.write (F+m % (C*8) / 8) Y.1).2.latest k).length=512:=fun k=>by
   rw [zm8e hmay0 i1]
   split
   ·exact i1
   ·exact hlen k
  rcases w4 with ⟨w4,w5⟩ | ⟨w4,w5⟩
  ·rw [if_neg (by rw [w4];decide)]
   have hmay1:=zdwB hmay w1 w5
   by_cases hd:Y.2.1=[]
   ·rw [hd,zJ2j]
    refine ⟨hP1,hlen1,.inl ⟨rfl,hmay1,8*(m / 8)+8,by omega,?_,hU1⟩⟩
    have:=congrArg List.length (i4.symm.trans hd)
    rw [List.length_drop] at this
    simp at this
    omega
   ·have hd2:=i5 hd
    have hpos:0 < Y.2.1.length:=List.length_pos_iff.2 hd
    rw [i4,List.length_drop] at hpos
    have e1:(51*m+1+51*((8 - j:Nat):Int))=51*(8*(m / 8)+8)+1:=by omega
    have e2:Y.2.1=tail.drop (51*(8*(m / 8)+8)+1 - beg).toNat:=by
     rw [i4,hrest,List.drop_drop]
     congr 1
     omega
    rw [hd2,e1,e2]
    exact ih _ _ hP1 hlen1 hmay1 (by omega) (by omega) (by omega) hU1 (by omega)
  ·rw [if_pos (by rw [w4];decide)]
   exact ⟨hP1,hlen1,.inr ⟨w4,w5⟩⟩
theorem z5FY {g:Int->Bytes} {D0 D:DevM} {F C T o s e:Int} {B:Int->UInt8} (hP:PourS g D0 D F C T o s e B) (hC:0 < C) (_ho:1<=o) (hos:o<=s) (hse:s<=e) (hroom:e - o<=408*(C - 1)) (hmay:∀ a,D.mayE (secB F C a)=0)
  {m:Int} (hme:e=51*m+1) (hm0:m % 8=0) (hup:UpTo D F C T o s e B m) :
  PourS g D0 (D.write (F+m % (C*8) / 8) (zeros 512)).2 F C T o s e B/\UpTo (D.write (F+m % (C*8) / 8) (zeros 512)).2 F C T o s e B (m+8):=by
 have hmb0:=hmay (51*m+1)
 have esec:secB F C (51*m+1)=F+m % (C*8) / 8:=by unfold secB;rw [show (51*m+1 - 1) / 51=m by omega]
 rw [esec] at hmb0
 have hin:=zQhx m hC
 have hm8:=zUSU m C
 have hw:=zm8e hmb0 (zrlC 512)
 obtain ⟨w1,w2,w3,_⟩:=zn26 hmb0 (zrlC 512)
 have key:∀ n,n % (C*8) / 8=m % (C*8) / 8->∃ m',m<=m'/\m' < m+8/\m' % (C*8)=n % (C*8)/\NewS T o e B m' (cut (zeros 512) (n % (C*8) % 8*64).toNat 64):=by
  intro n hb
  have hn:=zQhx n hC
  refine ⟨m+n % (C*8) % 8,by omega,by omega,?_,?_⟩
  ·rw [zrot hC (by omega) (by omega)];omega
  ·rw [ze00 (by omega)]
   exact ⟨zrlC 64,.inr ⟨by omega,zMf0,z3Ba⟩⟩
 have hblk:m+8<=(o - 1) / 51+C*8:=by omega
 constructor
 ·refine ⟨fun n=>?_,by rw [w2];exact hP.safe,by rw [w1];exact hP.n,fun k hk=>by rw [w3 k (by omega)];exact hP.out k hk⟩
  rw [zP26 hw n]
  by_cases hb:n % (C*8) / 8=m % (C*8) / 8
  ·rw [if_pos hb]
   obtain ⟨m',k1,k2,k3,k4⟩:=key n hb
   exact .inr ⟨m',by omega,by omega,k3,k4⟩
  ·rw [if_neg hb]
   exact hP.mid n
 ·intro n hn1 hn2
  rw [zP26 hw n]
  by_cases hb:n % (C*8) / 8=m % (C*8) / 8
  ·rw [if_pos hb]
   obtain ⟨m',k1,k2,k3,k4⟩:=key n hb
   have:m'=n:=zZpr k3 (by omega) (by omega)
   subst this
   exact k4
  ·rw [if_neg hb]
   by_cases hlt:n < m
   ·exact hup n hn1 hlt
   ·exfalso
    have hd:n % (C*8)=m % (C*8)+(n - m):=by
     have:=zrot (m:=m) (d:=n - m) hC (by omega) (by omega)
     rwa [show m+(n - m)=n by omega] at this
    omega
end Go.Proofs.Ytnbfhdgojmflhaa
namespace Go.Proofs.Ytnbfhdgojmflhaa
open Go.RowKit
def flatR (R:List RecM):Bytes:=(R.map encM).flatten
theorem zCgo (r:RecM) (R:List RecM):flatR (r :: R)=encM r ++ flatR R:=rfl
theorem zoGA (R S:List RecM):flatR (R ++ S)=flatR R ++ flatR S:=by simp [flatR]
theorem zdFD (r:RecM):flatR [r]=encM r:=by simp [flatR]
def placesR:Int->List RecM->List Int
 | _,[]=>[]
 | o,r :: R=>o :: placesR (o+(encM r).length) R
theorem zEyh:∀ (o:Int) (R:List RecM),(placesR o R).length=R.length
 | _,[]=>rfl
 | o,r :: R=>by simp [placesR,zEyh]
theorem zlLY:∀ (o:Int) (R S:List RecM),placesR o (R ++ S)=placesR o R ++ placesR (o+(flatR R).length) S
 | o,[],S=>by simp [placesR,flatR]
 | o,r :: R,S=>by
  show o :: placesR (o+(encM r).length) (R ++ S)=o :: (placesR (o+(encM r).length) R ++ _)
  rw [zlLY,zCgo,List.length_append]
  congr 3
  omega
theorem zJnD:∀ (o:Int) (R:List RecM) (k:Nat),k < R.length->(placesR o R).getD k 0=o+(flatR (R.take k)).length
 | o,[],k,h=>by simp at h
 | o,r :: R,0,_=>by simp [placesR,flatR]
 | o,r :: R,k+1,h=>by
  show (placesR (o+(encM r).length) R).getD k 0=_
  rw [zJnD _ R k (by simpa using h),List.take_succ_cons,zCgo,List.length_append]
  omega
def RecsOk (T:Int):Int->Int->List RecM->Prop
 | _,_,[]=>True
 | o,t,r :: R=>zZer r/\r.lsn=o/\t<=r.turn/\r.turn<=T/\RecsOk T (o+(encM r).length) r.turn R
theorem zThL {r:RecM} (h:zZer r):35<=(encM r).length/\(encM r).length<=1075:=by
 rw [z34p]
 have:=zacl h
 omega
theorem RecsOk.snoc {T:Int} {r:RecM} (hr:zZer r) (ht:r.turn=T):∀ {R:List RecM} {o t:Int},RecsOk T o t R->t<=T->r.lsn=o+(flatR R).length->RecsOk T o t (R ++ [r])
 | [],o,t,_,h1,h2=>⟨hr,by simpa [flatR] using h2,by omega,by omega,trivial⟩
 | q :: R,o,t,⟨a1,a2,a3,a4,a5⟩,h1,h2=>⟨a1,a2,a3,a4,RecsOk.snoc hr ht a5 a4 (by rw [zCgo,List.length_append] at h2;omega)⟩
theorem RecsOk.nth {T:Int}:∀ {R:List RecM} {o t:Int} (k:Nat) (hk:k < R.length),RecsOk T o t R->zZer R[k]/\R[k].lsn=o+(flatR (R.take k)).length
 | [],_,_,k,hk,_=>by simp at hk
 | r :: R,o,t,0,_,⟨h1,h2,_⟩=>⟨h1,by simpa [flatR] using h2⟩
 | r :: R,o,t,k+1,hk,⟨_,_,_,_,h5⟩=>by
  obtain ⟨a,b⟩:=RecsOk.nth k (by simpa using hk) h5
  refine ⟨a,?_⟩
  show (R[k]'(by simpa using hk)).lsn=_
  rw [b,List.take_succ_cons,zCgo,List.length_append]
  omega
theorem znby {R:List RecM} {k:Nat} (hk:k < R.length):flatR (R.take (k+1))=flatR (R.take k) ++ encM R[k]:=by
 rw [List.take_succ_eq_append_getElem hk,zoGA,zdFD]
theorem zU0t (R:List RecM) {j k:Nat} (h:j<=k):(flatR (R.take j)).length<=(flatR (R.take k)).length:=by
 have e:R.take j=(R.take k).take j:=by rw [List.take_take,Nat.min_eq_left h]
 have e2:R.take k=(R.take k).take j ++ (R.take k).drop j:=(List.take_append_drop _ _).symm
 rw [e]
 conv=>rhs;rw [e2,zoGA,List.length_append]
 omega
structure LogI (D:DevM) (L:LogM) (R:List RecM) (B:Int->UInt8):Prop where
 up:∀ a,D.mayE (secB L.first L.count a)=0
 nop:∀ k,L.first<=k->k < L.first+L.count->D.opn k=none
 len:∀ k,(D.latest k).length=512
 slen:∀ k,(D.safeG k).length=512
 f0:0<=L.first
 f1:L.first<=65536
 c4:4<=L.count
 c1:L.count<=65536
 t1:1<=L.turn
 t2:L.turn < 2147483648
 o1:1<=L.oldest
 so:L.oldest<=L.safe
 sf:L.safe<=L.fin
 fm:L.fin<=3000000000000000000
 room:L.fin - L.oldest<=408*(L.count - 1)
 rest:RestS D.latest L.first L.count L.turn L.oldest L.safe B
 beg:L.beg=secF L.safe
 tail:TailS L.tail L.oldest L.beg L.fin B
 recs:RecsOk L.turn L.oldest 0 R
 lsns:L.lsns=placesR L.oldest R
 flat:flatR R=stB B L.oldest (L.fin - L.oldest).toNat
 sb:∃ j,j<=R.length/\L.safe=L.oldest+(flatR (R.take j)).length
section
variable {D:DevM} {L:LogM} {R:List RecM} {B:Int->UInt8}
theorem LogI.ok (h:LogI D L R B):LogOk L:=⟨h.f0,h.f1,h.c4,h.c1,h.o1,by have:=h.so;have:=h.sf;omega,h.fm,by have:=h.so;have:=h.o1;omega,by have:=h.sf;have:=h.fm;omega⟩
theorem LogI.flen (h:LogI D L R B):((flatR R).length:Int)=L.fin - L.oldest:=by
 rw [h.flat,zvfb];have:=h.so;have:=h.sf;omega
theorem LogI.begs (h:LogI D L R B):L.beg=51*((L.safe - 1) / 51)+1/\L.beg<=L.safe/\1<=L.beg:=by
 have h1:=h.beg
 have h2:=h.so
 have h3:=h.o1
 unfold secF at h1
 omega
theorem LogI.b (h:LogI D L R B):LogB L:=⟨by have:=h.tail.len;omega,h.begs.2.2,by have:=h.begs;have:=h.sf;have:=h.fm;omega⟩
theorem zUj0 (h:LogI D L R B) {k:Nat} (hk:k < R.length):L.lsns.getD k 0=L.oldest+(flatR (R.take k)).length/\(flatR (R.take (k+1))).length=(flatR (R.take k)).length+(encM R[k]).length/\35<=(encM R[k]).length/\(encM R[k]).length<=1075:=by
 have hr:=(h.recs.nth k hk).1
 exact ⟨by rw [h.lsns,zJnD _ _ _ hk],by rw [znby hk,List.length_append],zThL hr⟩
theorem LogI.llen (h:LogI D L R B):L.lsns.length=R.length:=by rw [h.lsns,zEyh]
theorem zXpv (h:LogI D L R B) {k:Nat} (hk:k<=R.length):L.oldest+((flatR (R.take k)).length:Int)<=L.fin:=by
 have h1:=h.flen
 have h2:=zU0t R hk
 rw [List.take_length] at h2
 omega
theorem zToB (h:LogI D L R B):∀ k:Nat,k<=R.length->35*k<=(flatR (R.take k)).length
 | 0,_=>by simp
 | k+1,hk=>by
  have h1:=zToB h k (by omega)
  have h2:=zUj0 h (k:=k) (by omega)
  omega
theorem LogI.r (h:LogI D L R B):LogR L:=by
 have hl:=h.llen
 refine ⟨fun i j hij hj=>?_,fun k hk=>?_,fun k hk=>?_,fun k hk=>?_,?_⟩
 ·rw [hl] at hj
  rw [(zUj0 h (by omega:i < R.length)).1,(zUj0 h hj).1]
  have h1:=zUj0 h (by omega:i < R.length)
  have h2:=zU0t R (show i+1<=j by omega)
  omega
 ·rw [hl] at hk
  rw [(zUj0 h hk).1]
  have:=h.o1
  omega
 ·rw [hl] at hk
  rw [(zUj0 h hk).1,(zUj0 h (by omega:k < R.length)).1]
  have h1:=zUj0 h (by omega:k < R.length)
  have h2:=zXpv h (show k+1<=R.length by omega)
  omega
 ·rw [hl] at hk
  rw [(zUj0 h (by omega:k < R.length)).1]
  have h1:=zUj0 h (by omega:k < R.length)
  have h2:=h.flen
  rw [hk,List.take_length] at h1
  omega
 ·rw [hl]
  have h1:=zToB h R.length (Nat.le_refl _)
  have h2:=zXpv h (Nat.le_refl R.length)
  have h3:=h.room
  have h4:=h.c1
  omega
theorem zK9R (h:LogI D L R B) (r:RecM) (hr:zZer { r with lsn:=L.fin,turn:=L.turn }) (hroom:¬ L.room < ((encM { r with lsn:=L.fin,turn:=L.turn }).length:Int)) (hfm:L.fin<=2999999999999000000) :
  L.append r=({ L with tail:=L.tail ++ encM { r with lsn:=L.fin,turn:=L.turn },lsns:=L.lsns ++ [L.fin],fin:=L.fin+(encM { r with lsn:=L.fin,turn:=L.turn }).length },L.fin,0) /\
  ∃ B',LogI D { L with tail:=L.tail ++ encM { r with lsn:=L.fin,turn:=L.turn },lsns:=L.lsns ++ [L.fin],fin:=L.fin+(encM { r with lsn:=L.fin,turn:=L.turn }).length } (R ++ [{ r with lsn:=L.fin,turn:=L.turn }]) B':=by
 obtain ⟨r',hr'⟩:∃ r',r'=({ r with lsn:=L.fin,turn:=L.turn }:RecM):=⟨_,rfl⟩
 have hl1:r'.lsn=L.fin:=by rw [hr']
 have hl2:r'.turn=L.turn:=by rw [hr']
 have happ:L.append r=if ¬ zZer r' then (L,0,4) else if L.room < ((encM r').length:Int) then (L,0,5) else ({ L with tail:=L.tail ++ encM r',lsns:=L.lsns ++ [L.fin],fin:=L.fin+(encM r').length },L.fin,0):=by rw [hr'];rfl
 rw [<- hr'] at hr hroom ⊢
 have hso:=h.so
 have hsf:=h.sf
 have ho1:=h.o1
 have hfl:=h.flen
 have hel:=zThL hr
 have htl:=h.tail.len
 have hbg:=h.begs
 refine ⟨by rw [happ,if_neg (fun hn=>hn hr),if_neg hroom],fun a=>if a < L.fin then B a else bAt (encM r') (a - L.fin).toNat,?_⟩
 have hag:∀ x,L.oldest<=x->x < L.fin->B x=(fun a=>if a < L.fin then B a else bAt (encM r') (a - L.fin).toNat) x:=fun x _ hx=>(if_pos hx).symm
 have hst:stB (fun a=>if a < L.fin then B a else bAt (encM r') (a - L.fin).toNat) L.fin (encM r').length=encM r':=by
  refine zPUK (zvfb _ _ _) fun i hi=>?_
  rw [zvfb] at hi
  have:(stB (fun a=>if a < L.fin then B a else bAt (encM r') (a - L.fin).toNat) L.fin (encM r').length)[i]?=some (bAt (encM r') i):=by
   rw [zNSH,if_pos hi]
   show some (if L.fin+(i:Int) < L.fin then _ else _)=_
   rw [if_neg (by omega)]
   congr 2
   omega
  unfold bAt at this ⊢
  rw [List.getD_eq_getElem?_getD,this]
  rfl
 refine { h with sf:=?_,fm:=?_,room:=?_,rest:=?_,tail:=?_,recs:=?_,lsns:=?_,flat:=?_,sb:=?_ }
 ·show L.safe<=L.fin+(encM r').length;omega
 ·show L.fin+((encM r').length:Int)<=3000000000000000000;omega
 ·show L.fin+((encM r').length:Int) - L.oldest<=408*(L.count - 1)
  unfold LogM.room at hroom
  omega
 ·exact h.rest.congr (fun x h1 h2=>hag x h1 (by omega))
 ·refine ⟨?_,fun i hi hoi=>?_⟩
  ·show ((L.tail ++ encM r').length:Int)=L.fin+(encM r').length - L.beg
   rw [List.length_append];omega
  ·show bAt (L.tail ++ encM r') i=if L.beg+(i:Int) < L.fin then B (L.beg+i) else bAt (encM r') (L.beg+i - L.fin).toNat
   by_cases hit:i < L.tail.length
   ·rw [zG5S hit,if_pos (by omega)]
    exact h.tail.byte i hit hoi
   ·rw [zMjx (by omega),if_neg (by omega)]
    congr 1
    omega
 ·exact h.recs.snoc hr hl2 (by have:=h.t1;omega) (by rw [hl1];omega)
 ·show L.lsns ++ [L.fin]=placesR L.oldest (R ++ [r'])
  rw [zlLY,h.lsns]
  congr 1
  show [L.fin]=[L.oldest+((flatR R).length:Int)]
  congr 1
  omega
 ·show flatR (R ++ [r'])=stB _ L.oldest (L.fin+(encM r').length - L.oldest).toNat
  rw [zoGA,zdFD,h.flat,zJ1x (B':=fun a=>if a < L.fin then B a else bAt (encM r') (a - L.fin).toNat) (fun x h1 h2=>hag x h1 (by omega))]
  conv=>lhs;rhs;rw [<- hst]
  have e:L.fin=L.oldest+((L.fin - L.oldest).toNat:Int):=by omega
  conv=>lhs;rhs;rw [e]
  rw [<- e,show stB (fun a=>if a < L.fin then B a else bAt (encM r') (a - L.fin).toNat) L.fin (encM r').length=stB (fun a=>if a < L.fin then B a else bAt (encM r') (a - L.fin).toNat) (L.oldest+((L.fin - L.oldest).toNat:Int)) (encM r').length by rw [<- e],zmEd]
  congr 1
  omega
 ·obtain ⟨j,h1,h2⟩:=h.sb
  refine ⟨j,by rw [List.length_append];omega,?_⟩
  rw [List.take_append_of_le_length h1]
  exact h2
end
end Go.Proofs.Ytnbfhdgojmflhaa
namespace Go.Proofs.Ytnbfhdgojmflhaa
open Go.RowKit
theorem zXFu (D:DevM) (k:Int):D.sync.latest k=D.latest k:=by
 unfold DevM.latest DevM.sync orF
 cases h:D.opn k<;>simp [h]
theorem zjPi (D:DevM) (k:Int):D.sync.safeG k=D.latest k:=by
 unfold DevM.safeG DevM.latest DevM.sync orF
 cases h:D.opn k<;>simp [h]
theorem PourS.refl (D:DevM) (F C T o s e:Int) (B:Int->UInt8):PourS D.latest D D F C T o s e B:=⟨MidS.refl _ _ _ _ _ _ _ _,rfl,rfl,fun _ _=>rfl⟩
theorem PourS.crash {g:Int->Bytes} {D0 D:DevM} {F C T o s e:Int} {B:Int->UInt8} (h:PourS g D0 D F C T o s e B):PourS g D0 D.crash F C T o s e B:=by
 obtain ⟨h1,h2,h3⟩:=z4HA D
 have hl:D.crash.latest=D.latest:=funext (zJTu D)
 exact ⟨by rw [hl];exact h.mid,by rw [h2];exact h.safe,by rw [h1];exact h.n,fun k hk=>by rw [h3];exact h.out k hk⟩
theorem zs4H {D:DevM} (h:D.mayE 0=0):(D.syncR.1=8/\D.syncR.2=D.crash)\/(D.syncR.1=0/\D.syncR.2=D.crash.sync/\D.crash.down=false):=by
 unfold DevM.syncR
 rw [if_neg (by rw [h];decide)]
 cases hd:D.crash.down
 ·right;simp
 ·left;simp
theorem UpTo.weak {D:DevM} {F C T o s e:Int} {B:Int->UInt8} {M M':Int} (h:UpTo D F C T o s e B M) (hm:M'<=M):UpTo D F C T o s e B M':=fun n h1 h2=>h n h1 (by omega)
theorem zlc7 {tail:Bytes} {o beg e:Int} {B:Int->UInt8} (h:TailS tail o beg e B) {k:Nat} (hk:k<=tail.length):TailS (tail.drop k) o (beg+k) e B:=by
 have hl:=h.len
 refine ⟨by rw [List.length_drop];omega,fun i hi ho=>?_⟩
 rw [List.length_drop] at hi
 have:=h.byte (k+i) (by omega) (by omega)
 rw [show beg+(k:Int)+(i:Int)=beg+((k+i:Nat):Int) by omega,<- this]
 unfold bAt
 simp only [List.getD_eq_getElem?_getD,List.getElem?_drop]
theorem zMy2 {tail:Bytes} {o o' beg e:Int} {B:Int->UInt8} (h:TailS tail o beg e B) (ho:o<=o'):TailS tail o' beg e B:=⟨h.len,fun i hi hoi=>h.byte i hi (by omega)⟩
section
variable {D:DevM} {L:LogM} {R:List RecM} {B:Int->UInt8}
def z5H0 (L:LogM):LogM:={ L with safe:=L.fin,beg:=L.beg+(L.tail.length / 51*51:Nat),tail:=L.tail.drop (L.tail.length / 51*51) }
theorem z2vV (h:LogI D L R B) (hlt:L.safe < L.fin) {D1:DevM} (hP:PourS D.latest D D1 L.first L.count L.turn L.oldest L.safe L.fin B) (hlen:∀ k,(D1.latest k).length=512)
  (hup:∀ a,D1.mayE (secB L.first L.count a)=0) {M:Int} (hM:M % 8=0) (hM2:L.fin<=51*M+1) (hU:UpTo D1 L.first L.count L.turn L.oldest L.safe L.fin B M) :
  ((L.forceEnd D1).2.2=0/\(L.forceEnd D1).1=z5H0 L/\LogI (L.forceEnd D1).2.1 (z5H0 L) R B) \/
  ((L.forceEnd D1).2.2=8/\(L.forceEnd D1).1=L/\PourS D.latest D (L.forceEnd D1).2.1 L.first L.count L.turn L.oldest L.safe L.fin B/\∀ k,((L.forceEnd D1).2.1.latest k).length=512):=by
 have hb:=h.begs
 have c4:=h.c4
 have o1:=h.o1
 have so:=h.so
 have t1:=h.t1
 have tl:=h.tail.len
 have room:=h.room
 obtain ⟨m,hm⟩:∃ m,m=(L.fin - 1) / 51:=⟨_,rfl⟩
 obtain ⟨y,hy⟩:∃ y,y=if secO L.count L.fin=0/\secF L.fin=L.fin then D1.write (secB L.first L.count L.fin) (zeros 512) else (0,D1):=⟨_,rfl⟩
 have hv:L.forceEnd D1=if y.1≠0 then (L,y.2,y.1) else if y.2.syncR.1≠0 then (L,y.2.syncR.2,y.2.syncR.1) else (z5H0 L,y.2.syncR.2,0):=by
  rw [hy];rfl
 have esec:secB L.first L.count L.fin=L.first+m % (L.count*8) / 8:=by unfold secB;rw [hm]
 have eoff:secO L.count L.fin=m % (L.count*8) % 8*64:=by unfold secO;rw [hm]
 have efst:secF L.fin=51*m+1:=by unfold secF;omega
 have hm8:=zUSU m L.count
 have key:PourS D.latest D y.2 L.first L.count L.turn L.oldest L.safe L.fin B/\(∀ k,(y.2.latest k).length=512)/\((y.1=8)\/(y.1=0/\(∀ a,y.2.mayE (secB L.first L.count a)=0)/\∃ M1,UpTo y.2 L.first L.count L.turn L.oldest L.safe L.fin B M1/\L.fin<=51*M1+1 /\
   (L.fin=51*m+1->m+1<=M1))):=by
  by_cases hc:secO L.count L.fin=0/\secF L.fin=L.fin
  ·rw [if_pos hc,esec] at hy
   have h0:=hup L.fin
   have hc1:=hc.1
   have hc2:=hc.2
   rw [eoff] at hc1
   rw [esec] at h0
   obtain ⟨p1,p2⟩:=z5FY hP (by omega) o1 so (by omega) room hup (m:=m) (by omega) (by omega) (hU.weak (by omega))
   obtain ⟨w1,w2,w3,w4⟩:=zn26 h0 (zrlC 512)
   rw [<- hy] at p1 p2 w1 w2 w3 w4
   refine ⟨p1,fun k=>?_,?_⟩
   ·rw [hy,zm8e h0 (zrlC 512)]
    split
    ·exact zrlC 512
    ·exact hlen k
   ·rcases w4 with ⟨w4,w5⟩ | ⟨w4,w5⟩
    ·exact .inr ⟨w4,zdwB hup w1 w5,m+8,p2,by omega,fun _=>by omega⟩
    ·exact .inl w4
  ·rw [if_neg hc] at hy
   subst hy
   refine ⟨hP,hlen,.inr ⟨rfl,hup,M,hU,hM2,fun he=>?_⟩⟩
   have:m % 8≠0:=fun h8=>hc ⟨by rw [eoff];omega,by omega⟩
   omega
 obtain ⟨kP,kl,kc⟩:=key
 rw [hv]
 rcases kc with kc | ⟨kc,ku,M1,kU,kU1,kU2⟩
 ·rw [if_pos (by rw [kc];decide)]
  exact .inr ⟨kc,rfl,kP,kl⟩
 ·rw [if_neg (by rw [kc];decide)]
  obtain ⟨u1,u2,u3⟩:=zgBB (ku 1)
  rcases zs4H (DevM.mayE_ok u1 (Int.le_refl 0) (by omega)) with ⟨s1,s2⟩ | ⟨s1,s2,s3⟩
  ·rw [if_pos (by rw [s1];decide)]
   refine .inr ⟨s1,rfl,?_,?_⟩
   ·show PourS D.latest D y.2.syncR.2 _ _ _ _ _ _ _
    rw [s2];exact kP.crash
   ·intro k
    show (y.2.syncR.2.latest k).length=512
    rw [s2,zJTu];exact kl k
  ·rw [if_neg (by rw [s1];decide)]
   refine .inl ⟨rfl,rfl,?_⟩
   show LogI y.2.syncR.2 (z5H0 L) R B
   rw [s2]
   have hlat:y.2.crash.sync.latest=y.2.latest:=funext fun k=>by rw [zXFu,zJTu]
   have hrest:=zKlQ h.rest kP.mid t1 o1 so hlt room (fun n a b=>kU n a (by omega)) (fun he=>by
    rcases kU m (by omega) (by have:=kU2 (by omega);omega) with ⟨_,⟨q,_⟩ | ⟨_,q,_⟩⟩
    ·omega
    ·rw [hm] at q;rw [q];omega)
   obtain ⟨c1,c2,c3⟩:=z4HA y.2
   have dk:L.tail.length / 51*51<=L.tail.length:=Nat.div_mul_le_self _ _
   refine { h with up:=?_,nop:=?_,len:=?_,slen:=?_,so:=?_,sf:=Int.le_refl _,rest:=?_,beg:=?_,tail:=?_,sb:=?_ }
   ·exact zdwB ku c1 s3
   ·intro k _ _;rfl
   ·intro k;rw [hlat];exact kl k
   ·intro k;rw [zjPi,zJTu];exact kl k
   ·show L.oldest<=L.fin;omega
   ·rw [hlat];exact hrest
   ·show L.beg+((L.tail.length / 51*51:Nat):Int)=secF L.fin
    omega
   ·exact zlc7 h.tail dk
   ·refine ⟨R.length,Nat.le_refl _,?_⟩
    show L.fin=_
    rw [List.take_length,h.flen]
    show L.fin=L.oldest+(L.fin - L.oldest)
    omega
theorem zOAL (h:L.safe=L.fin):L.force D=(L,D,0):=by unfold LogM.force;rw [if_pos h]
theorem ztff (h:LogI D L R B) (hne:L.safe≠L.fin):((L.force D).2.2=0/\(L.force D).1=z5H0 L/\LogI (L.force D).2.1 (z5H0 L) R B) \/
  ((L.force D).2.2=8/\(L.force D).1=L/\PourS D.latest D (L.force D).2.1 L.first L.count L.turn L.oldest L.safe L.fin B/\∀ k,((L.force D).2.1.latest k).length=512):=by
 have hsf:=h.sf
 have hb:=h.begs
 have tl:=h.tail.len
 obtain ⟨X,hX⟩:∃ X,X=pourM L.first L.count L.turn (L.tail.length+1) D L.tail L.beg:=⟨_,rfl⟩
 have hv:L.force D=if X.2≠0 then (L,X.1,X.2) else L.forceEnd X.1:=by unfold LogM.force;rw [if_neg hne,<- hX];rfl
 obtain ⟨m,hm⟩:∃ m,m=(L.safe - 1) / 51:=⟨_,rfl⟩
 have hp:=zRCU (g:=D.latest) (D0:=D) (F:=L.first) (C:=L.count) (T:=L.turn) (o:=L.oldest) (s:=L.safe) (e:=L.fin) (B:=B) (by have:=h.c4;omega) (by have:=h.t1;omega) (by have:=h.t2;omega) h.o1 h.so (by have:=h.fm;omega) h.room h.tail
  (L.tail.length+1) D m (PourS.refl _ _ _ _ _ _ _ _) h.len h.up (by omega) (by omega) (by omega) (fun n a b=>by omega) (by omega)
 have e1:51*m+1=L.beg:=by omega
 rw [e1,Int.sub_self,Int.toNat_zero,List.drop_zero,<- hX] at hp
 obtain ⟨hP,hlen,hc⟩:=hp
 rw [hv]
 rcases hc with ⟨hc,hup,M,hM,hM2,hU⟩ | ⟨hc,hd⟩
 ·rw [if_neg (by rw [hc];decide)]
  exact z2vV h (by omega) hP hlen hup hM hM2 hU
 ·rw [if_pos (by rw [hc];decide)]
  exact .inr ⟨hc,rfl,hP,hlen⟩
end
end Go.Proofs.Ytnbfhdgojmflhaa
namespace Go.Proofs.Ytnbfhdgojmflhaa
open Go.RowKit
section
variable {D:DevM} {L:LogM} {R:List RecM} {B:Int->UInt8}
end
end Go.Proofs.Ytnbfhdgojmflhaa
