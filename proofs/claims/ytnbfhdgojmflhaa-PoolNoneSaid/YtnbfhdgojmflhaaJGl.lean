/-
  No statement is proved here.
-/
import Derived.Test.YtnbfhdgojmflhaaJGp
import Derived.Test.YtnbfhdgojmflhaaJDev
namespace Go.Proofs.Ytnbfhdgojmflhaa
open Go.RowKit
theorem zacl {r:RecM} (hr:zZer r):17<=(bodyM r).length/\(bodyM r).length<=1057:=by
 rcases zlMr hr with h | h | h
 ·have hf:=h.2.2.1
  have f1:=hf.2.2.2.2.1
  have f2:=hf.2.2.2.2.2
  have f3:=hf.2.2.1
  have hn:r.new≠[]:=fun hn=>by rw [hn] at f1;simp at f1
  rw [zQye h.1 hn]
  simp [zmTu]
  omega
 ·have hf:=h.2.1
  have f1:=hf.2.2.2.2.1
  have f2:=hf.2.2.2.2.2
  have f3:=hf.2.2.1
  have hn:r.new≠[]:=fun hn=>by rw [hn] at f1;simp at f1
  rw [zqZB h.1 hn,h.2.2]
  simp [zmTu]
  omega
 ·have hk:r.kind≠2:=fun hk=>by rcases h.1 with h | h<;>rw [hk] at h<;>exact absurd h (by decide)
  rw [zGcZ hk h.2.2.2.2.2]
  simp [zmTu]
section
variable {w:World} {p ms mo:Nat} {D:DevM}
def orF (f g:Int->Option Bytes):Int->Option Bytes:=fun k=>(f k).or (g k)
def DevM.sync (D:DevM):DevM:={ D with safe:=orF D.opn D.safe,opn:=fun _=>none }
theorem z4HA (D:DevM):D.crash.n=D.n/\D.crash.safe=D.safe/\D.crash.opn=D.opn:=by
 unfold DevM.crash;split<;>exact ⟨rfl,rfl,rfl⟩
def midF (f g:Int->Option Value) (left:Int->Prop) (h:Int->Option Value):Prop:=∀ k,(left k->h k=g k)/\(¬ left k->h k=(f k).or (g k))
theorem midF.start (f g:Int->Option Value):midF f g (zHk4 f) g:=fun k=>⟨fun _=>rfl,fun hn=>by
 cases hf:f k with
 | none=>rfl
 | some v=>simp [zHk4,hf] at hn⟩
theorem midF.step {f g h:Int->Option Value} {left:Int->Prop} (H:midF f g left h) {n:Int} {v:Value} (hv:f n=some v):midF f g (fun m=>left m/\m≠n) (updF h n v):=by
 intro k
 unfold updF
 by_cases hk:k=n
 ·subst hk
  exact ⟨fun hl=>absurd rfl hl.2,fun _=>by simp [hv]⟩
 ·simp only [hk,if_false]
  exact ⟨fun hl=>(H k).1 hl.1,fun hl=>(H k).2 (fun h=>hl ⟨h,hk⟩)⟩
theorem midF.stop {f g h:Int->Option Value} {left:Int->Prop} (H:midF f g left h) (hn:∀ n,¬ left n):h=fun k=>(f k).or (g k):=funext fun k=>(H k).2 (hn k)
set_option maxRecDepth 100000 in
set_option maxHeartbeats 1000000 in
theorem z2HO (h:DevAt w p ms mo D) (hm:D.mayE 0=0) (hcr:D.crash.down=false) :
  Calls Try.prog 43 #[.pointer (some ⟨p,0,none⟩)] w fun e w'=>e=.returned (.int .i64 0)/\DevAt w' p ms mo D.crash.sync/\Kept (fun x=>x=p\/x=ms\/x=mo) w w':=by
 have M:=zZzN h 0
 rw [hm] at M
 have HM:=Lib.hid M
 have C:=zZqd h
 rw [hcr] at C
 have HC:=Lib.hid C
 have hS:=z4HA D
 have h1:=h.h1;have h2:=h.h2;have h3:=h.h3
 clear M h hm hcr C hS
 generalize D.crash=E at *
 go_enter Try.func43,Try.ntmps43
 go_wp2_with (first
  | (go_at_call 59;refine HM.out.mono ?_;rintro e w' ⟨rfl,rfl⟩)
  | (go_at_call 70;refine HC.out.mono ?_;rintro e w1 ⟨rfl,hd1,hk1⟩;have c2:=hd1.c2)
  | refine zOei rfl 99 _ rfl mo rfl hd1.ho Try.underlying99 ?_)
 intro r w2 cnt n2 m2 hit hk2
 have lp:=zvKu hd1.hp
 have ls:=hd1.hs.lt
 have lo:=hd1.ho.lt
 have hp2:=hk2.heap hd1.hp id
 have hs2:=hd1.hs.kept hk2 id
 have hms:ms≠r:=by omega
 have hmo:mo≠r:=by omega
 have hpr:p≠r:=by omega
 clear c2
 have HE:=qh hd1
 have HK1:=qh hk1
 have HK2:=qh hk2
 clear hd1 hk1 hk2 HM HC
 go_wp2
 go_loopw [] (fun wr=>∃ left cnt hh,zXsb wr r mo (blkF E.opn) left cnt/\IMap wr ms hh/\midF (blkF E.opn) (blkF E.safe) left hh/\Kept (fun x=>x=ms\/x=r) w2 wr) (fun wr=>zup1 wr r)
 case atStart=>exact ⟨_,_,_,hit,hs2,midF.start _ _,Kept.refl _ _⟩
 case round=>
  obtain ⟨left,cnt1,hh,hit,hms1,hmid,hk⟩:=hrel
  have HL0:=qh hit.left_eq
  have HT:=qh hit
  have HMS:=qh hms1
  have HMID:=qh hmid
  have HK:=qh hk
  have hsz:=hk.size
  have hpw:=hk.heap hp2 (by omega)
  have hlr:=hit.lt
  have lsr:=hms1.lt
  clear hit hms1 hmid hk
  go_wp2_with (refine z3lK rfl _ rfl r mo rfl HT.out ?_ ?_)
  ·intro hno
   have c2:wr.cell? ⟨p,2,none⟩=some (.map (some mo)):=zcjX hpw rfl
   obtain ⟨w4,hrun,hmap,hk4,_⟩:=HT.out.map.clear (P:=Try.prog) Try.underlying99 0
   have HM4:=qh hmap
   have HK4:=qh hk4
   clear hmap hk4
   go_wp2
   go_ret
   have hp4:=HK4.out.heap hpw h2
   have hs4:=HMS.out.kept HK4.out h3
   refine ⟨rfl,⟨h1,h2,h3,hp4,?_,HM4.out,?_,?_,HE.out.n0,HE.out.n1,HE.out.a0,HE.out.a1⟩,?_⟩
   ·rw [HMID.out.stop hno] at hs4
    refine hs4.ext (fun k=>?_)
    simp only [DevM.sync,orF,blkF]
    cases E.opn k<;>rfl
   ·intro k l hl
    simp only [DevM.sync,orF] at hl
    cases ho:E.opn k with
    | some l'=>rw [ho] at hl;cases hl;exact HE.out.lo k _ ho
    | none=>rw [ho] at hl;exact HE.out.ls k _ hl
   ·intro k l hl;cases hl
   ·have kk:Kept (fun x=>x=p\/x=ms\/x=mo) w w2:=(HK1.out.mono (fun x _ e=>.inl e)).trans0 HK2.out
    have:=HK1.out.size
    refine (kk.trans HK.out ?_).trans HK4.out ?_
    ·rintro x hx (e | e)
     ·exact .inr (.inl e)
     ·omega
    ·intro x hx e;exact .inr (.inr e)
  ·intro n v w3 cnt2 hln hfn hit3 hlt hk3 hen
   obtain ⟨l,hol,rfl⟩:=zwVv hfn
   have hl:=HE.out.lo n l hol
   have HF:=qh hfn
   have HT3:=qh hit3
   have HK3:=qh hk3
   have HX:=qh hl
   have hp3:=hk3.heap hpw hpr
   have hms3:=qh (HMS.out.kept hk3 hms)
   have lms3:=hms3.out.lt
   have lp3:=zvKu hp3
   have lr3:=hit3.lt
   have lo3:=hit3.lt_b
   have hsz3:=hk3.size
   clear hol hl hfn hit3 hk3
   go_wp2_with (refine zNko rfl 119 rfl (cellsOf (zeros 512)) ziCy ?_)
   intro g w4 n4 m4 hb4 hk4
   go_wp2_with (refine zxQF rfl 119 _ _ rfl g (cellsOf l) _ rfl rfl hb4 (zzAS HX.out) (by simp [z54R,HX.out,zguE]) (zZ84 l) ?_)
   intro w5 hb5 hk5
   have hk5':Kept (fun _=>False) w3 w5:=hk4.trans hk5 (by intro x hx e;omega)
   have hp5:=hk5'.heap hp3 id
   have c1:w5.cell? ⟨p,1,none⟩=some (.map (some ms)):=zcjX hp5 rfl
   have HK5:=qh hk5'
   clear hb4 hk4 hk5 hk5' hen
   go_wp2
   refine wp_region_still_tail 6 (by kernel_rfl) (by kernel_rfl) ?_
   simp only [List.take_succ_cons,List.take_zero,List.drop_succ_cons,List.drop_zero]
   iterate 5 still_step
   refine z4dz rfl 119 _ rfl g rfl (cellsOf l) hb5 Try.underlying119 rfl (zzAS HX.out) ?_
   refine wpStill_nil ?_
   obtain ⟨w6,hrun,hmap,hk6,_⟩:=IMap.update (P:=Try.prog) (w:=w5.drew) (hms3.out.kept (w':=w5) HK5.out (fun h=>h)) Try.underlying99 Try.underlying3 n (blk l)
   refine zwNv rfl 99 _ _ _ rfl hrun ?_
   have hk6':Kept (fun x=>x=ms) w5 w6:=⟨hk6.os,hk6.tape,hk6.output,hk6.size,hk6.block⟩
   have HM6:=qh hmap
   have HK6:=qh hk6'
   clear hmap hk6 hk6' hrun
   go_frame
   go_wp2
   go_roundw
   case rel=>
    have kk:Kept (fun x=>x=ms) w3 w6:=(HK5.out.mono (fun x _ e=>e.elim)).trans' HK6.out
    refine ⟨_,_,_,HT3.out.kept kk (Ne.symm hms) (Ne.symm h3),HM6.out,HMID.out.step HF.out,?_⟩
    refine (HK.out.trans HK3.out ?_).trans kk ?_
    ·intro x hx e;exact .inr e
    ·intro x hx e;exact .inl e
   case measure=>
    have kk:Kept (fun x=>x=ms) w3 w6:=(HK5.out.mono (fun x _ e=>e.elim)).trans' HK6.out
    have e1:=(HT3.out.kept kk (Ne.symm hms) (Ne.symm h3)).left_eq
    have e0:=HL0.out
    omega
end
section
variable {w:World} {p ms mo:Nat} {D:DevM}
end
section
variable {w:World} {p ms mo:Nat} {D:DevM}
def newM (n:Int):DevM:={ n:=n,safe:=fun _=>none,opn:=fun _=>none,armed:=0,down:=false }
set_option maxHeartbeats 400000 in
theorem zAkz (n:Int) (h0:1<=n) (h1:n<=65536) (w:World) :
  Calls Try.prog 18 #[.int .i64 n] w fun e w'=>∃ p ms mo,e=.returned (.pointer (some ⟨p,0,none⟩))/\DevAt w' p ms mo (newM n)/\Kept (fun _=>False) w w'/\w.heap.size<=p/\w.heap.size<=ms/\w.heap.size<=mo:=by
 have g1:¬ n < 1:=by omega
 have g2:¬ 65536 < n:=by omega
 go_enter Try.func18,Try.ntmps18
 go_wp2_with (refine zrzo rfl 99 rfl ?_)
 intro ms w1 n1 m1 hm1 hk1
 go_wp2_with (refine zrzo rfl 99 rfl ?_)
 intro mo w2 n2 m2 hm2 hk2
 go_wp2_with (refine znBH rfl 101 _ rfl (.agg #[.int .i64 n,.map (some ms),.map (some mo),.int .i64 0,.bool false]) rfl ?_)
 intro p w3 n3 m3 hb3 hk3
 have HM1:=qh ((hm1.kept hk2 (fun h=>h)).kept (w':=w3) hk3 (fun h=>h))
 have HM2:=qh (hm2.kept (w':=w3) hk3 (fun h=>h))
 have HB:=qh hb3
 have HK:=qh ((hk1.trans0 hk2).trans0 hk3)
 have s1:=hk1.size;have s2:=hk2.size
 clear hm1 hm2 hb3 hk1 hk2 hk3
 go_wp2
 go_ret
 exact ⟨p,ms,mo,rfl,⟨by omega,by omega,by omega,HB.out,HM1.out,HM2.out,(fun k l hl=>by cases hl),(fun k l hl=>by cases hl),h0,h1,Int.le_refl 0,by show (0:Int)<=_;omega⟩,HK.out,by omega,by omega,by omega⟩
def DevM.write (D:DevM) (n:Int) (l:Bytes):Int×DevM:=
 if D.mayE n≠0 then (D.mayE n,D) else if l.length≠512 then (2,D) else (zPhp (D.put n l).crash.down,(D.put n l).crash)
theorem zquG (h:DevAt w p ms mo D) (n:Int) (A:Option Addr) (c:Nat) (l:Bytes) (hl:RdB w A l) :
  Calls Try.prog 56 #[.pointer (some ⟨p,0,none⟩),.int .i64 n,.slice A l.length c] w fun e w'=>
   e=.returned (.int .i64 (D.write n l).1)/\DevAt w' p ms mo (D.write n l).2/\Kept (fun x=>x=p\/x=mo) w w':=by
 unfold DevM.write
 by_cases hm:D.mayE n=0
 ·rw [if_neg (by simp [hm])]
  by_cases h5:l.length=512
  ·rw [if_neg (by simp [h5])]
   obtain ⟨b,off,rfl,hc⟩:=hl (by intro e;simp [e] at h5)
   have:=zh1w h n hm b off c l h5 hc
   rw [h5]
   exact this
  ·rw [if_pos h5]
   exact (zNRo h n hm A l.length c h5).mono fun e w' ⟨h1,h2⟩=>by subst h2;exact ⟨h1,h,Kept.refl _ _⟩
 ·rw [if_pos hm]
  exact (zlSx h n hm _).mono fun e w' ⟨h1,h2⟩=>by subst h2;exact ⟨h1,h,Kept.refl _ _⟩
theorem zC1p (h:DevAt w p ms mo D) (hm:D.mayE 0≠0) :
  Calls Try.prog 43 #[.pointer (some ⟨p,0,none⟩)] w fun e w'=>e=.returned (.int .i64 (D.mayE 0))/\w=w':=by
 have HM:=qh (zZzN h 0)
 have hb:(D.mayE 0 != 0)=true:=by simpa using hm
 clear h hm
 generalize D.mayE 0=x at *
 go_enter Try.func43,Try.ntmps43
 go_wp2_with (go_at_call 59;refine HM.out.mono ?_;rintro e w' ⟨rfl,rfl⟩)
 go_ret
 exact ⟨rfl,rfl⟩
theorem zePb (h:DevAt w p ms mo D) (hm:D.mayE 0=0) (hcr:D.crash.down=true) :
  Calls Try.prog 43 #[.pointer (some ⟨p,0,none⟩)] w fun e w'=>e=.returned (.int .i64 8)/\DevAt w' p ms mo D.crash/\Kept (fun x=>x=p) w w':=by
 have M:=zZzN h 0
 rw [hm] at M
 have HM:=Lib.hid M
 have C:=zZqd h
 rw [hcr] at C
 have HC:=Lib.hid C
 clear M h hm hcr C
 generalize D.crash=E at *
 go_enter Try.func43,Try.ntmps43
 go_wp2_with (first
  | (go_at_call 59;refine HM.out.mono ?_;rintro e w' ⟨rfl,rfl⟩)
  | (go_at_call 70;refine HC.out.mono ?_;rintro e w1 ⟨rfl,hd1,hk1⟩))
 go_ret
 exact ⟨rfl,hd1,hk1⟩
def DevM.syncR (D:DevM):Int×DevM:=
 if D.mayE 0≠0 then (D.mayE 0,D) else if D.crash.down then (8,D.crash) else (0,D.crash.sync)
theorem zWTC (h:DevAt w p ms mo D) :
  Calls Try.prog 43 #[.pointer (some ⟨p,0,none⟩)] w fun e w'=>e=.returned (.int .i64 D.syncR.1)/\DevAt w' p ms mo D.syncR.2/\Kept (fun x=>x=p\/x=ms\/x=mo) w w':=by
 unfold DevM.syncR
 by_cases hm:D.mayE 0=0
 ·rw [if_neg (by simp [hm])]
  cases hc:D.crash.down
  ·exact z2HO h hm hc
  ·exact (zePb h hm hc).mono fun e w' ⟨h1,h2,h3⟩=>⟨h1,h2,h3.mono fun x _ e=>.inl e⟩
 ·rw [if_pos hm]
  exact (zC1p h hm).mono fun e w' ⟨h1,h2⟩=>by subst h2;exact ⟨h1,h,Kept.refl _ _⟩
end
structure LogM where
 first:Int
 count:Int
 turn:Int
 oldest:Int
 fin:Int
 safe:Int
 lsns:List Int
 tail:Bytes
 beg:Int
def secB (first count at_:Int):Int:=first+((at_ - 1) / 51 % (count*8)) / 8
def secO (count at_:Int):Int:=((at_ - 1) / 51 % (count*8)) % 8*64
def secF (at_:Int):Int:=(at_ - 1) / 51*51+1
def z7b5 (fst turn used:Nat):Bytes:=beN fst 8 ++ (beN turn 4 ++ [UInt8.ofNat used])
def zsGR (p:Bytes) (fst at_ last turn:Int):Prop:=sgn (valN (cut p 0 8) 0)≠fst\/((valN (cut p 8 4) 0:Nat):Int) < max last 1\/turn<=((valN (cut p 8 4) 0:Nat):Int) \/
 51 < (bAt p 12).toNat\/(((bAt p 12).toNat:Nat):Int) < at_ - fst
instance (p:Bytes) (fst at_ last turn:Int):Decidable (zsGR p fst at_ last turn):=by unfold zsGR;infer_instance
def secP (D:DevM) (first count at_:Int):Bytes:=cut (D.latest (secB first count at_)) (secO count at_).toNat 64
def zoel (D:DevM) (first count turn:Int) (most:Nat):Nat->Int->Int->Bytes->Bytes×Int
 | 0,_,_,out=>(out.take most,0)
 | f+1,at_,last,out=>
  if most<=out.length then (out.take most,0) else
  if D.mayE (secB first count at_)≠0 then ([],D.mayE (secB first count at_)) else
  let p:=secP D first count at_
  let fst:=secF at_
  if zsGR p fst at_ last turn then (out.take most,0) else
  let out':=out ++ (p.take (13+(bAt p 12).toNat)).drop (13+(at_ - fst).toNat)
  if (bAt p 12).toNat < 51 then (out'.take most,0) else
  zoel D first count turn most f (fst+51) (valN (cut p 8 4) 0:Nat) out'
def zXvy (D:DevM) (first count:Int) (n:Nat):Nat->Int->Bytes->Bytes×Int
 | 0,_,out=>(out.take n,0)
 | f+1,at_,out=>
  if n<=out.length then (out.take n,0) else
  if D.mayE (secB first count at_)≠0 then ([],D.mayE (secB first count at_)) else
  zXvy D first count n f (secF at_+51) (out ++ (secP D first count at_).drop (13+(at_ - secF at_).toNat))
def scanM (turn:Int) (all:Bytes):Nat->Nat->Int->Int->List Int->List Int×Int×Nat
 | 0,at_,fin,_,lsns=>(lsns,fin,at_)
 | f+1,at_,fin,last,lsns=>
  match getL (all.drop at_) with
  | none=>(lsns,fin,at_)
  | some (r,n)=>
   if r.lsn≠fin\/r.turn < last\/turn<=r.turn then (lsns,fin,at_) else
   scanM turn all f (at_+n) (fin+n) r.turn (lsns ++ [fin])
def LogM.begin (L:LogM) (D:DevM):LogM×Int:=
 let s:=zXvy D L.first L.count (L.safe - secF L.safe).toNat ((L.safe - secF L.safe).toNat+1) (secF L.safe) []
 ({ L with beg:=secF L.safe,tail:=s.1 },s.2)
def LogM.stale (L:LogM) (D:DevM):Bool×Int:=
 if secF L.fin≠L.fin then (false,0) else
 if D.mayE (secB L.first L.count L.fin)≠0 then (false,D.mayE (secB L.first L.count L.fin)) else
 (decide (sgn (valN (cut (secP D L.first L.count L.fin) 0 8) 0)=L.fin),0)
def zPwQ (page:Bytes) (off:Nat) (m:Bytes):Bytes:=page.take off ++ ((m ++ zeros (64 - m.length)).take 64 ++ page.drop (off+64))
def LogM.cut (L:LogM) (D:DevM):DevM×Int:=
 if D.mayE (secB L.first L.count L.fin)≠0 then (D,D.mayE (secB L.first L.count L.fin)) else
 let page:=zPwQ (D.latest (secB L.first L.count L.fin)) (secO L.count L.fin).toNat (z7b5 (secF L.fin).toNat L.turn.toNat L.tail.length ++ L.tail)
 let x:=D.write (secB L.first L.count L.fin) page
 if x.1≠0 then (x.2,x.1) else ((x.2.syncR).2,(x.2.syncR).1)
def openM (D:DevM) (first count oldest turn:Int):Option LogM×DevM×Int:=
 if D.n=0 then (none,D,1) else
 if first < 0\/count < 4\/D.n < first\/D.n - first < count\/oldest < 1\/2305843009213693952 < oldest\/turn < 1\/2147483648<=turn then (none,D,2) else
 let most:=(count*408 - 408).toNat
 let c:=zoel D first count turn most (most+1) oldest 0 []
 if c.2≠0 then (none,D,c.2) else
 let s:=scanM turn c.1 (c.1.length+1) 0 oldest 0 []
 let L:LogM:=⟨first,count,turn,oldest,s.2.1,s.2.1,s.1,[],0⟩
 let b:=L.begin D
 if b.2≠0 then (none,D,b.2) else
 let t:=b.1.stale D
 if t.2≠0 then (none,D,t.2) else
 if t.1\/s.2.2 < c.1.length then
  let x:=b.1.cut D
  if x.2≠0 then (none,x.1,x.2) else (some b.1,x.1,0)
 else (some b.1,D,0)
def LogM.room (L:LogM):Int:=L.count*408 - 408 - (L.fin - L.oldest)
def LogM.append (L:LogM) (r:RecM):LogM×Int×Int:=
 let r':RecM:={ r with lsn:=L.fin,turn:=L.turn }
 if ¬ zZer r' then (L,0,4) else
 if L.room < ((encM r').length:Int) then (L,0,5) else
 ({ L with tail:=L.tail ++ encM r',lsns:=L.lsns ++ [L.fin],fin:=L.fin+(encM r').length },L.fin,0)
def fillM (turn:Int):Nat->Bytes->Nat->Bytes->Int->Bytes×Bytes×Int
 | 0,page,_,rest,fst=>(page,rest,fst)
 | f+1,page,off,rest,fst=>
  if rest=[]\/512<=off then (page,rest,fst) else
  let m:=z7b5 fst.toNat turn.toNat (min rest.length 51) ++ rest.take 51
  fillM turn f (page.take off ++ (m ++ page.drop (off+m.length))) (off+64) (rest.drop 51) (fst+51)
def pourM (first count turn:Int):Nat->DevM->Bytes->Int->DevM×Int
 | 0,D,_,_=>(D,0)
 | f+1,D,rest,fst=>
  if rest=[] then (D,0) else
  if D.mayE (secB first count fst)≠0 then (D,D.mayE (secB first count fst)) else
  let off:=(secO count fst).toNat
  let y:=fillM turn 8 ((D.latest (secB first count fst)).take off ++ zeros (512 - off)) off rest fst
  let x:=D.write (secB first count fst) y.1
  if x.1≠0 then (x.2,x.1) else pourM first count turn f x.2 y.2.1 y.2.2
def LogM.force (L:LogM) (D:DevM):LogM×DevM×Int:=
 if L.safe=L.fin then (L,D,0) else
 let x:=pourM L.first L.count L.turn (L.tail.length+1) D L.tail L.beg
 if x.2≠0 then (L,x.1,x.2) else
 let y:=if secO L.count L.fin=0/\secF L.fin=L.fin then x.1.write (secB L.first L.count L.fin) (zeros 512) else (0,x.1)
 if y.1≠0 then (L,y.2,y.1) else
 let z:=y.2.syncR
 if z.1≠0 then (L,z.2,z.1) else
 ({ L with safe:=L.fin,beg:=L.beg+(L.tail.length / 51*51:Nat),tail:=L.tail.drop (L.tail.length / 51*51) },z.2,0)
def LogM.bytes (L:LogM) (D:DevM) (at_:Int) (n:Nat):Bytes×Int:=
 let s:Bytes×Int:=if at_ < L.beg then zXvy D L.first L.count (min n (L.beg - at_).toNat) (min n (L.beg - at_).toNat+1) at_ [] else ([],0)
 if s.2≠0 then ([],s.2) else
 (s.1 ++ (L.tail.drop (at_+s.1.length - L.beg).toNat).take (n - s.1.length),0)
def findM (l:List Int) (x:Int):Nat:=(l.takeWhile (· < x)).length
def LogM.read (L:LogM) (D:DevM) (lsn:Int):Option RecM×Int:=
 let k:=findM L.lsns lsn
 if L.lsns.getD k 0≠lsn\/L.lsns.length<=k then (none,6) else
 let e:=if k+1 < L.lsns.length then L.lsns.getD (k+1) 0 else L.fin
 let b:=L.bytes D lsn (e - lsn).toNat
 if b.2≠0 then (none,b.2) else
 match getL b.1 with
 | some (r,_)=>(some r,0)
 | none=>(none,4)
end Go.Proofs.Ytnbfhdgojmflhaa
