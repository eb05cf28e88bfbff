/-
  No statement is proved here.
-/
import Derived.Test.YtfgagakepmigbaaGreatJGl
import Derived.Test.YtfgagakepmigbaaGreatJGx
import Derived.Laws.CopyRow
import Derived.Laws.CopyOwn
import Derived.Lib.SliceRun
namespace Go.Proofs.YtfgagakepmigbaaGreat
open Go.RowKit
def logC (p:Nat) (lv tv:Value) (L:LogM):Array Value:=
 #[.pointer (some ⟨p,0,none⟩),.int .i64 L.first,.int .i64 L.count,.int .i64 L.turn,.int .i64 L.oldest,.int .i64 L.fin,.int .i64 L.safe,lv,tv,.int .i64 L.beg]
def LogQ (w:World) (q p:Nat) (lv tv:Value) (L:LogM):Prop:=w.heap[q]?=some (.cells (logC p lv tv L) 118 (0,0))
structure LogOk (L:LogM):Prop where
 f0:0<=L.first
 f1:L.first<=65536
 c0:4<=L.count
 c1:L.count<=65536
 o0:1<=L.oldest
 o1:L.oldest<=L.fin
 e1:L.fin<=3000000000000000000
 s0:1<=L.safe
 s1:L.safe<=3000000000000000000
theorem zATj (w:World) (q p:Nat) (lv tv:Value) (L:LogM) (h:LogQ w q p lv tv L) :
  Calls Tryz.prog 79 #[.pointer (some ⟨q,0,none⟩)] w fun e w'=>e=.returned (.bool true)/\w=w':=by
 have c0:w.cell? ⟨q,0,none⟩=some (.pointer (some ⟨p,0,none⟩)):=zcjX h rfl
 clear h
 go_enter Tryz.func79,Tryz.ntmps79
 go_wp2
 go_ret
 exact ⟨rfl,rfl⟩
theorem znpN (w:World) (q p:Nat) (lv tv:Value) (L:LogM) (h:LogQ w q p lv tv L) (hok:LogOk L) :
  Calls Tryz.prog 80 #[.pointer (some ⟨q,0,none⟩)] w fun e w'=>e=.returned (.int .i64 (L.count*408))/\w=w':=by
 have c2:w.cell? ⟨q,2,none⟩=some (.int .i64 L.count):=zcjX h rfl
 have h1:=hok.c0
 have h2:=hok.c1
 clear h hok
 generalize L.count=C at *
 go_enter Tryz.func80,Tryz.ntmps80
 go_wp2
 go_ret
 exact ⟨rfl,rfl⟩
theorem z4JP (w:World) (q p:Nat) (lv tv:Value) (L:LogM) (h:LogQ w q p lv tv L) :
  Calls Tryz.prog 43 #[.pointer (some ⟨q,0,none⟩)] w fun e w'=>e=.returned (.int .i64 L.fin)/\w=w':=by
 have HT:=qh (zATj w q p lv tv L h)
 have c5:w.cell? ⟨q,5,none⟩=some (.int .i64 L.fin):=zcjX h rfl
 clear h
 go_enter Tryz.func43,Tryz.ntmps43
 go_wp2_with (go_at_call 79;refine HT.out.mono ?_;rintro e w' ⟨rfl,rfl⟩)
 go_ret
 exact ⟨rfl,rfl⟩
theorem zOWC (w:World) (q p:Nat) (lv tv:Value) (L:LogM) (h:LogQ w q p lv tv L) :
  Calls Tryz.prog 131 #[.pointer (some ⟨q,0,none⟩)] w fun e w'=>e=.returned (.int .i64 L.safe)/\w=w':=by
 have HT:=qh (zATj w q p lv tv L h)
 have c6:w.cell? ⟨q,6,none⟩=some (.int .i64 L.safe):=zcjX h rfl
 clear h
 go_enter Tryz.func131,Tryz.ntmps131
 go_wp2_with (go_at_call 79;refine HT.out.mono ?_;rintro e w' ⟨rfl,rfl⟩)
 go_ret
 exact ⟨rfl,rfl⟩
theorem zdrd (w:World) (q p:Nat) (lv tv:Value) (L:LogM) (h:LogQ w q p lv tv L) (hok:LogOk L) (a:Int) (h1:1<=a) (h2:a<=4000000000000000000) :
  Calls Tryz.prog 86 #[.pointer (some ⟨q,0,none⟩),.int .i64 a] w fun e w'=>e=.returned (.tuple #[.int .i64 (secB L.first L.count a),.int .i64 (secO L.count a),.int .i64 (secF a)])/\w=w':=by
 have c1:w.cell? ⟨q,1,none⟩=some (.int .i64 L.first):=zcjX h rfl
 have c2:w.cell? ⟨q,2,none⟩=some (.int .i64 L.count):=zcjX h rfl
 have k1:=hok.c0
 have k2:=hok.c1
 have k3:=hok.f0
 have k4:=hok.f1
 clear h hok
 unfold secB secO secF
 generalize L.count=C at *
 generalize L.first=F at *
 go_enter Tryz.func86,Tryz.ntmps86
 go_wp2
 have n0:0<=(a - 1) / 51 % (C*8):=Int.emod_nonneg _ (by omega)
 have n1:(a - 1) / 51 % (C*8) < C*8:=Int.emod_lt_of_pos _ (by omega)
 generalize (a - 1) / 51 % (C*8)=N at *
 have e1:N.tdiv 8=N / 8:=Int.tdiv_eq_ediv_of_nonneg n0
 have e2:N.tmod 8=N % 8:=Int.tmod_eq_emod_of_nonneg n0
 have e3:wrap64 (F+wrap64 (N.tdiv 8))=F+N / 8:=by rw [e1];unfold wrap64;omega
 have e4:wrap64 (N.tmod 8*64)=N % 8*64:=by rw [e2];unfold wrap64;omega
 rw [e3,e4]
 go_ret3
 exact ⟨rfl,rfl⟩
theorem zSEi {C a:Int} (h0:4<=C):0<=secO C a/\secO C a<=448:=by
 have n0:0<=(a - 1) / 51 % (C*8):=Int.emod_nonneg _ (by omega)
 unfold secO
 omega
theorem zjuj {a:Int}:secF a<=a/\a<=secF a+50:=by
 unfold secF
 omega
def vlen:Value->Nat
 | .slice _ n _=>n
 | _=>0
theorem zzvF (g c:Nat):slA (some ⟨g,0,none⟩) 0 c=some ⟨g,0,none⟩:=by
 unfold slA
 split
 ·rfl
 ·show some ((⟨g,0,none⟩:Addr).add (0*1))=_
  rw [Addr.add_mid]
theorem zYO7 (c:Nat):slA none 0 c=none:=by unfold slA;split<;>rfl
theorem OwnV.short {w:World} {base:Nat} {A:Option Addr} {n c:Nat} {l:Bytes} (h:OwnV w base (.slice A n c) l) (k:Nat) (hk:k<=l.length):OwnV w base (.slice (slA A 0 c) k c) (l.take k):=by
 have hl:(l.take k).length=k:=by rw [List.length_take];omega
 rcases h.form with ⟨h1,rfl⟩ | ⟨g,cap,h1,h2⟩
 ·cases h1
  obtain rfl:k=0:=by simpa using hk
  rw [zYO7]
  exact OwnV.nil _ _
 ·cases h1
  rw [zzvF]
  have h3:w.ownsRow base 5 1 (.slice (some ⟨g,0,none⟩) (k+(l.length - k)) c) (k+(l.length - k)) ((cellsOf (l.take k)).toList ++ (cellsOf (l.drop k)).toList):=by
   rw [<- zdRz,List.take_append_drop,show k+(l.length - k)=l.length by omega]
   exact h2
  have h4:=zu3v h3 (by rw [z6VZ,hl,Nat.mul_one])
  unfold OwnV
  rw [hl]
  exact h4
theorem OwnV.len {w:World} {base:Nat} {A:Option Addr} {n c:Nat} {l:Bytes} (h:OwnV w base (.slice A n c) l):n=l.length/\l.length<=c:=by
 rcases h.form with ⟨h1,rfl⟩ | ⟨g,cap,h1,h2⟩
 ·cases h1;exact ⟨rfl,Nat.le_refl _⟩
 ·cases h1
  obtain ⟨cur,_,_,h5,_⟩:=h2.form
  exact ⟨rfl,h5⟩
theorem OwnV.slice {w:World} {base:Nat} {v:Value} {l:Bytes} (h:OwnV w base v l):∃ A c,v=.slice A l.length c/\l.length<=c:=by
 rcases h.form with ⟨rfl,rfl⟩ | ⟨g,cap,rfl,h2⟩
 ·exact ⟨none,0,rfl,Nat.le_refl _⟩
 ·obtain ⟨cur,_,_,h5,_⟩:=h2.form
  exact ⟨_,_,rfl,h5⟩
theorem zpQF (D:DevM) (F C a:Int) (d:Nat) (hd:d<=51):(secP D F C a).drop (13+d)=((D.latest (secB F C a)).drop ((secO C a).toNat+13+d)).take (51 - d):=by
 unfold secP cut
 rw [List.drop_take,List.drop_drop,show 64 - (13+d)=51 - d by omega,Nat.add_assoc]
theorem zW40 {ev:Operand->Value} {o:Oper} (x y z:Operand) (k h m:Nat) (ho:o.op=.slice 47 x (some z) (some y) none) (A:Option Addr) (n c:Nat) (kI hI:Int) (hx:ev x=.slice A n c) (hz:ev z=.int .i64 kI) (hy:ev y=.int .i64 hI) (ek:kI=(k:Int)) (e:hI=(h:Int)) (hk:k<=h) (hh:h<=c) (hm:h - k=m) (w:World) :
  (execOp ev o).run Tryz.prog w=.ok (.value (.slice (slA A k c) m (c - k))) w:=by
 subst e;subst hm;subst ek
 simp only [execOp,ho,hx,hy,hz,Option.map,Sem.run_bind,run_sliceAt_slice w 47 _ _ _ _ z2Xy,zRDz A n c k h hk hh w,Result.andThen]
 rfl
theorem zZjY {w:World} {ops:Array Oper} {rest:List Oper} {o:Oper} {a:Act} {Q:Exit->Act->World->Prop} (hgd:o.guard=none) (s x:Operand)
  (ho:o.op=.call { callee:=.builtin .append,args:=#[s,x],argTypes:=#[47,47] }) (base:Nat) (v:Value) (l m:Bytes) (hs:a.eval s=v) (hown:OwnV w base v l)
  (A:Option Addr) (n c:Nat) (hx:a.eval x=.slice A n c) (hn:m.length=n) (hm:RdB w A m) (h63:l.length+m.length<=140737488355328) (hbase:base<=w.heap.size)
  (k:∀ v' w',OwnV w' base v' (l ++ m)->Kept (fun x=>v.ownBlock=some x) w w'->OwnTo w v v'->wpList Tryz.prog ops Q rest (a.put o.dst v') w'):wpList Tryz.prog ops Q (o :: rest) a w:=by
 subst hn
 exact z7Vm hgd s x ho base v l m hs hown A c hx hm h63 hbase k
def zUIb (w:World) (x:Bytes×Int) (e:Ending) (w':World):Prop:=Kept (fun _=>False) w w'/\∃ A n c,e=.returned (.tuple #[.slice A n c,.int .i64 x.2])/\OwnV w' w.heap.size (.slice A n c) x.1
set_option maxRecDepth 100000 in
set_option maxHeartbeats 1600000 in
theorem zBRE (w:World) (q p ms mo:Nat) (lv tv:Value) (L:LogM) (D:DevM) (h:LogQ w q p lv tv L) (hd:DevAt w p ms mo D) (hok:LogOk L) (a:Int) (h1:1<=a) (h2:a<=3000000000000000000) (n:Nat) (hn:n<=10000000) :
  Calls Tryz.prog 120 #[.pointer (some ⟨q,0,none⟩),.int .i64 a,.int .i64 n] w (zUIb w (zXvy D L.first L.count n (n+1) a [])):=by
 have HQ:=qh h
 have HD:=qh hd
 have HOK:=qh hok
 obtain ⟨X,hX⟩:∃ X,X=zXvy D L.first L.count n (n+1) a []:=⟨_,rfl⟩
 rw [<- hX]
 have HX:=qh hX.symm
 clear h hd hX
 go_enter Tryz.func120,Tryz.ntmps120
 go_wp2
 go_loopw [1,8] (fun x out wr=>∃ (f:Nat) (a':Int) (l:Bytes),x=.int .i64 a'/\OwnV wr w.heap.size out l/\zXvy D L.first L.count n f a' l=X/\n < f+l.length/\f<=n+1/\1<=a'/\a'<=a+51*((n:Int)+1 - f)/\l.length<=n+51/\Kept (fun _=>False) w wr) (fun x out wr=>n - vlen out)
 case atStart=>exact ⟨n+1,a,[],rfl,OwnV.nil _ _,HX.out,by simp,Nat.le_refl _,h1,by omega,by simp,Kept.refl _ w⟩
 case round=>
  obtain ⟨f,a',l,rfl,ho,hs,hf,hf1,ha1,ha2,hl,hk⟩:=hrel
  obtain ⟨A,c,rfl,hlc⟩:=ho.slice
  have HO:=qh ho
  have HS:=qh hs
  have HK:=qh hk
  have HQr:=qh (hk.heap HQ.out id)
  have HDr:=qh (HD.out.keep hk id id id)
  have HSEC:=qh (zdrd wr q p lv tv L HQr.out HOK.out a' ha1 (by omega))
  have c0:wr.cell? ⟨q,0,none⟩=some (.pointer (some ⟨p,0,none⟩)):=zcjX HQr.out rfl
  clear ho hs hk
  by_cases hlt:l.length < n
  ·have i1:(l.length:Int) < (n:Int):=by omega
   obtain ⟨g,rfl⟩:∃ g,f=g+1:=⟨f - 1,by omega⟩
   have hs':=HS.out
   unfold zXvy at hs'
   rw [if_neg (by omega)] at hs'
   obtain ⟨B,hB⟩:∃ B,B=secB L.first L.count a':=⟨_,rfl⟩
   rw [<- hB] at HSEC hs'
   by_cases hm:D.mayE B=0
   ·rw [if_neg (by rw [hm];decide)] at hs'
    have HS2:=qh hs'
    have HRD:=qh (zqzz HDr.out B hm)
    have hO:=zSEi (a:=a') hok.c0
    have hF:=zjuj (a:=a')
    have hPd:=zpQF D L.first L.count a' (a' - secF a').toNat (by omega)
    rw [<- hB] at hPd
    obtain ⟨O,hO'⟩:∃ O:Nat,secO L.count a'=(O:Int):=⟨(secO L.count a').toNat,by omega⟩
    obtain ⟨d,hd'⟩:∃ d:Nat,a' - secF a'=(d:Int):=⟨(a' - secF a').toNat,by omega⟩
    rw [hO',hd',Int.toNat_natCast,Int.toNat_natCast] at hPd
    have e1:secF a'=a' - d:=by omega
    have hd51:d<=50:=by omega
    have hO448:O<=448:=by omega
    rw [hO',e1] at HSEC
    rw [hd',Int.toNat_natCast,hPd,e1] at hs'
    have HS3:=qh hs'
    have HPD:=qh hPd
    clear hs' HS2 HS hB hO hF hPd hO' hd' e1 HPD hm
    have e2:IntKind.i64.wrap (a' - (a' - (d:Int)))=(d:Int):=by rw [IntKind.wrap_i64];omega
    go_wp2_with fail
    refine HSEC.out.mono ?_
    rintro e wx ⟨rfl,rfl⟩
    go_wp2_with fail
    refine HRD.out.mono ?_
    rintro e w2 ⟨g2,k2,rfl,hb2,hk2⟩
    have lb:(D.latest B).length=512:=HD.out.len B
    have hk512:512<=k2:=by
     obtain ⟨cur,_,_,h5,_⟩:=hb2.form
     rw [lb] at h5;exact h5
    have hr2:RdB w2 (some ⟨g2,0,none⟩) (D.latest B):=OwnV.rd (n:=(D.latest B).length) (c:=k2) hb2
    have lm:(((D.latest B).drop (O+13+d)).take (51 - d)).length=51 - d:=by rw [List.length_take,List.length_drop,lb];omega
    have HM:=qh ((hr2.sl (O+13+d) k2 (by rw [lb];exact hk512)).takeG (51 - d))
    have HO2:=qh (HO.out.keep hk2 (fun _ _=>id))
    have HK2:=qh (HK.out.trans0 hk2)
    have LM:=Lib.hid lm
    obtain ⟨m,hm⟩:∃ m,m=((D.latest B).drop (O+13+d)).take (51 - d):=⟨_,rfl⟩
    rw [<- hm] at HM LM HS3
    clear hm lm lb hr2 hb2 hk2 HO HRD HSEC
    go_wp2_with (first
     | (refine z3Ho rfl (zW40 _ _ _ (O+13+d) (O+64) (51 - d) rfl (some ⟨g2,0,none⟩) 512 k2 _ _ rfl rfl rfl (by go_num) (by go_num) (by omega) (by omega) (by omega) _) ?_)
     | (at_builtin;refine zZjY rfl _ _ rfl w.heap.size _ l m rfl HO2.out _ (51 - d) (k2 - (O+13+d)) rfl LM.out HM.out (by rw [LM.out];omega) (by have:=HK2.out.size;exact this) ?_))
    intro v3 w3 ho3 hk3 hat3
    have lm3:=LM.out
    have HO3:=qh ho3
    have HK3:=qh (HK2.out.new hk3 (fun x hx=>(HO2.out.base_le hx).1))
    obtain ⟨A3,c3,rfl,_⟩:=ho3.slice
    clear ho3 hk3 hat3
    go_wp2
    go_roundw
    case rel=>exact ⟨g,a' - d+51,l ++ m,by go_num,HO3.out,HS3.out,by rw [List.length_append];omega,by omega,by omega,by omega,by rw [List.length_append];omega,HK3.out⟩
    case measure=>simp [vlen];omega
   ·rw [if_pos hm] at hs'
    have hs2:=hs'.symm
    have HS2:=qh hs2
    have HRD:=qh (zpER HDr.out B hm)
    have hmb:(D.mayE B != 0)=true:=by simpa using hm
    obtain ⟨E,hE⟩:∃ E,E=D.mayE B:=⟨_,rfl⟩
    rw [<- hE] at HRD HS2 hmb
    clear hs' hs2 HS hm hB hE
    go_wp2_with fail
    refine HSEC.out.mono ?_
    rintro e wx ⟨rfl,rfl⟩
    go_wp2_with (go_at_call 87;refine HRD.out.mono ?_;rintro e w2 ⟨rfl,rfl⟩)
    go_ret2
    rw [HS2.out]
    exact ⟨HK.out,none,0,0,rfl,OwnV.nil _ _⟩
  ·have i1:¬ (l.length:Int) < (n:Int):=by omega
   have hs':=HS.out
   have hv:zXvy D L.first L.count n f a' l=(l.take n,0):=by
    cases f with
    | zero=>rfl
    | succ f=>unfold zXvy;rw [if_pos (by omega)]
   rw [hv] at hs'
   have HS2:=qh hs'.symm
   have HOS:=qh (HO.out.short n (by omega))
   clear hs' hv HS HSEC
   go_wp2_with (refine z3Ho rfl (zdzR _ _ n rfl A l.length c (n:Int) rfl rfl rfl (by omega) _) ?_)
   go_ret2
   rw [HS2.out]
   exact ⟨HK.out,_,_,_,rfl,HOS.out⟩
def ovL (l:Bytes) (i:Nat) (m:Bytes):Bytes:=l.take i ++ (m.take (l.length - i)) ++ l.drop (i+(m.take (l.length - i)).length)
theorem zvaq {l m:Bytes} {i:Nat} (h:i<=l.length):(ovL l i m).length=l.length:=by
 unfold ovL
 simp
 omega
theorem zAUi {α:Type} {cur X Y:List α} {L i:Nat} (h:cur.take L=X) (hL:L<=cur.length) (hi:i+Y.length<=L):(cur.take i ++ Y ++ cur.drop (i+Y.length)).take L=X.take i ++ Y ++ X.drop (i+Y.length):=by
 subst h
 rw [List.take_append,List.take_of_length_le (by simp;omega)]
 rw [List.take_take,Nat.min_eq_left (by omega),List.drop_take]
 congr 2
 simp
 omega
theorem zFR3 {w:World} {base g cap:Nat} {l:Bytes} (h:OwnB w base g cap l) (i:Nat) (hi:i<=l.length) (D S:Option Addr) (hD:i < l.length->D=some ⟨g,i,none⟩) (m:Bytes) (hS:RdB w S m) (dc sc:Nat) (ty:TypeId) :
  ∃ (n:Nat) (w':World),(Builtin.copy_ #[47,47] ty #[.slice D (l.length - i) dc,.slice S m.length sc]).run Tryz.prog w=.ok (goInt n) w'/\n=Nat.min m.length (l.length - i)/\OwnB w' base g cap (ovL l i m)/\Kept (fun x=>x=g) w w':=by
 have hsz:((Tryz.prog).info? 5).map (·.size)=some 1:=by kernel_rfl
 by_cases h0:Nat.min m.length (l.length - i)=0
 ·refine ⟨0,w,by simpa using run_copy_none (P:=Tryz.prog) w 47 47 ty 5 D S (l.length - i) dc m.length sc Tryz.underlying47 hsz h0,h0.symm,?_,Kept.refl _ _⟩
  have e:ovL l i m=l:=by
   unfold ovL
   have:m.take (l.length - i)=[]:=by
    apply List.eq_nil_of_length_eq_zero
    rw [List.length_take]
    have h0':min m.length (l.length - i)=0:=h0
    omega
   rw [this];simp
  rw [e];exact h
 ·have h0':¬ min m.length (l.length - i)=0:=h0
  have hil:i < l.length:=by omega
  obtain rfl:=hD hil
  obtain ⟨b,off,rfl,hc⟩:=hS (fun e=>by subst e;exact h0' (by simp))
  obtain ⟨cur,hb,hh,h1,h2,h3,h4⟩:=h.form
  have hcl:(cellsOf (m.take (l.length - i))).toList.length=Nat.min m.length (l.length - i):=by
   rw [z6VZ,List.length_take];exact Nat.min_comm _ _
  have hcl':(cellsOf (m.take (l.length - i))).toList.length=min m.length (l.length - i):=hcl
  have hr:=run_copy_row (P:=Tryz.prog) w 47 47 ty 5 g i (l.length - i) dc ⟨b,off,none⟩ m.length sc cur 5 (cellsOf (m.take (l.length - i))).toList Tryz.underlying47 hsz hh hcl
   (fun j v hv=>by
    rw [Addr.add_mid]
    refine hc j v ?_
    rw [Array.getElem?_toList,z2D0,List.getElem?_take] at hv
    rw [z2D0]
    split at hv
    ·exact hv
    ·simp at hv) (by omega) (fun u hu=>(Array.all_eq_true_iff_forall_mem.1 (zZ84 _)) u (by simpa using hu))
  refine ⟨_,_,hr,hcl,?_,(Kept.refl (fun x=>x=g) w).setRow (.inr rfl) _⟩
  have hlo:(ovL l i m).length=l.length:=zvaq hi
  unfold OwnB
  rw [hlo]
  refine ⟨by rw [z6VZ,hlo,Nat.mul_one],.inr ⟨g,cap,_,rfl,hb,setRow_heap w g cur _ 5 (0,0) hh,h1,h2,?_,?_⟩⟩
  ·simp [z54R];omega
  ·rw [Nat.mul_one]
   have:=zAUi (cur:=cur.toList) (Y:=(cellsOf (m.take (l.length - i))).toList) (i:=i) h4 (by simp;omega) (by omega)
   simp only []
   rw [this]
   unfold ovL
   simp [cellsOf]
theorem zLHr {w:World} {ops:Array Oper} {rest:List Oper} {o:Oper} {a:Act} {Q:Exit->Act->World->Prop} (hgd:o.guard=none) (d s:Operand)
  (ho:o.op=.call { callee:=.builtin .copy,args:=#[d,s],argTypes:=#[47,47] }) {base g cap:Nat} {l:Bytes} (h:OwnB w base g cap l) (i:Nat) (hi:i<=l.length) (D S:Option Addr) (hD:i < l.length->D=some ⟨g,i,none⟩) (m:Bytes) (hS:RdB w S m) (dc sc:Nat)
  (hd:a.eval d=.slice D (l.length - i) dc) (hs:a.eval s=.slice S m.length sc)
  (k:∀ n w',n=Nat.min m.length (l.length - i)->OwnB w' base g cap (ovL l i m)->Kept (fun x=>x=g) w w'->wpList Tryz.prog ops Q rest (a.put o.dst (goInt n)) w'):wpList Tryz.prog ops Q (o :: rest) a w:=by
 obtain ⟨n,w',hr,hn,h2,h3⟩:=zFR3 h i hi D S hD m hS dc sc o.type
 refine wpList_plain hgd fun K hK=>?_
 unfold Oper.wp
 simp [execOp,ho,resolve,invoke,builtin,hd,hs,hr,Result.andThen]
 exact hK _ _ (k n w' hn h2 h3)
theorem z83d {ops:Array Oper} {o:Oper} {a:Act} {w:World} {K:Act->World->Prop} {Q:Exit->Act->World->Prop} {E:Prop} (hgd:o.guard=none) (d s:Operand)
  (ho:o.op=.call { callee:=.builtin .copy,args:=#[d,s],argTypes:=#[47,47] }) {base g cap:Nat} {l:Bytes} (h:OwnB w base g cap l) (i:Nat) (hi:i<=l.length) (D S:Option Addr) (hD:i < l.length->D=some ⟨g,i,none⟩) (m:Bytes) (hS:RdB w S m) (dc sc:Nat)
  (hd:a.eval d=.slice D (l.length - i) dc) (hs:a.eval s=.slice S m.length sc)
  (k:∀ n w',n=Nat.min m.length (l.length - i)->OwnB w' base g cap (ovL l i m)->Kept (fun x=>x=g) w w'->K (a.put o.dst (goInt n)) w'):if Region.wanted o (yielded ops a.tmps)=true then Oper.wp Tryz.prog o a w K Q else E:=by
 obtain ⟨n,w',hr,hn,h2,h3⟩:=zFR3 h i hi D S hD m hS dc sc o.type
 rw [if_pos (by simp [Region.wanted,hgd])]
 unfold Oper.wp
 simp [execOp,ho,resolve,invoke,builtin,hd,hs,hr,Result.andThen]
 exact k n w' hn h2 h3
theorem zPUK {x y:Bytes} (h:x.length=y.length) (hj:∀ j,j < x.length->bAt x j=bAt y j):x=y:=by
 refine List.ext_getElem h fun j h1 h2=>?_
 have:=hj j h1
 unfold bAt at this
 simpa [h1,h2] using this
theorem zfBm {l m:Bytes} {i j:Nat} (hi:i+m.length<=l.length) (hj:j < l.length):bAt (ovL l i m) j=if i<=j/\j < i+m.length then bAt m (j - i) else bAt l j:=by
 have e:m.take (l.length - i)=m:=List.take_of_length_le (by omega)
 unfold ovL bAt
 rw [e]
 simp only [List.getD_eq_getElem?_getD]
 by_cases h1:j < i
 ·rw [if_neg (by omega),List.getElem?_append_left (by simp;omega),List.getElem?_append_left (by simp;omega),List.getElem?_take,if_pos h1]
 ·by_cases h2:j < i+m.length
  ·rw [if_pos (by omega),List.getElem?_append_left (by simp;omega),List.getElem?_append_right (by simp;omega)]
   congr 2
   simp;omega
  ·rw [if_neg (by omega),List.getElem?_append_right (by simp;omega),List.getElem?_drop]
   congr 2
   simp;omega
theorem ziRd (n j:Nat):bAt (zeros n) j=0:=by
 unfold bAt zeros
 simp only [List.getD_eq_getElem?_getD,List.getElem?_replicate]
 split<;>rfl
theorem zrlC (n:Nat):(zeros n).length=n:=by simp [zeros]
theorem zHmj (l:Bytes) (i:Nat) (x:UInt8) (k:Nat) (hi:i < l.length):bAt (l.set i x) k=if k=i then x else bAt l k:=by
 unfold bAt
 simp only [List.getD_eq_getElem?_getD]
 by_cases h:k=i
 ·subst h;rw [if_pos rfl,List.getElem?_set_self hi];rfl
 ·rw [if_neg h,List.getElem?_set_ne (fun e=>h e.symm)]
theorem OwnB.setL {w:World} {base g cap:Nat} {l:Bytes} (h:OwnB w base g cap l) (i:Nat) (x:UInt8):OwnB (w.setCell ⟨g,i,none⟩ (.int .u8 x.toNat)) base g cap (l.set i x):=by
 unfold OwnB at *
 have:=(h.stored i (.int .u8 x.toNat)).1
 have e:(cellsOf l).toList.set i (.int .u8 x.toNat)=(cellsOf (l.set i x)).toList:=by
  rw [<- zBUG];simp
 rw [e] at this
 rw [List.length_set]
 exact this
theorem OwnB.setzL:∀ (n:Nat) {w:World} {base g cap:Nat} {l:Bytes} (o:Nat),OwnB w base g cap l->o+n<=l.length->OwnB (w.setCells g o (List.replicate n (.int .u8 0))) base g cap (ovL l o (zeros n))/\Kept (fun x=>x=g) w (w.setCells g o (List.replicate n (.int .u8 0)))
 | 0,w,base,g,cap,l,o,h,_=>by
  have e:ovL l o (zeros 0)=l:=by simp [ovL,zeros]
  rw [e]
  exact ⟨h,Kept.refl _ _⟩
 | n+1,w,base,g,cap,l,o,h,hl=>by
  have h1:=h.setL o 0
  obtain ⟨h2,h3⟩:=OwnB.setzL n (o+1) h1 (by rw [List.length_set];omega)
  have e:ovL (l.set o 0) (o+1) (zeros n)=ovL l o (zeros (n+1)):=by
   refine zPUK (by rw [zvaq (by rw [List.length_set];omega),zvaq (by omega),List.length_set]) fun j hj=>?_
   rw [zvaq (by rw [List.length_set];omega),List.length_set] at hj
   rw [zfBm (by rw [List.length_set,zrlC];omega) (by rw [List.length_set];exact hj),zfBm (by rw [zrlC];omega) hj,ziRd,ziRd,zrlC,zrlC,zHmj _ _ _ _ (by omega)]
   by_cases q1:j=o
   ·rw [if_neg (by omega),if_pos q1,if_pos (by omega)]
   ·by_cases q2:o+1<=j/\j < o+1+n
    ·rw [if_pos q2,if_pos (by omega)]
    ·rw [if_neg q2,if_neg q1,if_neg (by omega)]
  rw [e] at h2
  rw [List.replicate_succ]
  exact ⟨h2,(Kept.cell w g o _).trans' h3⟩
theorem zwhU {w:World} {base g cap:Nat} {l:Bytes} (ty:TypeId) (h:OwnB w base g cap l) (o n c:Nat) (hl:o+n<=l.length) (D:Option Addr) (hD:0 < n->D=some ⟨g,o,none⟩) :
  ∃ w',(Builtin.clear_ #[47] ty #[.slice D n c]).run Tryz.prog w=.ok (.tuple #[]) w'/\OwnB w' base g cap (ovL l o (zeros n))/\Kept (fun x=>x=g) w w':=by
 by_cases h0:n=0
 ·subst h0
  have e:ovL l o (zeros 0)=l:=by simp [ovL,zeros]
  rw [e]
  refine ⟨w,?_,h,Kept.refl _ _⟩
  cases D<;>simp [Builtin.clear_,run_underlying Tryz.underlying47]
 ·have hp:0 < n:=by omega
  obtain ⟨h2,h3⟩:=h.setzL n o hl
  rw [hD hp]
  refine ⟨_,Lib.run_clear_slice w 47 5 ty (.int .u8 0) Tryz.underlying47 zJNy rfl rfl g o n c hp (fun j hj=>?_) (fun j hj=>?_),h2,h3⟩
  ·rw [h.cellAt (i:=o+j) (by omega)];rfl
  ·have:=h;unfold OwnB at this;exact this.frozenAt (o+j)
theorem z623 {w:World} {ops:Array Oper} {rest:List Oper} {o:Oper} {a:Act} {Q:Exit->Act->World->Prop} (hgd:o.guard=none) (x:Operand)
  (ho:o.op=.call { callee:=.builtin .clear,args:=#[x],argTypes:=#[47] }) {base g cap:Nat} {l:Bytes} (h:OwnB w base g cap l) (i n c:Nat) (hl:i+n<=l.length) (D:Option Addr) (hD:0 < n->D=some ⟨g,i,none⟩)
  (hx:a.eval x=.slice D n c) (k:∀ w',OwnB w' base g cap (ovL l i (zeros n))->Kept (fun x=>x=g) w w'->wpList Tryz.prog ops Q rest (a.put o.dst (.tuple #[])) w'):wpList Tryz.prog ops Q (o :: rest) a w:=by
 obtain ⟨w',hr,h2,h3⟩:=zwhU o.type h i n c hl D hD
 refine wpList_plain hgd fun K hK=>?_
 unfold Oper.wp
 simp [execOp,ho,resolve,invoke,builtin,hx,hr,Result.andThen]
 exact hK _ _ (k w' h2 h3)
theorem zqs4 {p m:Bytes} {off:Nat} (h:off+64<=p.length) (hm:m.length<=64):ovL (ovL p off (zeros 64)) off m=zPwQ p off m:=by
 have l1:(ovL p off (zeros 64)).length=p.length:=zvaq (by omega)
 have l2:(zPwQ p off m).length=p.length:=by simp [zPwQ,zrlC];omega
 refine zPUK (by rw [zvaq (by omega),l1,l2]) fun j hj=>?_
 rw [zvaq (by omega),l1] at hj
 rw [zfBm (by omega) (by omega),zfBm (by rw [zrlC];omega) hj,zrlC,ziRd]
 have l3:(p.take off).length=off:=by rw [List.length_take];omega
 have l4:((m ++ zeros (64 - m.length)).take 64).length=64:=by rw [List.length_take,List.length_append,zrlC];omega
 by_cases h1:j < off
 ·rw [if_neg (by omega),if_neg (by omega)]
  unfold zPwQ bAt
  simp only [List.getD_eq_getElem?_getD]
  rw [List.getElem?_append_left (by omega),List.getElem?_take,if_pos h1]
 ·by_cases h2:j < off+64
  ·by_cases h3:j < off+m.length
   ·rw [if_pos (by omega)]
    unfold zPwQ bAt
    simp only [List.getD_eq_getElem?_getD]
    rw [List.getElem?_append_right (by omega),l3,List.getElem?_append_left (by omega),List.getElem?_take,if_pos (by omega),List.getElem?_append_left (by omega)]
   ·rw [if_neg (by omega),if_pos (by omega)]
    unfold zPwQ bAt
    simp only [List.getD_eq_getElem?_getD]
    rw [List.getElem?_append_right (by omega),l3,List.getElem?_append_left (by omega),List.getElem?_take,if_pos (by omega),List.getElem?_append_right (by omega)]
    simp only [zeros,List.getElem?_replicate]
    split<;>rfl
  ·rw [if_neg (by omega),if_neg (by omega)]
   unfold zPwQ bAt
   simp only [List.getD_eq_getElem?_getD]
   rw [List.getElem?_append_right (by omega),l3,List.getElem?_append_right (by omega),l4,List.getElem?_drop]
   congr 2
   omega
end Go.Proofs.YtfgagakepmigbaaGreat
