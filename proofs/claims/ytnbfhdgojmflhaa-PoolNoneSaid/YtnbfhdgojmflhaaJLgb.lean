/-
  No statement is proved here.
-/
import Derived.Test.YtnbfhdgojmflhaaJLga
namespace Go.Proofs.Ytnbfhdgojmflhaa
open Go.RowKit
def vlen:Value->Nat
 | .slice _ n _=>n
 | _=>0
theorem zzvF (g c:Nat):slA (some ⟨g,0,none⟩) 0 c=some ⟨g,0,none⟩:=by
 unfold slA
 split
 ·rfl
 ·show some ((⟨g,0,none⟩:Addr).add (0*1))=_
  rw [Addr.add_mid]
theorem zYO7 (c:Nat):slA none 0 c=none:=by unfold slA;split<;>rfl
theorem OwnV.short {w:World} {base:Nat} {A:Option Addr} {n c:Nat} {l:Bytes} (h:OwnV w base (.slice A n c) l) (k:Nat) (hk:k<=l.length):OwnV w base (.slice (slA A 0 c) k c) (l.take k):=by
 have hl:(l.take k).length=k:=by rw [List.length_take];omega
 rcases h.form with ⟨h1,rfl⟩ | ⟨g,cap,h1,h2⟩
 ·cases h1
  obtain rfl:k=0:=by simpa using hk
  rw [zYO7]
  exact OwnV.nil _ _
 ·cases h1
  rw [zzvF]
  have h3:w.ownsRow base 5 1 (.slice (some ⟨g,0,none⟩) (k+(l.length - k)) c) (k+(l.length - k)) ((cellsOf (l.take k)).toList ++ (cellsOf (l.drop k)).toList):=by
   rw [<- zdRz,List.take_append_drop,show k+(l.length - k)=l.length by omega]
   exact h2
  have h4:=zu3v h3 (by rw [z6VZ,hl,Nat.mul_one])
  unfold OwnV
  rw [hl]
  exact h4
theorem OwnV.len {w:World} {base:Nat} {A:Option Addr} {n c:Nat} {l:Bytes} (h:OwnV w base (.slice A n c) l):n=l.length/\l.length<=c:=by
 rcases h.form with ⟨h1,rfl⟩ | ⟨g,cap,h1,h2⟩
 ·cases h1;exact ⟨rfl,Nat.le_refl _⟩
 ·cases h1
  obtain ⟨cur,_,_,h5,_⟩:=h2.form
  exact ⟨rfl,h5⟩
theorem OwnV.slice {w:World} {base:Nat} {v:Value} {l:Bytes} (h:OwnV w base v l):∃ A c,v=.slice A l.length c/\l.length<=c:=by
 rcases h.form with ⟨rfl,rfl⟩ | ⟨g,cap,rfl,h2⟩
 ·exact ⟨none,0,rfl,Nat.le_refl _⟩
 ·obtain ⟨cur,_,_,h5,_⟩:=h2.form
  exact ⟨_,_,rfl,h5⟩
theorem zpQF (D:DevM) (F C a:Int) (d:Nat) (hd:d<=51):(secP D F C a).drop (13+d)=((D.latest (secB F C a)).drop ((secO C a).toNat+13+d)).take (51 - d):=by
 unfold secP cut
 rw [List.drop_take,List.drop_drop,show 64 - (13+d)=51 - d by omega,Nat.add_assoc]
theorem zW40 {ev:Operand->Value} {o:Oper} (x y z:Operand) (k h m:Nat) (ho:o.op=.slice 37 x (some z) (some y) none) (A:Option Addr) (n c:Nat) (kI hI:Int) (hx:ev x=.slice A n c) (hz:ev z=.int .i64 kI) (hy:ev y=.int .i64 hI) (ek:kI=(k:Int)) (e:hI=(h:Int)) (hk:k<=h) (hh:h<=c) (hm:h - k=m) (w:World) :
  (execOp ev o).run Try.prog w=.ok (.value (.slice (slA A k c) m (c - k))) w:=by
 subst e;subst hm;subst ek
 simp only [execOp,ho,hx,hy,hz,Option.map,Sem.run_bind,run_sliceAt_slice w 37 _ _ _ _ z2Xy,zRDz A n c k h hk hh w,Result.andThen]
 rfl
theorem zZjY {w:World} {ops:Array Oper} {rest:List Oper} {o:Oper} {a:Act} {Q:Exit->Act->World->Prop} (hgd:o.guard=none) (s x:Operand)
  (ho:o.op=.call { callee:=.builtin .append,args:=#[s,x],argTypes:=#[37,37] }) (base:Nat) (v:Value) (l m:Bytes) (hs:a.eval s=v) (hown:OwnV w base v l)
  (A:Option Addr) (n c:Nat) (hx:a.eval x=.slice A n c) (hn:m.length=n) (hm:RdB w A m) (h63:l.length+m.length<=140737488355328) (hbase:base<=w.heap.size)
  (k:∀ v' w',OwnV w' base v' (l ++ m)->Kept (fun x=>v.ownBlock=some x) w w'->OwnTo w v v'->wpList Try.prog ops Q rest (a.put o.dst v') w'):wpList Try.prog ops Q (o :: rest) a w:=by
 subst hn
 exact z7Vm hgd s x ho base v l m hs hown A c hx hm h63 hbase k
def zUIb (w:World) (x:Bytes×Int) (e:Ending) (w':World):Prop:=Kept (fun _=>False) w w'/\∃ A n c,e=.returned (.tuple #[.slice A n c,.int .i64 x.2])/\OwnV w' w.heap.size (.slice A n c) x.1
set_option maxRecDepth 100000 in
set_option maxHeartbeats 1600000 in
theorem zBRE (w:World) (q p ms mo:Nat) (lv tv:Value) (L:LogM) (D:DevM) (h:LogQ w q p lv tv L) (hd:DevAt w p ms mo D) (hok:LogOk L) (a:Int) (h1:1<=a) (h2:a<=3000000000000000000) (n:Nat) (hn:n<=10000000) :
  Calls Try.prog 74 #[.pointer (some ⟨q,0,none⟩),.int .i64 a,.int .i64 n] w (zUIb w (zXvy D L.first L.count n (n+1) a [])):=by
 have HQ:=qh h
 have HD:=qh hd
 have HOK:=qh hok
 obtain ⟨X,hX⟩:∃ X,X=zXvy D L.first L.count n (n+1) a []:=⟨_,rfl⟩
 rw [<- hX]
 have HX:=qh hX.symm
 clear h hd hX
 go_enter Try.func74,Try.ntmps74
 go_wp2
 go_loopw [1,8] (fun x out wr=>∃ (f:Nat) (a':Int) (l:Bytes),x=.int .i64 a'/\OwnV wr w.heap.size out l/\zXvy D L.first L.count n f a' l=X/\n < f+l.length/\f<=n+1/\1<=a'/\a'<=a+51*((n:Int)+1 - f)/\l.length<=n+51/\Kept (fun _=>False) w wr) (fun x out wr=>n - vlen out)
 case atStart=>exact ⟨n+1,a,[],rfl,OwnV.nil _ _,HX.out,by simp,Nat.le_refl _,h1,by omega,by simp,Kept.refl _ w⟩
 case round=>
  obtain ⟨f,a',l,rfl,ho,hs,hf,hf1,ha1,ha2,hl,hk⟩:=hrel
  obtain ⟨A,c,rfl,hlc⟩:=ho.slice
  have HO:=qh ho
  have HS:=qh hs
  have HK:=qh hk
  have HQr:=qh (hk.heap HQ.out id)
  have HDr:=qh (HD.out.keep hk id id id)
  have HSEC:=qh (zdrd wr q p lv tv L HQr.out HOK.out a' ha1 (by omega))
  have c0:wr.cell? ⟨q,0,none⟩=some (.pointer (some ⟨p,0,none⟩)):=zcjX HQr.out rfl
  clear ho hs hk
  by_cases hlt:l.length < n
  ·have i1:(l.length:Int) < (n:Int):=by omega
   obtain ⟨g,rfl⟩:∃ g,f=g+1:=⟨f - 1,by omega⟩
   have hs':=HS.out
   unfold zXvy at hs'
   rw [if_neg (by omega)] at hs'
   obtain ⟨B,hB⟩:∃ B,B=secB L.first L.count a':=⟨_,rfl⟩
   rw [<- hB] at HSEC hs'
   by_cases hm:D.mayE B=0
   ·rw [if_neg (by rw [hm];decide)] at hs'
    have HS2:=qh hs'
    have HRD:=qh (zqzz HDr.out B hm)
    have hO:=zSEi (a:=a') hok.c0
    have hF:=zjuj (a:=a')
    have hPd:=zpQF D L.first L.count a' (a' - secF a').toNat (by omega)
    rw [<- hB] at hPd
    obtain ⟨O,hO'⟩:∃ O:Nat,secO L.count a'=(O:Int):=⟨(secO L.count a').toNat,by omega⟩
    obtain ⟨d,hd'⟩:∃ d:Nat,a' - secF a'=(d:Int):=⟨(a' - secF a').toNat,by omega⟩
    rw [hO',hd',Int.toNat_natCast,Int.toNat_natCast] at hPd
    have e1:secF a'=a' - d:=by omega
    have hd51:d<=50:=by omega
    have hO448:O<=448:=by omega
    rw [hO',e1] at HSEC
    rw [hd',Int.toNat_natCast,hPd,e1] at hs'
    have HS3:=qh hs'
    have HPD:=qh hPd
    clear hs' HS2 HS hB hO hF hPd hO' hd' e1 HPD hm
    have e2:IntKind.i64.wrap (a' - (a' - (d:Int)))=(d:Int):=by rw [IntKind.wrap_i64];omega
    go_wp2_with fail
    refine HSEC.out.mono ?_
    rintro e wx ⟨rfl,rfl⟩
    go_wp2_with fail
    refine HRD.out.mono ?_
    rintro e w2 ⟨g2,k2,rfl,hb2,hk2⟩
    have lb:(D.latest B).length=512:=HD.out.len B
    have hk512:512<=k2:=by
     obtain ⟨cur,_,_,h5,_⟩:=hb2.form
     rw [lb] at h5;exact h5
    have hr2:RdB w2 (some ⟨g2,0,none⟩) (D.latest B):=OwnV.rd (n:=(D.latest B).length) (c:=k2) hb2
    have lm:(((D.latest B).drop (O+13+d)).take (51 - d)).length=51 - d:=by rw [List.length_take,List.length_drop,lb];omega
    have HM:=qh ((hr2.sl (O+13+d) k2 (by rw [lb];exact hk512)).takeG (51 - d))
    have HO2:=qh (HO.out.keep hk2 (fun _ _=>id))
    have HK2:=qh (HK.out.trans0 hk2)
    have LM:=Lib.hid lm
    obtain ⟨m,hm⟩:∃ m,m=((D.latest B).drop (O+13+d)).take (51 - d):=⟨_,rfl⟩
    rw [<- hm] at HM LM HS3
    clear hm lm lb hr2 hb2 hk2 HO HRD HSEC
    go_wp2_with (first
     | (refine z3Ho rfl (zW40 _ _ _ (O+13+d) (O+64) (51 - d) rfl (some ⟨g2,0,none⟩) 512 k2 _ _ rfl rfl rfl (by go_num) (by go_num) (by omega) (by omega) (by omega) _) ?_)
     | (at_builtin;refine zZjY rfl _ _ rfl w.heap.size _ l m rfl HO2.out _ (51 - d) (k2 - (O+13+d)) rfl LM.out HM.out (by rw [LM.out];omega) (by have:=HK2.out.size;exact this) ?_))
    intro v3 w3 ho3 hk3 hat3
    have lm3:=LM.out
    have HO3:=qh ho3
    have HK3:=qh (HK2.out.new hk3 (fun x hx=>(HO2.out.base_le hx).1))
    obtain ⟨A3,c3,rfl,_⟩:=ho3.slice
    clear ho3 hk3 hat3
    go_wp2
    go_roundw
    case rel=>exact ⟨g,a' - d+51,l ++ m,by go_num,HO3.out,HS3.out,by rw [List.length_append];omega,by omega,by omega,by omega,by rw [List.length_append];omega,HK3.out⟩
    case measure=>simp [vlen];omega
   ·rw [if_pos hm] at hs'
    have hs2:=hs'.symm
    have HS2:=qh hs2
    have HRD:=qh (zpER HDr.out B hm)
    have hmb:(D.mayE B != 0)=true:=by simpa using hm
    obtain ⟨E,hE⟩:∃ E,E=D.mayE B:=⟨_,rfl⟩
    rw [<- hE] at HRD HS2 hmb
    clear hs' hs2 HS hm hB hE
    go_wp2_with fail
    refine HSEC.out.mono ?_
    rintro e wx ⟨rfl,rfl⟩
    go_wp2_with (go_at_call 28;refine HRD.out.mono ?_;rintro e w2 ⟨rfl,rfl⟩)
    go_ret2
    rw [HS2.out]
    exact ⟨HK.out,none,0,0,rfl,OwnV.nil _ _⟩
  ·have i1:¬ (l.length:Int) < (n:Int):=by omega
   have hs':=HS.out
   have hv:zXvy D L.first L.count n f a' l=(l.take n,0):=by
    cases f with
    | zero=>rfl
    | succ f=>unfold zXvy;rw [if_pos (by omega)]
   rw [hv] at hs'
   have HS2:=qh hs'.symm
   have HOS:=qh (HO.out.short n (by omega))
   clear hs' hv HS HSEC
   go_wp2_with (refine z3Ho rfl (zdzR _ _ n rfl A l.length c (n:Int) rfl rfl rfl (by omega) _) ?_)
   go_ret2
   rw [HS2.out]
   exact ⟨HK.out,_,_,_,rfl,HOS.out⟩
end Go.Proofs.Ytnbfhdgojmflhaa
