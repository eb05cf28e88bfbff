/-
  No statement is proved here.
-/
import Derived.Test.YtfgagakepmigbaaGreatJBkd
import Derived.Test.YtfgagakepmigbaaGreatJDev
import Derived.Test.YtfgagakepmigbaaGreatJQs
namespace Go.Proofs.YtfgagakepmigbaaGreat
open Go.RowKit
def bestM (D:DevM):Nat->MasM
 | 0=>zM
 | i+1=>if (zhQE (D.latest i) i).2=true/\(bestM D i).seq < (zhQE (D.latest i) i).1.seq then (zhQE (D.latest i) i).1 else bestM D i
def readMas (D:DevM):MasM×Int:=if D.down=true then (zM,8) else if bestM D 2=zM then (zM,4) else (bestM D 2,0)
section
variable {w:World} {p ms mo:Nat} {D:DevM}
set_option maxRecDepth 100000 in
set_option maxHeartbeats 1600000 in
theorem zH0r (h:DevAt w p ms mo D) (hn:2<=D.n) :
  Calls Tryz.prog 71 #[.pointer (some ⟨p,0,none⟩)] w fun e w'=>e=.returned (.tuple #[.agg (masC (readMas D).1),.int .i64 (readMas D).2])/\Kept (fun _=>False) w w':=by
 have HB:=qh (fun (w':World) (hk:Kept (fun _=>False) w w')=>zyYd (h.keep hk id id id))
 have HL:=qh h.n1
 have HR:=qh (fun (w':World) (hk:Kept (fun _=>False) w w') (i:Int) (hm:D.mayE i=0)=>zqzz (h.keep hk id id id) i hm)
 have HRN:=qh (fun (w':World) (hk:Kept (fun _=>False) w w') (i:Int) (hm:D.mayE i≠0)=>zpER (h.keep hk id id id) i hm)
 have HLN:=qh (show ∀ k,(D.latest k).length=512 from fun k=>by
  unfold DevM.latest
  cases ho:D.opn k with
  | some l=>exact h.lo k l ho
  | none=>
   cases hs:D.safe k with
   | some l=>exact h.ls k l hs
   | none=>simp [zeros])
 obtain ⟨N,hN⟩:∃ N,N=D.n:=⟨_,rfl⟩
 rw [<- hN] at hn HB HL
 have HNN:=qh hN
 have hn0:(N == 0)=false:=by rw [beq_eq_false_iff_ne];omega
 have B0:=bM0
 clear h hN
 go_enter Tryz.func71,Tryz.ntmps71
 go_wp2_with (refine zNko rfl 103 rfl (masC zM) z1iB ?_)
 intro pr w1 l1 m1 hb1 hk1
 have HP:=qh hb1
 have HK1:=qh hk1
 clear hb1 hk1
 go_wp2_with fail
 refine (HB.out w1 HK1.out).mono ?_
 rintro e wx ⟨rfl,rfl⟩
 go_wp2_with (refine zNko rfl 103 rfl (masC zM) z1iB ?_)
 intro gb w2 l2 m2 hb2 hk2
 have HG:=qh (show w2.heap[gb]?=some (.cells (masC (bestM D 0)) 103 (0,0)) from hb2)
 have HP2:=qh (hk2.heap HP.out id)
 have HK2:=qh (HK1.out.trans0 hk2)
 have hne:pr < gb:=by have:=zvKu HP.out;omega
 have HK2z:=qh (show w.heap.size<=gb from by have:=HK1.out.size;omega)
 clear hb2 hk2 HP HK1
 go_wp2_with fail
 refine (HB.out w2 HK2.out).mono ?_
 rintro e wx ⟨rfl,rfl⟩
 go_wp2_with fail
 have e2N:(if (2:Int)<=N then (2:Int) else N)=2:=if_pos hn
 go_loopw [17] (fun i wr=>∃ j:Nat,j<=2/\i=.int .i64 j/\(0 < j->D.down=false)/\wr.heap[gb]?=some (.cells (masC (bestM D j)) 103 (0,0))/\wr.heap[pr]?=some (.cells (masC zM) 103 (0,0))/\Kept (fun _=>False) w wr) (fun i wr=>2 - (intOf i).toNat)
 case atStart=>exact ⟨0,by omega,rfl,fun h=>absurd h (by decide),HG.out,HP2.out,HK2.out⟩
 case round=>
  obtain ⟨j,hj,rfl,hdn,hg,hp,hkr⟩:=hrel
  have HG:=qh hg
  have HP:=qh hp
  have HK:=qh hkr
  have HDN:=qh hdn
  clear hg hp hkr HP2 HK2 hdn
  by_cases hlt:j < 2
  ·have i1:(j:Int) < 2:=by omega
   by_cases hd:D.down=true
   ·have hm:D.mayE j=8:=DevM.mayE_down hd
    have HRD:=qh (by have:=HRN.out wr HK.out j (by rw [hm];decide);rwa [hm] at this)
    have HE:=qh (show readMas D=(zM,8) from by unfold readMas;rw [if_pos hd])
    clear hm hd
    go_wp2_with fail
    refine HRD.out.mono ?_
    rintro e wx ⟨rfl,rfl⟩
    clear HRD
    go_wp2_with (refine zxQF rfl 103 _ _ rfl pr (masC zM) (masC zM) rfl rfl HP.out zapW rfl (z6IM _) ?_)
    intro w8 hb8 hk8
    have HP8:=qh hb8
    have HK8:=qh (HK.out.new hk8 (fun z hz=>by subst hz;exact l1))
    clear hb8 hk8
    go_wp2
    try simp only [Exit.inBlock,Exit.then]
    refine bodyPost_ret (zvXq rfl _ _ pr (masC zM) rfl HP8.out Tryz.underlying103 rfl zapW) rfl ?_
    exact ⟨by rw [HE.out];rfl,HK8.out⟩
   ·have hd0:D.down=false:=by simpa using hd
    have HD0:=qh hd0
    have HRD:=qh (HR.out wr HK.out j (DevM.mayE_ok hd0 (by omega) (by have:=HNN.out;omega)))
    obtain ⟨X,hX⟩:∃ X,X=D.latest (j:Int):=⟨_,rfl⟩
    have hXL:X.length=512:=by rw [hX];exact HLN.out _
    have HBS:=qh (show bestM D (j+1)=if (zhQE X j).2=true/\(bestM D j).seq < (zhQE X j).1.seq then (zhQE X j).1 else bestM D j from by rw [hX];rfl)
    rw [<- hX] at HRD
    have HXL:=qh hXL
    clear hd hd0 hX hXL
    go_wp2_with fail
    refine HRD.out.mono ?_
    rintro e w5 ⟨g5,cap5,rfl,ho5,hk5⟩
    have HG5:=qh (hk5.heap HG.out id)
    have HP5:=qh (hk5.heap HP.out id)
    have HK5:=qh (HK.out.trans0 hk5)
    have hcap:512<=cap5/\cap5<=9223372036854775807:=by obtain ⟨cur,_,_,h1,h2,_⟩:=ho5.form;rw [HXL.out] at h1;exact ⟨h1,h2⟩
    have HMS:=qh (zRU8 (some ⟨g5,0,none⟩) cap5 X j w5 ho5.v.rd HXL.out hcap.1 hcap.2)
    obtain ⟨B,hB⟩:∃ B,B=bestM D j:=⟨_,rfl⟩
    rw [<- hB] at HG5 HBS
    obtain ⟨V,hV⟩:∃ V,V=zhQE X j:=⟨_,rfl⟩
    rw [<- hV] at HMS HBS
    obtain ⟨⟨vs,vt,vo⟩,vb⟩:=V
    obtain ⟨bs,bt,bo⟩:=B
    clear ho5 hk5 HRD hcap hB hV HG HP HK
    go_wp2_with fail
    refine HMS.out.mono ?_
    rintro e w6 ⟨rfl,hk6⟩
    have HG6:=qh (hk6.heap HG5.out id)
    have HP6:=qh (hk6.heap HP5.out id)
    have HK6:=qh (HK5.out.trans0 hk6)
    clear hk6 HMS HG5 HP5 HK5
    go_wp2_with (refine zNko rfl 103 rfl (masC zM) z1iB ?_)
    intro gm w7 l7 m7 hb7 hk7
    refine zxQF rfl 103 _ _ rfl gm (masC ⟨vs,vt,vo⟩) (masC zM) rfl rfl hb7 zapW rfl (z6IM _) ?_
    intro w8 hb8 hk8
    have hk68:Kept (fun _=>False) w6 w8:=hk7.new hk8 (fun z hz=>by subst hz;exact l7)
    have HM8:=qh hb8
    have HG8:=qh (hk68.heap HG6.out id)
    have HP8:=qh (hk68.heap HP6.out id)
    have HK8:=qh (HK6.out.trans0 hk68)
    have c0:w8.cell? ⟨gm,0,none⟩=some (.int .i64 vs):=zcjX hb8 rfl
    have c1:w8.cell? ⟨gm,1,none⟩=some (.int .i64 vt):=zcjX hb8 rfl
    have c2:w8.cell? ⟨gm,2,none⟩=some (.int .i64 vo):=zcjX hb8 rfl
    have d0:w8.cell? ⟨gb,0,none⟩=some (.int .i64 bs):=zcjX HG8.out rfl
    clear hb7 hk7 hb8 hk8 hk68 HG6 HP6 HK6
    cases vb
    ·have HNX:=qh (show bestM D (j+1)=⟨bs,bt,bo⟩ from by rw [HBS.out];rw [if_neg];rintro ⟨h,_⟩;cases h)
     go_wp2
     go_roundw
     case rel=>exact ⟨j+1,by omega,by go_num,fun _=>HD0.out,by rw [HNX.out];exact HG8.out,HP8.out,HK8.out⟩
     case measure=>simp [intOf];omega
    ·by_cases hs:bs < vs
     ·have HNX:=qh (show bestM D (j+1)=⟨vs,vt,vo⟩ from by rw [HBS.out];rw [if_pos ⟨rfl,hs⟩])
      go_wp2_with (refine zxQF rfl 103 _ _ rfl gb (masC ⟨vs,vt,vo⟩) (masC ⟨bs,bt,bo⟩) rfl rfl HG8.out zapW rfl (z6IM _) ?_)
      intro w9 hb9 hk9
      have HG9:=qh hb9
      have HP9:=qh (hk9.heap HP8.out (fun e=>by omega))
      have HK9:=qh (HK8.out.new hk9 (fun z hz=>by subst hz;have:=HK2z.out;omega))
      clear hb9 hk9
      go_wp2
      go_roundw
      case rel=>exact ⟨j+1,by omega,by go_num,fun _=>HD0.out,by rw [HNX.out];exact HG9.out,HP9.out,HK9.out⟩
      case measure=>simp [intOf];omega
     ·have HNX:=qh (show bestM D (j+1)=⟨bs,bt,bo⟩ from by rw [HBS.out];rw [if_neg];rintro ⟨_,h⟩;exact hs h)
      go_wp2
      go_roundw
      case rel=>exact ⟨j+1,by omega,by go_num,fun _=>HD0.out,by rw [HNX.out];exact HG8.out,HP8.out,HK8.out⟩
      case measure=>simp [intOf];omega
  ·have ej:j=2:=by omega
   subst ej
   have hd0:=HDN.out (by decide)
   have HE:=qh (show readMas D=if bestM D 2=zM then (zM,4) else (bestM D 2,0) from by unfold readMas;rw [if_neg (by rw [hd0];decide)])
   obtain ⟨B,hB⟩:∃ B,B=bestM D 2:=⟨_,rfl⟩
   rw [<- hB] at HG HE
   obtain ⟨bs,bt,bo⟩:=B
   have d0:wr.cell? ⟨gb,0,none⟩=some (.int .i64 bs):=zcjX HG.out rfl
   have d1:wr.cell? ⟨gb,1,none⟩=some (.int .i64 bt):=zcjX HG.out rfl
   have d2:wr.cell? ⟨gb,2,none⟩=some (.int .i64 bo):=zcjX HG.out rfl
   clear hd0 hB
   by_cases hz:(⟨bs,bt,bo⟩:MasM)=zM
   ·have HE2:=qh (show readMas D=(zM,4) from by rw [HE.out,if_pos hz])
    injection hz with z0 z1 z2
    subst z0;subst z1;subst z2
    go_wp2_with (refine zxQF rfl 103 _ _ rfl pr (masC zM) (masC zM) rfl rfl HP.out zapW rfl (z6IM _) ?_)
    intro w8 hb8 hk8
    have HP8:=qh hb8
    have HK8:=qh (HK.out.new hk8 (fun z hz=>by subst hz;exact l1))
    clear hb8 hk8
    go_wp2
    try simp only [Exit.inBlock,Exit.then]
    refine bodyPost_ret (zvXq rfl _ _ pr (masC zM) rfl HP8.out Tryz.underlying103 rfl zapW) rfl ?_
    exact ⟨by rw [HE2.out];rfl,HK8.out⟩
   ·have HE2:=qh (show readMas D=(⟨bs,bt,bo⟩,0) from by rw [HE.out,if_neg hz])
    by_cases z0:bs=0
    ·subst z0
     by_cases z1:bt=0
     ·subst z1
      have z2:¬ bo=0:=fun e=>hz (by rw [e];rfl)
      have hq:(bo == 0)=false:=by rw [beq_eq_false_iff_ne];exact z2
      clear hz z2
      go_wp2_with (refine zxQF rfl 103 _ _ rfl pr (masC ⟨0,0,bo⟩) (masC zM) rfl rfl HP.out zapW rfl (z6IM _) ?_)
      intro w8 hb8 hk8
      have HP8:=qh hb8
      have HK8:=qh (HK.out.new hk8 (fun z hz=>by subst hz;exact l1))
      clear hb8 hk8
      go_wp2
      try simp only [Exit.inBlock,Exit.then]
      refine bodyPost_ret (zvXq rfl _ _ pr (masC ⟨0,0,bo⟩) rfl HP8.out Tryz.underlying103 rfl zapW) rfl ?_
      exact ⟨by rw [HE2.out];rfl,HK8.out⟩
     ·have hq:(bt == 0)=false:=by rw [beq_eq_false_iff_ne];exact z1
      clear hz z1
      go_wp2_with (refine zxQF rfl 103 _ _ rfl pr (masC ⟨0,bt,bo⟩) (masC zM) rfl rfl HP.out zapW rfl (z6IM _) ?_)
      intro w8 hb8 hk8
      have HP8:=qh hb8
      have HK8:=qh (HK.out.new hk8 (fun z hz=>by subst hz;exact l1))
      clear hb8 hk8
      go_wp2
      try simp only [Exit.inBlock,Exit.then]
      refine bodyPost_ret (zvXq rfl _ _ pr (masC ⟨0,bt,bo⟩) rfl HP8.out Tryz.underlying103 rfl zapW) rfl ?_
      exact ⟨by rw [HE2.out];rfl,HK8.out⟩
    ·have hq:(bs == 0)=false:=by rw [beq_eq_false_iff_ne];exact z0
     clear hz z0
     go_wp2_with (refine zxQF rfl 103 _ _ rfl pr (masC ⟨bs,bt,bo⟩) (masC zM) rfl rfl HP.out zapW rfl (z6IM _) ?_)
     intro w8 hb8 hk8
     have HP8:=qh hb8
     have HK8:=qh (HK.out.new hk8 (fun z hz=>by subst hz;exact l1))
     clear hb8 hk8
     go_wp2
     try simp only [Exit.inBlock,Exit.then]
     refine bodyPost_ret (zvXq rfl _ _ pr (masC ⟨bs,bt,bo⟩) rfl HP8.out Tryz.underlying103 rfl zapW) rfl ?_
     exact ⟨by rw [HE2.out];rfl,HK8.out⟩
end
structure FnV where
 f:FuncId
 first:Array Value
 cap:Array Value
def FnV.v (x:FnV):Value:=.func (.func x.f) x.first x.cap
def z78b (S:World->Prop):List FnV->(Int->World->Prop)->World->Prop
 | [],R,w=>R 0 w
 | x :: fs,R,w=>(∀ wz,(callFunc x.f (x.first ++ x.cap)).run Tryz.prog wz=.ok (.enter x.f (x.first ++ x.cap)) wz)/\Calls Tryz.prog x.f (x.first ++ x.cap) w fun e w'=>∃ n,e=.returned (.int .i64 n)/\S w'/\(n≠0->R n w')/\(n=0->z78b S fs R w')
set_option maxRecDepth 100000 in
set_option maxHeartbeats 800000 in
theorem zE6R (w:World) (g:Nat) (fs:List FnV) (R:Int->World->Prop) (hg:w.heap[g]?=some (.cells (fs.map FnV.v).toArray 41 (0,0))) (hl:fs.length<=10)
  (h:z78b (fun w'=>w'.heap[g]?=some (.cells (fs.map FnV.v).toArray 41 (0,0))) fs R w) :
  Calls Tryz.prog 44 #[.slice (some ⟨g,0,none⟩) fs.length fs.length] w fun e w'=>∃ n,e=.returned (.int .i64 n)/\R n w':=by
 have HG:=qh hg
 have HE:=qh h
 obtain ⟨n,hn⟩:∃ n,n=fs.length:=⟨_,rfl⟩
 rw [<- hn] at hl ⊢
 have HN:=qh hn
 clear hg h hn
 go_enter Tryz.func44,Tryz.ntmps44
 go_wp2_with fail
 go_loopw [8] (fun i wr=>∃ k:Nat,k<=n/\i=.int .i64 k/\wr.heap[g]?=some (.cells (fs.map FnV.v).toArray 41 (0,0))/\z78b (fun w'=>w'.heap[g]?=some (.cells (fs.map FnV.v).toArray 41 (0,0))) (fs.drop k) R wr) (fun i wr=>n - (intOf i).toNat)
 case atStart=>exact ⟨0,Nat.zero_le _,rfl,HG.out,HE.out⟩
 case round=>
  obtain ⟨k,hk,rfl,hg,hE⟩:=hrel
  have HG:=qh hg
  have HE:=qh hE
  clear hg hE
  by_cases hlt:k < n
  ·have i1:(k:Int) < (n:Int):=by omega
   have hkl:k < fs.length:=by rw [<- HN.out];exact hlt
   obtain ⟨x,hx⟩:∃ x,x=fs[k]:=⟨_,rfl⟩
   have hd:fs.drop k=x :: fs.drop (k+1):=by rw [hx];exact List.drop_eq_getElem_cons hkl
   have hc:wr.cell? ⟨g,k,none⟩=some (.func (.func x.f) x.first x.cap):=zcjX HG.out (by simp [List.getElem?_eq_getElem hkl,<- hx,FnV.v])
   have he:=HE.out
   rw [hd] at he
   have HC:=qh (show Calls Tryz.prog x.f (x.first ++ x.cap) wr fun e w'=>∃ n,e=.returned (.int .i64 n)/\w'.heap[g]?=some (.cells (fs.map FnV.v).toArray 41 (0,0))/\(n≠0->R n w')/\(n=0->z78b (fun w'=>w'.heap[g]?=some (.cells (fs.map FnV.v).toArray 41 (0,0))) (fs.drop (k+1)) R w') from he.2)
   have hcf:∀ wz,(callFunc x.f (x.first ++ x.cap)).run Tryz.prog wz=.ok (.enter x.f (x.first ++ x.cap)) wz:=he.1
   obtain ⟨f,fi,ca⟩:=x
   dsimp only at hcf hc
   clear hd he hkl hx HE
   go_wp2_with fail
   refine HC.out.mono ?_
   rintro e w2 ⟨m,rfl,h2,h3,h4⟩
   have H2:=qh h2
   by_cases hm:m=0
   ·subst hm
    have H4:=qh (h4 rfl)
    clear h2 h3 h4 HC
    go_wp2
    go_roundw
    case rel=>exact ⟨k+1,by omega,by go_num,H2.out,H4.out⟩
    case measure=>simp [intOf];omega
   ·have hmb:(m != 0)=true:=by rw [bne_iff_ne];exact hm
    have H3:=qh (h3 hm)
    clear h2 h3 h4 HC hm
    go_wp2
    go_ret
    exact ⟨m,rfl,H3.out⟩
  ·have ek:k=n:=by omega
   subst ek
   have he:=HE.out
   rw [HN.out,List.drop_length] at he
   have HE2:=qh he
   clear he
   go_wp2
   go_ret
   exact ⟨0,rfl,HE2.out⟩
theorem zQSr {fn:Func} {t u v x:Tmp} (h:fn.results=#[.tmp t,.tmp u,.tmp v,.tmp x]) (tmps:Array Value) (P:Program) (w:World) :
  (results fn tmps).run P w=.ok (.tuple #[tmps.getD t undef,tmps.getD u undef,tmps.getD v undef,tmps.getD x undef]) w:=by
 simp [results,h]
def zO5o (n:Int):Int×Int×Int×Int:=if n < 24\/65536 < n then (0,0,0,0) else (2,n - 2 - n / 2,n - n / 2,n / 2)
set_option maxRecDepth 20000 in
theorem zdOx (n:Int) (w:World) :
  Calls Tryz.prog 72 #[.int .i64 n] w fun e w'=>e=.returned (.tuple #[.int .i64 (zO5o n).1,.int .i64 (zO5o n).2.1,.int .i64 (zO5o n).2.2.1,.int .i64 (zO5o n).2.2.2])/\w=w':=by
 go_enter Tryz.func72,Tryz.ntmps72
 by_cases h1:n < 24
 ·have HE:=qh (show zO5o n=(0,0,0,0) by unfold zO5o;rw [if_pos (.inl h1)])
  go_wp2
  refine bodyPost_ret (zQSr rfl _ _ _) rfl ?_
  exact ⟨by rw [HE.out];rfl,rfl⟩
 ·by_cases h2:65536 < n
  ·have HE:=qh (show zO5o n=(0,0,0,0) by unfold zO5o;rw [if_pos (.inr h2)])
   have h3:n > 65536:=h2
   go_wp2
   refine bodyPost_ret (zQSr rfl _ _ _) rfl ?_
   exact ⟨by rw [HE.out];rfl,rfl⟩
  ·have HE:=qh (show zO5o n=(2,n - 2 - n / 2,n - n / 2,n / 2) by unfold zO5o;rw [if_neg (by omega)])
   have h3:¬ n > 65536:=h2
   have e1:n.tdiv 2=n / 2:=by rw [Int.tdiv_eq_ediv_of_nonneg (by omega)]
   have e2:wrap64 (n - 2)=n - 2:=by unfold wrap64;omega
   have e3:wrap64 (n - 2 - n / 2)=n - 2 - n / 2:=by unfold wrap64;omega
   have e4:wrap64 (n - n / 2)=n - n / 2:=by unfold wrap64;omega
   have e5:wrap64 (n / 2)=n / 2:=by unfold wrap64;omega
   go_wp2
   refine bodyPost_ret (zQSr rfl _ _ _) rfl ?_
   exact ⟨by rw [HE.out];rfl,rfl⟩
def zgqU (D:DevM) (m:MasM):DevM×Int:=
 if D.n < 24\/¬ m.may then (D,2) else
 if (D.write (m.seq.tmod 2) (zR62 m)).1≠0 then ((D.write (m.seq.tmod 2) (zR62 m)).2,(D.write (m.seq.tmod 2) (zR62 m)).1) else
 ((D.write (m.seq.tmod 2) (zR62 m)).2.syncR.2,(D.write (m.seq.tmod 2) (zR62 m)).2.syncR.1)
section
variable {w:World} {p ms mo:Nat} {D:DevM}
set_option maxRecDepth 100000 in
set_option maxHeartbeats 1600000 in
theorem zFOo (h:DevAt w p ms mo D) (m:MasM) (hm:m.may) (gp gm:Nat) (hgp:w.heap[gp]?=some (.cells #[.pointer (some ⟨p,0,none⟩)] 25 (0,0))) (hgm:w.heap[gm]?=some (.cells (masC m) 103 (0,0))) :
  Calls Tryz.prog 105 #[.pointer (some ⟨gp,0,none⟩),.pointer (some ⟨gm,0,none⟩)] w fun e w'=>e=.returned (.int .i64 (D.write (m.seq.tmod 2) (zR62 m)).1)/\DevAt w' p ms mo (D.write (m.seq.tmod 2) (zR62 m)).2/\Kept (fun x=>x=p\/x=mo) w w':=by
 have h1:isI m.seq:=by obtain ⟨a,b,_⟩:=hm;unfold isI;omega
 have h2:isI m.turn:=by obtain ⟨_,_,a,b,_⟩:=hm;unfold isI;omega
 have h3:isI m.oldest:=by obtain ⟨_,_,_,_,a,b⟩:=hm;unfold isI;omega
 have hs1:1<=m.seq:=hm.1
 have HMB:=qh (fun wz=>zJco m wz h1 h2 h3)
 have HD:=qh h
 obtain ⟨s,t,o⟩:=m
 have HS0:=qh (show (w.drew).heap[gp]?=some (.cells #[.pointer (some ⟨p,0,none⟩)] 25 (0,0))/\(w.drew).heap[gm]?=some (.cells (masC ⟨s,t,o⟩) 103 (0,0)) from ⟨hgp,hgm⟩)
 have HC:=qh (fun (w':World) (h:w'.heap[gp]?=some (.cells #[.pointer (some ⟨p,0,none⟩)] 25 (0,0))/\w'.heap[gm]?=some (.cells (masC ⟨s,t,o⟩) 103 (0,0)))=>show w'.cell? ⟨gp,0,none⟩=some (.pointer (some ⟨p,0,none⟩))/\w'.cell? ⟨gm,0,none⟩=some (.int .i64 s)/\w'.cell? ⟨gm,1,none⟩=some (.int .i64 t)/\w'.cell? ⟨gm,2,none⟩=some (.int .i64 o) from ⟨zcjX h.1 rfl,zcjX h.2 rfl,zcjX h.2 rfl,zcjX h.2 rfl⟩)
 have hwr:IntKind.i64.wrap (s.tmod 2)=s.tmod 2:=by
  have:1<=s:=hs1
  rw [Int.tmod_eq_emod_of_nonneg (by omega),IntKind.wrap_i64]
  omega
 obtain ⟨X,hX⟩:∃ X,X=zR62 ⟨s,t,o⟩:=⟨_,rfl⟩
 have HXL:=qh (show X.length=512 by rw [hX];exact zWy4 _)
 dsimp only
 rw [<- hX] at HMB ⊢
 clear h hgp hgm hX h1 h2 h3 hm hs1
 go_enter Tryz.func105,Tryz.ntmps105
 go_wp2_with fail
 refine znCh 7 (fun w'=>w'.heap[gp]?=some (.cells #[.pointer (some ⟨p,0,none⟩)] 25 (0,0))/\w'.heap[gm]?=some (.cells (masC ⟨s,t,o⟩) 103 (0,0))) (by kernel_rfl) HS0.out (fun hH=>?_)
 simp only [List.length_cons,List.length_nil,List.replicate]
 refine tK 0 ?_ (fun w' hw'=>?_) hH ?_
 rotate_left
 ·obtain ⟨c0,c1,c2,c3⟩:=HC.out w' hw'
  go_simp<;>with_reducible rfl
 simp only [Act.put,oZa,oZb,oZc]
 refine tK 1 ?_ (fun w' hw'=>?_) hH ?_
 rotate_left
 ·obtain ⟨c0,c1,c2,c3⟩:=HC.out w' hw'
  go_simp<;>with_reducible rfl
 simp only [Act.put,oZa,oZb,oZc]
 refine tK 2 ?_ (fun w' hw'=>?_) hH ?_
 rotate_left
 ·obtain ⟨c0,c1,c2,c3⟩:=HC.out w' hw'
  go_simp<;>with_reducible rfl
 simp only [Act.put,oZa,oZb,oZc]
 refine tK 3 ?_ (fun w' hw'=>?_) hH ?_
 rotate_left
 ·obtain ⟨c0,c1,c2,c3⟩:=HC.out w' hw'
  go_simp<;>with_reducible rfl
 simp only [Act.put,oZa,oZb,oZc]
 refine tK 4 ?_ (fun w' hw'=>?_) hH ?_
 rotate_left
 ·obtain ⟨c0,c1,c2,c3⟩:=HC.out w' hw'
  go_simp<;>with_reducible rfl
 simp only [Act.put,oZa,oZb,oZc]
 refine stepL 5 rfl (by kernel_rfl) (fun K hK=>?_)
 go_simp
 refine (HMB.out _).mono ?_
 rintro e w5 ⟨g5,cap5,rfl,ho5,hk5⟩
 have HS5:=qh (show w5.heap[gp]?=some (.cells #[.pointer (some ⟨p,0,none⟩)] 25 (0,0))/\w5.heap[gm]?=some (.cells (masC ⟨s,t,o⟩) 103 (0,0)) from ⟨hk5.heap HS0.out.1 id,hk5.heap HS0.out.2 id⟩)
 have hk:=((Kept.refl (fun _=>False) w).drew).trans0 hk5
 have HK5:=qh hk
 have HWR:=qh (show Calls Tryz.prog 67 #[.pointer (some ⟨p,0,none⟩),.int .i64 (s.tmod 2),.slice (some ⟨g5,0,none⟩) 512 cap5] w5 fun e w'=>e=.returned (.int .i64 (D.write (s.tmod 2) X).1)/\DevAt w' p ms mo (D.write (s.tmod 2) X).2/\Kept (fun x=>x=p\/x=mo) w5 w' from by
  have:=zquG (HD.out.keep hk id id id) (s.tmod 2) (some ⟨g5,0,none⟩) cap5 X ho5.v.rd
  rwa [HXL.out] at this)
 have HNE:=qh (show ∀ (x:Nat) (cs:Array Value) (t:TypeId),w5.heap[x]?=some (.cells cs t (0,0))->t≠100->¬ (x=p\/x=mo) from fun x cs t hx ht e=>by
  have hd:=HD.out.keep hk id id id
  rcases e with e | e
  ·exact zxvD hx hd.hp ht e
  ·exact zWjK hx hd.ho e)
 clear ho5 hk5 hk HMB
 go_simp
 refine hK.out _ _ (fun _=>HS5.out) (fun _=>?_)
 simp only [oZa,oZb,oZc]
 clear hK K hH
 refine stepL 6 rfl (by kernel_rfl) (fun K hK=>?_)
 go_simp
 refine HWR.out.mono ?_
 rintro e w6 ⟨rfl,hd6,hk6⟩
 have HD6:=qh hd6
 have HK6:=qh ((HK5.out.mono (fun x _ h=>False.elim h)).trans' hk6)
 have HS6:=qh (show w6.heap[gp]?=some (.cells #[.pointer (some ⟨p,0,none⟩)] 25 (0,0))/\w6.heap[gm]?=some (.cells (masC ⟨s,t,o⟩) 103 (0,0)) from ⟨hk6.heap HS5.out.1 (HNE.out _ _ _ HS5.out.1 (by decide)),hk6.heap HS5.out.2 (HNE.out _ _ _ HS5.out.2 (by decide))⟩)
 clear hd6 hk6 HWR
 go_simp
 refine hK.out _ _ (fun _=>HS6.out) (fun _=>?_)
 simp only [oZa,oZb,oZc]
 clear hK K
 refine stepL 7 rfl (by kernel_rfl) (fun K hK=>?_)
 go_simp
 refine hK.out _ _ (fun h=>absurd rfl h) (fun _=>?_)
 simp only [oZa,oZb,oZc]
 clear hK K
 refine doneL (by kernel_rfl) ?_ _
 go_wp2
 go_ret
 exact ⟨rfl,HD6.out,HK6.out⟩
theorem each2 (w:World) (g:Nat) (x y:FnV) (R:Int->World->Prop) (hg:w.heap[g]?=some (.cells #[x.v,y.v] 41 (0,0))) (h:z78b (fun w'=>w'.heap[g]?=some (.cells #[x.v,y.v] 41 (0,0))) [x,y] R w) :
  Calls Tryz.prog 44 #[.slice (some ⟨g,0,none⟩) 2 2] w fun e w'=>∃ n,e=.returned (.int .i64 n)/\R n w':=zE6R w g [x,y] R hg (by simp) h
set_option maxRecDepth 100000 in
set_option maxHeartbeats 1600000 in
theorem zjxy (h:DevAt w p ms mo D) (m:MasM) :
  Calls Tryz.prog 70 #[.pointer (some ⟨p,0,none⟩),.agg (masC m)] w fun e w'=>e=.returned (.int .i64 (zgqU D m).2)/\DevAt w' p ms mo (zgqU D m).1/\Kept (fun x=>x=p\/x=ms\/x=mo) w w':=by
 have HB:=qh (fun (w':World) (hk:Kept (fun _=>False) w w')=>zyYd (h.keep hk id id id))
 have HL:=qh h.n1
 have h1n:=h.n0
 have HD:=qh h
 have HM:=qh (fun (wz:World)=>ztr0 m wz)
 have hmf:∀ (fn:Fn) (first cap:Array Value) (w:World),(Instr.makeFunc fn first cap).run Tryz.prog w=.ok (.func fn first cap) w:=fun _ _ _ _=>rfl
 obtain ⟨N,hN⟩:∃ N,N=D.n:=⟨_,rfl⟩
 rw [<- hN] at h1n HB HL
 have HNN:=qh hN
 have hn0:(N == 0)=false:=by rw [beq_eq_false_iff_ne];omega
 clear h hN
 go_enter Tryz.func70,Tryz.ntmps70
 go_wp2_with (refine znBH rfl 25 _ rfl (.pointer (some ⟨p,0,none⟩)) rfl ?_)
 intro gp w1 l1 m1 hb1 hk1
 have HP:=qh (show w1.heap[gp]?=some (.cells #[.pointer (some ⟨p,0,none⟩)] 25 (0,0)) from hb1)
 have HK1:=qh hk1
 clear hb1 hk1
 go_wp2_with (refine znBH rfl 103 _ rfl (.agg (masC m)) rfl ?_)
 intro gm w2 l2 m2 hb2 hk2
 have HG:=qh (show w2.heap[gm]?=some (.cells (masC m) 103 (0,0)) from hb2)
 have HP2:=qh (hk2.heap HP.out id)
 have HK2:=qh (HK1.out.trans0 hk2)
 have c0:w2.cell? ⟨gp,0,none⟩=some (.pointer (some ⟨p,0,none⟩)):=zcjX HP2.out rfl
 clear hb2 hk2 HP HK1
 go_wp2_with fail
 refine (HB.out w2 HK2.out).mono ?_
 rintro e wx ⟨rfl,rfl⟩
 by_cases hn:N < 24
 ·have HE:=qh (show zgqU D m=(D,2) from by unfold zgqU;rw [if_pos (.inl (by rw [<- HNN.out];exact hn))])
  go_wp2
  go_ret
  exact ⟨by rw [HE.out];rfl,by rw [HE.out];exact HD.out.keep HK2.out id id id,HK2.out.mono (fun _ _ h=>False.elim h)⟩
 ·have d0:w2.cell? ⟨gm,0,none⟩=some (.int .i64 m.seq):=zcjX HG.out rfl
  have d1:w2.cell? ⟨gm,1,none⟩=some (.int .i64 m.turn):=zcjX HG.out rfl
  have d2:w2.cell? ⟨gm,2,none⟩=some (.int .i64 m.oldest):=zcjX HG.out rfl
  go_wp2_with fail
  refine (HM.out w2).mono ?_
  rintro e w3 ⟨rfl,hk3⟩
  have HG3:=qh (hk3.heap HG.out id)
  have HP3:=qh (hk3.heap HP2.out id)
  have HK3:=qh (HK2.out.trans0 hk3)
  have c0:w3.cell? ⟨gp,0,none⟩=some (.pointer (some ⟨p,0,none⟩)):=zcjX HP3.out rfl
  clear hk3 HM HG HP2 HK2 d0 d1 d2
  by_cases hm:m.may
  ·rw [decide_eq_true hm]
   have HE:=qh (show zgqU D m=if (D.write (m.seq.tmod 2) (zR62 m)).1≠0 then ((D.write (m.seq.tmod 2) (zR62 m)).2,(D.write (m.seq.tmod 2) (zR62 m)).1) else ((D.write (m.seq.tmod 2) (zR62 m)).2.syncR.2,(D.write (m.seq.tmod 2) (zR62 m)).2.syncR.1) from by
    unfold zgqU
    rw [if_neg]
    rintro (h | h)
    ·rw [<- HNN.out] at h;omega
    ·exact h hm)
   have HMM:=qh hm
   clear hm
   obtain ⟨X,hX⟩:∃ X,X=D.write (m.seq.tmod 2) (zR62 m):=⟨_,rfl⟩
   rw [<- hX] at HE
   obtain ⟨F,hF⟩:∃ F:Array Value,F=#[FnV.v ⟨105,#[],#[.pointer (some ⟨gp,0,none⟩),.pointer (some ⟨gm,0,none⟩)]⟩,FnV.v ⟨68,#[.pointer (some ⟨p,0,none⟩)],#[]⟩]:=⟨_,rfl⟩
   obtain ⟨w4,hw4⟩:∃ w4,w4=w3.alloc (.cells F 41):=⟨_,rfl⟩
   have hk4:Kept (fun _=>False) w3 w4:=by rw [hw4];exact (Kept.refl _ w3).alloc _
   have hf4:w4.heap[w3.heap.size]?=some (.cells F 41 (0,0)):=by rw [hw4];exact heap_alloc_new w3 _
   have HG4:=qh (hk4.heap HG3.out id)
   have HP4:=qh (hk4.heap HP3.out id)
   have HK4:=qh (HK3.out.trans0 hk4)
   obtain ⟨gf,hgf⟩:∃ gf,gf=w3.heap.size:=⟨_,rfl⟩
   rw [<- hgf] at hf4
   have HD4:=qh (HD.out.keep HK4.out id id id)
   have HEA:=qh (show Calls Tryz.prog 44 #[.slice (some ⟨gf,0,none⟩) 2 2] w4 fun e w'=>∃ n,e=.returned (.int .i64 n)/\n=(zgqU D m).2/\DevAt w' p ms mo (zgqU D m).1/\Kept (fun x=>x=p\/x=ms\/x=mo) w4 w' from by
    have far:∀ (wz:World) (x:Nat) (cs:Array Value) (t:TypeId) (E:DevM),wz.heap[x]?=some (.cells cs t (0,0))->t≠100->DevAt wz p ms mo E->¬ (x=p\/x=ms\/x=mo):=fun wz x cs t E hx ht hd e=>by
     rcases e with e | e | e
     ·exact zxvD hx hd.hp ht e
     ·exact zWjK hx hd.hs e
     ·exact zWjK hx hd.ho e
    refine each2 w4 gf _ _ _ (by rw [<- hF];exact hf4) ⟨fun wz=>by kernel_rfl,(zFOo HD4.out m HMM.out gp gm HP4.out HG4.out).mono ?_⟩
    rintro e w5 ⟨rfl,hd5,hk5⟩
    rw [<- hX] at hd5 ⊢
    have hk5':=hk5.mono (T:=fun x=>x=p\/x=ms\/x=mo) (fun x _ h=>by rcases h with h | h;exact .inl h;exact .inr (.inr h))
    refine ⟨_,rfl,by rw [<- hF];exact hk5'.heap hf4 (far w4 gf _ _ _ hf4 (by decide) HD4.out),fun hne=>?_,fun h0=>⟨fun wz=>by kernel_rfl,(zWTC hd5).mono ?_⟩⟩
    ·rw [HE.out,if_pos hne]
     exact ⟨rfl,hd5,hk5'⟩
    ·rintro e w6 ⟨rfl,hd6,hk6⟩
     have hke:=hk5'.trans' hk6
     have hfin:(X.2.syncR.1=(zgqU D m).2/\DevAt w6 p ms mo (zgqU D m).1/\Kept (fun x=>x=p\/x=ms\/x=mo) w4 w6):=by
      rw [HE.out,if_neg (fun h=>h h0)]
      exact ⟨rfl,hd6,hke⟩
     exact ⟨_,rfl,by rw [<- hF];exact hke.heap hf4 (far w4 gf _ _ _ hf4 (by decide) HD4.out),fun _=>hfin,fun h0=>by rw [h0] at hfin;exact hfin⟩)
   have hF2 : #[Value.func (.func 105) #[] #[.pointer (some ⟨gp,0,none⟩),.pointer (some ⟨gm,0,none⟩)],.func (.func 68) #[.pointer (some ⟨p,0,none⟩)] #[]]=F:=by rw [hF];rfl
   have HW4:=qh (show w3.alloc (.cells #[Value.func (.func 105) #[] #[.pointer (some ⟨gp,0,none⟩),.pointer (some ⟨gm,0,none⟩)],.func (.func 68) #[.pointer (some ⟨p,0,none⟩)] #[]] 41)=w4 from by rw [hF2,hw4])
   have HGF:=qh hgf
   clear hX hF hw4 hk4 hf4 hgf hF2
   go_wp2_with fail
   rw [HW4.out,<- HGF.out]
   refine HEA.out.mono ?_
   rintro e w5 ⟨n,rfl,rfl,hd5,hk5⟩
   have HD5:=qh hd5
   have HK5:=qh ((HK4.out.mono (T:=fun x=>x=p\/x=ms\/x=mo) (fun _ _ h=>False.elim h)).trans' hk5)
   clear hd5 hk5
   go_wp2
   go_ret
   exact ⟨rfl,HD5.out,HK5.out⟩
  ·rw [decide_eq_false hm]
   have HE:=qh (show zgqU D m=(D,2) from by unfold zgqU;rw [if_pos (.inr hm)])
   clear hm
   go_wp2
   go_ret
   exact ⟨by rw [HE.out];rfl,by rw [HE.out];exact HD.out.keep HK3.out id id id,HK3.out.mono (fun _ _ h=>False.elim h)⟩
end
end Go.Proofs.YtfgagakepmigbaaGreat
