/-
  No statement is proved here.
-/
import Derived.Test.YtfgagakepmigbaaGreatJBko
namespace Go.Proofs.YtfgagakepmigbaaGreat
open Go.RowKit
section
variable {w w' w1:World} {x x':BAdr} {b b':BkM} {P P':PoolM} {L L':LogM} {D D':DevM}
def BPost (w:World) (x:BAdr) (V:BkM×PoolM×LogM×DevM×Int) (e:Ending) (w':World):Prop:=e=.returned (.int .i64 V.2.2.2.2)/\∃ x',BTo w x w' x'/\BookS w' x' V.1 V.2.1 V.2.2.1 V.2.2.2.1
theorem z8bI (b:BkM) (P:PoolM) (L:LogM) (D:DevM) (r:RecM):(b.chg P L D r).1=(b.app L r).1:=by
 unfold BkM.chg
 split<;>rfl
theorem zPQg (wz:World):(zeroValue 84).run Tryz.prog wz=.ok (.agg (spnC 0 0 none 0 0 none 0 0)) wz:=(zero_of_info (n:=4) (by kernel_rfl)).1 wz
theorem zXxd (p o:Int) (A:Option Addr) (n c:Nat) (B:Option Addr) (m d:Nat):(spnC p o A n c B m d).all (·.oneCell')=true:=by
 unfold spnC
 simp [Value.oneCell']
set_option maxRecDepth 100000 in
set_option maxHeartbeats 6400000 in
theorem zK5S (h:BookS w x b P L D) (hg:BkG P L D) (page:Int) (A:Option Addr) (c:Nat) (data:Bytes) (hrd:RdB w A data) (hmK:∀ b o,A=some ⟨b,o,none⟩->b < w.heap.size->¬ x.K b) (hc:data.length<=c) (hc2:c<=9223372036854775807) (hdl:data.length<=1000000) (hpg:isI page)
  (how:0<=b.owed/\b.owed<=1000000000) (hok:(ziLQ P L D page).2.2.2.2=0->LogOk (ziLQ P L D page).2.1 /\ -1000000000<=(ziLQ P L D page).2.1.room/\(ziLQ P L D page).2.1.room<=1000000000)
  (hJ:b.inT=true->data.length=512->(ziLQ P L D page).2.2.2.2=0->¬ (ziLQ P L D page).2.1.room < costM (recsM page (zBuV (ziLQ P L D page)) data)+(b.owed+owesM (recsM page (zBuV (ziLQ P L D page)) data))->∃ J,PutJ (recsM page (zBuV (ziLQ P L D page)) data) J/\J 0 b (ziLQ P L D page).1 (ziLQ P L D page).2.1 (ziLQ P L D page).2.2.1) :
  Calls Tryz.prog 25 #[ptrV x.bk,.int .i64 page,.slice A data.length c] w (BPost w x (putM b P L D page data)):=by
 obtain ⟨V,hV⟩:∃ V,V=putM b P L D page data:=⟨_,rfl⟩
 obtain ⟨POST,hPOST⟩:∃ POST,POST=BPost w x V:=⟨_,rfl⟩
 rw [<- hV,<- hPOST]
 have HPO:=qh (show ∀ n w' x' b1 P1 L1 D1,V=(b1,P1,L1,D1,n)->BTo w x w' x'->BookS w' x' b1 P1 L1 D1->POST (.returned (.int .i64 n)) w' from fun n w' x' b1 P1 L1 D1 h1 h2 h3=>by rw [hPOST,h1];exact ⟨rfl,x',h2,h3⟩)
 have HV:=qh hV
 have H:=qh h
 have HG:=qh hg
 have HRD:=qh hrd
 have HMK:=qh hmK
 have HCC:=qh (⟨hc,hc2⟩:data.length<=c/\c<=9223372036854775807)
 have HOW:=qh how
 have HOK:=qh hok
 have HJ:=qh hJ
 have HTH:=qh (z4at h)
 have HPA:=qh (z0Q4 h.s)
 have HRE:=qh (z5Co h hg page)
 obtain ⟨c0,c1,c2,c3,c4,c5,c6,c7,c8⟩:=h.cells
 have HLB:=qh hpg
 obtain ⟨N,hN⟩:∃ N,N=P.blocks:=⟨_,rfl⟩
 have HN:=qh hN
 obtain ⟨dn,hdn⟩:∃ dn,dn=data.length:=⟨_,rfl⟩
 have HDN:=qh hdn
 rw [<- hN] at HPA
 rw [<- hdn] at hdl ⊢
 obtain ⟨t,ht⟩:∃ t,t=b.inT:=⟨_,rfl⟩
 rw [<- ht] at c3
 have HTT:=qh ht
 unfold ptrV at HTH HPA HRE ⊢
 clear h hg hrd hmK hc hc2 how hok hJ hPOST hV hN hdn ht hpg c0 c1 c4 c5 c6 c8
 go_enter Tryz.func25,Tryz.ntmps25
 go_wp2_with fail
 refine HTH.out.mono ?_
 rintro e wx ⟨rfl,rfl⟩
 cases t
 ·have HE:=qh (show V=(b,P,L,D,7) from by rw [HV.out];unfold putM;rw [if_pos HTT.out.symm])
  go_wp2
  exact HPO.out 7 _ x _ _ _ _ HE.out (BTo.refl _ _) H.out
 ·have HV1:=qh (show V=if page < 0\/P.blocks<=page then (b,P,L,D,6) else if data.length≠512 then (b,P,L,D,2) else if (ziLQ P L D page).2.2.2.2≠0 then (b,(ziLQ P L D page).1,(ziLQ P L D page).2.1,(ziLQ P L D page).2.2.1,(ziLQ P L D page).2.2.2.2) else
    if (ziLQ P L D page).2.1.room < costM (recsM page (zBuV (ziLQ P L D page)) data)+(b.owed+owesM (recsM page (zBuV (ziLQ P L D page)) data)) then (b,(ziLQ P L D page).1,(ziLQ P L D page).2.1,(ziLQ P L D page).2.2.1,5) else
    zkcY (recsM page (zBuV (ziLQ P L D page)) data) b (ziLQ P L D page).1 (ziLQ P L D page).2.1 (ziLQ P L D page).2.2.1 from by
   rw [HV.out];unfold putM;rw [if_neg (by rw [<- HTT.out];decide)])
  by_cases p0:page < 0
  ·have HE:=qh (show V=(b,P,L,D,6) from by rw [HV1.out,if_pos (.inl p0)])
   go_wp2
   exact HPO.out 6 _ x _ _ _ _ HE.out (BTo.refl _ _) H.out
  ·go_wp2_with fail
   refine HPA.out.mono ?_
   rintro e wx ⟨rfl,rfl⟩
   by_cases p1:page>=N
   ·have HE:=qh (show V=(b,P,L,D,6) from by rw [HV1.out,if_pos (.inr (by rw [<- HN.out];exact p1))])
    go_wp2
    exact HPO.out 6 _ x _ _ _ _ HE.out (BTo.refl _ _) H.out
   ·by_cases h512:dn=512
    ·subst h512
     have HV2:=qh (show V=if (ziLQ P L D page).2.2.2.2≠0 then (b,(ziLQ P L D page).1,(ziLQ P L D page).2.1,(ziLQ P L D page).2.2.1,(ziLQ P L D page).2.2.2.2) else
      if (ziLQ P L D page).2.1.room < costM (recsM page (zBuV (ziLQ P L D page)) data)+(b.owed+owesM (recsM page (zBuV (ziLQ P L D page)) data)) then (b,(ziLQ P L D page).1,(ziLQ P L D page).2.1,(ziLQ P L D page).2.2.1,5) else
      zkcY (recsM page (zBuV (ziLQ P L D page)) data) b (ziLQ P L D page).1 (ziLQ P L D page).2.1 (ziLQ P L D page).2.2.1 from by
      rw [HV1.out,if_neg (by have:=HN.out;omega),if_neg (by rw [<- HDN.out];exact fun h=>h rfl)])
     obtain ⟨X,hX⟩:∃ X,X=ziLQ P L D page:=⟨_,rfl⟩
     have HRX:=qh (show Calls Tryz.prog 50 #[.pointer (some ⟨x.a.pb,0,none⟩),.int .i64 page] w (fun e w'=>
       (X.2.2.2.2≠0->e=.returned (.tuple #[.slice none 0 0,.int .i64 X.2.2.2.2])/\∃ x',BTo w x w' x'/\BookS w' x' b X.1 X.2.1 X.2.2.1) /\
       (X.2.2.2.2=0->∃ x' f g c,BTo w x w' x'/\BookS w' x' b X.1 X.2.1 X.2.2.1/\X.1.ring[X.2.2.2.1]?=some f/\f.b.length=512/\e=.returned (.tuple #[.slice (some ⟨g,0,none⟩) 512 c,.int .i64 0])/\OwnB w' w.heap.size g c f.b/\¬ x'.K g)) from by
      rw [hX];exact HRE.out)
     rw [<- hX] at HV2 HOK HJ
     clear hX HRE HV1 HV HPA HTH
     by_cases h0:X.2.2.2.2=0
     ·have HV3:=qh (show V=if X.2.1.room < costM (recsM page (zBuV X) data)+(b.owed+owesM (recsM page (zBuV X) data)) then (b,X.1,X.2.1,X.2.2.1,5) else zkcY (recsM page (zBuV X) data) b X.1 X.2.1 X.2.2.1 from by rw [HV2.out,if_neg (fun h=>h h0)])
      have HOK1:=qh (HOK.out h0)
      have HJ1:=qh (HJ.out HTT.out.symm HDN.out.symm h0)
      have H0:=qh h0
      clear h0 HOK HJ HV2
      go_wp2_with fail
      refine HRX.out.mono ?_
      intro e w1 hp
      obtain ⟨x1,f,g1,cp1,ht1,hs1,hf1,hfl,rfl,ho1,hn1⟩:=hp.2 H0.out
      have HFB:=qh (show zBuV X=f.b from by unfold zBuV;rw [hf1])
      obtain ⟨was,hwas⟩:∃ was,was=f.b:=⟨_,rfl⟩
      rw [<- hwas] at hfl ho1 HFB
      rw [HFB.out] at HV3 HJ1
      have HT1:=qh ht1
      have HS1:=qh hs1
      have HO1:=qh ho1
      have HFL:=qh hfl
      have hcap1:512<=cp1/\cp1<=9223372036854775807:=by obtain ⟨cur,_,_,q1,q2,_⟩:=ho1.form;rw [hfl] at q1;exact ⟨q1,q2⟩
      have HRD1:=qh (HRD.out.kept ht1.k HMK.out)
      have HDF:=qh (show Calls Tryz.prog 52 #[.slice (some ⟨g1,0,none⟩) 512 cp1,.slice A 512 c] w1 fun e w'=>∃ v L,e=.returned v/\OwnSp w' w1.heap.size v L/\zRLN w' w1.heap.size was data L/\L.map (fun s=>(s.f,s.t))=diffM was data/\Kept (fun _=>False) w1 w' from
       zb7T (some ⟨g1,0,none⟩) A cp1 c was data w1 ho1.v.rd HRD1.out hfl HDN.out.symm hcap1.1 hcap1.2 (by have:=HCC.out.1;rw [<- HDN.out] at this;exact this) HCC.out.2)
      clear hp ht1 hs1 hf1 hfl ho1 hn1 hwas HRX hcap1 HFB
      go_wp2_with fail
      refine HDF.out.mono ?_
      rintro e w2 ⟨v,SL,rfl,hos,hsg,hmp,hk2⟩
      obtain ⟨G,gc,rfl,hsp⟩:=SpAt.of hos hsg hmp
      have HSP:=qh hsp
      have HT2:=qh (HT1.out.keep0 hk2)
      have HS2:=qh (HS1.out.keep0 hk2)
      have hnl:SL.length<=513:=by
       have e1:=congrArg List.length hmp
       rw [List.length_map] at e1
       have h2:=z3Ur was data 512
       have h3:(diffM was data).length<=(stD was data 512).1.length+1:=by
        unfold diffM putD
        split
        ·simp
        ·omega
       omega
      obtain ⟨rs,hrs⟩:∃ rs,rs=recsM page was data:=⟨_,rfl⟩
      rw [<- hrs] at HV3 HJ1
      have hrs2:rs=SL.map (fun s=>spR page was data (s.f,s.t)):=by rw [hrs];unfold recsM;rw [<- hmp,List.map_map];rfl
      have HRG:=qh (show ∀ (k:Nat) (s:SpD),SL[k]?=some s->rs[k]?=some (spR page was data (s.f,s.t)) from fun k s hk=>by rw [hrs2,List.getElem?_map,hk];rfl)
      have hrl:rs.length=SL.length:=by rw [hrs2,List.length_map]
      have HRL:=qh hrl
      obtain ⟨n,hn⟩:∃ n,n=SL.length:=⟨_,rfl⟩
      rw [<- hn] at hrl hnl ⊢
      have HNN:=qh hn
      have HSL:=qh (show ∀ (k:Nat) (s:SpD),SL[k]?=some s->(segB data (s.f,s.t)).length=s.t - s.f/\(segB was (s.f,s.t)).length=s.t - s.f/\s.t - s.f<=512/\0 < s.t - s.f from fun k s hk=>by
       obtain ⟨⟨q1,q2⟩,-⟩:=HSP.out k s hk
       exact ⟨z9LT (s:=(s.f,s.t)) (by rw [<- HDN.out];exact q2),z9LT (s:=(s.f,s.t)) (by rw [HFL.out];exact q2),by omega,by omega⟩)
      have HCB:=qh (show ∀ k,0<=costM (rs.take k)/\costM (rs.take k)<=1000000/\0<=owesM (rs.take k)/\owesM (rs.take k)<=1000000 from fun k=>by
       have h1:=zEGV (rs.take k) (fun r hr=>by
        have hr:=List.mem_of_mem_take hr
        obtain ⟨i,hi⟩:=List.getElem?_of_mem hr
        have hil:=(List.getElem?_eq_some_iff.1 hi).1
        have hs:=HRG.out i SL[i] (List.getElem?_eq_getElem (by omega))
        rw [hi] at hs
        cases hs
        have:=HSL.out i SL[i] (List.getElem?_eq_getElem (by omega))
        show (segB data _).length<=512
        omega)
       have h2:(rs.take k).length<=513:=by rw [List.length_take];omega
       omega)
      have d7:w2.cell? ⟨x.bk,7,none⟩=some (.int .i64 b.owed):=by
       obtain ⟨-,-,-,-,-,-,-,q7,-⟩:=HS2.out.cells
       rw [HT2.out.fix.bk] at q7
       exact q7
      obtain ⟨ow,how⟩:∃ ow,ow=b.owed:=⟨_,rfl⟩
      have HOB:=qh (show 0<=ow/\ow<=1000000000 from by rw [how];exact HOW.out)
      rw [<- how] at d7 HV3 HJ1
      have HWO:=qh how
      clear hos hsg hmp hk2 hsp hrs hrs2 hrl hn how HDF c2 c3 c7
      go_wp2_with fail
      go_loopw [10,11,64] (fun o z i wr=>∃ k:Nat,k<=n/\i=.int .i64 k/\z=.int .i64 (costM (rs.take k))/\o=.int .i64 (ow+owesM (rs.take k))/\Kept (fun _=>False) w2 wr) (fun _ _ i _=>n - (intOf i).toNat)
      case atStart=>exact ⟨0,Nat.zero_le _,rfl,rfl,by simp [owesM],Kept.refl _ _⟩
      case round=>
       obtain ⟨k,hk,rfl,rfl,rfl,hkr⟩:=hrel
       have HK:=qh hkr
       clear hkr
       by_cases hlt:k < n
       ·have i1:(k:Int) < (n:Int):=by omega
        obtain ⟨sp,hsp⟩:∃ sp,SL[k]?=some sp:=⟨_,List.getElem?_eq_getElem (by have:=HNN.out;omega)⟩
        obtain ⟨-,g,rfl,-,-,-,hcl,-,-⟩:=(HSP.out.keep HK.out (Nat.le_refl _) (fun _ _ _=>id)) k sp hsp
        have hr:=HRG.out k sp hsp
        obtain ⟨q1,q2,q3,q4⟩:=HSL.out k sp hsp
        obtain ⟨t1,t2⟩:=zeOg hr
        have hnew:(spR page was data (sp.f,sp.t)).new.length=sp.t - sp.f:=q1
        rw [hnew] at t1 t2
        obtain ⟨u1,u2,u3,u4⟩:=HCB.out k
        obtain ⟨sf,st,sg1,sc1,sg2,sc2⟩:=sp
        dsimp only at t1 t2 q3 q4 hcl
        obtain ⟨m,hm⟩:∃ m,m=st - sf:=⟨_,rfl⟩
        have HCL:=qh (show ∀ j v,(spnC 0 sf (some ⟨sg1,0,none⟩) m sc1 (some ⟨sg2,0,none⟩) m sc2)[j]?=some v->wr.cell? ⟨g,k*4+j,none⟩=some v from fun j v hv=>hcl j v (by rw [hm] at hv;simpa [spnC,zfF3] using hv))
        rw [<- hm] at t1 t2 q3 q4
        have HT12:=qh (⟨t1,t2⟩:costM (rs.take (k+1))=costM (rs.take k)+(43+2*(m:Int))/\owesM (rs.take (k+1))=owesM (rs.take k)+(51+(m:Int)))
        obtain ⟨cz,hcz⟩:∃ cz,cz=costM (rs.take k):=⟨_,rfl⟩
        obtain ⟨oz,hoz⟩:∃ oz,oz=owesM (rs.take k):=⟨_,rfl⟩
        rw [<- hcz] at u1 u2 HT12 ⊢
        rw [<- hoz] at u3 u4 HT12 ⊢
        have hob:=HOB.out
        have e1:wrap64 (2*(m:Int))=2*(m:Int):=by unfold wrap64;omega
        have e2:wrap64 (43+2*(m:Int))=43+2*(m:Int):=by unfold wrap64;omega
        have e3:wrap64 (cz+(43+2*(m:Int)))=cz+(43+2*(m:Int)):=by unfold wrap64;omega
        have e4:wrap64 (ow+oz+(51+(m:Int)))=ow+oz+(51+(m:Int)):=by unfold wrap64;omega
        clear hsp hcl hr q1 q2 t1 t2 hnew hm hcz hoz u1 u2 u3 u4 hob
        go_wp2_with (first
         | refine zd61 rfl 84 _ rfl g (k*4) rfl (spnC 0 sf (some ⟨sg1,0,none⟩) m sc1 (some ⟨sg2,0,none⟩) m sc2) HCL.out Tryz.underlying84 rfl (by kernel_rfl) ?_
         | refine zNko rfl 84 rfl (spnC 0 0 none 0 0 none 0 0) zPQg ?_)
        intro sb w4 l4 m4 hb4 hk4
        refine zxQF rfl 84 _ _ rfl sb (spnC 0 sf (some ⟨sg1,0,none⟩) m sc1 (some ⟨sg2,0,none⟩) m sc2) (spnC 0 0 none 0 0 none 0 0) rfl rfl hb4 (by kernel_rfl) rfl (zXxd _ _ _ _ _ _ _ _) ?_
        intro w5 hb5 hk5
        have HK5:=qh (HK.out.trans0 (hk4.new hk5 (fun z hz=>by subst hz;exact l4)))
        have s0:w5.cell? ⟨sb,0,none⟩=some (.int .i64 0):=zcjX hb5 rfl
        have s1:w5.cell? ⟨sb,1,none⟩=some (.int .i64 sf):=zcjX hb5 rfl
        have s2:w5.cell? ⟨sb,2,none⟩=some (.slice (some ⟨sg1,0,none⟩) m sc1):=zcjX hb5 rfl
        have s3:w5.cell? ⟨sb,3,none⟩=some (.slice (some ⟨sg2,0,none⟩) m sc2):=zcjX hb5 rfl
        have HUN:=qh (zClk 0 sf (some ⟨sg1,0,none⟩) m sc1 (some ⟨sg2,0,none⟩) m sc2 (by omega) w5)
        clear hb4 hk4 hb5 hk5
        go_wp2_with fail
        refine HUN.out.mono ?_
        rintro e w6 ⟨rfl,hk6⟩
        have HK6:=qh (HK5.out.trans0 hk6)
        clear hk6 HUN s0 s1 s2 s3
        go_wp2
        go_roundw
        case rel=>exact ⟨k+1,by omega,by go_num,by rw [HT12.out.1],by rw [HT12.out.2];congr 1;omega,HK6.out⟩
        case measure=>simp [intOf];omega
       ·have ek:n=k:=by omega
        subst ek
        have htk:rs.take n=rs:=List.take_of_length_le (by have:=HRL.out;have:=HNN.out;omega)
        obtain ⟨u1,u2,u3,u4⟩:=HCB.out n
        rw [htk] at u1 u2 u3 u4 ⊢
        have HS3:=qh (HS2.out.keep0 HK.out)
        have HT3:=qh (HT2.out.keep0 HK.out)
        obtain ⟨q0,q1,q2,q3,q4,q5,q6,q7,q8⟩:=HS3.out.cells
        rw [HT3.out.fix.bk] at q1
        rw [HT3.out.fix.a.q] at q1
        have HRM:=qh (show Calls Tryz.prog 41 #[.pointer (some ⟨x.a.q,0,none⟩)] wr fun e w'=>e=.returned (.int .i64 X.2.1.room)/\Same wr w' from by
         have:=z1Ea wr x1.a.q x1.a.p x1.a.lv x1.a.tv X.2.1 HS3.out.s.log.hq HOK1.out.1
         rwa [HT3.out.fix.a.q] at this)
        obtain ⟨cz,hcz⟩:∃ cz,cz=costM rs:=⟨_,rfl⟩
        obtain ⟨oz,hoz⟩:∃ oz,oz=owesM rs:=⟨_,rfl⟩
        obtain ⟨rm,hrm⟩:∃ rm,rm=X.2.1.room:=⟨_,rfl⟩
        rw [<- hcz] at u1 u2 HV3 HJ1 ⊢
        rw [<- hoz] at u3 u4 HV3 HJ1 ⊢
        rw [<- hrm] at HRM HV3 HJ1
        have HRB:=qh (show -1000000000<=rm/\rm<=1000000000 from by rw [hrm];exact HOK1.out.2)
        have e1:wrap64 (cz+(ow+oz))=cz+(ow+oz):=by have:=HOB.out;unfold wrap64;omega
        clear htk u1 u2 u3 u4 q0 q2 q3 q4 q5 q6 q7 q8 hcz hoz hrm HCB
        go_wp2_with fail
        refine HRM.out.mono ?_
        rintro e w3 ⟨rfl,hsm⟩
        have hk3:=hsm.kept (fun _=>False)
        have HSP3:=qh ((HSP.out.keep HK.out (Nat.le_refl _) (fun _ _ _=>id)).keep hk3 (by exact HK.out.size) (fun _ _ _=>id))
        have HS4:=qh (HS3.out.keep0 hk3)
        have HT4:=qh (HT3.out.keep0 hk3)
        have hw23:w2.heap.size<=w3.heap.size:=by have:=HK.out.size;have:=hk3.size;omega
        clear hsm hk3 HRM HS3 HT3 HK HS2 HT2 HSP q1
        by_cases hrm:cz+(ow+oz) > rm
        ·have HE:=qh (show V=(b,X.1,X.2.1,X.2.2.1,5) from by rw [HV3.out,if_pos hrm])
         go_wp2
         exact HPO.out 5 _ x1 _ _ _ _ HE.out HT4.out HS4.out
        ·have HE:=qh (show V=zkcY rs b X.1 X.2.1 X.2.2.1 from by rw [HV3.out,if_neg hrm])
         obtain ⟨J,hJ,hJ0⟩:=HJ1.out (by omega)
         have HJ:=qh hJ
         have HJ0:=qh hJ0
         clear hJ hJ0 HJ1 HV3
         go_wp2_with fail
         go_loopw [91] (fun i wr=>∃ (k:Nat) (x2:BAdr) (b2:BkM) (P2:PoolM) (L2:LogM) (D2:DevM),k<=n/\i=.int .i64 k/\BTo w3 x1 wr x2/\BookS wr x2 b2 P2 L2 D2/\J k b2 P2 L2 D2/\V=zkcY (rs.drop k) b2 P2 L2 D2) (fun i _=>n - (intOf i).toNat)
         case atStart=>exact ⟨0,x1,b,_,_,_,Nat.zero_le _,rfl,BTo.refl _ _,HS4.out,HJ0.out,HE.out⟩
         case round=>
          obtain ⟨k,x2,b2,P2,L2,D2,hk,rfl,ht,hs,hj,hv⟩:=hrel
          have HTk:=qh ht
          have HSk:=qh hs
          have HJk:=qh hj
          have HVk:=qh hv
          clear ht hs hj hv
          by_cases hlt:k < n
          ·have i1:(k:Int) < (n:Int):=by omega
           obtain ⟨sp,hsp⟩:∃ sp,SL[k]?=some sp:=⟨_,List.getElem?_eq_getElem (by have:=HNN.out;omega)⟩
           have hspr:=HSP3.out.keep HTk.out.k hw23 (fun z h1 h2 hK=>by have:=HS1.out.lt hK;omega)
           obtain ⟨⟨hft,hft2⟩,g,rfl,⟨gl,gu⟩,⟨gl1,gu1⟩,⟨gl2,gu2⟩,hcl,hr1,hr2⟩:=hspr k sp hsp
           have hr:=HRG.out k sp hsp
           obtain ⟨q1,q2,q3,q4⟩:=HSL.out k sp hsp
           obtain ⟨sf,st,sg1,sc1,sg2,sc2⟩:=sp
           dsimp only at q1 q2 q3 q4 hcl hr hr1 hr2 gl1 gu1 gl2 gu2 hft hft2
           obtain ⟨m,hm⟩:∃ m,m=st - sf:=⟨_,rfl⟩
           have HCL:=qh (show ∀ j v,(spnC 0 sf (some ⟨sg1,0,none⟩) m sc1 (some ⟨sg2,0,none⟩) m sc2)[j]?=some v->wr.cell? ⟨g,k*4+j,none⟩=some v from fun j v hv=>hcl j v (by rw [hm] at hv;simpa [spnC,zfF3] using hv))
           rw [<- hm] at q1 q2 q3 q4
           obtain ⟨r,hrd⟩:∃ r,r=spR page was data (sf,st):=⟨_,rfl⟩
           rw [<- hrd] at hr
           have hrold:r.old=segB was (sf,st):=by rw [hrd];rfl
           have hrnew:r.new=segB data (sf,st):=by rw [hrd];rfl
           rw [<- hrold] at q2 hr1
           rw [<- hrnew] at q1 hr2
           have HRC:=qh (show recC r (some ⟨sg1,0,none⟩) sc1 (some ⟨sg2,0,none⟩) sc2=#[.int .i64 0,.int .i64 0,.int .u8 1,.int .i64 0,.int .i64 0,.int .i64 0,.int .i64 page,.int .i64 sf,.slice (some ⟨sg1,0,none⟩) m sc1,.slice (some ⟨sg2,0,none⟩) m sc2] from by unfold recC;rw [q1,q2,hrd];rfl)
           have HRO:=qh (show RecOk r from by
            have z0:isI 0:=by unfold isI;decide
            have z1:isI (sf:Int):=by unfold isI;omega
            rw [hrd];exact ⟨z0,z0,z0,z0,z0,HLB.out,z1⟩)
           have HR:=qh hr
           have HQ:=qh (⟨q1,q2⟩:r.new.length=m/\r.old.length=m)
           have HR1:=qh hr1
           have HR2:=qh hr2
           have BR:=fun wz=>bRcS page sf (some ⟨sg1,0,none⟩) m sc1 (some ⟨sg2,0,none⟩) m sc2 wz
           clear hsp hspr hcl hr hr1 hr2 q1 q2 hm hrd hrold hrnew
           go_wp2_with (first
            | refine zd61 rfl 84 _ rfl g (k*4) rfl (spnC 0 sf (some ⟨sg1,0,none⟩) m sc1 (some ⟨sg2,0,none⟩) m sc2) HCL.out Tryz.underlying84 rfl (by kernel_rfl) ?_
            | refine zNko rfl 84 rfl (spnC 0 0 none 0 0 none 0 0) zPQg ?_)
           intro sb w4 l4 m4 hb4 hk4
           refine zxQF rfl 84 _ _ rfl sb (spnC 0 sf (some ⟨sg1,0,none⟩) m sc1 (some ⟨sg2,0,none⟩) m sc2) (spnC 0 0 none 0 0 none 0 0) rfl rfl hb4 (by kernel_rfl) rfl (zXxd _ _ _ _ _ _ _ _) ?_
           intro w5 hb5 hk5
           have HK5:=qh (hk4.new hk5 (fun z hz=>by subst hz;exact l4))
           have HB5:=qh (show w5.heap[sb]?=some (.cells (spnC 0 sf (some ⟨sg1,0,none⟩) m sc1 (some ⟨sg2,0,none⟩) m sc2) 84 (0,0)) from hb5)
           clear hb4 hk4 hb5 hk5
           go_wp2_with (refine z2q7 rfl _ _ _ rfl sb 0 (.int .i64 page) (spnC 0 sf (some ⟨sg1,0,none⟩) m sc1 (some ⟨sg2,0,none⟩) m sc2) rfl rfl HB5.out (by kernel_rfl) (by show 0 < 4;decide) rfl ?_)
           intro w6 hb6 hk6
           have HB6:=qh (show w6.heap[sb]?=some (.cells (spnC page sf (some ⟨sg1,0,none⟩) m sc1 (some ⟨sg2,0,none⟩) m sc2) 84 (0,0)) from hb6)
           have HK6:=qh (HK5.out.new hk6 (fun z hz=>by subst hz;exact l4))
           have s0:w6.cell? ⟨sb,0,none⟩=some (.int .i64 page):=zcjX hb6 rfl
           have s1:w6.cell? ⟨sb,1,none⟩=some (.int .i64 sf):=zcjX hb6 rfl
           have s2:w6.cell? ⟨sb,2,none⟩=some (.slice (some ⟨sg1,0,none⟩) m sc1):=zcjX hb6 rfl
           have s3:w6.cell? ⟨sb,3,none⟩=some (.slice (some ⟨sg2,0,none⟩) m sc2):=zcjX hb6 rfl
           have hgood:=HJ.out.good k b2 P2 L2 D2 r HJk.out HR.out
           have hsz3:w3.heap.size<=wr.heap.size:=HTk.out.k.size
           have hx2:∀ z,w1.heap.size<=z->z < w2.heap.size->¬ x2.K z:=fun z h1 h2 hK=>by
            rcases HTk.out.g z hK with h3 | h3
            ·have:=HS1.out.lt h3;omega
            ·omega
           have HX2:=qh hx2
           have HCHG:=qh (show Calls Tryz.prog 49 #[.pointer (some ⟨x.bk,0,none⟩),.agg #[.int .i64 0,.int .i64 0,.int .u8 1,.int .i64 0,.int .i64 0,.int .i64 0,.int .i64 page,.int .i64 sf,.slice (some ⟨sg1,0,none⟩) m sc1,.slice (some ⟨sg2,0,none⟩) m sc2]] w6 fun e w'=>e=.returned (.int .i64 (b2.chg P2 L2 D2 r).2.2.2.2)/\∃ x',BTo w6 x2 w' x'/\BookS w' x' (b2.chg P2 L2 D2 r).1 (b2.chg P2 L2 D2 r).2.1 (b2.chg P2 L2 D2 r).2.2.1 (b2.chg P2 L2 D2 r).2.2.2.1 from by
            have:=zDiA (HSk.out.keep0 HK6.out) hgood.1.g r hgood.2.2.2.2 hgood.1.n hgood.1.up hgood.1.fit hgood.1.lp (some ⟨sg1,0,none⟩) sc1 (some ⟨sg2,0,none⟩) sc2 HRO.out hgood.2.1.1 hgood.2.1.2 (by rw [HQ.out.2];omega) (by rw [HQ.out.1];omega) (HR1.out.kept HK6.out (fun _ _ _ _=>id)) (HR2.out.kept HK6.out (fun _ _ _ _=>id)) (fun e=>by have:=HQ.out.1;rw [e] at this;simp at this;omega) (fun b o e _=>by cases e;exact hx2 _ gl2 gu2)
            rw [HRC.out] at this
            unfold ptrV at this
            rw [show x2.bk=x.bk from (HT4.out.fix.trans HTk.out.fix).bk] at this
            exact this)
           clear hb6 hk6 hgood hx2
           go_wp2_with fail
           refine HCHG.out.mono ?_
           rintro e w7 ⟨rfl,x3,ht3,hs3⟩
           have HVC:=qh (HVk.out.trans (zE5m HR.out b2 P2 L2 D2))
           have HF1:=qh (z8bI b2 P2 L2 D2 r)
           have HJN:=qh (HJ.out.next k b2 P2 L2 D2 r HJk.out HR.out)
           have HGD:=qh (HJ.out.good k b2 P2 L2 D2 r HJk.out HR.out)
           obtain ⟨C,hC⟩:∃ C,C=b2.chg P2 L2 D2 r:=⟨_,rfl⟩
           rw [<- hC] at hs3 HVC HF1 HJN ⊢
           obtain ⟨b3,P3,L3,D3,ce⟩:=C
           dsimp only at hs3 HVC HF1 HJN ⊢
           have hbk3:x3.bk=x.bk:=((HT4.out.fix.trans HTk.out.fix).trans ht3.fix).bk
           have HT7:=qh ((HTk.out.keep0 HK6.out).trans ht3)
           have HS7:=qh hs3
           have hsb7:w7.heap[sb]?=some (.cells (spnC page sf (some ⟨sg1,0,none⟩) m sc1 (some ⟨sg2,0,none⟩) m sc2) 84 (0,0)):=ht3.k.heap HB6.out (by rw [show x2=x2 from rfl];exact (HSk.out.keep0 HK6.out).notT ⟨_,_,HB6.out⟩ (by decide) (by decide) (by decide) (by decide) (by decide) (by decide) (by decide) (by decide))
           have HB7:=qh hsb7
           clear hC ht3 hs3 hsb7 HCHG s0 s1 s2 s3 BR HCL
           by_cases hce:ce=0
           ·subst hce
            have HV7:=qh (show V=zkcY (rs.drop (k+1)) (b3.did r) P3 L3 D3 from by rw [HVC.out,if_neg (fun h=>h rfl)])
            have HJ7:=qh (HJN.out rfl)
            obtain ⟨dA,dc,hdv,hdl1,hdl2,-⟩:=HS7.out.row.slice
            obtain ⟨dvv,hdvv⟩:∃ dvv,dvv=x3.dv:=⟨_,rfl⟩
            have hb3:=zAEq b2 L2 r
            rw [<- HF1.out] at hb3
            have HB3:=qh hb3
            have HDL:=qh (show b3.done.length<=1000000000 from by rw [hb3.2.2.1];have:=HGD.out.2.2.1;omega)
            have HS0:=qh (show (w7.drew).heap[x.bk]?=some (.cells (bookC x3 b3) 30 (0,0)) from by rw [<- hbk3];exact HS7.out.hb)
            have HCC3:=qh (fun (w':World) (h:w'.heap[x.bk]?=some (.cells (bookC x3 b3) 30 (0,0)))=>show w'.cell? ⟨x.bk,6,none⟩=some dvv/\w'.cell? ⟨x.bk,5,none⟩=some (.int .i64 b3.last)/\w'.cell? ⟨x.bk,7,none⟩=some (.int .i64 b3.owed) from by
             rw [hdvv];exact ⟨zcjX h rfl,zcjX h rfl,zcjX h rfl⟩)
            have HDV:=qh hdvv
            clear hdv hdl1 hdl2 hb3 hdvv HJN HVC
            go_wp2_with fail
            refine znCh 13 (fun w'=>w'.heap[x.bk]?=some (.cells (bookC x3 b3) 30 (0,0))) (by kernel_rfl) HS0.out (fun hH=>?_)
            simp only [List.length_cons,List.length_nil,List.replicate]
            refine tK 0 ?_ (fun w' hw'=>?_) hH ?_
            rotate_left
            ·obtain ⟨k6,k5,k7⟩:=HCC3.out w' hw'
             go_simp<;>with_reducible rfl
            simp only [Act.put,oZa,oZb,oZc]
            refine tK 1 ?_ (fun w' hw'=>?_) hH ?_
            rotate_left
            ·obtain ⟨k6,k5,k7⟩:=HCC3.out w' hw'
             go_simp<;>with_reducible rfl
            simp only [Act.put,oZa,oZb,oZc]
            refine tK 2 ?_ (fun w' hw'=>?_) hH ?_
            rotate_left
            ·obtain ⟨k6,k5,k7⟩:=HCC3.out w' hw'
             go_simp<;>with_reducible rfl
            simp only [Act.put,oZa,oZb,oZc]
            refine tK 3 ?_ (fun w' hw'=>?_) hH ?_
            rotate_left
            ·obtain ⟨k6,k5,k7⟩:=HCC3.out w' hw'
             go_simp<;>with_reducible rfl
            simp only [Act.put,oZa,oZb,oZc]
            refine tK 4 ?_ (fun w' hw'=>?_) hH ?_
            rotate_left
            ·obtain ⟨k6,k5,k7⟩:=HCC3.out w' hw'
             go_simp<;>with_reducible rfl
            simp only [Act.put,oZa,oZb,oZc]
            refine tK 5 ?_ (fun w' hw'=>?_) hH ?_
            rotate_left
            ·obtain ⟨k6,k5,k7⟩:=HCC3.out w' hw'
             go_simp<;>with_reducible rfl
            simp only [Act.put,oZa,oZb,oZc]
            refine tK 6 ?_ (fun w' hw'=>?_) hH ?_
            rotate_left
            ·obtain ⟨k6,k5,k7⟩:=HCC3.out w' hw'
             go_simp<;>with_reducible rfl
            simp only [Act.put,oZa,oZb,oZc]
            refine tK 7 ?_ (fun w' hw'=>?_) hH ?_
            rotate_left
            ·obtain ⟨k6,k5,k7⟩:=HCC3.out w' hw'
             go_simp<;>with_reducible rfl
            simp only [Act.put,oZa,oZb,oZc]
            refine tK 8 ?_ (fun w' hw'=>?_) hH ?_
            rotate_left
            ·obtain ⟨k6,k5,k7⟩:=HCC3.out w' hw'
             go_simp<;>with_reducible rfl
            simp only [Act.put,oZa,oZb,oZc]
            refine stepL 9 rfl (by kernel_rfl) (fun K hK=>?_)
            go_simp
            refine hK.out _ _ (fun _=>((Kept.refl (fun _=>False) w7).alloc _).drew.heap (by rw [<- hbk3];exact HS7.out.hb) id) (fun _=>?_)
            simp only [oZa,oZb,oZc]
            clear hK K hH
            have hk8:Kept (fun _=>False) w7 (w7.alloc (.cells #[.int .i64 b3.last] 2)).drew:=((Kept.refl (fun _=>False) w7).alloc _).drew
            have hc8:(w7.alloc (.cells #[.int .i64 b3.last] 2)).drew.heap[w7.heap.size]?=some (.cells #[.int .i64 b3.last] 2 (0,0)):=heap_alloc_new w7 _
            obtain ⟨w8,hw8⟩:∃ w8,w8=(w7.alloc (.cells #[.int .i64 b3.last] 2)).drew:=⟨_,rfl⟩
            rw [<- hw8] at hk8 hc8 ⊢
            have HS8:=qh (HS7.out.keep0 hk8)
            have HK8:=qh hk8
            have HC8:=qh (show w8.cell? ⟨w7.heap.size,0,none⟩=some (.int .i64 b3.last) from zcjX hc8 rfl)
            clear hw8 hk8 hc8
            refine stepL 10 rfl (by kernel_rfl) (fun K hK=>?_)
            refine zdvN rfl _ _ rfl 0 dvv b3.done b3.last rfl (by rw [HDV.out];exact HS8.out.row) w7.heap.size 1 rfl HC8.out (by have:=HDL.out;omega) (Nat.zero_le _) ?_
            intro v9 w9 hv9 hk9 hat9
            have HV9:=qh hv9
            have HS9:=qh (show w9.heap[x.bk]?=some (.cells (bookC x3 b3) 30 (0,0)) from by
             have h1:=HS8.out.hb
             rw [hbk3] at h1
             refine hk9.heap h1 (fun e=>?_)
             rw [HDV.out] at e
             exact (HS8.out.row.T e).ne ⟨_,_,h1⟩ (by decide) rfl)
            have HK9:=qh hk9
            have HAT:=qh hat9
            clear hv9 hk9 hat9
            refine hK.out _ _ (fun _=>HS9.out) (fun _=>?_)
            simp only [oZa,oZb,oZc]
            clear hK K
            refine tK 11 ?_ (fun w' hw'=>?_) HS9.out ?_
            rotate_left
            ·skip
             go_simp<;>with_reducible rfl
            simp only [Act.put,oZa,oZb,oZc]
            refine tK 12 ?_ (fun w' hw'=>?_) HS9.out ?_
            rotate_left
            ·skip
             go_simp<;>with_reducible rfl
            simp only [Act.put,oZa,oZb,oZc]
            refine stepL 13 rfl (by kernel_rfl) (fun K hK=>?_)
            refine zRRc rfl _ _ _ rfl x.bk 6 v9 (bookC x3 b3) rfl rfl HS9.out (by kernel_rfl) (by show 6 < 9;decide) (by rcases HV9.out with ⟨e,_⟩ | ⟨_,_,_,_,e,_⟩<;>rw [e]<;>rfl) ?_
            intro w10 hb10 hk10
            obtain ⟨b4,hb4⟩:∃ b4:BkM,b4={ b3 with done:=b3.done ++ [b3.last] }:=⟨_,rfl⟩
            have hdone:=HS8.out.setDone (w':=w10) (v:=v9) (b':=b4) (by
              rw [hb4]
              refine HV9.out.keep hk10 (fun z hz e=>?_)
              exact (HV9.out.T hz).ne ⟨_,_,HS9.out⟩ (by decide) e)
             (by rw [hb4,hbk3];exact hb10) (show Kept (fun z=>z=x3.bk\/x3.dv.ownBlock=some z) w8 w10 from ((HK9.out.mono (fun z _ e=>.inr (by rw [<- HDV.out];exact e))).trans' (hk10.mono (fun z _ e=>.inl (by rw [hbk3];exact e))))) (by
              rcases HAT.out with e | e
              ·exact .inr (.inl (by rw [e,HDV.out]))
              ·exact .inr (.inr e))
            have HDN10:=qh hdone
            clear hb10 hk10 hdone
            refine hK.out _ _ (fun h=>absurd rfl h) (fun _=>?_)
            simp only [oZa,oZb,oZc]
            clear hK K
            refine doneL (by kernel_rfl) ?_ _
            obtain ⟨x4,hx4⟩:∃ x4:BAdr,x4={ x3 with dv:=v9 }:=⟨_,rfl⟩
            rw [<- hx4] at HDN10
            have hbk4:x4.bk=x.bk:=by rw [hx4];exact hbk3
            have HS10:=Lib.hid HDN10.out.1
            have HT10:=qh ((HT7.out.keep0 HK8.out).trans HDN10.out.2)
            have HB10:=qh (show w10.heap[sb]?=some (.cells (spnC page sf (some ⟨sg1,0,none⟩) m sc1 (some ⟨sg2,0,none⟩) m sc2) 84 (0,0)) from by
             have h8:=HK8.out.heap HB7.out id
             exact HDN10.out.2.k.heap h8 (HS8.out.notT ⟨_,_,h8⟩ (by decide) (by decide) (by decide) (by decide) (by decide) (by decide) (by decide) (by decide)))
            have how4:b4.owed=b3.owed:=by rw [hb4]
            have HB4:=qh hb4
            have HS0b:=qh (show (w10.drew).heap[x.bk]?=some (.cells (bookC x4 b4) 30 (0,0))/\(w10.drew).heap[sb]?=some (.cells (spnC page sf (some ⟨sg1,0,none⟩) m sc1 (some ⟨sg2,0,none⟩) m sc2) 84 (0,0)) from ⟨by rw [<- hbk4];exact HS10.out.hb,HB10.out⟩)
            obtain ⟨ob,hob⟩:∃ ob,ob=b4.owed:=⟨_,rfl⟩
            have HOBB:=qh (show 0<=ob/\ob<=1000000000 from by rw [hob,how4,HB3.out.2.2.2.1];exact HGD.out.2.2.2.1)
            have HCC4:=qh (fun (w':World) (h:w'.heap[x.bk]?=some (.cells (bookC x4 b4) 30 (0,0))/\w'.heap[sb]?=some (.cells (spnC page sf (some ⟨sg1,0,none⟩) m sc1 (some ⟨sg2,0,none⟩) m sc2) 84 (0,0)))=>show w'.cell? ⟨x.bk,7,none⟩=some (.int .i64 ob)/\w'.cell? ⟨sb,0,none⟩=some (.int .i64 page)/\w'.cell? ⟨sb,1,none⟩=some (.int .i64 sf)/\w'.cell? ⟨sb,2,none⟩=some (.slice (some ⟨sg1,0,none⟩) m sc1)/\w'.cell? ⟨sb,3,none⟩=some (.slice (some ⟨sg2,0,none⟩) m sc2) from by
             rw [hob];exact ⟨zcjX h.1 rfl,zcjX h.2 rfl,zcjX h.2 rfl,zcjX h.2 rfl,zcjX h.2 rfl⟩)
            have HUN:=qh (fun wz=>zClk page sf (some ⟨sg1,0,none⟩) m sc1 (some ⟨sg2,0,none⟩) m sc2 (by omega) wz)
            have e5:IntKind.i64.wrap (ob+(51+(m:Int)))=ob+(51+(m:Int)):=by have:=HOBB.out;rw [IntKind.wrap_i64];omega
            have HOE:=qh hob
            clear hb4 hob how4 HDN10 HS8 HK8 HC8 HS9 HK9 HV9 HAT HS0 HCC3 HB7 HB6 HK6 HB5 HK5
            go_wp2_with fail
            refine znCh 9 (fun w'=>w'.heap[x.bk]?=some (.cells (bookC x4 b4) 30 (0,0))/\w'.heap[sb]?=some (.cells (spnC page sf (some ⟨sg1,0,none⟩) m sc1 (some ⟨sg2,0,none⟩) m sc2) 84 (0,0))) (by kernel_rfl) HS0b.out (fun hH=>?_)
            simp only [List.length_cons,List.length_nil,List.replicate]
            refine tK 0 ?_ (fun w' hw'=>?_) hH ?_
            rotate_left
            ·obtain ⟨k7,k0,k1,k2,k3⟩:=HCC4.out w' hw'
             go_simp<;>with_reducible rfl
            simp only [Act.put,oZa,oZb,oZc]
            refine tK 1 ?_ (fun w' hw'=>?_) hH ?_
            rotate_left
            ·obtain ⟨k7,k0,k1,k2,k3⟩:=HCC4.out w' hw'
             go_simp<;>with_reducible rfl
            simp only [Act.put,oZa,oZb,oZc]
            refine tK 2 ?_ (fun w' hw'=>?_) hH ?_
            rotate_left
            ·obtain ⟨k7,k0,k1,k2,k3⟩:=HCC4.out w' hw'
             go_simp<;>with_reducible rfl
            simp only [Act.put,oZa,oZb,oZc]
            refine tK 3 ?_ (fun w' hw'=>?_) hH ?_
            rotate_left
            ·obtain ⟨k7,k0,k1,k2,k3⟩:=HCC4.out w' hw'
             go_simp<;>with_reducible rfl
            simp only [Act.put,oZa,oZb,oZc]
            refine tK 4 ?_ (fun w' hw'=>?_) hH ?_
            rotate_left
            ·obtain ⟨k7,k0,k1,k2,k3⟩:=HCC4.out w' hw'
             go_simp<;>with_reducible rfl
            simp only [Act.put,oZa,oZb,oZc]
            refine stepL 5 rfl (by kernel_rfl) (fun K hK=>?_)
            go_simp
            refine (HUN.out _).mono ?_
            rintro e w11 ⟨rfl,hk11⟩
            have HS11:=qh (show w11.heap[x.bk]?=some (.cells (bookC x4 b4) 30 (0,0))/\w11.heap[sb]?=some (.cells (spnC page sf (some ⟨sg1,0,none⟩) m sc1 (some ⟨sg2,0,none⟩) m sc2) 84 (0,0)) from ⟨hk11.heap HS0b.out.1 id,hk11.heap HS0b.out.2 id⟩)
            have HK11:=qh (((Kept.refl (fun _=>False) w10).drew).trans0 hk11)
            clear hk11 HUN
            go_simp
            refine hK.out _ _ (fun _=>HS11.out) (fun _=>?_)
            simp only [oZa,oZb,oZc]
            clear hK K hH
            refine tK 6 ?_ (fun w' hw'=>?_) HS11.out ?_
            rotate_left
            ·skip
             go_simp<;>with_reducible rfl
            simp only [Act.put,oZa,oZb,oZc]
            refine tK 7 ?_ (fun w' hw'=>?_) HS11.out ?_
            rotate_left
            ·skip
             go_simp<;>with_reducible rfl
            simp only [Act.put,oZa,oZb,oZc]
            refine tK 8 ?_ (fun w' hw'=>?_) HS11.out ?_
            rotate_left
            ·skip
             go_simp<;>with_reducible rfl
            simp only [Act.put,oZa,oZb,oZc]
            refine stepL 9 rfl (by kernel_rfl) (fun K hK=>?_)
            refine zRRc rfl _ _ _ rfl x.bk 7 (.int .i64 (ob+(51+(m:Int)))) (bookC x4 b4) rfl rfl HS11.out.1 (by kernel_rfl) (by show 7 < 9;decide) rfl ?_
            intro w12 hb12 hk12
            obtain ⟨b5,hb5⟩:∃ b5:BkM,b5={ b4 with owed:=ob+(51+(m:Int)) }:=⟨_,rfl⟩
            have hset:=(HS10.out.keep0 HK11.out).set (w':=w12) (b':=b5) (by rw [hb5]) (by rw [hb5,hbk4];exact hb12) (by rw [hbk4];exact hk12)
            have hdid:b5=b3.did r:=by rw [hb5,HOE.out,HB4.out];unfold BkM.did;rw [HQ.out.1]
            rw [hdid] at hset
            have HSET:=qh hset
            have HT12:=qh ((HT10.out.keep0 HK11.out).trans hset.2)
            clear hb12 hk12 hb5 hset hdid
            refine hK.out _ _ (fun h=>absurd rfl h) (fun _=>?_)
            simp only [oZa,oZb,oZc]
            clear hK K
            refine doneL (by kernel_rfl) ?_ _
            go_wp2
            go_roundw
            case rel=>exact ⟨k+1,x4,b3.did r,P3,L3,D3,by omega,by go_num,HT12.out,HSET.out.1,HJ7.out,HV7.out⟩
            case measure=>simp [intOf];omega
           ·have HE7:=qh (show V=(b3,P3,L3,D3,ce) from by rw [HVC.out,if_pos hce])
            have hcb:(ce != 0)=true:=by rw [bne_iff_ne];exact hce
            clear hce HJN HVC
            go_wp2
            exact HPO.out ce _ x3 _ _ _ _ HE7.out (HT4.out.trans HT7.out) HS7.out
          ·have ek:n=k:=by omega
           subst ek
           have HE7:=qh (show V=(b2,P2,L2,D2,0) from by rw [HVk.out,List.drop_of_length_le (by have:=HRL.out;have:=HNN.out;omega)];rfl)
           go_wp2
           exact HPO.out 0 _ x2 _ _ _ _ HE7.out (HT4.out.trans HTk.out) HSk.out
     ·have HE:=qh (show V=(b,X.1,X.2.1,X.2.2.1,X.2.2.2.2) from by rw [HV2.out,if_pos h0])
      obtain ⟨E,hE⟩:∃ E,E=X.2.2.2.2:=⟨_,rfl⟩
      rw [<- hE] at h0 HE HRX
      have hEb:(E != 0)=true:=by rw [bne_iff_ne];exact h0
      have HH:=qh h0
      clear hE h0
      go_wp2_with fail
      refine HRX.out.mono ?_
      intro e w1 hp
      obtain ⟨rfl,x1,ht1,hs1⟩:=hp.1 HH.out
      have HT1:=qh ht1
      have HS1:=qh hs1
      clear hp ht1 hs1 HRX
      go_wp2
      exact HPO.out E _ x1 _ _ _ _ HE.out HT1.out HS1.out
    ·have HE:=qh (show V=(b,P,L,D,2) from by rw [HV1.out,if_neg (by have:=HN.out;omega),if_pos (by rw [<- HDN.out];exact h512)])
     have hnb:((dn:Int) != 512)=true:=by rw [bne_iff_ne];omega
     clear h512
     go_wp2
     exact HPO.out 2 _ x _ _ _ _ HE.out (BTo.refl _ _) H.out
end
end Go.Proofs.YtfgagakepmigbaaGreat
