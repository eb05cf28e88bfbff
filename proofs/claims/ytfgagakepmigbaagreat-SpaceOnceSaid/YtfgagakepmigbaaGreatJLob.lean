/-
  No statement is proved here.
-/
import Derived.Test.YtfgagakepmigbaaGreatJLrb
import Derived.Test.YtfgagakepmigbaaGreatJSmh
namespace Go.Proofs.YtfgagakepmigbaaGreat
open Go.RowKit
def bC (l:List Bool):Array Value:=(l.map fun b=>Value.bool b).toArray
theorem zO01 {l:List Bool} {k:Nat} (h:k < l.length):(bC l)[k]?=some (.bool (l.getD k false)):=by
 unfold bC
 simp [List.getD_eq_getElem?_getD,List.getElem?_eq_getElem h]
theorem z27C (l:List Bool):(bC l).size=l.length:=by simp [bC]
theorem zYiC (l:List Bool) (k:Nat) (b:Bool):(bC l).setIfInBounds k (.bool b)=bC (l.set k b):=by simp [bC,List.map_set]
theorem zEWN (l:List Bool):(bC l).all (·.oneCell')=true:=by
 unfold bC
 simp [Value.oneCell']
theorem zwoa:(Tryz.prog.info? 43).map (fun i=>(i.zero,i.size))=some (some (.agg (bC (List.replicate 64 false))),64):=by kernel_rfl
theorem zfWD (w:World):(zeroValue 43).run Tryz.prog w=.ok (.agg (bC (List.replicate 64 false))) w:=(zero_of_info zwoa).1 w
theorem zuOD:(Tryz.prog.info? 43).map (·.size)=some 64:=(zero_of_info zwoa).2
theorem zos1 {P:Program} {o:Oper} {a:Act} {w:World} {K:Act->World->Prop} {Q:Exit->Act->World->Prop} (g:Nat) (cs old:Array Value) {t:TypeId} (hb:w.heap[g]?=some (.cells old t (0,0))) (hs:old.size=cs.size) (h1:cs.all (·.oneCell')=true)
  (k:∀ w',w'.heap[g]?=some (.cells cs t (0,0))->Kept (fun x=>x=g) w w'->K (a.put o.dst undef) w'):o.upon P a K Q ((Sem.run P (storeCells ⟨g,0,none⟩ cs.toList) w).andThen fun _ w'=>.ok .skip w'):=by
 have h:=run_storeCells_from (P:=P) g t cs.toList 0 old w hb (by simp;omega) (fun v hv=>(Array.all_eq_true_iff_forall_mem.1 h1) v (by simpa using hv))
 simp only [List.take_zero,List.nil_append,Array.toArray_toList] at h
 rw [h]
 exact k _ (setRow_heap w g old cs t (0,0) hb) ((Kept.refl (fun x=>x=g) w).setRow (.inr rfl) _)
set_option maxRecDepth 100000 in
theorem zWMS (m:Nat) (hm:m<=281474976710656) {o:Oper} {a:Act} {w:World} {K:Act->World->Prop} {Q:Exit->Act->World->Prop}
  (k:∀ g w',w.heap.size<=g->w'.heap[g]?=some (.cells (cellsOf (zeros m)) 5 (0,0))->Kept (fun _=>False) w w'->K (a.put o.dst (.slice (some ⟨g,0,none⟩) m m)) w') :
  o.upon Tryz.prog a K Q ((Sem.run Tryz.prog (Instr.makeSlice 47 (.int .i64 (m:Int)) (.int .i64 (m:Int))) w).andThen fun v w'=>.ok (.value v) w'):=by
 obtain ⟨i,hi,h2,h3,h4⟩:=info_parts info5
 have hr:=run_make (P:=Tryz.prog) w 47 5 i _ Tryz.underlying47 hi h2 .i64 .i64 (m:Int) (m:Int) (by omega) (by omega) (by rw [h4];omega) (by omega)
 simp only [Int.toNat_natCast,h3,Nat.mul_one] at hr
 rw [show (Value.int IntKind.u8 0).cells=#[Value.int .u8 0] from rfl,zMBr] at hr
 rw [hr]
 exact k w.heap.size _ (Nat.le_refl _) (heap_alloc_new w _) ((Kept.refl _ w).alloc _)
def OnAt (w:World) (bk gm gk:Nat) (G:Nat) (m k:List Bool) (c d:Int) (w':World):Prop:=∃ x S g,Bk w w' x S g/\x.bk=bk/\g<=G/\SO S m k c d/\w'.heap[gm]?=some (.cells (bC m) 43 (0,0))/\w'.heap[gk]?=some (.cells (bC k) 43 (0,0))
section
variable {w0 w w':World} {x x':BAdr} {S S':BkA} {g g':Nat}
theorem Bk.notB64 (h:Bk w0 w x S g) {y:Nat} {cs:Array Value} (hb:w.heap[y]?=some (.cells cs 43 (0,0))):¬ x.K y:=
 h.b.notK ⟨_,_,hb⟩ (by decide) (by decide) (by decide) (by decide) (by decide) (by decide) (by decide) (by decide)
set_option maxRecDepth 100000 in
set_option maxHeartbeats 3200000 in
theorem zUqH (w:World) (A:Option Addr) (c:Nat) (l:List DoM) (hl:RdDo w A l) (hlm:l.length<=maxLen) (hlc:l.length<=c):Calls Tryz.prog 5 #[.slice A l.length c] w fun e w'=>e=.returned (.bool true)/\Kept (fun _=>False) w w':=by
 have HL:=qh hl
 obtain ⟨n,hn⟩:∃ n,n=l.length:=⟨_,rfl⟩
 have HN:=qh hn
 rw [<- hn] at hlm hlc ⊢
 have e63:maxLen=9223372036854775807:=rfl
 clear hn hl
 go_enter Tryz.func5,Tryz.ntmps5
 go_wp2_with fail
 refine (zpT7 w).mono ?_
 rintro e w1 ⟨rfl,hk1⟩
 have HK1:=qh hk1
 clear hk1
 go_upto_if 22 with (fail)
 go_cut [0] from 23 to 24 (fun v wx=>Cut80 A l v/\w1=wx)
 case first=>
  by_cases h80:80 < (n:Int)
  ·have hA:∃ b off,A=some ⟨b,off,none⟩:=by
    obtain ⟨b,off,h1,-⟩:=HL.out (by rintro rfl;have:=HN.out;simp at this;omega)
    exact ⟨b,off,h1⟩
   obtain ⟨b,off,rfl⟩:=hA
   have h8c:(80:Int)<=(c:Int):=by omega
   have HQ:=qh (show (l.take 80).length=80 from by rw [List.length_take,<- HN.out];omega)
   go_wp2_with fail
   go_meet
   exact ⟨⟨c,by rw [HQ.out]⟩,rfl⟩
  ·have HQ:=qh (show (l.take 80).length=n from by rw [List.length_take,<- HN.out];omega)
   go_wp2_with fail
   go_meet
   exact ⟨⟨c,by rw [HQ.out]⟩,rfl⟩
 case rest=>
  obtain ⟨⟨c1,rfl⟩,rfl⟩:=hcut
  have HL2:=qh (HL.out.sub 80)
  obtain ⟨l2,hl2⟩:∃ l2,l2=l.take 80:=⟨_,rfl⟩
  obtain ⟨m,hm⟩:∃ m,m=l2.length:=⟨_,rfl⟩
  have m80:m<=80:=by rw [hm,hl2,List.length_take];omega
  rw [<- hl2] at HL2
  rw [<- hl2,<- hm]
  have HM:=qh hm
  clear hl2 hm hlm hlc e63 HL HN
  go_wp2_with fail
  refine (zAOj w1).mono ?_
  rintro e w2 ⟨x0,S0,rfl,h1,h2,h3⟩
  have H0:=qh (show Bk w w2 x0 S0 22 from h1.early HK1.out)
  obtain ⟨S1,S2,e1,e2,e3⟩:=SO.made h3 h2
  have E2:=Lib.hid e2
  have HSO:=Lib.hid e3
  have hb:=zlbX H0.out.b (by decide)
  rw [e1] at hb
  unfold ptrV at hb
  have HC:=qh hb
  clear h1 h2 h3 e1 e2 e3 hb
  unfold ptrV
  go_wp2_with fail
  refine HC.out.mono ?_
  rintro e w3 ⟨rfl,x3,h1,h2⟩
  have H3:=qh (show Bk w w3 x3 S1 23 from H0.out.to h1 h2)
  have HBK3:=qh (show x3.bk=x0.bk from h1.fix.bk)
  have hb:=zvJ4 H3.out.b (by decide)
  rw [E2.out] at hb
  unfold ptrV at hb
  rw [HBK3.out] at hb
  have HC2:=qh hb
  clear h1 h2 hb HC H0 E2
  go_wp2_with fail
  refine HC2.out.mono ?_
  rintro e w4 ⟨rfl,x4,h1,h2⟩
  have H4:=qh (show Bk w w4 x4 S2 24 from H3.out.to h1 h2)
  have HBK4:=qh (show x4.bk=x0.bk from h1.fix.bk.trans HBK3.out)
  clear h1 h2 HC2 H3 HBK3
  go_wp2_with (refine zNko rfl 43 rfl (bC (List.replicate 64 false)) zfWD ?_)
  intro gm w5 l5 m5 hb5 hk5
  have HM5:=qh hb5
  have H5:=qh (H4.out.keep0 hk5)
  have HLM:=qh (show w.heap.size<=gm from Nat.le_trans H4.out.k.size l5)
  clear hb5 hk5 l5 m5 H4
  go_wp2_with (refine zNko rfl 43 rfl (bC (List.replicate 64 false)) zfWD ?_)
  intro gk w6 l6 m6 hb6 hk6
  have HO:=qh (show OnAt w x0.bk gm gk 24 (List.replicate 64 false) (List.replicate 64 false) 0 0 w6 from ⟨x4,S2,24,H5.out.keep0 hk6,HBK4.out,Nat.le_refl _,HSO.out,hk6.heap HM5.out id,hb6⟩)
  have HLK:=qh (show w.heap.size<=gk/\gm≠gk from ⟨Nat.le_trans H5.out.k.size l6,by have:=zvKu HM5.out;omega⟩)
  clear hb6 hk6 l6 m6 H5 HM5 HBK4 HSO
  go_wp2_with fail
  go_loopw [6,7,8] (fun vc vd vi wr=>∃ (j:Nat) (mi ke:List Bool) (cn sv:Int),vi=.int .i64 j/\vc=.int .i64 cn/\vd=.int .i64 sv/\j<=m/\OnAt w x0.bk gm gk (24+10*j) mi ke cn sv wr) (fun _ _ i _=>m - (intOf i).toNat)
  case atStart=>exact ⟨0,_,_,_,_,rfl,rfl,rfl,Nat.zero_le _,HO.out⟩
  case round=>
   clear HO
   obtain ⟨j,mi,ke,cn,sv,rfl,rfl,rfl,hj,x,S,g,h1,h2,hg,h4,h5,h6⟩:=hrel
   have HB:=qh h1
   have HBK:=qh h2
   have HSO:=qh h4
   have HMI:=qh h5
   have HKE:=qh h6
   obtain ⟨c0,c32,d0',d32,lm,lk⟩:=h4.bound
   have HLN:=qh (⟨lm,lk⟩:mi.length=64/\ke.length=64)
   clear h1 h2 h4 h5 h6 lm lk
   by_cases hkm:j < m
   ·have i1:(j:Int) < m:=by omega
    obtain ⟨y,hy⟩:∃ y,l2[j]?=some y:=⟨_,List.getElem?_eq_getElem (by rw [<- HM.out];exact hkm)⟩
    obtain ⟨bA,oA,rfl,hrow⟩:=HL2.out (by rintro rfl;simp at hy)
    have HDW:=qh (hrow j y hy)
    have HD:=qh (show ∀ w',Kept (fun _=>False) w w'->w'.cell? ⟨bA,oA+j*3+1,none⟩=some (.int .i64 y.page)/\w'.cell? ⟨bA,oA+j*3+2,none⟩=some (.int .i64 y.which)/\w'.cell? ⟨bA,oA+j*3,none⟩=some (.int .i64 y.op) from fun w' hk=>by
     have tr:∀ o v,w.cell? ⟨bA,o,none⟩=some v->w'.cell? ⟨bA,o,none⟩=some v:=fun o v hv=>(World.cell?_of_block (hk.block bA (block_lt_of_cell hv) id)).trans hv
     exact ⟨tr _ _ (HDW.out 1 (by decide)),tr _ _ (HDW.out 2 (by decide)),tr _ _ (HDW.out 0 (by decide))⟩)
    have HP:=qh (fun w=>zkAP y.op 6 (by decide) w)
    obtain ⟨q0,q1⟩:=z1m9 (x:=y.op) (n:=6) (by decide)
    obtain ⟨op,hop⟩:∃ op,op=pickM y.op 6:=⟨_,rfl⟩
    rw [<- hop] at HP q0 q1
    obtain ⟨d1,d2,d3⟩:=HD.out wr HB.out.k
    clear hrow hy hop HDW
    go_wp2_with fail
    refine (HP.out _).mono ?_
    rintro e wx ⟨rfl,rfl⟩
    clear HP d2 d3
    by_cases hop0:op=0
    ·have HP2:=qh (fun w=>zkAP y.page 32 (by decide) w)
     obtain ⟨q2,q3⟩:=z1m9 (x:=y.page) (n:=32) (by decide)
     obtain ⟨pg,hpg⟩:∃ pg,pg=pickM y.page 32:=⟨_,rfl⟩
     rw [<- hpg] at HP2 q2 q3
     obtain ⟨q,hq⟩:∃ q:Nat,2+pg=q:=⟨(2+pg).toNat,by omega⟩
     have hq0:2<=q:=by omega
     have hq1:q < 34:=by omega
     clear hpg
     have HQ:=qh hq
     clear hq
     subst hop0
     go_wp2_with fail
     refine (HP2.out _).mono ?_
     rintro e wx ⟨rfl,rfl⟩
     clear HP2
     have hv:=HSO.out.give hq0 hq1
     have hb:=zCzr HB.out.b (by omega) (q:Int)
     unfold ptrV at hb
     rw [HBK.out] at hb
     obtain ⟨V,hV⟩:∃ V,V=S.give q:=⟨_,rfl⟩
     rw [<- hV] at hb hv
     obtain ⟨S1,e1⟩:=V
     dsimp only at hv
     have HV:=qh hv
     have HG:=qh hb
     clear hv hb hV
     go_wp2_with fail
     rw [HQ.out]
     refine HG.out.mono ?_
     rintro e w4 ⟨rfl,x4,h1,h2⟩
     have H4:=qh (show Bk w w4 x4 S1 (g+1) from HB.out.to h1 h2)
     have HBK4:=qh (show x4.bk=x0.bk from h1.fix.bk.trans HBK.out)
     have HM4:=qh (h1.k.heap HMI.out (HB.out.notB64 HMI.out))
     have HK4:=qh (h1.k.heap HKE.out (HB.out.notB64 HKE.out))
     clear h1 h2 HG HB HMI HKE
     rcases HV.out.2 with rfl | ⟨hx,hso⟩
     ·have HPU:=Lib.hid HV.out.1
      clear HV d1
      dsimp only
      obtain ⟨S5,S6,ea,eb,ec⟩:=HSO.out.undo HPU.out
      have EA:=Lib.hid ea
      have EB:=Lib.hid eb
      have ESO:=Lib.hid ec
      clear ea eb ec
      have hb:=zslo H4.out.b (by omega)
      rw [EA.out] at hb
      unfold ptrV at hb
      rw [HBK4.out] at hb
      have HCL:=qh hb
      clear hb
      go_wp2_with fail
      refine HCL.out.mono ?_
      rintro e w5 ⟨rfl,x5,h1,h2⟩
      have H5:=qh (show Bk w w5 x5 S5 (g+1+1) from H4.out.to h1 h2)
      have HBK5:=qh (show x5.bk=x0.bk from h1.fix.bk.trans HBK4.out)
      have HM5:=qh (h1.k.heap HM4.out (H4.out.notB64 HM4.out))
      have HK5:=qh (h1.k.heap HK4.out (H4.out.notB64 HK4.out))
      clear h1 h2 HCL
      have hb:=zvJ4 H5.out.b (by omega)
      rw [EB.out] at hb
      unfold ptrV at hb
      rw [HBK5.out] at hb
      have HCL:=qh hb
      clear hb
      go_wp2_with fail
      refine HCL.out.mono ?_
      rintro e w6 ⟨rfl,x6,h1,h2⟩
      have H6:=qh (show Bk w w6 x6 S6 (g+1+1+1) from H5.out.to h1 h2)
      have HBK6:=qh (show x6.bk=x0.bk from h1.fix.bk.trans HBK5.out)
      have HM6:=qh (h1.k.heap HM5.out (H5.out.notB64 HM5.out))
      have HK6:=qh (h1.k.heap HK5.out (H5.out.notB64 HK5.out))
      clear h1 h2 HCL
      have NM:=qh (H6.out.notB64 HM6.out)
      clear H5 HM5 HK5
      have zk:(bC ke).size=64:=by rw [z27C,HLN.out.2]
      go_wp2_with (refine zFcC rfl 43 _ rfl gk rfl (bC ke) HK6.out Tryz.underlying43 rfl (by rw [zuOD,z27C,HLN.out.2]) ?_)
      clear zk
      refine zos1 gm (bC ke) (bC mi) HM6.out (by rw [z27C,z27C,HLN.out.2,HLN.out.1]) (zEWN _) ?_
      intro w7 hb7 hk7
      have HO:=qh (show OnAt w x0.bk gm gk (24+10*(j+1)) ke ke sv sv w7 from ⟨x6,S6,g+1+1+1,H6.out.keep hk7 (fun z hz=>by subst hz;exact HLM.out) (fun z hz e=>NM.out (by rw [<- e];exact hz)),HBK6.out,by omega,ESO.out,hb7,hk7.heap HK6.out (fun e=>HLK.out.2 e.symm)⟩)
      clear hb7 hk7 H6 HM6 HK6
      go_wp2_with fail
      case roundEnd=>
       refine ⟨⟨j+1,ke,ke,sv,sv,by simp,rfl,rfl,by omega,HO.out⟩,?_⟩
       simp only [intOf]
       omega
     ·have HSO4:=qh hso
      have cm:w4.cell? ⟨gm,q,none⟩=some (.bool (mi.getD q false)):=zcjX HM4.out (zO01 (by rw [HLN.out.1];omega))
      clear hso HV d1 HSO
      dsimp only
      rcases hx with ⟨hx,rfl⟩ | ⟨hx,rfl⟩
      ·rw [hx] at cm HSO4
       have hc1:=HSO4.out.bound
       rw [if_pos rfl] at HSO4 hc1
       have e3:wrap64 (cn - 1)=cn - 1:=by unfold wrap64;omega
       clear hx
       go_wp2_with (refine z2q7 rfl _ _ _ rfl gm q (.bool false) (bC mi) rfl rfl HM4.out (by kernel_rfl) (by rw [z27C,HLN.out.1];omega) rfl ?_)
       intro w5 hb5 hk5
       have NM:=qh (H4.out.notB64 HM4.out)
       have H5:=qh (show Bk w w5 x4 S1 (g+1) from H4.out.keep hk5 (fun z hz=>by subst hz;exact HLM.out) (fun z hz e=>NM.out (by rw [<- e];exact hz)))
       have HM5:=qh (show w5.heap[gm]?=some (.cells (bC (mi.set q false)) 43 (0,0)) from by rw [<- zYiC];exact hb5)
       have HK5:=qh (hk5.heap HK4.out (fun e=>HLK.out.2 e.symm))
       clear hb5 hk5 H4 HM4 HK4
       have hb:=znV8 H5.out.b
       unfold zpmK at hb
       rw [HSO4.out.free] at hb
       unfold ptrV at hb
       rw [HBK4.out] at hb
       have HFR:=qh hb
       have eF:wrap64 (32 - (cn - 1))=32 - (cn - 1):=by unfold wrap64;omega
       clear hb
       go_wp2_with fail
       refine HFR.out.mono ?_
       rintro e wf ⟨rfl,xf,h1,h2⟩
       have HO:=qh (show OnAt w x0.bk gm gk (24+10*(j+1)) (mi.set q false) ke (cn - 1) sv wf from ⟨xf,S1,g+1,H5.out.to h1 h2,h1.fix.bk.trans HBK4.out,by omega,HSO4.out,h1.k.heap HM5.out (H5.out.notB64 HM5.out),h1.k.heap HK5.out (H5.out.notB64 HK5.out)⟩)
       clear h1 h2 HFR
       go_wp2_with fail
       case roundEnd=>
        refine ⟨⟨j+1,(mi.set q false),ke,(cn - 1),sv,by simp,rfl,rfl,by omega,HO.out⟩,?_⟩
        simp only [intOf]
        omega
      ·rw [hx] at cm HSO4
       rw [if_neg (by decide),Int.sub_zero] at HSO4
       clear hx
       go_wp2_with (refine z2q7 rfl _ _ _ rfl gm q (.bool false) (bC mi) rfl rfl HM4.out (by kernel_rfl) (by rw [z27C,HLN.out.1];omega) rfl ?_)
       intro w5 hb5 hk5
       have NM:=qh (H4.out.notB64 HM4.out)
       have H5:=qh (show Bk w w5 x4 S1 (g+1) from H4.out.keep hk5 (fun z hz=>by subst hz;exact HLM.out) (fun z hz e=>NM.out (by rw [<- e];exact hz)))
       have HM5:=qh (show w5.heap[gm]?=some (.cells (bC (mi.set q false)) 43 (0,0)) from by rw [<- zYiC];exact hb5)
       have HK5:=qh (hk5.heap HK4.out (fun e=>HLK.out.2 e.symm))
       clear hb5 hk5 H4 HM4 HK4
       have hb:=znV8 H5.out.b
       unfold zpmK at hb
       rw [HSO4.out.free] at hb
       unfold ptrV at hb
       rw [HBK4.out] at hb
       have HFR:=qh hb
       have eF:wrap64 (32 - cn)=32 - cn:=by unfold wrap64;omega
       clear hb
       go_wp2_with fail
       refine HFR.out.mono ?_
       rintro e wf ⟨rfl,xf,h1,h2⟩
       have HO:=qh (show OnAt w x0.bk gm gk (24+10*(j+1)) (mi.set q false) ke cn sv wf from ⟨xf,S1,g+1,H5.out.to h1 h2,h1.fix.bk.trans HBK4.out,by omega,HSO4.out,h1.k.heap HM5.out (H5.out.notB64 HM5.out),h1.k.heap HK5.out (H5.out.notB64 HK5.out)⟩)
       clear h1 h2 HFR
       go_wp2_with fail
       case roundEnd=>
        refine ⟨⟨j+1,(mi.set q false),ke,cn,sv,by simp,rfl,rfl,by omega,HO.out⟩,?_⟩
        simp only [intOf]
        omega
    ·by_cases hop1:op=1
     ·subst hop1
      obtain ⟨-,d2,-⟩:=HD.out wr HB.out.k
      by_cases hw:y.which.tmod 2=0
      ·obtain ⟨S5,S6,ea,eb,ec⟩:=HSO.out.keep
       have EA:=Lib.hid ea
       have EB:=Lib.hid eb
       have ESO:=Lib.hid ec
       clear ea eb ec d1
       have hb:=zlbX HB.out.b (by omega)
       rw [EA.out] at hb
       unfold ptrV at hb
       rw [HBK.out] at hb
       have HCL:=qh hb
       clear hb
       go_wp2_with fail
       refine HCL.out.mono ?_
       rintro e w5 ⟨rfl,x5,h1,h2⟩
       have H5:=qh (show Bk w w5 x5 S5 (g+1) from HB.out.to h1 h2)
       have HBK5:=qh (show x5.bk=x0.bk from h1.fix.bk.trans HBK.out)
       have HM5:=qh (h1.k.heap HMI.out (HB.out.notB64 HMI.out))
       have HK5:=qh (h1.k.heap HKE.out (HB.out.notB64 HKE.out))
       clear h1 h2 HCL
       have NK:=qh (H5.out.notB64 HK5.out)
       clear HB HMI HKE d2
       have zk:(bC mi).size=64:=by rw [z27C,HLN.out.1]
       go_wp2_with (refine zFcC rfl 43 _ rfl gm rfl (bC mi) HM5.out Tryz.underlying43 rfl (by rw [zuOD,z27C,HLN.out.1]) ?_)
       clear zk
       refine zos1 gk (bC mi) (bC ke) HK5.out (by rw [z27C,z27C,HLN.out.1,HLN.out.2]) (zEWN _) ?_
       intro w7 hb7 hk7
       have H7:=qh (show Bk w w7 x5 S5 (g+1) from H5.out.keep hk7 (fun z hz=>by subst hz;exact HLK.out.1) (fun z hz e=>NK.out (by rw [<- e];exact hz)))
       have HK7:=qh (show w7.heap[gk]?=some (.cells (bC mi) 43 (0,0)) from hb7)
       have HM7:=qh (hk7.heap HM5.out (fun e=>HLK.out.2 e))
       clear hb7 hk7 H5 HM5 HK5
       have hb:=zvJ4 H7.out.b (by omega)
       rw [EB.out] at hb
       unfold ptrV at hb
       rw [HBK5.out] at hb
       have HCL:=qh hb
       clear hb
       go_wp2_with fail
       refine HCL.out.mono ?_
       rintro e w6 ⟨rfl,x6,h1,h2⟩
       have H6:=qh (show Bk w w6 x6 S6 (g+1+1) from H7.out.to h1 h2)
       have HBK6:=qh (show x6.bk=x0.bk from h1.fix.bk.trans HBK5.out)
       have HM6:=qh (h1.k.heap HM7.out (H7.out.notB64 HM7.out))
       have HK6:=qh (h1.k.heap HK7.out (H7.out.notB64 HK7.out))
       clear h1 h2 HCL
       clear H7 HM7 HK7
       have hb:=znV8 H6.out.b
       unfold zpmK at hb
       rw [ESO.out.free] at hb
       unfold ptrV at hb
       rw [HBK6.out] at hb
       have HFR:=qh hb
       have eF:wrap64 (32 - cn)=32 - cn:=by unfold wrap64;omega
       clear hb
       go_wp2_with fail
       refine HFR.out.mono ?_
       rintro e wf ⟨rfl,xf,h1,h2⟩
       have HO:=qh (show OnAt w x0.bk gm gk (24+10*(j+1)) mi mi cn cn wf from ⟨xf,S6,g+1+1,H6.out.to h1 h2,h1.fix.bk.trans HBK6.out,by omega,ESO.out,h1.k.heap HM6.out (H6.out.notB64 HM6.out),h1.k.heap HK6.out (H6.out.notB64 HK6.out)⟩)
       clear h1 h2 HFR
       go_wp2_with fail
       case roundEnd=>
        refine ⟨⟨j+1,mi,mi,cn,cn,by simp,rfl,rfl,by omega,HO.out⟩,?_⟩
        simp only [intOf]
        omega
      ·obtain ⟨S5,S6,ea,eb,ec⟩:=HSO.out.undo (Puts.refl S)
       have EA:=Lib.hid ea
       have EB:=Lib.hid eb
       have ESO:=Lib.hid ec
       clear ea eb ec d1
       have hb:=zslo HB.out.b (by omega)
       rw [EA.out] at hb
       unfold ptrV at hb
       rw [HBK.out] at hb
       have HCL:=qh hb
       clear hb
       go_wp2_with fail
       refine HCL.out.mono ?_
       rintro e w5 ⟨rfl,x5,h1,h2⟩
       have H5:=qh (show Bk w w5 x5 S5 (g+1) from HB.out.to h1 h2)
       have HBK5:=qh (show x5.bk=x0.bk from h1.fix.bk.trans HBK.out)
       have HM5:=qh (h1.k.heap HMI.out (HB.out.notB64 HMI.out))
       have HK5:=qh (h1.k.heap HKE.out (HB.out.notB64 HKE.out))
       clear h1 h2 HCL
       have NM:=qh (H5.out.notB64 HM5.out)
       clear HB HMI HKE d2
       have zk:(bC ke).size=64:=by rw [z27C,HLN.out.2]
       go_wp2_with (refine zFcC rfl 43 _ rfl gk rfl (bC ke) HK5.out Tryz.underlying43 rfl (by rw [zuOD,z27C,HLN.out.2]) ?_)
       clear zk
       refine zos1 gm (bC ke) (bC mi) HM5.out (by rw [z27C,z27C,HLN.out.2,HLN.out.1]) (zEWN _) ?_
       intro w7 hb7 hk7
       have H7:=qh (show Bk w w7 x5 S5 (g+1) from H5.out.keep hk7 (fun z hz=>by subst hz;exact HLM.out) (fun z hz e=>NM.out (by rw [<- e];exact hz)))
       have HM7:=qh (show w7.heap[gm]?=some (.cells (bC ke) 43 (0,0)) from hb7)
       have HK7:=qh (hk7.heap HK5.out (fun e=>HLK.out.2 e.symm))
       clear hb7 hk7 H5 HM5 HK5
       have hb:=zvJ4 H7.out.b (by omega)
       rw [EB.out] at hb
       unfold ptrV at hb
       rw [HBK5.out] at hb
       have HCL:=qh hb
       clear hb
       go_wp2_with fail
       refine HCL.out.mono ?_
       rintro e w6 ⟨rfl,x6,h1,h2⟩
       have H6:=qh (show Bk w w6 x6 S6 (g+1+1) from H7.out.to h1 h2)
       have HBK6:=qh (show x6.bk=x0.bk from h1.fix.bk.trans HBK5.out)
       have HM6:=qh (h1.k.heap HM7.out (H7.out.notB64 HM7.out))
       have HK6:=qh (h1.k.heap HK7.out (H7.out.notB64 HK7.out))
       clear h1 h2 HCL
       clear H7 HM7 HK7
       have hb:=znV8 H6.out.b
       unfold zpmK at hb
       rw [ESO.out.free] at hb
       unfold ptrV at hb
       rw [HBK6.out] at hb
       have HFR:=qh hb
       have eF:wrap64 (32 - sv)=32 - sv:=by unfold wrap64;omega
       clear hb
       go_wp2_with fail
       refine HFR.out.mono ?_
       rintro e wf ⟨rfl,xf,h1,h2⟩
       have HO:=qh (show OnAt w x0.bk gm gk (24+10*(j+1)) ke ke sv sv wf from ⟨xf,S6,g+1+1,H6.out.to h1 h2,h1.fix.bk.trans HBK6.out,by omega,ESO.out,h1.k.heap HM6.out (H6.out.notB64 HM6.out),h1.k.heap HK6.out (H6.out.notB64 HK6.out)⟩)
       clear h1 h2 HFR
       go_wp2_with fail
       case roundEnd=>
        refine ⟨⟨j+1,ke,ke,sv,sv,by simp,rfl,rfl,by omega,HO.out⟩,?_⟩
        simp only [intOf]
        omega
     ·have hv:=HSO.out.take
      have hb:=zSDl HB.out.b (by omega)
      unfold zo0G at hb
      unfold ptrV at hb
      rw [HBK.out] at hb
      obtain ⟨V,hV⟩:∃ V,V=S.take:=⟨_,rfl⟩
      rw [<- hV] at hb hv
      obtain ⟨S4,v4,e4⟩:=V
      dsimp only at hv
      have HV:=qh hv
      have HG:=qh hb
      clear hv hb hV d1
      go_wp2_with fail
      refine HG.out.mono ?_
      rintro e w4 ⟨rfl,x4,h1,h2⟩
      have H4:=qh (show Bk w w4 x4 S4 (g+2) from HB.out.to h1 h2)
      have HBK4:=qh (show x4.bk=x0.bk from h1.fix.bk.trans HBK.out)
      have HM4:=qh (h1.k.heap HMI.out (HB.out.notB64 HMI.out))
      have HK4:=qh (h1.k.heap HKE.out (HB.out.notB64 HKE.out))
      clear h1 h2 HG HB HMI HKE
      rcases HV.out.2 with ⟨rfl,hso⟩ | ⟨rfl,q,rfl,hq0,hq1,hmq,hc32,hnow,hso⟩
      ·have HSO4:=qh hso
       have HPU:=Lib.hid HV.out.1
       clear hso HV
       dsimp only
       by_cases hc:cn < 32
       ·clear HSO4
        obtain ⟨S5,S6,ea,eb,ec⟩:=HSO.out.undo HPU.out
        have EA:=Lib.hid ea
        have EB:=Lib.hid eb
        have ESO:=Lib.hid ec
        clear ea eb ec
        have hb:=zslo H4.out.b (by omega)
        rw [EA.out] at hb
        unfold ptrV at hb
        rw [HBK4.out] at hb
        have HCL:=qh hb
        clear hb
        go_wp2_with fail
        refine HCL.out.mono ?_
        rintro e w5 ⟨rfl,x5,h1,h2⟩
        have H5:=qh (show Bk w w5 x5 S5 (g+2+1) from H4.out.to h1 h2)
        have HBK5:=qh (show x5.bk=x0.bk from h1.fix.bk.trans HBK4.out)
        have HM5:=qh (h1.k.heap HM4.out (H4.out.notB64 HM4.out))
        have HK5:=qh (h1.k.heap HK4.out (H4.out.notB64 HK4.out))
        clear h1 h2 HCL
        have hb:=zvJ4 H5.out.b (by omega)
        rw [EB.out] at hb
        unfold ptrV at hb
        rw [HBK5.out] at hb
        have HCL:=qh hb
        clear hb
        go_wp2_with fail
        refine HCL.out.mono ?_
        rintro e w6 ⟨rfl,x6,h1,h2⟩
        have H6:=qh (show Bk w w6 x6 S6 (g+2+1+1) from H5.out.to h1 h2)
        have HBK6:=qh (show x6.bk=x0.bk from h1.fix.bk.trans HBK5.out)
        have HM6:=qh (h1.k.heap HM5.out (H5.out.notB64 HM5.out))
        have HK6:=qh (h1.k.heap HK5.out (H5.out.notB64 HK5.out))
        clear h1 h2 HCL
        have NM:=qh (H6.out.notB64 HM6.out)
        clear H5 HM5 HK5
        have zk:(bC ke).size=64:=by rw [z27C,HLN.out.2]
        go_wp2_with (refine zFcC rfl 43 _ rfl gk rfl (bC ke) HK6.out Tryz.underlying43 rfl (by rw [zuOD,z27C,HLN.out.2]) ?_)
        clear zk
        refine zos1 gm (bC ke) (bC mi) HM6.out (by rw [z27C,z27C,HLN.out.2,HLN.out.1]) (zEWN _) ?_
        intro w7 hb7 hk7
        have HO:=qh (show OnAt w x0.bk gm gk (24+10*(j+1)) ke ke sv sv w7 from ⟨x6,S6,g+2+1+1,H6.out.keep hk7 (fun z hz=>by subst hz;exact HLM.out) (fun z hz e=>NM.out (by rw [<- e];exact hz)),HBK6.out,by omega,ESO.out,hb7,hk7.heap HK6.out (fun e=>HLK.out.2 e.symm)⟩)
        clear hb7 hk7 H6 HM6 HK6
        go_wp2_with fail
        case roundEnd=>
         refine ⟨⟨j+1,ke,ke,sv,sv,by simp,rfl,rfl,by omega,HO.out⟩,?_⟩
         simp only [intOf]
         omega
       ·have hc2:cn=32:=by omega
        subst hc2
        clear HPU HSO
        have hb:=znV8 H4.out.b
        unfold zpmK at hb
        rw [HSO4.out.free] at hb
        unfold ptrV at hb
        rw [HBK4.out] at hb
        have HFR:=qh hb
        have eF:wrap64 (32 - 32)=32 - 32:=by unfold wrap64;omega
        clear hb
        go_wp2_with fail
        refine HFR.out.mono ?_
        rintro e wf ⟨rfl,xf,h1,h2⟩
        have HO:=qh (show OnAt w x0.bk gm gk (24+10*(j+1)) mi ke 32 sv wf from ⟨xf,S4,g+2,H4.out.to h1 h2,h1.fix.bk.trans HBK4.out,by omega,HSO4.out,h1.k.heap HM4.out (H4.out.notB64 HM4.out),h1.k.heap HK4.out (H4.out.notB64 HK4.out)⟩)
        clear h1 h2 HFR
        go_wp2_with fail
        case roundEnd=>
         refine ⟨⟨j+1,mi,ke,32,sv,by simp,rfl,rfl,by omega,HO.out⟩,?_⟩
         simp only [intOf]
         omega
      ·have HSO4:=qh hso
       have HNO:=qh hnow
       have cm:w4.cell? ⟨gm,q,none⟩=some (.bool false):=by
        have:=zcjX HM4.out (zO01 (l:=mi) (k:=q) (by rw [HLN.out.1];omega))
        rw [hmq] at this
        exact this
       have g1:¬ (q:Int) < 2:=by omega
       have g2:¬ (33:Int) < q:=by omega
       clear hso hnow HV HSO hmq
       dsimp only
       have hb:=zqnz H4.out.b (q:Int)
       unfold ptrV at hb
       rw [HBK4.out] at hb
       have HPG:=qh hb
       clear hb
       go_wp2_with fail
       refine HPG.out.mono ?_
       rintro e w5 ⟨x5,h1,h2,⟨h3,-⟩ | ⟨-,yb,cb,hl,rfl,ho,hn⟩⟩
       ·exfalso
        have:=HSO4.out.p
        omega
       have H5:=qh (show Bk w w5 x5 S4 (g+2) from H4.out.to h1 h2)
       have HBK5:=qh (show x5.bk=x0.bk from h1.fix.bk.trans HBK4.out)
       have HM5:=qh (h1.k.heap HM4.out (H4.out.notB64 HM4.out))
       have HK5:=qh (h1.k.heap HK4.out (H4.out.notB64 HK4.out))
       rw [HNO.out] at ho
       have HO5:=qh (ho.low H4.out.k.size)
       have HNY:=qh hn
       clear h1 h2 hl ho hn HPG H4 HM4 HK4 cm
       have hbk:x5.bk=x0.bk:=HBK5.out
       have HLY:=qh (show w.heap.size<=yb from HO5.out.base_le)
       clear hbk
       go_wp2_with fail
       refine zWMS 512 (by decide) ?_
       intro gz w6 l6 hb6 hk6
       have H6:=qh (H5.out.keep0 hk6)
       have HM6:=qh (hk6.heap HM5.out id)
       have HK6:=qh (hk6.heap HK5.out id)
       have HO6:=qh (HO5.out.kept hk6)
       have hsm:=ziyj (some ⟨yb,0,none⟩) (some ⟨gz,0,none⟩) cb 512 (zeros 512) (zeros 512) w6 HO6.out.v.rd (RdB.of_blk hb6) (by rw [zrlC];decide)
       rw [zrlC,decide_eq_true rfl] at hsm
       have HSM:=qh hsm
       clear hsm l6 hb6 hk6 H5 HM5 HK5 HO5
       go_wp2_with fail
       refine HSM.out.mono ?_
       rintro e w7 ⟨rfl,hsame⟩
       have hk7:Kept (fun _=>False) w6 w7:=hsame.kept _
       have H7:=qh (H6.out.keep0 hk7)
       have HM7:=qh (hk7.heap HM6.out id)
       have HK7:=qh (hk7.heap HK6.out id)
       have HO7:=qh (HO6.out.kept hk7)
       clear hk7 hsame HSM H6 HM6 HK6 HO6
       go_wp2_with (refine z2q7 rfl _ _ _ rfl gm q (.bool true) (bC mi) rfl rfl HM7.out (by kernel_rfl) (by rw [z27C,HLN.out.1];omega) rfl ?_)
       intro w8 hb8 hk8
       have NM:=qh (H7.out.notB64 HM7.out)
       have H8:=qh (show Bk w w8 x5 S4 (g+2) from H7.out.keep hk8 (fun z hz=>by subst hz;exact HLM.out) (fun z hz e=>NM.out (by rw [<- e];exact hz)))
       have HM8:=qh (show w8.heap[gm]?=some (.cells (bC (mi.set q true)) 43 (0,0)) from by rw [<- zYiC];exact hb8)
       have HK8:=qh (hk8.heap HK7.out (fun e=>HLK.out.2 e.symm))
       have HO8:=qh (HO7.out.keep hk8 (fun e=>by
        obtain ⟨cur,-,hh,-⟩:=HO7.out.form
        rw [e,HM7.out] at hh
        injection hh with hh
        injection hh with _ h2 _
        exact absurd h2 (by decide)))
       clear hb8 hk8 H7 HM7 HK7 HO7 NM
       have HP3:=qh (fun w=>zkAP y.which 512 (by decide) w)
       obtain ⟨r0,r1⟩:=z1m9 (x:=y.which) (n:=512) (by decide)
       obtain ⟨pv,hpv⟩:∃ pv,pv=pickM y.which 512:=⟨_,rfl⟩
       rw [<- hpv] at HP3 r0 r1
       obtain ⟨pn,rfl⟩:∃ pn:Nat,pv=pn:=⟨pv.toNat,by omega⟩
       obtain ⟨-,d2,-⟩:=HD.out w8 H8.out.k
       have e4:wrap64 (cn+1)=cn+1:=by unfold wrap64;omega
       clear hpv
       go_wp2_with fail
       refine (HP3.out _).mono ?_
       rintro e wx ⟨rfl,rfl⟩
       clear HP3 d2
       go_wp2_with (refine zrDA rfl _ _ _ rfl (by kernel_rfl) _ yb cb (zeros 512) pn 7 7 rfl rfl rfl HO8.out (by rw [zrlC];omega) ?_)
       intro w9 ho9 hk9
       have NY:=qh (show gm≠yb/\gk≠yb from by
        obtain ⟨cur,-,hh,-⟩:=HO8.out.form
        refine ⟨fun e=>?_,fun e=>?_⟩
        ·rw [<- e,HM8.out] at hh
         injection hh with hh
         injection hh with _ h2 _
         exact absurd h2 (by decide)
        ·rw [<- e,HK8.out] at hh
         injection hh with hh
         injection hh with _ h2 _
         exact absurd h2 (by decide))
       have H9:=qh (show Bk w w9 x5 S4 (g+2) from H8.out.keep hk9 (fun z hz=>by subst hz;exact HLY.out) (fun z hz e=>HNY.out (by rw [<- e];exact hz)))
       have HM9:=qh (hk9.heap HM8.out NY.out.1)
       have HK9:=qh (hk9.heap HK8.out NY.out.2)
       have hdl:((zeros 512).set pn 7).length=512:=by rw [List.length_set,zrlC]
       have hb:=zvUq H9.out.b (by omega) (q:Int) (some ⟨yb,0,none⟩) cb ((zeros 512).set pn 7) ho9.v.rd (fun b o e hb hK=>by cases e;exact HNY.out hK) ho9.ltE.2.1 ho9.ltE.2.2 (by rw [hdl];decide) (by unfold isI;omega)
       have hv:=HSO4.out.put hq0 hq1 hdl
       rw [hdl] at hb
       unfold ptrV at hb
       rw [HBK5.out] at hb
       obtain ⟨V,hV⟩:∃ V,V=S4.put q ((zeros 512).set pn 7):=⟨_,rfl⟩
       rw [<- hV] at hb hv
       obtain ⟨S9,e9⟩:=V
       dsimp only at hv
       have HPT:=qh hb
       have HSO9:=qh hv.2
       have he9:=hv.1
       clear hb hv hV hdl ho9 hk9 H8 HM8 HK8 HO8 HSO4 NY
       go_wp2_with fail
       refine HPT.out.mono ?_
       rintro e wt ⟨rfl,xt,h1,h2⟩
       have HT:=qh (show Bk w wt xt S9 (g+2+1) from H9.out.to h1 h2)
       have HBKT:=qh (show xt.bk=x0.bk from h1.fix.bk.trans HBK5.out)
       have HMT:=qh (h1.k.heap HM9.out (H9.out.notB64 HM9.out))
       have HKT:=qh (h1.k.heap HK9.out (H9.out.notB64 HK9.out))
       clear h1 h2 HPT H9 HM9 HK9
       dsimp only
       rcases he9 with rfl | rfl
       ·skip
        have hb:=znV8 HT.out.b
        unfold zpmK at hb
        rw [HSO9.out.free] at hb
        unfold ptrV at hb
        rw [HBKT.out] at hb
        have HFR:=qh hb
        have eF:wrap64 (32 - (cn+1))=32 - (cn+1):=by unfold wrap64;omega
        clear hb
        go_wp2_with fail
        refine HFR.out.mono ?_
        rintro e wf ⟨rfl,xf,h1,h2⟩
        have HO:=qh (show OnAt w x0.bk gm gk (24+10*(j+1)) (mi.set q true) ke (cn+1) sv wf from ⟨xf,S9,g+2+1,HT.out.to h1 h2,h1.fix.bk.trans HBKT.out,by omega,HSO9.out,h1.k.heap HMT.out (HT.out.notB64 HMT.out),h1.k.heap HKT.out (HT.out.notB64 HKT.out)⟩)
        clear h1 h2 HFR
        go_wp2_with fail
        case roundEnd=>
         refine ⟨⟨j+1,(mi.set q true),ke,(cn+1),sv,by simp,rfl,rfl,by omega,HO.out⟩,?_⟩
         simp only [intOf]
         omega
       ·skip
        have hb:=znV8 HT.out.b
        unfold zpmK at hb
        rw [HSO9.out.free] at hb
        unfold ptrV at hb
        rw [HBKT.out] at hb
        have HFR:=qh hb
        have eF:wrap64 (32 - (cn+1))=32 - (cn+1):=by unfold wrap64;omega
        clear hb
        go_wp2_with fail
        refine HFR.out.mono ?_
        rintro e wf ⟨rfl,xf,h1,h2⟩
        have HO:=qh (show OnAt w x0.bk gm gk (24+10*(j+1)) (mi.set q true) ke (cn+1) sv wf from ⟨xf,S9,g+2+1,HT.out.to h1 h2,h1.fix.bk.trans HBKT.out,by omega,HSO9.out,h1.k.heap HMT.out (HT.out.notB64 HMT.out),h1.k.heap HKT.out (HT.out.notB64 HKT.out)⟩)
        clear h1 h2 HFR
        go_wp2_with fail
        case roundEnd=>
         refine ⟨⟨j+1,(mi.set q true),ke,(cn+1),sv,by simp,rfl,rfl,by omega,HO.out⟩,?_⟩
         simp only [intOf]
         omega
   ·have i1:¬ (j:Int) < m:=by omega
    go_wp2
    go_ret
    exact ⟨rfl,HB.out.k⟩
end
end Go.Proofs.YtfgagakepmigbaaGreat
