/-
  No statement is proved here.
-/
import Derived.Test.YtfgagakepmigbaaGreatJSwd
import Derived.WalkMore
namespace Go.Proofs.YtfgagakepmigbaaGreat
open Go.RowKit
section
variable {w w' w1 w2:World} {x x1:BAdr} {S:BkA} {g:Nat}
theorem OwnB.ltE {w:World} {B y c:Nat} {l:Bytes} (h:OwnB w B y c l):y < w.heap.size/\l.length<=c/\c<=9223372036854775807:=by
 obtain ⟨cur,h1,h2,h3,h4,_⟩:=h.form
 exact ⟨zvKu h2,h3,h4⟩
theorem OwnB.tE {w:World} {B y c:Nat} {l:Bytes} (h:OwnB w B y c l):IsT w y 5:=by
 obtain ⟨cur,h1,h2,h3,h4,_⟩:=h.form
 exact ⟨_,_,h2⟩
theorem zFTr (h:BkW w x S g) (hg:g<=1000000000) (y c q B:Nat) (l:Bytes) (ho:OwnB w B y c l) (hl:l.length=512) (hn:¬ x.K y) (gb gp:Nat) (hgb:w.heap[gb]?=some (.cells #[ptrV x.bk] 24 (0,0))) (hgp:w.heap[gp]?=some (.cells #[.int .i64 q] 3 (0,0))) (hq:q<=100000) (_hB:∀ z,z < B->z≠y) :
  Calls Tryz.prog 36 #[.slice (some ⟨y,0,none⟩) 512 c,.int .i64 ((q % 4096 / 8:Nat):Int),.int .u8 ((2 ^ (q % 8):Nat):Int),.pointer (some ⟨gb,0,none⟩),.pointer (some ⟨gp,0,none⟩)] w
   fun e w'=>e=.returned (.int .i64 (S.put (mapP q) (clrP l (q % 4096))).2)/\∃ x',BkW w' x' (S.put (mapP q) (clrP l (q % 4096))).1 (g+1)/\x.Fix x'/\Kept (fun z=>x.K z\/z=y) w w'/\∀ z,x'.K z->x.K z\/w.heap.size<=z:=by
 have hi8:q % 4096 / 8 < 512:=by omega
 have i1:((q % 4096 / 8:Nat):Int) < 512:=by omega
 have hb:=zn2t (bAt l (q % 4096 / 8)) (j:=q % 8) (by omega)
 have ec:clrP l (q % 4096)=l.set (q % 4096 / 8) (andnB (bAt l (q % 4096 / 8)) (q % 8)):=by unfold clrP;rw [show q % 4096 % 8=q % 8 by omega]
 rw [ec]
 obtain ⟨P2,hP2⟩:∃ P2:Int,P2=((2 ^ (q % 8):Nat):Int):=⟨_,rfl⟩
 rw [<- hP2] at hb ⊢
 obtain ⟨i,hi⟩:∃ i,i=q % 4096 / 8:=⟨_,rfl⟩
 rw [<- hi] at hi8 i1 hb ⊢
 obtain ⟨z,hz⟩:∃ z,z=andnB (bAt l i) (q % 8):=⟨_,rfl⟩
 rw [<- hz] at hb ⊢
 have c0:=ho.cellAt (i:=i) (by rw [hl];exact hi8)
 have HO:=qh ho
 have HL:=qh hl
 have H:=qh h
 have HN:=qh hn
 have HGB:=qh hgb
 have HGP:=qh hgp
 have em:mapP q=1+(q:Int) / 4096:=by unfold mapP;omega
 have HE:=Lib.hid em
 have i2:0<=(q:Int):=by omega
 have i3:(q:Int)<=100000:=by omega
 clear h ho hl hn hgb hgp em hP2 hi hz ec
 go_enter Tryz.func36,Tryz.ntmps36
 go_wp2_with (refine zrDA rfl _ _ _ rfl (by kernel_rfl) B y c l i z _ rfl rfl (by first | rfl | exact hb) HO.out (by rw [HL.out];exact hi8) ?_)
 intro w2 ho2 hk2
 have HO2:=qh ho2
 have HK2:=qh hk2
 have H2:=qh (BkW.keep H.out hk2 (fun u hu e=>HN.out (by rw [<- e];exact hu)))
 have hgb2:=hk2.heap HGB.out (fun e=>(show IsT w gb 24 from ⟨_,_,HGB.out⟩).ne HO.out.tE (by decide) e)
 have hgp2:=hk2.heap HGP.out (fun e=>(show IsT w gp 3 from ⟨_,_,HGP.out⟩).ne HO.out.tE (by decide) e)
 have d0:w2.cell? ⟨gb,0,none⟩=some (.pointer (some ⟨x.bk,0,none⟩)):=zcjX hgb2 rfl
 have d1:w2.cell? ⟨gp,0,none⟩=some (.int .i64 q):=zcjX hgp2 rfl
 have HP:=qh (show Calls Tryz.prog 25 #[.pointer (some ⟨x.bk,0,none⟩),.int .i64 (1+(q:Int) / 4096),.slice (some ⟨y,0,none⟩) 512 c] w2 (APost w2 x (S.put (mapP q) (l.set i z)) (g+1)) from by
  have:=zvUq H2.out hg (mapP q) (some ⟨y,0,none⟩) c (l.set i z) HO2.out.v.rd (fun b o e hb hK=>by cases e;exact HN.out hK) HO2.out.ltE.2.1 HO2.out.ltE.2.2 (by rw [List.length_set,HL.out];decide) (by rw [HE.out];unfold isI;omega)
  rw [List.length_set,HL.out,HE.out] at this
  rw [HE.out]
  exact this)
 clear ho2 hk2 hgb2 hgp2 c0 hb
 go_wp2_with fail
 refine HP.out.mono ?_
 rintro e w3 ⟨rfl,x3,h3,h4⟩
 have HX:=qh (⟨h3,h4⟩:BTo w2 x w3 x3/\BkW w3 x3 (S.put (mapP q) (l.set i z)).1 (g+1))
 obtain ⟨n,hn⟩:∃ n,n=(S.put (mapP q) (l.set i z)).2:=⟨_,rfl⟩
 have HNE:=qh hn
 rw [<- hn]
 clear h3 h4 HP hn
 go_wp2
 go_ret
 have hk:=HK2.out
 refine ⟨by rw [<- HNE.out];rfl,x3,HX.out.2,HX.out.1.fix,(hk.mono (fun u _ e=>Or.inr e)).trans (HX.out.1.k.mono (fun u _ h=>Or.inl h)) (fun _ _ h=>h),fun u hu=>?_⟩
 rcases HX.out.1.g u hu with r | r
 ·exact .inl r
 ·exact .inr (by have:=hk.size;omega)
set_option maxRecDepth 100000 in
set_option maxHeartbeats 1600000 in
theorem zCzr (h:BkW w x S g) (hg:g<=1000000000) (q:Int):Calls Tryz.prog 13 #[ptrV x.bk,.int .i64 q] w (APost w x (S.give q) (g+1)):=by
 obtain ⟨p0,p1⟩:=h.pg
 obtain ⟨POST,hPOST⟩:∃ POST,POST=APost w x (S.give q) (g+1):=⟨_,rfl⟩
 rw [<- hPOST]
 have HPO:=qh (show ∀ S' n w' x',S.give q=(S',n)->BTo w x w' x'->BkW w' x' S' (g+1)->POST (.returned (.int .i64 n)) w' from fun S' n w' x' h1 h2 h3=>by rw [hPOST,h1];exact ⟨rfl,x',h2,h3⟩)
 have HPG:=qh (show 10<=S.pages/\S.pages<=32766 from ⟨p0,p1⟩)
 have hmf:∀ (fn:Fn) (first cap:Array Value) (w:World),(Instr.makeFunc fn first cap).run Tryz.prog w=.ok (.func fn first cap) w:=fun _ _ _ _=>rfl
 have H:=qh h
 clear h hPOST p0 p1
 unfold ptrV
 go_enter Tryz.func13,Tryz.ntmps13
 go_wp2_with (refine znBH rfl 24 _ rfl (.pointer (some ⟨x.bk,0,none⟩)) rfl ?_)
 intro gb w1 l1 m1 hb1 hk1
 have HB1:=qh (show w1.heap[gb]?=some (.cells #[ptrV x.bk] 24 (0,0)) from hb1)
 have HK1:=qh hk1
 have HL1:=Lib.hid l1
 clear hb1 hk1 l1 m1
 go_wp2_with (refine znBH rfl 3 _ rfl (.int .i64 q) rfl ?_)
 intro gp w2 l2 m2 hb2 hk2
 have HP2:=qh (show w2.heap[gp]?=some (.cells #[.int .i64 q] 3 (0,0)) from hb2)
 have HB2:=qh (hk2.heap HB1.out id)
 have HK2:=qh (HK1.out.trans0 hk2)
 have HL2:=qh (show w.heap.size<=gb/\w.heap.size<=gp from ⟨HL1.out,by have:=HK1.out.size;omega⟩)
 clear hb2 hk2 l2 m2 HB1 HK1 HL1
 have H2:=qh (H.out.keep0 HK2.out)
 have d0:w2.cell? ⟨gb,0,none⟩=some (.pointer (some ⟨x.bk,0,none⟩)):=zcjX HB2.out rfl
 have HST:=qh (zjaJ H2.out)
 unfold ptrV at HST
 go_wp2_with fail
 refine HST.out.mono ?_
 rintro e wx ⟨rfl,rfl⟩
 clear HST
 by_cases hT:S.inT=true
 ·rw [if_pos hT]
  have HT:=qh hT
  have d1:w2.cell? ⟨gp,0,none⟩=some (.int .i64 q):=zcjX HP2.out rfl
  have HTK:=qh (z5xR H2.out q)
  unfold ptrV at HTK
  clear hT
  go_wp2_with fail
  refine HTK.out.mono ?_
  rintro e w3 ⟨rfl,x3,h3,h4⟩
  have HTO:=qh ((⟨.refl x,HK2.out.mono (fun _ _ h=>h.elim),fun z hz=>.inl hz⟩:BTo w x w2 x).trans h3)
  have H3:=qh h4
  have hbx:∀ z,x.K z->z≠gb/\z≠gp:=fun z hz=>by
   have:=H.out.lt hz
   have:=HL2.out
   omega
  have HB3:=qh (h3.k.heap HB2.out (fun hK=>(hbx gb hK).1 rfl))
  have HP3:=qh (h3.k.heap HP2.out (fun hK=>(hbx gp hK).2 rfl))
  have HBK:=qh (show x3.bk=x.bk from h3.fix.bk)
  have HK3:=qh h3
  clear h3 h4 d0 d1 HB2 HP2 HTK hbx
  obtain ⟨t,ht⟩:∃ t,t=(S.taken q).1:=⟨_,rfl⟩
  obtain ⟨n,hn⟩:∃ n,n=(S.taken q).2:=⟨_,rfl⟩
  rw [<- ht,<- hn]
  have HTN:=qh (⟨ht,hn⟩:t=(S.taken q).1/\n=(S.taken q).2)
  clear ht hn
  by_cases hh:hdrB S.now=false
  ·have e:S.taken q=(false,4):=by unfold BkA.taken;rw [if_pos hh]
   have HG:=qh (show S.give q=(S,4) from by unfold BkA.give;rw [if_neg (by rw [HT.out];decide),if_pos hh])
   have e1:t=false:=by rw [HTN.out.1,e]
   have e2:n=4:=by rw [HTN.out.2,e]
   subst e1
   subst e2
   clear e hh
   go_wp2
   exact HPO.out _ _ _ x3 HG.out HTO.out (H3.out.up (by omega))
  ·have e2:n=0:=by
    rw [HTN.out.2];unfold BkA.taken;rw [if_neg hh];split<;>rfl
   subst e2
   have HG:=qh (show S.give q=if t=false\/q < ownS S.pages then (S,2) else S.put (mapP q.toNat) (clrP (S.now (mapP q.toNat)) (q.toNat % 4096)) from by
    unfold BkA.give;rw [if_neg (by rw [HT.out];decide),if_neg hh,<- HTN.out.1])
   have d0:w3.cell? ⟨gb,0,none⟩=some (.pointer (some ⟨x.bk,0,none⟩)):=zcjX HB3.out rfl
   have d1:w3.cell? ⟨gp,0,none⟩=some (.int .i64 q):=zcjX HP3.out rfl
   have HOWN:=qh (fun (m:Nat)=>show Calls Tryz.prog 35 #[.pointer (some ⟨x.bk,0,none⟩)] (w3.drewN m) fun e w'=>e=.returned (.int .i64 (ownS S.pages))/\w'=w3.drewN m from by
    have:=zJh4 (H3.out.keep0 ((Kept.refl (fun _=>False) w3).drewN m))
    unfold ptrV at this
    rw [HBK.out] at this
    exact this.mono (fun _ _ h=>⟨h.1,h.2.symm⟩))
   obtain ⟨ow,how⟩:∃ ow,ow=ownS S.pages:=⟨_,rfl⟩
   rw [<- how] at HOWN HG
   have HOW:=qh how
   clear hh how
   cases t with
   | false=>
    have HG2:=qh (show S.give q=(S,2) from by rw [HG.out,if_pos (.inl rfl)])
    go_wp2
    go_quiet (first | (go_at_call 35;exact (HOWN.out _).mono (fun _ _ h=>⟨h.1,_,h.2⟩)))
    go_wp2
    exact HPO.out _ _ _ x3 HG2.out (HTO.out.keep0 ((Kept.refl _ _).drewN _)) ((H3.out.keep0 ((Kept.refl _ _).drewN _)).up (by omega))
   | true=>
    by_cases hlt:q < ow
    ·have HG2:=qh (show S.give q=(S,2) from by rw [HG.out,if_pos (.inr hlt)])
     have hd:decide (q < ow)=true:=by simpa using hlt
     go_wp2
     go_quiet (first | (go_at_call 35;exact (HOWN.out _).mono (fun _ _ h=>⟨h.1,_,h.2⟩)))
     go_wp2
     exact HPO.out _ _ _ x3 HG2.out (HTO.out.keep0 ((Kept.refl _ _).drewN _)) ((H3.out.keep0 ((Kept.refl _ _).drewN _)).up (by omega))
    ·have HG2:=qh (show S.give q=S.put (mapP q.toNat) (clrP (S.now (mapP q.toNat)) (q.toNat % 4096)) from by
      rw [HG.out,if_neg]
      rintro (e | e)
      ·cases e
      ·exact hlt e)
     have hd:decide (q < ow)=false:=by simpa using hlt
     have hqp:0<=q/\q < S.pages:=by
      have ht:=HTN.out.1
      unfold BkA.taken at ht
      by_cases c:hdrB S.now=false
      ·rw [if_pos c] at ht;cases ht
      ·rw [if_neg c] at ht
       by_cases c2:q < 0\/S.pages<=q
       ·rw [if_pos c2] at ht;cases ht
       ·omega
     have HQP:=qh hqp
     go_wp2
     go_quiet (first | (go_at_call 35;exact (HOWN.out _).mono (fun _ _ h=>⟨h.1,_,h.2⟩)))
     have HN4:=qh ((Kept.refl (fun _=>False) w3).drewN nq)
     obtain ⟨w4,hw4⟩:∃ w4,w4=w3.drewN nq:=⟨_,rfl⟩
     rw [<- hw4] at HN4
     rw [<- hw4]
     have H4:=qh (H3.out.keep0 HN4.out)
     have HTO4:=qh (HTO.out.keep0 HN4.out)
     have HB4:=qh (HN4.out.heap HB3.out id)
     have HP4:=qh (HN4.out.heap HP3.out id)
     have d0:w4.cell? ⟨gb,0,none⟩=some (.pointer (some ⟨x.bk,0,none⟩)):=zcjX HB4.out rfl
     have d1:w4.cell? ⟨gp,0,none⟩=some (.int .i64 q):=zcjX HP4.out rfl
     clear hw4 hlt hd hqp HB3 HP3 H3 HTO HOWN
     obtain ⟨k,hk⟩:∃ k:Nat,q=k:=⟨q.toNat,by have:=HQP.out;omega⟩
     subst hk
     rw [Int.toNat_natCast] at HG2
     have HBI:=qh (zGKL H4.out k HQP.out.2 36 #[.pointer (some ⟨gb,0,none⟩),.pointer (some ⟨gp,0,none⟩)] (fun m w'=>m=(S.give k).2/\∃ x',BTo w x w' x'/\BkW w' x' (S.give k).1 (g+1))
      (fun a b c wz=>rfl) (fun w' x' y c t1 t2 t3 t4 t5=>by
       have hk8:k % 4096 / 8 < 512:=by omega
       have hnb:∀ z,x3.K z->z≠gb/\z≠gp:=fun z hz=>by
        refine ⟨fun e=>?_,fun e=>?_⟩
        ·subst e
         exact H4.out.notK ⟨_,_,HB4.out⟩ (by decide) (by decide) (by decide) (by decide) (by decide) (by decide) (by decide) (by decide) hz
        ·subst e
         exact H4.out.notK ⟨_,_,HP4.out⟩ (by decide) (by decide) (by decide) (by decide) (by decide) (by decide) (by decide) (by decide) hz
       have hb:=t1.k.heap HB4.out (fun hK=>(hnb gb hK).1 rfl)
       have hp:=t1.k.heap HP4.out (fun hK=>(hnb gp hK).2 rfl)
       have hbk:x'.bk=x.bk:=t1.fix.bk.trans HBK.out
       have hk2:=HQP.out
       have hpg:=HPG.out
       rw [<- hbk] at hb
       refine (zFTr t2 hg y c k w4.heap.size (S.now (mapP k)) t3 t4 t5 gb gp hb hp (by omega) (fun z hz e=>by have:=t3.base_le;omega)).mono ?_
       rintro e w'' ⟨rfl,x'',r1,r2,r3,r4⟩
       rw [HG2.out]
       have hy:w4.heap.size<=y:=t3.base_le
       have hsz:=HTO4.out.k.size
       refine ⟨_,rfl,rfl,x'',⟨(HTO4.out.fix.trans t1.fix).trans r2,(HTO4.out.trans t1).k.trans r3 (fun z hz h'=>?_),fun z hz=>?_⟩,r1⟩
       ·rcases h' with h' | h'
        ·rcases (HTO4.out.trans t1).g z h' with r | r
         ·exact r
         ·omega
        ·omega
       ·rcases r4 z hz with r | r
        ·exact (HTO4.out.trans t1).g z r
        ·have:=t1.k.size;exact .inr (by omega)))
     unfold ptrV at HBI
     rw [HBK.out] at HBI
     go_wp2_with fail
     refine HBI.out.mono ?_
     rintro e w5 ⟨m,rfl,hm,x5,h5,h6⟩
     have HX:=qh (⟨h5,h6⟩:BTo w x w5 x5/\BkW w5 x5 (S.give k).1 (g+1))
     have HM:=qh hm
     clear h5 h6 hm HBI
     go_wp2
     exact HPO.out _ _ _ x5 (by rw [HM.out]) HX.out.1 HX.out.2
 ·have hT0:S.inT=false:=by simpa using hT
  have HG:=qh (show S.give q=(S,7) from by unfold BkA.give;rw [if_pos hT0])
  rw [if_neg hT]
  clear hT hT0
  go_wp2
  exact HPO.out _ _ _ x HG.out ⟨.refl x,HK2.out.mono (fun _ _ h=>h.elim),fun z hz=>.inl hz⟩ (H2.out.up (by omega))
end
theorem z11V {Q:Exit->Act->World->Prop} {E:Prop} {K:Act->World->Prop} {ops:Array Oper} {a:Act} {w:World} {o:Oper} (hg:o.guard=none) (l c:Operand) (ho:o.op=.makeSlice 47 l c)
  (kl kc:IntKind) (n m:Nat) (hl:a.eval l=.int kl n) (hc:a.eval c=.int kc m) (hnm:n<=m) (hm:m<=281474976710656)
  (k:∀ g w',w.heap.size<=g->g < w'.heap.size->w'.heap[g]?=some (.cells (cellsOf (zeros m)) 5 (0,0))->Kept (fun _=>False) w w'->K (a.put o.dst (.slice (some ⟨g,0,none⟩) n m)) w'):if Region.wanted o (yielded ops a.tmps)=true then Oper.wp Tryz.prog o a w K Q else E:=by
 rw [if_pos (by simp [Region.wanted,hg])]
 obtain ⟨i,hi,h2,h3,h4⟩:=info_parts info5
 have hr:=run_make (P:=Tryz.prog) w 47 5 i _ Tryz.underlying47 hi h2 kl kc (n:Int) (m:Int) (by omega) (by omega) (by rw [h4];omega) (by omega)
 simp only [Int.toNat_natCast,h3,Nat.mul_one] at hr
 rw [show (Value.int IntKind.u8 0).cells=#[Value.int .u8 0] from rfl,zMBr] at hr
 have hk:=k w.heap.size (w.alloc (.cells (cellsOf (zeros m)) 5)) (Nat.le_refl _) (by simp) (heap_alloc_new w _) ((Kept.refl _ w).alloc _)
 unfold Oper.wp
 simp only [execOp,ho,hl,hc,Sem.run_bind,hr,Result.andThen_ok]
 exact hk
theorem OwnB.zeros_of {w:World} {g B:Nat} (h:w.heap[g]?=some (.cells (cellsOf (zeros 512)) 5 (0,0))) (hb:B<=g):OwnB w B g 512 (zeros 512):=
 ⟨by rw [z6VZ,Nat.mul_one],.inr ⟨g,512,_,by rw [zrlC],hb,h,by rw [zrlC];exact Nat.le_refl _,by decide,by rw [<- Array.length_toList,z6VZ,zrlC],by rw [zrlC];exact List.take_of_length_le (by rw [z6VZ,zrlC];exact Nat.le_refl _)⟩⟩
section
variable {w w' w1 w2:World} {x x1:BAdr} {S:BkA} {g:Nat}
set_option maxRecDepth 100000 in
set_option maxHeartbeats 1600000 in
theorem zqDg (h:BkW w x S g) (hg:g<=1000000000 - 1) (y c q B:Nat) (ho:OwnB w B y c (S.now (mapP q))) (hl:(S.now (mapP q)).length=512) (hn:¬ x.K y) (gb gp:Nat) (hgb:w.heap[gb]?=some (.cells #[ptrV x.bk] 24 (0,0))) (hgp:w.heap[gp]?=some (.cells #[.int .i64 q] 3 (0,0))) (hq:q<=100000) :
  Calls Tryz.prog 34 #[.slice (some ⟨y,0,none⟩) 512 c,.int .i64 ((q % 4096 / 8:Nat):Int),.int .u8 ((2 ^ (q % 8):Nat):Int),.pointer (some ⟨gb,0,none⟩),.pointer (some ⟨gp,0,none⟩)] w
   fun e w'=>e=.returned (.int .i64 (S.takeAt q).2)/\∃ x',BkW w' x' (S.takeAt q).1 (g+2)/\x.Fix x'/\Kept (fun z=>x.K z\/z=y) w w'/\∀ z,x'.K z->x.K z\/w.heap.size<=z:=by
 have hi8:q % 4096 / 8 < 512:=by omega
 have i1:((q % 4096 / 8:Nat):Int) < 512:=by omega
 obtain ⟨l,hll⟩:∃ l,l=S.now (mapP q):=⟨_,rfl⟩
 rw [<- hll] at ho hl
 have hb:=z36y (bAt l (q % 4096 / 8)) (j:=q % 8) (by omega)
 have ec:setP l (q % 4096)=l.set (q % 4096 / 8) (orB (bAt l (q % 4096 / 8)) (q % 8)):=by unfold setP;rw [show q % 4096 % 8=q % 8 by omega]
 obtain ⟨P2,hP2⟩:∃ P2:Int,P2=((2 ^ (q % 8):Nat):Int):=⟨_,rfl⟩
 rw [<- hP2] at hb ⊢
 obtain ⟨i,hi⟩:∃ i,i=q % 4096 / 8:=⟨_,rfl⟩
 rw [<- hi] at hi8 i1 hb ec ⊢
 obtain ⟨z,hz⟩:∃ z,z=orB (bAt l i) (q % 8):=⟨_,rfl⟩
 rw [<- hz] at hb ec
 have HTA:=qh (show S.takeAt q=thenA (S.put q (zeros 512)) fun S1=>S1.put (mapP q) (l.set i z) from by unfold BkA.takeAt;rw [<- hll,ec])
 obtain ⟨POST,hPOST⟩:∃ POST:Ending->World->Prop,POST=fun e w'=>e=.returned (.int .i64 (S.takeAt q).2)/\∃ x',BkW w' x' (S.takeAt q).1 (g+2)/\x.Fix x'/\Kept (fun z=>x.K z\/z=y) w w'/\∀ z,x'.K z->x.K z\/w.heap.size<=z:=⟨_,rfl⟩
 rw [<- hPOST]
 have HPO:=qh (show ∀ S' n w' x',S.takeAt q=(S',n)->BkW w' x' S' (g+2)->x.Fix x'->Kept (fun z=>x.K z\/z=y) w w'->(∀ z,x'.K z->x.K z\/w.heap.size<=z)->POST (.returned (.int .i64 n)) w' from fun S' n w' x' h1 h2 h3 h4 h5=>by rw [hPOST,h1];exact ⟨rfl,x',h2,h3,h4,h5⟩)
 have HO:=qh ho
 have HL:=qh hl
 have H:=qh h
 have HN:=qh hn
 have HGB:=qh hgb
 have HGP:=qh hgp
 have em:mapP q=1+(q:Int) / 4096:=by unfold mapP;omega
 have HE:=Lib.hid em
 have i2:0<=(q:Int):=by omega
 have i3:(q:Int)<=100000:=by omega
 have HCE:=qh (fun (w':World) (h:w'.heap[gb]?=some (.cells #[ptrV x.bk] 24 (0,0))/\w'.heap[gp]?=some (.cells #[.int .i64 q] 3 (0,0)))=>show w'.cell? ⟨gb,0,none⟩=some (.pointer (some ⟨x.bk,0,none⟩))/\w'.cell? ⟨gp,0,none⟩=some (.int .i64 q) from ⟨zcjX h.1 rfl,zcjX h.2 rfl⟩)
 have HD:=qh (show w.drew.heap[gb]?=some (.cells #[ptrV x.bk] 24 (0,0))/\w.drew.heap[gp]?=some (.cells #[.int .i64 q] 3 (0,0)) from ⟨HGB.out,HGP.out⟩)
 clear h ho hl hn hgb hgp em hP2 hi hz ec hll hPOST
 go_enter Tryz.func34,Tryz.ntmps34
 go_wp2_with fail
 refine znCh 4 (fun w'=>w'.heap[gb]?=some (.cells #[ptrV x.bk] 24 (0,0))/\w'.heap[gp]?=some (.cells #[.int .i64 q] 3 (0,0))) (by kernel_rfl) HD.out (fun hH=>?_)
 simp only [List.length_cons,List.length_nil,List.replicate]
 refine tK 0 ?_ (fun w' hw'=>?_) hH ?_
 rotate_left
 ·obtain ⟨c0,c1⟩:=HCE.out w' hw'
  go_simp<;>with_reducible rfl
 simp only [Act.put,oZa,oZb,oZc]
 refine tK 1 ?_ (fun w' hw'=>?_) hH ?_
 rotate_left
 ·obtain ⟨c0,c1⟩:=HCE.out w' hw'
  go_simp<;>with_reducible rfl
 simp only [Act.put,oZa,oZb,oZc]
 refine stepL 2 rfl (by kernel_rfl) (fun K hK=>?_)
 refine z11V rfl _ _ rfl .i64 .i64 512 512 rfl rfl (Nat.le_refl 512) (by decide) ?_
 intro gz w1 l1 m1 hb1 hk1
 have HD1:=qh (show w1.heap[gb]?=some (.cells #[ptrV x.bk] 24 (0,0))/\w1.heap[gp]?=some (.cells #[.int .i64 q] 3 (0,0)) from ⟨hk1.heap HD.out.1 id,hk1.heap HD.out.2 id⟩)
 have HK1:=qh ((Kept.refl (fun _=>False) w).drew.trans0 hk1)
 have HZ1:=qh (OwnB.zeros_of hb1 l1)
 have H1:=qh (H.out.keep0 HK1.out)
 have hnz:¬ x.K gz:=fun hK=>by
  have:=H.out.lt hK
  have e:w.drew.heap.size=w.heap.size:=rfl
  omega
 have HP:=qh (show Calls Tryz.prog 25 #[.pointer (some ⟨x.bk,0,none⟩),.int .i64 (q:Int),.slice (some ⟨gz,0,none⟩) 512 512] w1 (APost w1 x (S.put q (zeros 512)) (g+1)) from by
  have:=zvUq H1.out (by omega) (q:Int) (some ⟨gz,0,none⟩) 512 (zeros 512) HZ1.out.v.rd (fun b o e hb hK=>by cases e;exact hnz hK) (by rw [zrlC];decide) (by decide) (by rw [zrlC];decide) (by unfold isI;omega)
  rw [zrlC] at this
  exact this)
 clear hb1 hk1 l1 m1 hnz hH
 refine hK.out _ _ (fun _=>HD1.out) (fun _=>?_)
 simp only [Act.put,oZa,oZb,oZc]
 clear hK K
 refine stepL 3 rfl (by kernel_rfl) (fun K hK=>?_)
 go_simp
 refine HP.out.mono ?_
 rintro e w2 ⟨rfl,x2,h2,h3⟩
 have HT2:=qh h2
 have H2:=qh h3
 have hnb:¬ x.K gb/\¬ x.K gp:=⟨fun hK=>H.out.notK ⟨_,_,HGB.out⟩ (by decide) (by decide) (by decide) (by decide) (by decide) (by decide) (by decide) (by decide) hK,fun hK=>H.out.notK ⟨_,_,HGP.out⟩ (by decide) (by decide) (by decide) (by decide) (by decide) (by decide) (by decide) (by decide) hK⟩
 have HD2:=qh (show w2.heap[gb]?=some (.cells #[ptrV x.bk] 24 (0,0))/\w2.heap[gp]?=some (.cells #[.int .i64 q] 3 (0,0)) from ⟨h2.k.heap HD1.out.1 hnb.1,h2.k.heap HD1.out.2 hnb.2⟩)
 have hylt:=HO.out.ltE.1
 have HO2:=qh (((HO.out.kept HK1.out)).keep h2.k HN.out)
 have HBK:=qh (show x2.bk=x.bk from h2.fix.bk)
 have HN2:=qh (show ¬ x2.K y from fun hK=>by
  rcases h2.g y hK with r | r
  ·exact HN.out r
  ·have:=HK1.out.size;omega)
 have hptr:ptrV x2.bk=ptrV x.bk:=by rw [HBK.out]
 obtain ⟨V,hV⟩:∃ V,V=S.put q (zeros 512):=⟨_,rfl⟩
 rw [<- hV] at H2 HTA
 rw [<- hV]
 obtain ⟨S1,n⟩:=V
 dsimp only at H2 ⊢
 clear h2 h3 HP hnb hV hptr
 go_simp
 refine hK.out _ _ (fun _=>HD2.out) (fun _=>?_)
 simp only [oZa,oZb,oZc]
 clear hK K
 refine stepL 4 rfl (by kernel_rfl) (fun K hK=>?_)
 go_simp
 refine hK.out _ _ (fun h=>absurd rfl h) (fun _=>?_)
 simp only [oZa,oZb,oZc]
 clear hK K
 refine doneL (by kernel_rfl) ?_ _
 by_cases hn:n=0
 ·subst hn
  have HTB:=qh (show S.takeAt q=S1.put (mapP q) (l.set i z) from by rw [HTA.out];unfold thenA;rw [if_neg (by simp)])
  have c0:=HO2.out.cellAt (i:=i) (by rw [HL.out];exact hi8)
  go_wp2_with (refine zrDA rfl _ _ _ rfl (by kernel_rfl) B y c l i z _ rfl rfl (by first | rfl | exact hb) HO2.out (by rw [HL.out];exact hi8) ?_)
  intro w3 ho3 hk3
  have HO3:=qh ho3
  have HK3:=qh hk3
  have H3:=qh (BkW.keep H2.out hk3 (fun u hu e=>HN2.out (by rw [<- e];exact hu)))
  have hgb2:=hk3.heap HD2.out.1 (fun e=>(show IsT w2 gb 24 from ⟨_,_,HD2.out.1⟩).ne HO2.out.tE (by decide) e)
  have hgp2:=hk3.heap HD2.out.2 (fun e=>(show IsT w2 gp 3 from ⟨_,_,HD2.out.2⟩).ne HO2.out.tE (by decide) e)
  have d0:w3.cell? ⟨gb,0,none⟩=some (.pointer (some ⟨x.bk,0,none⟩)):=zcjX hgb2 rfl
  have d1:w3.cell? ⟨gp,0,none⟩=some (.int .i64 q):=zcjX hgp2 rfl
  have HP:=qh (show Calls Tryz.prog 25 #[.pointer (some ⟨x.bk,0,none⟩),.int .i64 (1+(q:Int) / 4096),.slice (some ⟨y,0,none⟩) 512 c] w3 (APost w3 x2 (S1.put (mapP q) (l.set i z)) (g+1+1)) from by
   have:=zvUq H3.out (by omega) (mapP q) (some ⟨y,0,none⟩) c (l.set i z) HO3.out.v.rd (fun b o e hb hK=>by cases e;exact HN2.out hK) HO3.out.ltE.2.1 HO3.out.ltE.2.2 (by rw [List.length_set,HL.out];decide) (by rw [HE.out];unfold isI;omega)
   rw [List.length_set,HL.out,HE.out] at this
   rw [HE.out]
   unfold ptrV at this
   rw [HBK.out] at this
   exact this)
  clear ho3 hk3 hgb2 hgp2 c0 hb
  go_wp2_with fail
  refine HP.out.mono ?_
  rintro e w4 ⟨rfl,x4,h4,h5⟩
  have HX:=qh (⟨h4,h5⟩:BTo w3 x2 w4 x4/\BkW w4 x4 (S1.put (mapP q) (l.set i z)).1 (g+1+1))
  rw [<- HTB.out] at HX
  rw [<- HTB.out]
  obtain ⟨V,hV⟩:∃ V,V=S.takeAt q:=⟨_,rfl⟩
  rw [<- hV] at HX HPO
  rw [<- hV]
  obtain ⟨S2,m⟩:=V
  dsimp only at HX ⊢
  clear h4 h5 HP hV
  have hk:=(HK1.out.mono (T:=fun z=>x.K z\/z=y) (fun _ _ h=>h.elim)).trans (HT2.out.k.mono (T:=fun z=>x.K z\/z=y) (fun u _ h=>Or.inl h)) (fun _ _ h=>h)
  have hk2:=hk.trans (HK3.out.mono (T:=fun z=>x.K z\/z=y) (fun u _ e=>Or.inr e)) (fun _ _ h=>h)
  have hk3:=hk2.trans HX.out.1.k (T:=x2.K) (fun u hu h=>by
   rcases HT2.out.g u h with r | r
   ·exact .inl r
   ·have:=HK1.out.size;omega)
  have HKF:=qh hk3
  have HSZ:=qh (show w.heap.size<=w3.heap.size/\w.heap.size<=w1.heap.size from ⟨hk2.size,HK1.out.size⟩)
  clear hk hk2 hk3
  go_wp2
  refine HPO.out _ _ _ x4 rfl HX.out.2 (HT2.out.fix.trans HX.out.1.fix) HKF.out (fun u hu=>?_)
  rcases HX.out.1.g u hu with r | r
  ·rcases HT2.out.g u r with r2 | r2
   ·exact .inl r2
   ·exact .inr (by have:=HSZ.out;omega)
  ·exact .inr (by have:=HSZ.out;omega)
 ·have HTB:=qh (show S.takeAt q=(S1,n) from by rw [HTA.out];unfold thenA;rw [if_pos hn])
  have hnb2:(n != 0)=true:=by rw [bne_iff_ne];exact hn
  have HKF:=qh ((HK1.out.mono (T:=fun z=>x.K z\/z=y) (fun _ _ h=>h.elim)).trans (HT2.out.k.mono (T:=fun z=>x.K z\/z=y) (fun u _ h=>Or.inl h)) (fun _ _ h=>h))
  clear hn
  go_wp2
  refine HPO.out _ _ _ x2 HTB.out (H2.out.up (by omega)) HT2.out.fix HKF.out (fun u hu=>?_)
  rcases HT2.out.g u hu with r | r
  ·exact .inl r
  ·exact .inr (by have:=HK1.out.size;omega)
end
theorem zkWU {f:Int->Bytes} {n q:Nat} (hq:q < n) (h:∀ r,r < q->takB f r=true) (h0:takB f q=false):freeQ f n=some q:=by
 unfold freeQ
 rw [List.find?_range_eq_some]
 exact ⟨by simp [h0],List.mem_range.2 hq,fun r hr=>by simp [h r hr]⟩
theorem zlrS {f:Int->Bytes} {n:Nat} (h:∀ r,r < n->takB f r=true):freeQ f n=none:=by
 unfold freeQ
 rw [List.find?_range_eq_none]
 intro r hr
 simp [h r hr]
section
variable {w w' w1 w2:World} {x x1:BAdr} {S:BkA} {g:Nat}
def zo0G (w:World) (x:BAdr) (S:BkA) (g:Nat) (e:Ending) (w':World):Prop:=e=.returned (.tuple #[.int .i64 S.take.2.1,.int .i64 S.take.2.2])/\∃ x',BTo w x w' x'/\BkW w' x' S.take.1 (g+2)
set_option maxRecDepth 100000 in
set_option maxHeartbeats 3200000 in
theorem zSDl (h:BkW w x S g) (hg:g<=1000000000 - 1):Calls Tryz.prog 12 #[ptrV x.bk] w (zo0G w x S g):=by
 obtain ⟨p0,p1⟩:=h.pg
 obtain ⟨POST,hPOST⟩:∃ POST,POST=zo0G w x S g:=⟨_,rfl⟩
 rw [<- hPOST]
 have HPO:=qh (show ∀ S' q n w' x',S.take=(S',q,n)->BTo w x w' x'->BkW w' x' S' (g+2)->POST (.returned (.tuple #[.int .i64 q,.int .i64 n])) w' from fun S' q n w' x' h1 h2 h3=>by rw [hPOST];unfold zo0G;rw [h1];exact ⟨rfl,x',h2,h3⟩)
 have HPG:=qh (show 10<=S.pages/\S.pages<=32766 from ⟨p0,p1⟩)
 have hmf:∀ (fn:Fn) (first cap:Array Value) (w:World),(Instr.makeFunc fn first cap).run Tryz.prog w=.ok (.func fn first cap) w:=fun _ _ _ _=>rfl
 have H:=qh h
 clear h hPOST p0 p1
 unfold ptrV
 go_enter Tryz.func12,Tryz.ntmps12
 go_wp2_with (refine znBH rfl 24 _ rfl (.pointer (some ⟨x.bk,0,none⟩)) rfl ?_)
 intro gb w1 l1 m1 hb1 hk1
 have HB1:=qh (show w1.heap[gb]?=some (.cells #[ptrV x.bk] 24 (0,0)) from hb1)
 have HK1:=qh hk1
 have HL1:=Lib.hid l1
 clear hb1 hk1 l1 m1
 have H1:=qh (H.out.keep0 HK1.out)
 have d0:w1.cell? ⟨gb,0,none⟩=some (.pointer (some ⟨x.bk,0,none⟩)):=zcjX HB1.out rfl
 have HST:=qh (zjaJ H1.out)
 unfold ptrV at HST
 go_wp2_with fail
 go_step3
 go_wp2_with fail
 refine HST.out.mono ?_
 rintro e wx ⟨rfl,rfl⟩
 clear HST
 by_cases hT:S.inT=true
 ·rw [if_pos hT]
  have HT:=qh hT
  have HH:=qh (zCd5 H1.out)
  unfold ptrV at HH
  clear hT
  go_wp2_with fail
  refine HH.out.mono ?_
  rintro e w2 ⟨x2,h1,h2,⟨h3,rfl⟩ | ⟨h3,y,c,hl,rfl,ho,hn⟩⟩
  ·have HTO:=qh (BTo.early HK1.out h1)
   have H2:=qh h2
   have HG:=qh (show S.take=(S,0,4) from by unfold BkA.take;rw [if_neg (by rw [HT.out];decide),if_pos h3])
   clear h1 h2 h3 HH
   go_wp2
   exact HPO.out _ _ _ _ x2 HG.out HTO.out (H2.out.up (by omega))
  ·have HTO:=qh (BTo.early HK1.out h1)
   have H2:=qh h2
   have hnb:∀ z,x.K z->z≠gb:=fun z hz e=>by have:=H.out.lt hz;have:=HL1.out;omega
   have HB2:=qh (h1.k.heap HB1.out (fun hK=>hnb gb hK rfl))
   have HG:=qh (show S.take=match freeQ S.now S.N with | none=>(S,0,5) | some q=>((S.takeAt q).1,if (S.takeAt q).2=0 then ((q:Nat):Int) else 0,(S.takeAt q).2) from by
    unfold BkA.take;rw [if_neg (by rw [HT.out];decide),if_neg (by rw [h3];decide)]
    rfl)
   obtain ⟨N,hNN⟩:∃ N:Nat,S.pages=N:=⟨S.pages.toNat,by have:=HPG.out;omega⟩
   have HNN:=qh hNN
   have hSN:S.N=N:=by unfold BkA.N;omega
   rw [hSN] at HG
   have hN:10<=N/\N<=32766:=by have:=HPG.out;omega
   clear h1 h2 h3 HH hl ho hn hnb d0 hNN hSN
   go_wp2_with (refine zDLj rfl 3 rfl (.int .i64 0) rfl (fun _=>rfl) ?_)
   intro fc w3 l3 m3 hb3 hk3
   have HF3:=qh hb3
   have HTO3:=qh (HTO.out.keep0 hk3)
   have H3:=qh (H2.out.keep0 hk3)
   have HB3:=qh (hk3.heap HB2.out id)
   have HLF:=qh (show w.heap.size<=fc/\gb≠fc from ⟨by have:=HTO.out.k.size;omega,fun e=>by have:=zvKu HB2.out;omega⟩)
   clear hb3 hk3 l3 m3
   go_wp2_with (refine z2q7 rfl _ _ _ rfl fc 0 (.int .i64 (-1)) #[.int .i64 0] rfl rfl HF3.out (by kernel_rfl) (by show 0 < 1;decide) rfl ?_)
   intro w4 hb4 hk4
   have HF4:=qh (show w4.heap[fc]?=some (.cells #[.int .i64 (-1)] 3 (0,0)) from hb4)
   have HB4:=qh (hk4.heap HB3.out HLF.out.2)
   have HTO4:=qh (HTO3.out.newK hk4 (fun z hz=>by subst hz;exact HLF.out.1))
   have H4:=qh (BkW.keep H3.out hk4 (fun z hz e=>by
    subst e
    exact H3.out.notK ⟨_,_,HF3.out⟩ (by decide) (by decide) (by decide) (by decide) (by decide) (by decide) (by decide) (by decide) hz))
   clear hb4 hk4 HF3 HTO3 H3 HB3 HTO H2 HB2 H1 HB1
   go_wp2_with fail
   go_step3
   go_wp2_with fail
   go_loopw [8] (fun i wr=>∃ (m:Nat) (xr:BAdr),i=.int .i64 m/\m*4096 < N+4096/\(∀ r,r < m*4096->r < N->takB S.now r=true)/\BTo w x wr xr/\BkW wr xr S g/\wr.heap[gb]?=some (.cells #[ptrV x.bk] 24 (0,0))/\wr.heap[fc]?=some (.cells #[.int .i64 (-1)] 3 (0,0))) (fun i _=>100 - (intOf i).toNat)
   case atStart=>exact ⟨0,x2,rfl,by omega,fun r h=>by omega,HTO4.out,H4.out,HB4.out,HF4.out⟩
   case round=>
    clear HTO4 H4 HB4 HF4
    obtain ⟨m,xr,rfl,hm,htk,hto,hbw,hb,hf⟩:=hrel
    have HTO:=qh hto
    have HW:=qh hbw
    have HB:=qh hb
    have HF:=qh hf
    have HTK:=qh htk
    have HBK:=qh (show xr.bk=x.bk from hto.fix.bk)
    clear hto hbw hb hf htk
    have d0:wr.cell? ⟨gb,0,none⟩=some (.pointer (some ⟨x.bk,0,none⟩)):=zcjX HB.out rfl
    have HPN:=qh (show Calls Tryz.prog 29 #[.pointer (some ⟨x.bk,0,none⟩)] wr fun e w'=>e=.returned (.int .i64 (N:Int))/\wr=w' from by
     have:=zQfR HW.out
     unfold ptrV at this
     rw [HBK.out,HNN.out] at this
     exact this)
    go_wp2_with fail
    refine HPN.out.mono ?_
    rintro e wx ⟨rfl,rfl⟩
    by_cases hlt:m*4096 < N
    ·have i1:(m:Int)*4096 < (N:Int):=by omega
     have HPP:=qh (show Calls Tryz.prog 23 #[.pointer (some ⟨x.bk,0,none⟩),.int .i64 (1+(m:Int))] wr (z5Jn wr xr S g (1+(m:Int))) from by
      have:=zqnz HW.out (1+(m:Int))
      unfold ptrV at this
      rw [HBK.out] at this
      exact this)
     go_wp2_with fail
     refine HPP.out.mono ?_
     rintro e w5 ⟨x5,h1,h2,⟨h3,rfl⟩ | ⟨h3,y5,c5,hl5,rfl,ho5,hn5⟩⟩
     ·have:=HNN.out;omega
     ·have HTO5:=qh (HTO.out.trans h1)
      have H5:=qh h2
      have hnb:¬ xr.K gb/\¬ xr.K fc:=⟨fun hK=>HW.out.notK ⟨_,_,HB.out⟩ (by decide) (by decide) (by decide) (by decide) (by decide) (by decide) (by decide) (by decide) hK,fun hK=>HW.out.notK ⟨_,_,HF.out⟩ (by decide) (by decide) (by decide) (by decide) (by decide) (by decide) (by decide) (by decide) hK⟩
      have HB5:=qh (h1.k.heap HB.out hnb.1)
      have HF5:=qh (h1.k.heap HF.out hnb.2)
      have HBK5:=qh (show x5.bk=x.bk from h1.fix.bk.trans HBK.out)
      obtain ⟨l,hll⟩:∃ l,l=S.now (1+(m:Int)):=⟨_,rfl⟩
      rw [<- hll] at ho5 hl5
      have HO5:=qh ho5
      have HL5:=qh hl5
      have HLL:=qh (show l=S.now (mapP (m*4096)) from by rw [hll];unfold mapP;congr 1;omega)
      have HPN5:=qh (show Calls Tryz.prog 29 #[.pointer (some ⟨x.bk,0,none⟩)] w5 fun e w'=>e=.returned (.int .i64 (N:Int))/\w5=w' from by
       have:=zQfR H5.out
       unfold ptrV at this
       rw [HBK5.out,HNN.out] at this
       exact this)
      clear h1 h2 h3 ho5 hl5 hn5 hnb hll HTO HW HB HF HPP HPN d0 i1
      go_wp2_with fail
      go_loopw [11] (fun i wr=>∃ k:Nat,i=.int .i64 k/\wr=w5/\k<=4096/\(∀ r,r < m*4096+k->r < N->takB S.now r=true)) (fun i _=>5000 - (intOf i).toNat)
      case atStart=>exact ⟨0,rfl,rfl,by omega,fun r h1 h2=>HTK.out r (by omega) h2⟩
      case round=>
       obtain ⟨k,rfl,rfl,hk,htk⟩:=hrel
       have HTK2:=qh htk
       clear htk
       have d0:wr.cell? ⟨gb,0,none⟩=some (.pointer (some ⟨x.bk,0,none⟩)):=zcjX HB5.out rfl
       by_cases hk4:k < 4096
       ·have j1:(k:Int) < 4096:=by omega
        go_wp2_with fail
        refine HPN5.out.mono ?_
        rintro e wx ⟨rfl,rfl⟩
        by_cases hq:m*4096+k < N
        ·have j2:(m:Int)*4096+k < N:=by omega
         have hk8:k / 8 < 512:=by omega
         have j3:(k:Int) / 8 < 512:=by omega
         have c0:=HO5.out.cellAt (i:=k / 8) (by rw [HL5.out];exact hk8)
         have hb:=zWw4 (bAt l (k / 8)) (j:=k % 8) (by omega)
         have ht:takB S.now (m*4096+k)=bitB (bAt l (k / 8)) (k % 8):=by
          unfold takB bitP
          rw [show mapP (m*4096+k)=mapP (m*4096) from by unfold mapP;omega,<- HLL.out,show (m*4096+k) % 4096=k by omega]
         obtain ⟨bb,hbb⟩:∃ bb,bb=bitB (bAt l (k / 8)) (k % 8):=⟨_,rfl⟩
         rw [<- hbb] at ht hb
         have HTQ:=qh ht
         clear ht hbb
         cases bb with
         | true=>
          rw [if_pos rfl] at hb
          go_wp2
          go_roundw
          case rel=>
           refine ⟨k+1,by go_num,by first | rfl | trivial,by omega,fun r h1 h2=>?_⟩
           by_cases e:r=m*4096+k
           ·rw [e];exact HTQ.out
           ·exact HTK2.out r (by omega) h2
          case measure=>simp [intOf];omega
         | false=>
          rw [if_neg (by decide)] at hb
          have HFQ:=qh (zkWU hq (fun r h=>HTK2.out r h (by omega)) HTQ.out)
          obtain ⟨q,hqq⟩:∃ q,q=m*4096+k:=⟨_,rfl⟩
          rw [<- hqq] at HFQ hq
          have HQ:=qh hqq
          have jq:(m:Int)*4096+k=(q:Int):=by omega
          have jq0:¬ (q:Int) < 0:=by omega
          clear hqq
          go_wp2_with (refine z2q7 rfl _ _ _ rfl fc 0 (.int .i64 q) #[.int .i64 (-1)] rfl (by first | rfl | exact congrArg (Value.int .i64) jq) HF5.out (by kernel_rfl) (by show 0 < 1;decide) rfl ?_)
          intro w6 hb6 hk6
          have HF6:=qh (show w6.heap[fc]?=some (.cells #[.int .i64 q] 3 (0,0)) from hb6)
          have HB6:=qh (hk6.heap HB5.out HLF.out.2)
          have HTO6:=qh (HTO5.out.newK hk6 (fun z hz=>by subst hz;exact HLF.out.1))
          have H6:=qh (BkW.keep H5.out hk6 (fun z hz e=>by
           subst e
           exact H5.out.notK ⟨_,_,HF5.out⟩ (by decide) (by decide) (by decide) (by decide) (by decide) (by decide) (by decide) (by decide) hz))
          have HG2:=qh (show S.take=((S.takeAt q).1,if (S.takeAt q).2=0 then ((q:Nat):Int) else 0,(S.takeAt q).2) from by rw [HG.out,HFQ.out])
          have d0:w6.cell? ⟨gb,0,none⟩=some (.pointer (some ⟨x.bk,0,none⟩)):=zcjX HB6.out rfl
          have d1:w6.cell? ⟨fc,0,none⟩=some (.int .i64 q):=zcjX HF6.out rfl
          have HQP:=qh (show (q:Int) < S.pages from by rw [HNN.out];omega)
          have hnb:∀ z,x5.K z->z≠gb/\z≠fc:=fun z hz=>⟨fun e=>by
           subst e
           exact H6.out.notK ⟨_,_,HB6.out⟩ (by decide) (by decide) (by decide) (by decide) (by decide) (by decide) (by decide) (by decide) hz,fun e=>by
           subst e
           exact H6.out.notK ⟨_,_,HF6.out⟩ (by decide) (by decide) (by decide) (by decide) (by decide) (by decide) (by decide) (by decide) hz⟩
          have HBI:=qh (zGKL H6.out q HQP.out 34 #[.pointer (some ⟨gb,0,none⟩),.pointer (some ⟨fc,0,none⟩)] (fun n w'=>n=(S.takeAt q).2/\w'.heap[fc]?=some (.cells #[.int .i64 q] 3 (0,0))/\∃ x',BTo w x w' x'/\BkW w' x' (S.takeAt q).1 (g+2))
           (fun a b c wz=>rfl) (fun w' x' y c t1 t2 t3 t4 t5=>by
            have hb:=t1.k.heap HB6.out (fun hK=>(hnb gb hK).1 rfl)
            have hp:=t1.k.heap HF6.out (fun hK=>(hnb fc hK).2 rfl)
            have hbk:x'.bk=x.bk:=t1.fix.bk.trans HBK5.out
            have hnf:¬ x'.K fc:=fun hK=>t2.notK ⟨_,_,hp⟩ (by decide) (by decide) (by decide) (by decide) (by decide) (by decide) (by decide) (by decide) hK
            rw [<- hbk] at hb
            refine (zqDg t2 hg y c q w6.heap.size t3 t4 t5 gb fc hb hp (by omega)).mono ?_
            rintro e w'' ⟨rfl,x'',r1,r2,r3,r4⟩
            have hy:w6.heap.size<=y:=t3.base_le
            have hsz:=HTO6.out.k.size
            have hfl:=zvKu HF6.out
            refine ⟨_,rfl,rfl,r3.heap hp (fun h=>by rcases h with h | h;exact hnf h;omega),x'',⟨(HTO6.out.fix.trans t1.fix).trans r2,(HTO6.out.trans t1).k.trans r3 (fun z hz h'=>?_),fun z hz=>?_⟩,r1⟩
            ·rcases h' with h' | h'
             ·rcases (HTO6.out.trans t1).g z h' with r | r
              ·exact r
              ·omega
             ·omega
            ·rcases r4 z hz with r | r
             ·exact (HTO6.out.trans t1).g z r
             ·have:=t1.k.size;exact .inr (by omega)))
          unfold ptrV at HBI
          rw [HBK5.out] at HBI
          clear hb6 hk6 hnb HTO5 H5 HB5 HF5 HPN5 HO5 HL5 HLL HTK HTK2 HTQ c0 hb
          go_wp2_with fail
          refine HBI.out.mono ?_
          rintro e w7 ⟨n,rfl,hn,hf7,x7,h7,h8⟩
          have HX:=qh (⟨h7,h8⟩:BTo w x w7 x7/\BkW w7 x7 (S.takeAt q).1 (g+2))
          have HN:=qh hn
          have d2:w7.cell? ⟨fc,0,none⟩=some (.int .i64 q):=zcjX hf7 rfl
          clear hn h7 h8 hf7 HBI d0 d1
          by_cases hn0:n=0
          ·subst hn0
           go_wp2
           try rw [Exit.noGoto_ret]
           exact HPO.out _ _ _ _ x7 (by rw [HG2.out,<- HN.out,if_pos rfl]) HX.out.1 HX.out.2
          ·have hnb2:(n != 0)=true:=by rw [bne_iff_ne];exact hn0
           have HN0:=qh hn0
           clear hn0
           go_wp2
           try rw [Exit.noGoto_ret]
           exact HPO.out _ _ _ _ x7 (by rw [HG2.out,<- HN.out,if_neg HN0.out]) HX.out.1 HX.out.2
        ·have j2:¬ (m:Int)*4096+k < N:=by omega
         go_wp2
         go_roundw
         case rel=>exact ⟨m+1,x5,by go_num,by omega,fun r h1 h2=>HTK2.out r (by omega) h2,HTO5.out,H5.out,HB5.out,HF5.out⟩
         case measure=>simp [intOf];omega
       ·have j1:¬ (k:Int) < 4096:=by omega
        go_wp2
        go_roundw
        case rel=>exact ⟨m+1,x5,by go_num,by omega,fun r h1 h2=>HTK2.out r (by omega) h2,HTO5.out,H5.out,HB5.out,HF5.out⟩
        case measure=>simp [intOf];omega
    ·have i1:¬ (m:Int)*4096 < (N:Int):=by omega
     have HG2:=qh (show S.take=(S,0,5) from by
      have hz:freeQ S.now N=none:=zlrS fun r hr=>HTK.out r (by omega) hr
      rw [HG.out,hz])
     have d1:wr.cell? ⟨fc,0,none⟩=some (.int .i64 (-1)):=zcjX HF.out rfl
     go_wp2
     try rw [Exit.noGoto_ret]
     exact HPO.out _ _ _ _ xr HG2.out HTO.out (HW.out.up (by omega))
 ·have hT0:S.inT=false:=by simpa using hT
  have HG:=qh (show S.take=(S,0,7) from by unfold BkA.take;rw [if_pos hT0])
  rw [if_neg hT]
  clear hT hT0
  go_wp2
  exact HPO.out _ _ _ _ x HG.out ⟨.refl x,HK1.out.mono (fun _ _ h=>h.elim),fun z hz=>.inl hz⟩ (H1.out.up (by omega))
end
end Go.Proofs.YtfgagakepmigbaaGreat
