/-
  No statement is proved here.
-/
import Derived.Test.YtfgagakepmigbaaGreatJSmf
import Derived.Test.YtfgagakepmigbaaGreatJSnd
import Derived.Test.YtfgagakepmigbaaGreatJSwj
namespace Go.Proofs.YtfgagakepmigbaaGreat
open Go.RowKit
def newZ (pages:Int):SpM:=(SpM.format ⟨pages,true,[],List.replicate 8 0⟩).1
section
variable {pages:Int}
theorem z9Uu (h0:10<=pages) (h1:pages<=65536):newZ pages=⟨pages,true,(List.range pages.toNat).map fun (q:Nat)=>decide ((q:Int) < ownS pages),List.replicate 8 0⟩:=by
 obtain ⟨o1,o2,o3⟩:=zju9 h0 h1
 unfold newZ SpM.format
 rw [if_neg (show ¬ true=false by decide),if_neg (show ¬ pages<=ownS pages by omega)]
theorem zJFK (h0:10<=pages) (h1:pages<=65536) {q:Nat} (hq:q < pages.toNat):(newZ pages).at q=decide ((q:Int) < ownS pages):=by
 rw [z9Uu h0 h1]
 unfold SpM.at
 dsimp only
 rw [List.getD_eq_getElem?_getD,List.getElem?_map,List.getElem?_range hq]
 rfl
theorem zU2o (h0:10<=pages) (h1:pages<=65536):(newZ pages).tk≠[]:=by
 rw [z9Uu h0 h1]
 intro e
 have:=congrArg List.length e
 simp at this
 omega
theorem zpTO (o:Nat):∀ n,((List.range n).filter fun q=>!decide (q < o)).length=n - o
 | 0=>by simp
 | n+1=>by
  rw [List.range_succ,List.filter_append,List.length_append,zpTO o n]
  by_cases c:n < o
  ·rw [List.filter_cons_of_neg (by simp [c])];simp;omega
  ·rw [List.filter_cons_of_pos (by simp [c])];simp;omega
theorem zqMc (h0:10<=pages) (h1:pages<=65536):(newZ pages).free=(pages - ownS pages,0):=by
 obtain ⟨o1,o2,o3⟩:=zju9 h0 h1
 obtain ⟨o,ho⟩:∃ o:Nat,ownS pages=o:=⟨(ownS pages).toNat,by omega⟩
 unfold SpM.free SpM.freeN
 rw [if_neg (zU2o h0 h1),show (newZ pages).pages=pages from by rw [z9Uu h0 h1],zq6F (q:=fun q=>!decide (q < o)) (fun q hq=>by rw [zJFK h0 h1 (List.mem_range.1 hq),ho];simp),zpTO]
 congr 1
 omega
theorem zD4L (h0:10<=pages) (h1:pages<=65536):(newZ pages).freeQ=some (ownS pages).toNat:=by
 obtain ⟨o1,o2,o3⟩:=zju9 h0 h1
 unfold SpM.freeQ
 rw [show (newZ pages).pages=pages from by rw [z9Uu h0 h1],List.find?_range_eq_some]
 refine ⟨?_,by simp;omega,fun r hr=>?_⟩
 ·rw [zJFK h0 h1 (by omega)];simp;omega
 ·rw [zJFK h0 h1 (by omega)];simp;omega
end
set_option maxRecDepth 100000 in
set_option maxHeartbeats 1600000 in
theorem z97Z (w:World):Calls Tryz.prog 19 #[] w fun e w'=>e=.returned (.bool true)/\Kept (fun _=>False) w w':=by
 obtain ⟨D,hfm,hfd⟩:=zvmM (n:=9000) (by decide)
 have HFM:=qh hfm
 have HFD:=qh hfd
 clear hfm hfd
 go_enter Tryz.func19,Tryz.ntmps19
 go_wp2_with fail
 refine (zAkz 9000 (by decide) (by decide) w).mono ?_
 rintro e w2 ⟨p,ms,mo,rfl,hD,hk2,lp,lms,lmo⟩
 have HD:=qh hD
 have HK2:=qh hk2
 have HLP:=qh (⟨lp,lms,lmo⟩:w.heap.size<=p/\w.heap.size<=ms/\w.heap.size<=mo)
 clear hD hk2 lp lms lmo
 go_wp2_with fail
 have hfa:=zi6r HD.out (⟨rfl,rfl,by show (1:Int)<=9000;decide⟩:Calm (newM 9000)) (by show (24:Int)<=9000;decide)
 rw [HFM.out] at hfa
 refine hfa.mono ?_
 rintro e w4 ⟨rfl,hd4,hk4⟩
 have HD4:=qh hd4
 have HK4:=qh (HK2.out.new hk4 (fun z hz=>by have:=HLP.out;omega))
 clear hd4 hk4 hfa
 go_wp2_with fail
 have hro:=zF7L HD4.out (n:=9000) (frames:=8) HFD.out (by decide) (by decide) (by decide) (by decide)
 unfold ptrV at hro
 refine hro.mono ?_
 rintro e w5 ⟨x,rfl,h1,h2,h3⟩
 have HB:=qh (show Bk w w5 x (zT5q 9000) 1 from ⟨h1,HK4.out.new h2 (fun z hz=>by have:=HLP.out;omega),fun z hz=>by
  have h4:=HLP.out
  have h5:=HK4.out.size
  rcases h3 z hz with h | h | h | h<;>omega⟩)
 clear h1 h2 h3 hro
 go_wp2_with (refine zNko rfl 76 rfl (tldC 0 0 0 0) zxqe ?_)
 intro gt w6 l6 m6 hb6 hk6
 have HB6:=qh (HB.out.keep0 hk6)
 have HNT:=qh (show ¬ x.K gt from fun hK=>by have:=HB.out.b.lt hK;omega)
 have HLT:=qh (Nat.le_trans HB.out.k.size l6)
 have HT6:=qh hb6
 clear hb6 hk6 l6 m6 HB
 go_wp2_with (refine zxQF rfl 76 _ _ rfl gt (tldC 0 0 0 0) (tldC 0 0 0 0) rfl rfl HT6.out zWfn rfl (zmW9 _ _ _ _) ?_)
 intro w7 hb7 hk7
 have HB7:=qh (HB6.out.keep hk7 (fun z hz=>by subst hz;exact HLT.out) (fun z hz e=>HNT.out (by rw [<- e];exact hz)))
 clear hb7 hk7 HT6 HB6
 obtain ⟨S1,S2,e1,e2,e3,e4⟩:=zRTL (n:=9000) (by decide) (by decide)
 have hn:newZ 4498=(SpM.format ⟨4498,true,[],List.replicate 8 0⟩).1:=rfl
 have e4':RelC S2 (newZ 4498) (917065 - 97+97):=e4
 have tn:(newZ 4498).take.2=(3,0):=by
  unfold SpM.take
  rw [if_neg (by rw [z9Uu (by decide) (by decide)];decide),if_neg (zU2o (by decide) (by decide)),zD4L (by decide) (by decide)]
  rfl
 have fr:S2.free=(4495,0):=by rw [e4'.r.free,zqMc (by decide) (by decide)];rfl
 obtain ⟨S3,t1,t2⟩:=e4'.take (by decide)
 rw [tn] at t1
 have E1:=Lib.hid e1
 have E2:=Lib.hid e2
 have FR:=Lib.hid fr
 have T1:=Lib.hid t1
 have hp3:S3.pages=4498:=by
  have:=(e4'.r.take e4'.t).1.1.pages
  rw [t1] at this
  exact this.trans e3
 have P3:=qh hp3
 have tz:(newZ 4498).take.1={ newZ 4498 with tk:=(newZ 4498).tk.set 3 true }:=by
  unfold SpM.take
  rw [if_neg (by rw [z9Uu (by decide) (by decide)];decide),if_neg (zU2o (by decide) (by decide)),zD4L (by decide) (by decide)]
  rfl
 have K1:=qh (show S3.taken 4497=(false,0) from by
  rw [t2.r.taken,tz]
  unfold SpM.taken
  rw [if_neg (fun e=>zU2o (pages:=4498) (by decide) (by decide) (by simpa using congrArg List.length e))]
  have h1:=zJFK (pages:=4498) (by decide) (by decide) (q:=4497) (by decide)
  unfold SpM.at at h1 ⊢
  dsimp only
  rw [show (4497:Int).toNat=4497 from rfl,zg9w _ _ _ _ (by rw [z9Uu (by decide) (by decide)];simp),if_neg (by decide),h1]
  rfl)
 have K2:=qh (show S3.taken 4498=(false,0) from by
  rw [t2.r.taken,tz]
  unfold SpM.taken
  rw [if_neg (fun e=>zU2o (pages:=4498) (by decide) (by decide) (by simpa using congrArg List.length e)),decide_eq_false (by rw [show ({ newZ 4498 with tk:=(newZ 4498).tk.set 3 true }:SpM).pages=4498 from by rw [z9Uu (by decide) (by decide)]];omega)]
  rfl)
 clear tz
 clear e1 e2 e3 e4 e4' fr t1 t2 tn hn hp3
 go_wp2_with fail
 have hb:=zvJ4 HB7.out.b (by decide)
 rw [E1.out] at hb
 unfold ptrV at hb
 refine hb.mono ?_
 rintro e w8 ⟨rfl,x8,h1,h2⟩
 have HB8:=qh (show Bk w w8 x8 S1 (2) from HB7.out.to h1 h2)
 have HBK8:=qh (show x8.bk=x.bk from h1.fix.bk)
 clear h1 h2 hb HB7
 go_wp2_with fail
 have hb:=zBXs HB8.out.b (by decide)
 rw [E2.out] at hb
 unfold ptrV at hb
 rw [HBK8.out] at hb
 refine hb.mono ?_
 rintro e w9 ⟨rfl,x9,h1,h2⟩
 have HB9:=qh (show Bk w w9 x9 S2 (22) from HB8.out.to h1 h2)
 have HBK9:=qh (show x9.bk=x.bk from h1.fix.bk.trans HBK8.out)
 clear h1 h2 hb HB8
 go_wp2_with fail
 have hb:=znV8 HB9.out.b
 unfold zpmK at hb
 rw [FR.out] at hb
 unfold ptrV at hb
 rw [HBK9.out] at hb
 refine hb.mono ?_
 rintro e w10 ⟨rfl,x10,h1,h2⟩
 have HB10:=qh (show Bk w w10 x10 S2 (22) from HB9.out.to h1 h2)
 have HBK10:=qh (show x10.bk=x.bk from h1.fix.bk.trans HBK9.out)
 clear h1 h2 hb HB9
 go_wp2_with fail
 have hb:=zSDl HB10.out.b (by decide)
 unfold zo0G at hb
 rw [T1.out] at hb
 unfold ptrV at hb
 rw [HBK10.out] at hb
 refine hb.mono ?_
 rintro e w11 ⟨rfl,x11,h1,h2⟩
 have HB11:=qh (show Bk w w11 x11 S3 (24) from HB10.out.to h1 h2)
 have HBK11:=qh (show x11.bk=x.bk from h1.fix.bk.trans HBK10.out)
 clear h1 h2 hb HB10
 go_wp2_with fail
 have hb:=zQfR HB11.out.b
 rw [P3.out] at hb
 unfold ptrV at hb
 rw [HBK11.out] at hb
 refine hb.mono ?_
 rintro e wx ⟨rfl,rfl⟩
 clear hb
 go_wp2_with fail
 have hb:=z5xR HB11.out.b 4497
 unfold zvBu at hb
 rw [K1.out] at hb
 unfold ptrV at hb
 rw [HBK11.out] at hb
 refine hb.mono ?_
 rintro e w12 ⟨rfl,x12,h1,h2⟩
 have HB12:=qh (show Bk w w12 x12 S3 24 from HB11.out.to h1 h2)
 have HBK12:=qh (show x12.bk=x.bk from h1.fix.bk.trans HBK11.out)
 clear h1 h2 hb HB11
 go_wp2_with fail
 have hb:=zQfR HB12.out.b
 rw [P3.out] at hb
 unfold ptrV at hb
 rw [HBK12.out] at hb
 refine hb.mono ?_
 rintro e wx ⟨rfl,rfl⟩
 clear hb
 go_wp2_with fail
 have hb:=z5xR HB12.out.b 4498
 unfold zvBu at hb
 rw [K2.out] at hb
 unfold ptrV at hb
 rw [HBK12.out] at hb
 refine hb.mono ?_
 rintro e w13 ⟨rfl,x13,h1,h2⟩
 have HB13:=qh (show Bk w w13 x13 S3 24 from HB12.out.to h1 h2)
 have HBK13:=qh (show x13.bk=x.bk from h1.fix.bk.trans HBK12.out)
 clear h1 h2 hb HB12
 go_wp2_with fail
 have hb:=zQfR HB13.out.b
 rw [P3.out] at hb
 unfold ptrV at hb
 rw [HBK13.out] at hb
 refine hb.mono ?_
 rintro e wx ⟨rfl,rfl⟩
 clear hb
 go_wp2
 go_ret
 exact ⟨rfl,HB13.out.k⟩
set_option maxRecDepth 100000 in
theorem zA4B {S0:BkA} (h:RelC S0 (zAt 32) 3305):∃ S1 S2 S3 S4 S5 S6 S7 S8 S9 S10 S11 S12:BkA,S0.take=(S1,0,5)/\S1.give 1=(S2,2)/\S2.give 34=(S3,2)/\S3.give (-1)=(S4,2)/\S4.give 33=(S5,0)/\S5.give 20=(S6,0)/\S6.give 20=(S7,2)/\S7.take=(S8,20,0)/\S8.setRoot 8 0=(S9,2)/\S9.setRoot (-1) 0=(S10,2)/\S10.setRoot 0 34=(S11,2)/\S11.setRoot 7 33=(S12,0)/\S12.root 7=(33,0)/\S12.root 8=(0,2):=by
 obtain ⟨S1,a1,b1⟩:=(h.low (c':=3208+97) (by decide)).take (by decide)
 obtain ⟨S2,a2,b2⟩:=(b1.low (c':=3111+97) (by decide)).give (by decide) 1
 obtain ⟨S3,a3,b3⟩:=(b2.low (c':=3014+97) (by decide)).give (by decide) 34
 obtain ⟨S4,a4,b4⟩:=(b3.low (c':=2917+97) (by decide)).give (by decide) (-1)
 obtain ⟨S5,a5,b5⟩:=(b4.low (c':=2820+97) (by decide)).give (by decide) 33
 obtain ⟨S6,a6,b6⟩:=(b5.low (c':=2723+97) (by decide)).give (by decide) 20
 obtain ⟨S7,a7,b7⟩:=(b6.low (c':=2626+97) (by decide)).give (by decide) 20
 obtain ⟨S8,a8,b8⟩:=(b7.low (c':=2529+97) (by decide)).take (by decide)
 obtain ⟨S9,a9,b9⟩:=(b8.low (c':=2141+388) (by decide)).setRoot (by decide) 8 0
 obtain ⟨S10,a10,b10⟩:=(b9.low (c':=1753+388) (by decide)).setRoot (by decide) (-1) 0
 obtain ⟨S11,a11,b11⟩:=(b10.low (c':=1365+388) (by decide)).setRoot (by decide) 0 34
 obtain ⟨S12,a12,b12⟩:=(b11.low (c':=977+388) (by decide)).setRoot (by decide) 7 33
 exact ⟨S1,S2,S3,S4,S5,S6,S7,S8,S9,S10,S11,S12,a1,a2,a3,a4,a5,a6,a7,a8,a9,a10,a11,a12,b12.r.root 7,b12.r.root 8⟩
theorem zSC5:∃ T1 T2:BkA,(zT5q 24).format=(zT5q 24,7)/\(zT5q 24).begin=(T1,0)/\T1.free=(0,4)/\T1.take=(T1,0,4)/\T1.give 3=(T1,4)/\T1.setRoot 0 0=(T1,4)/\T1.setRoot 9 0=(T1,2)/\T1.format=(T2,0):=by
 obtain ⟨S1,S2,e1,e2,-,-⟩:=zRTL (n:=24) (by decide) (by decide)
 have e:S1=(zT5q 24).begin.1:=by rw [e1]
 refine ⟨S1,S2,rfl,e1,?_,?_,?_,?_,?_,e2⟩<;>rw [e]<;>rfl
set_option maxRecDepth 100000 in
set_option maxHeartbeats 3200000 in
theorem zjxG (w:World):Calls Tryz.prog 4 #[] w fun e w'=>e=.returned (.bool true)/\Kept (fun _=>False) w w':=by
 go_enter Tryz.func4,Tryz.ntmps4
 go_wp2_with fail
 refine (zAOj w).mono ?_
 rintro e w1 ⟨x0,S,rfl,h1,h2,h3⟩
 have H1:=qh h1
 have HR:=qh h3
 have HFR:=qh (show S.free=(32,0) from h3.r.free)
 clear h1 h2 h3
 unfold ptrV
 go_wp2_with fail
 have hb:=znV8 H1.out.b
 unfold zpmK at hb
 rw [HFR.out] at hb
 unfold ptrV at hb
 refine hb.mono ?_
 rintro e w2 ⟨rfl,x2,h1,h2⟩
 have H2:=qh (show Bk w w2 x2 S 22 from H1.out.to h1 h2)
 have HBK2:=qh (show x2.bk=x0.bk from h1.fix.bk)
 clear h1 h2 hb H1 HFR
 go_wp2_with fail
 go_loopw [4] (fun i wr=>∃ (k:Nat) (x:BAdr) (S:BkA) (g:Nat),i=.int .i64 k/\k<=32/\Bk w wr x S g/\x.bk=x0.bk/\g<=22+2*k/\RelC S (zAt k) (6409 - 97*k)) (fun i _=>32 - (intOf i).toNat)
 case atStart=>exact ⟨0,x2,S,22,rfl,by omega,H2.out,HBK2.out,by omega,HR.out.low (by decide)⟩
 case round=>
  clear H2 HR HBK2
  obtain ⟨k,x,S,g,rfl,hk,h1,h2,hg,h4⟩:=hrel
  have HB:=qh h1
  have HBK:=qh h2
  have HR:=qh h4
  clear h1 h2 h4
  by_cases hkm:k < 32
  ·have i1:(k:Int) < 32:=by omega
   obtain ⟨S1,t1,t2⟩:=(HR.out.low (c':=6409 - 97*(k+1:Nat)+97) (by omega)).take (by omega)
   rw [(z8CY k hkm).1] at t1
   rw [(z8CY k hkm).2] at t2
   obtain ⟨q,hq⟩:∃ q:Int,((2+k:Nat):Int)=q:=⟨_,rfl⟩
   have hq2:(2:Int)+(k:Int)=q:=by omega
   rw [hq] at t1
   have HQ:=qh hq2
   have T1:=Lib.hid t1
   have T2:=Lib.hid t2
   clear t1 t2 hq hq2
   go_wp2_with fail
   have hb:=zSDl HB.out.b (by omega)
   unfold zo0G at hb
   rw [T1.out] at hb
   unfold ptrV at hb
   rw [HBK.out] at hb
   refine hb.mono ?_
   rintro e w5 ⟨rfl,x5,h1,h2⟩
   have H5:=qh (show Bk w w5 x5 S1 (g+2) from HB.out.to h1 h2)
   have HBK5:=qh (show x5.bk=x0.bk from h1.fix.bk.trans HBK.out)
   clear h1 h2 hb HB
   rw [<- HQ.out]
   go_wp2_with fail
   case roundEnd=>
    refine ⟨⟨k+1,x5,S1,g+2,by simp,by omega,H5.out,HBK5.out,by omega,T2.out⟩,?_⟩
    simp only [intOf]
    omega
  ·have i1:¬ (k:Int) < 32:=by omega
   go_wp2_with fail
   have hk32:k=32:=by omega
   subst hk32
   have HG:=qh (show g<=86 from by omega)
   obtain ⟨S1,S2,S3,S4,S5,S6,S7,S8,S9,S10,S11,S12,a1,a2,a3,a4,a5,a6,a7,a8,a9,a10,a11,a12,a13,a14⟩:=zA4B (HR.out.low (c':=3305) (by decide))
   have A1:=Lib.hid a1
   have A2:=Lib.hid a2
   have A3:=Lib.hid a3
   have A4:=Lib.hid a4
   have A5:=Lib.hid a5
   have A6:=Lib.hid a6
   have A7:=Lib.hid a7
   have A8:=Lib.hid a8
   have A9:=Lib.hid a9
   have A10:=Lib.hid a10
   have A11:=Lib.hid a11
   have A12:=Lib.hid a12
   have A13:=Lib.hid a13
   have A14:=Lib.hid a14
   clear a1 a2 a3 a4 a5 a6 a7 a8 a9 a10 a11 a12 a13 a14 HR hg i1 hk
   have HB0:=HB
   have HBK0:=HBK
   clear HB HBK
   go_wp2_with fail
   have hb:=zSDl HB0.out.b (by have:=HG.out;omega)
   unfold zo0G at hb
   rw [A1.out] at hb
   unfold ptrV at hb
   rw [HBK0.out] at hb
   refine hb.mono ?_
   rintro e w1 ⟨rfl,x1,h1,h2⟩
   have HB1:=qh (show Bk w w1 x1 (S1) (g+2) from HB0.out.to h1 h2)
   have HBK1:=qh (show x1.bk=x0.bk from h1.fix.bk.trans HBK0.out)
   clear h1 h2 hb HB0 HBK0
   go_wp2_with fail
   have hb:=zCzr HB1.out.b (by have:=HG.out;omega) 1
   rw [A2.out] at hb
   unfold ptrV at hb
   rw [HBK1.out] at hb
   refine hb.mono ?_
   rintro e w2 ⟨rfl,x2,h1,h2⟩
   have HB2:=qh (show Bk w w2 x2 (S2) (g+3) from HB1.out.to h1 h2)
   have HBK2:=qh (show x2.bk=x0.bk from h1.fix.bk.trans HBK1.out)
   clear h1 h2 hb HB1 HBK1
   go_wp2_with fail
   have hb:=zCzr HB2.out.b (by have:=HG.out;omega) 34
   rw [A3.out] at hb
   unfold ptrV at hb
   rw [HBK2.out] at hb
   refine hb.mono ?_
   rintro e w3 ⟨rfl,x3,h1,h2⟩
   have HB3:=qh (show Bk w w3 x3 (S3) (g+4) from HB2.out.to h1 h2)
   have HBK3:=qh (show x3.bk=x0.bk from h1.fix.bk.trans HBK2.out)
   clear h1 h2 hb HB2 HBK2
   go_wp2_with fail
   have hb:=zCzr HB3.out.b (by have:=HG.out;omega) (-1)
   rw [A4.out] at hb
   unfold ptrV at hb
   rw [HBK3.out] at hb
   refine hb.mono ?_
   rintro e w4 ⟨rfl,x4,h1,h2⟩
   have HB4:=qh (show Bk w w4 x4 (S4) (g+5) from HB3.out.to h1 h2)
   have HBK4:=qh (show x4.bk=x0.bk from h1.fix.bk.trans HBK3.out)
   clear h1 h2 hb HB3 HBK3
   go_wp2_with fail
   have hb:=zCzr HB4.out.b (by have:=HG.out;omega) 33
   rw [A5.out] at hb
   unfold ptrV at hb
   rw [HBK4.out] at hb
   refine hb.mono ?_
   rintro e w5 ⟨rfl,x5,h1,h2⟩
   have HB5:=qh (show Bk w w5 x5 (S5) (g+6) from HB4.out.to h1 h2)
   have HBK5:=qh (show x5.bk=x0.bk from h1.fix.bk.trans HBK4.out)
   clear h1 h2 hb HB4 HBK4
   go_wp2_with fail
   have hb:=zCzr HB5.out.b (by have:=HG.out;omega) 20
   rw [A6.out] at hb
   unfold ptrV at hb
   rw [HBK5.out] at hb
   refine hb.mono ?_
   rintro e w6 ⟨rfl,x6,h1,h2⟩
   have HB6:=qh (show Bk w w6 x6 (S6) (g+7) from HB5.out.to h1 h2)
   have HBK6:=qh (show x6.bk=x0.bk from h1.fix.bk.trans HBK5.out)
   clear h1 h2 hb HB5 HBK5
   go_wp2_with fail
   have hb:=zCzr HB6.out.b (by have:=HG.out;omega) 20
   rw [A7.out] at hb
   unfold ptrV at hb
   rw [HBK6.out] at hb
   refine hb.mono ?_
   rintro e w7 ⟨rfl,x7,h1,h2⟩
   have HB7:=qh (show Bk w w7 x7 (S7) (g+8) from HB6.out.to h1 h2)
   have HBK7:=qh (show x7.bk=x0.bk from h1.fix.bk.trans HBK6.out)
   clear h1 h2 hb HB6 HBK6
   go_wp2_with fail
   have hb:=zSDl HB7.out.b (by have:=HG.out;omega)
   unfold zo0G at hb
   rw [A8.out] at hb
   unfold ptrV at hb
   rw [HBK7.out] at hb
   refine hb.mono ?_
   rintro e w8 ⟨rfl,x8,h1,h2⟩
   have HB8:=qh (show Bk w w8 x8 (S8) (g+10) from HB7.out.to h1 h2)
   have HBK8:=qh (show x8.bk=x0.bk from h1.fix.bk.trans HBK7.out)
   clear h1 h2 hb HB7 HBK7
   go_wp2_with fail
   have hb:=zxVX HB8.out.b (by have:=HG.out;omega) 8 0
   rw [A9.out] at hb
   unfold ptrV at hb
   rw [HBK8.out] at hb
   refine hb.mono ?_
   rintro e w9 ⟨rfl,x9,h1,h2⟩
   have HB9:=qh (show Bk w w9 x9 (S9) (g+11) from HB8.out.to h1 h2)
   have HBK9:=qh (show x9.bk=x0.bk from h1.fix.bk.trans HBK8.out)
   clear h1 h2 hb HB8 HBK8
   go_wp2_with fail
   have hb:=zxVX HB9.out.b (by have:=HG.out;omega) (-1) 0
   rw [A10.out] at hb
   unfold ptrV at hb
   rw [HBK9.out] at hb
   refine hb.mono ?_
   rintro e w10 ⟨rfl,x10,h1,h2⟩
   have HB10:=qh (show Bk w w10 x10 (S10) (g+12) from HB9.out.to h1 h2)
   have HBK10:=qh (show x10.bk=x0.bk from h1.fix.bk.trans HBK9.out)
   clear h1 h2 hb HB9 HBK9
   go_wp2_with fail
   have hb:=zxVX HB10.out.b (by have:=HG.out;omega) 0 34
   rw [A11.out] at hb
   unfold ptrV at hb
   rw [HBK10.out] at hb
   refine hb.mono ?_
   rintro e w11 ⟨rfl,x11,h1,h2⟩
   have HB11:=qh (show Bk w w11 x11 (S11) (g+13) from HB10.out.to h1 h2)
   have HBK11:=qh (show x11.bk=x0.bk from h1.fix.bk.trans HBK10.out)
   clear h1 h2 hb HB10 HBK10
   go_wp2_with fail
   have hb:=zxVX HB11.out.b (by have:=HG.out;omega) 7 33
   rw [A12.out] at hb
   unfold ptrV at hb
   rw [HBK11.out] at hb
   refine hb.mono ?_
   rintro e w12 ⟨rfl,x12,h1,h2⟩
   have HB12:=qh (show Bk w w12 x12 (S12) (g+14) from HB11.out.to h1 h2)
   have HBK12:=qh (show x12.bk=x0.bk from h1.fix.bk.trans HBK11.out)
   clear h1 h2 hb HB11 HBK11
   go_wp2_with fail
   have hb:=zGfd HB12.out.b 7
   unfold zfnK at hb
   rw [A13.out] at hb
   unfold ptrV at hb
   rw [HBK12.out] at hb
   refine hb.mono ?_
   rintro e w13 ⟨rfl,x13,h1,h2⟩
   have HB13:=qh (show Bk w w13 x13 (S12) (g+14) from HB12.out.to h1 h2)
   have HBK13:=qh (show x13.bk=x0.bk from h1.fix.bk.trans HBK12.out)
   clear h1 h2 hb HB12 HBK12
   go_wp2_with fail
   have hb:=zGfd HB13.out.b 8
   unfold zfnK at hb
   rw [A14.out] at hb
   unfold ptrV at hb
   rw [HBK13.out] at hb
   refine hb.mono ?_
   rintro e w14 ⟨rfl,x14,h1,h2⟩
   have HB14:=qh (show Bk w w14 x14 (S12) (g+14) from HB13.out.to h1 h2)
   have HBK14:=qh (show x14.bk=x0.bk from h1.fix.bk.trans HBK13.out)
   clear h1 h2 hb HB13 HBK13
   obtain ⟨T1,T2,c1,c2,c3,c4,c5,c6,c7,c8⟩:=zSC5
   have C1:=Lib.hid c1
   have C2:=Lib.hid c2
   have C3:=Lib.hid c3
   have C4:=Lib.hid c4
   have C5:=Lib.hid c5
   have C6:=Lib.hid c6
   have C7:=Lib.hid c7
   have C8:=Lib.hid c8
   clear c1 c2 c3 c4 c5 c6 c7 c8
   have HK:=Lib.hid HB14.out.k
   clear HB14 HBK14
   go_wp2_with fail
   refine (zWg0 w14 0 0 (by decide) (by decide)).mono ?_
   rintro e w20 ⟨y,rfl,hb⟩
   have HB20:=qh (show Bk w w20 y (zT5q 24) 1 from Bk.early HK.out hb)
   clear hb HK
   unfold ptrV
   go_wp2_with fail
   have hb:=zBXs HB20.out.b (by decide)
   rw [C1.out] at hb
   unfold ptrV at hb
   refine hb.mono ?_
   rintro e w21 ⟨rfl,x21,h1,h2⟩
   have HB21:=qh (show Bk w w21 x21 (zT5q 24) (21) from HB20.out.to h1 h2)
   have HBK21:=qh (show x21.bk=y.bk from h1.fix.bk)
   clear h1 h2 hb HB20
   go_wp2_with fail
   have hb:=zvJ4 HB21.out.b (by decide)
   rw [C2.out] at hb
   unfold ptrV at hb
   rw [HBK21.out] at hb
   refine hb.mono ?_
   rintro e w22 ⟨rfl,x22,h1,h2⟩
   have HB22:=qh (show Bk w w22 x22 (T1) (22) from HB21.out.to h1 h2)
   have HBK22:=qh (show x22.bk=y.bk from h1.fix.bk.trans HBK21.out)
   clear h1 h2 hb HB21 HBK21
   go_wp2_with fail
   have hb:=znV8 HB22.out.b
   unfold zpmK at hb
   rw [C3.out] at hb
   unfold ptrV at hb
   rw [HBK22.out] at hb
   refine hb.mono ?_
   rintro e w23 ⟨rfl,x23,h1,h2⟩
   have HB23:=qh (show Bk w w23 x23 (T1) (22) from HB22.out.to h1 h2)
   have HBK23:=qh (show x23.bk=y.bk from h1.fix.bk.trans HBK22.out)
   clear h1 h2 hb HB22 HBK22
   go_wp2_with fail
   have hb:=zSDl HB23.out.b (by decide)
   unfold zo0G at hb
   rw [C4.out] at hb
   unfold ptrV at hb
   rw [HBK23.out] at hb
   refine hb.mono ?_
   rintro e w24 ⟨rfl,x24,h1,h2⟩
   have HB24:=qh (show Bk w w24 x24 (T1) (24) from HB23.out.to h1 h2)
   have HBK24:=qh (show x24.bk=y.bk from h1.fix.bk.trans HBK23.out)
   clear h1 h2 hb HB23 HBK23
   go_wp2_with fail
   have hb:=zCzr HB24.out.b (by decide) 3
   rw [C5.out] at hb
   unfold ptrV at hb
   rw [HBK24.out] at hb
   refine hb.mono ?_
   rintro e w25 ⟨rfl,x25,h1,h2⟩
   have HB25:=qh (show Bk w w25 x25 (T1) (25) from HB24.out.to h1 h2)
   have HBK25:=qh (show x25.bk=y.bk from h1.fix.bk.trans HBK24.out)
   clear h1 h2 hb HB24 HBK24
   go_wp2_with fail
   have hb:=zxVX HB25.out.b (by decide) 0 0
   rw [C6.out] at hb
   unfold ptrV at hb
   rw [HBK25.out] at hb
   refine hb.mono ?_
   rintro e w26 ⟨rfl,x26,h1,h2⟩
   have HB26:=qh (show Bk w w26 x26 (T1) (26) from HB25.out.to h1 h2)
   have HBK26:=qh (show x26.bk=y.bk from h1.fix.bk.trans HBK25.out)
   clear h1 h2 hb HB25 HBK25
   go_wp2_with fail
   have hb:=zxVX HB26.out.b (by decide) 9 0
   rw [C7.out] at hb
   unfold ptrV at hb
   rw [HBK26.out] at hb
   refine hb.mono ?_
   rintro e w27 ⟨rfl,x27,h1,h2⟩
   have HB27:=qh (show Bk w w27 x27 (T1) (27) from HB26.out.to h1 h2)
   have HBK27:=qh (show x27.bk=y.bk from h1.fix.bk.trans HBK26.out)
   clear h1 h2 hb HB26 HBK26
   go_wp2_with fail
   have hb:=zBXs HB27.out.b (by decide)
   rw [C8.out] at hb
   unfold ptrV at hb
   rw [HBK27.out] at hb
   refine hb.mono ?_
   rintro e w28 ⟨rfl,x28,h1,h2⟩
   have HB28:=qh (show Bk w w28 x28 (T2) (47) from HB27.out.to h1 h2)
   have HBK28:=qh (show x28.bk=y.bk from h1.fix.bk.trans HBK27.out)
   clear h1 h2 hb HB27 HBK27
   have HK:=Lib.hid HB28.out.k
   go_wp2_with fail
   refine (z97Z w28).mono ?_
   rintro e w30 ⟨rfl,hk1⟩
   have HK1:=qh (HK.out.trans0 hk1)
   clear hk1
   go_wp2_with fail
   refine (zpT7 w30).mono ?_
   rintro e w31 ⟨rfl,hk1⟩
   have HK2:=qh (HK1.out.trans0 hk1)
   clear hk1
   go_wp2
   go_ret
   exact ⟨rfl,HK2.out⟩
end Go.Proofs.YtfgagakepmigbaaGreat
