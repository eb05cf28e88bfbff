/-
  No statement is proved here.
-/
import Derived.Test.YtfgagakepmigbaaGreatJSnd
import Derived.Test.YtfgagakepmigbaaGreatJSmh
import Derived.Test.YtfgagakepmigbaaGreatJLra
import Derived.Test.YtfgagakepmigbaaGreatJSwj
import Derived.Test.YtfgagakepmigbaaGreatJSwg
namespace Go.Proofs.YtfgagakepmigbaaGreat
open Go.RowKit
def iC (l:List Int):Array Value:=(l.map fun n=>Value.int .i64 n).toArray
theorem zOd6 {l:List Int} {k:Nat} (h:k < l.length):(iC l)[k]?=some (.int .i64 (l.getD k 0)):=by
 unfold iC
 simp [List.getD_eq_getElem?_getD,List.getElem?_eq_getElem h]
theorem ztDA (l:List Int):(iC l).size=l.length:=by simp [iC]
theorem zin9 (l:List Int) (k:Nat) (n:Int):(iC l).setIfInBounds k (.int .i64 n)=iC (l.set k n):=by simp [iC,List.map_set]
theorem z8eH:(Tryz.prog.info? 58).map (fun i=>(i.zero,i.size))=some (some (.agg (iC (List.replicate 8 0))),8):=by kernel_rfl
theorem z466 (w:World):(zeroValue 58).run Tryz.prog w=.ok (.agg (iC (List.replicate 8 0))) w:=(zero_of_info z8eH).1 w
theorem RdDo.sub {w:World} {A:Option Addr} {l:List DoM} (h:RdDo w A l) (n:Nat):RdDo w A (l.take n):=fun hne=>by
 obtain ⟨b,off,h1,h2⟩:=h (by rintro rfl;simp at hne)
 refine ⟨b,off,h1,fun i y hy=>h2 i y ?_⟩
 rw [List.getElem?_take] at hy
 split at hy
 ·exact hy
 ·cases hy
theorem RdDo.kept {w w':World} {A:Option Addr} {l:List DoM} (h:RdDo w A l) (hk:Kept (fun _=>False) w w'):RdDo w' A l:=fun hne=>by
 obtain ⟨b,off,h1,h2⟩:=h hne
 refine ⟨b,off,h1,fun i y hy k hk3=>?_⟩
 have h3:=h2 i y hy k hk3
 have:∃ v,(doC y)[k]?=some v:=by
  refine ⟨(doC y)[k]'(by simpa [doC] using hk3),List.getElem?_eq_getElem _⟩
 obtain ⟨v,hv⟩:=this
 rw [hv] at h3 ⊢
 exact (World.cell?_of_block (hk.block b (block_lt_of_cell h3) id)).trans h3
def Cut80 (A:Option Addr) (l:List DoM) (v:Value):Prop:=∃ c,v=.slice A (l.take 80).length c
def RoAt (w:World) (bk gr:Nat) (G:Nat) (R:List Int) (w':World):Prop:=∃ x S g,Bk w w' x S g/\x.bk=bk/\g<=G/\SR S R/\w'.heap[gr]?=some (.cells (iC R) 58 (0,0))
section
variable {w0 w w':World} {x x':BAdr} {S S':BkA} {g g':Nat}
theorem Bk.notR8 (h:Bk w0 w x S g) {y:Nat} {cs:Array Value} (hb:w.heap[y]?=some (.cells cs 58 (0,0))):¬ x.K y:=
 h.b.notK ⟨_,_,hb⟩ (by decide) (by decide) (by decide) (by decide) (by decide) (by decide) (by decide) (by decide)
set_option maxRecDepth 100000 in
set_option maxHeartbeats 3200000 in
theorem z0P2 (w:World) (A:Option Addr) (c:Nat) (l:List DoM) (hl:RdDo w A l) (_hlm:l.length<=maxLen) (hlc:l.length<=c):Calls Tryz.prog 7 #[.slice A l.length c] w fun e w'=>e=.returned (.bool true)/\Kept (fun _=>False) w w':=by
 have HL:=qh hl
 obtain ⟨n,hn⟩:∃ n,n=l.length:=⟨_,rfl⟩
 have HN:=qh hn
 rw [<- hn] at _hlm hlc ⊢
 have e63:maxLen=9223372036854775807:=rfl
 clear hn hl
 go_enter Tryz.func7,Tryz.ntmps7
 go_wp2_with fail
 refine (zpT7 w).mono ?_
 rintro e w1 ⟨rfl,hk1⟩
 have HK1:=qh hk1
 clear hk1
 go_upto_if 18 with (fail)
 go_cut [0] from 19 to 20 (fun v wx=>Cut80 A l v/\w1=wx)
 case first=>
  by_cases h80:80 < (n:Int)
  ·have hA:∃ b off,A=some ⟨b,off,none⟩:=by
    obtain ⟨b,off,h1,-⟩:=HL.out (by rintro rfl;have:=HN.out;simp at this;omega)
    exact ⟨b,off,h1⟩
   obtain ⟨b,off,rfl⟩:=hA
   have h8c:(80:Int)<=(c:Int):=by omega
   have HQ:=qh (show (l.take 80).length=80 from by rw [List.length_take,<- HN.out];omega)
   go_wp2_with fail
   go_meet
   exact ⟨⟨c,by rw [HQ.out]⟩,rfl⟩
  ·have HQ:=qh (show (l.take 80).length=n from by rw [List.length_take,<- HN.out];omega)
   go_wp2_with fail
   go_meet
   exact ⟨⟨c,by rw [HQ.out]⟩,rfl⟩
 case rest=>
  obtain ⟨⟨c1,rfl⟩,rfl⟩:=hcut
  have HL2:=qh (HL.out.sub 80)
  obtain ⟨l2,hl2⟩:∃ l2,l2=l.take 80:=⟨_,rfl⟩
  obtain ⟨m,hm⟩:∃ m,m=l2.length:=⟨_,rfl⟩
  have m80:m<=80:=by rw [hm,hl2,List.length_take];omega
  rw [<- hl2] at HL2
  rw [<- hl2,<- hm]
  have HM:=qh hm
  clear hl2 hm _hlm hlc e63 HL HN
  go_wp2_with fail
  refine (zAOj w1).mono ?_
  rintro e w2 ⟨x0,S0,rfl,h1,h2,h3⟩
  have H0:=qh (show Bk w w2 x0 S0 22 from h1.early HK1.out)
  have HS0:=qh (SR.made h3 h2)
  clear h1 h2 h3
  unfold ptrV
  go_wp2_with (refine zNko rfl 58 rfl (iC (List.replicate 8 0)) z466 ?_)
  intro gr w3 l3 m3 hb3 hk3
  have HR3:=qh hb3
  have H3:=qh (H0.out.keep0 hk3)
  have HLR:=qh (show w.heap.size<=gr from Nat.le_trans H0.out.k.size l3)
  clear hb3 hk3 l3 m3 H0
  go_wp2_with fail
  go_loopw [5] (fun i wr=>∃ (k:Nat) (x:BAdr) (S:BkA) (g:Nat) (R:List Int),i=.int .i64 k/\k<=m/\Bk w wr x S g/\x.bk=x0.bk/\g<=22+10*k/\SR S R/\wr.heap[gr]?=some (.cells (iC R) 58 (0,0))) (fun i _=>m - (intOf i).toNat)
  case atStart=>exact ⟨0,x0,S0,22,_,rfl,Nat.zero_le _,H3.out,rfl,by omega,HS0.out,HR3.out⟩
  case round=>
   clear H3 HS0 HR3
   obtain ⟨k,x,S,g,R,rfl,hk,hb,hbk,hg,hsr,hr⟩:=hrel
   have HB:=qh hb
   have HBK:=qh hbk
   have HSR:=qh hsr
   have HR:=qh hr
   clear hb hbk hsr hr
   by_cases hkm:k < m
   ·have i1:(k:Int) < m:=by omega
    obtain ⟨y,hy⟩:∃ y,l2[k]?=some y:=⟨_,List.getElem?_eq_getElem (by rw [<- HM.out];exact hkm)⟩
    obtain ⟨bA,oA,rfl,hrow⟩:=(HL2.out.kept HB.out.k) (by rintro rfl;simp at hy)
    have HC:=qh (hrow k y hy)
    have HDW:=qh (show DoAt w bA (oA+k*3) y from by
     obtain ⟨b',o',e,h⟩:=HL2.out (by rintro rfl;simp at hy)
     cases e
     exact h k y hy)
    have HP1:=qh (fun w=>zkAP y.which 8 (by decide) w)
    have HP2:=qh (fun w=>zkAP y.page 34 (by decide) w)
    obtain ⟨q0,q1⟩:=z1m9 (x:=y.which) (n:=8) (by decide)
    obtain ⟨q2,q3⟩:=z1m9 (x:=y.page) (n:=34) (by decide)
    obtain ⟨wh,hwh⟩:∃ wh,wh=pickM y.which 8:=⟨_,rfl⟩
    obtain ⟨pg,hpg⟩:∃ pg,pg=pickM y.page 34:=⟨_,rfl⟩
    rw [<- hwh] at HP1 q0 q1
    rw [<- hpg] at HP2 q2 q3
    clear hrow hy hwh hpg
    go_wp2_with fail
    have HD:=qh (show ∀ w',Kept (fun _=>False) wr w'->w'.cell? ⟨bA,oA+k*3+1,none⟩=some (.int .i64 y.page)/\w'.cell? ⟨bA,oA+k*3+2,none⟩=some (.int .i64 y.which)/\w'.cell? ⟨bA,oA+k*3,none⟩=some (.int .i64 y.op) from fun w' hk=>by
     have tr:∀ o v,wr.cell? ⟨bA,o,none⟩=some v->w'.cell? ⟨bA,o,none⟩=some v:=fun o v hv=>(World.cell?_of_block (hk.block bA (block_lt_of_cell hv) id)).trans hv
     exact ⟨tr _ _ (HC.out 1 (by decide)),tr _ _ (HC.out 2 (by decide)),tr _ _ (HC.out 0 (by decide))⟩)
    have hkd:Kept (fun _=>False) wr wr.drew:=(Kept.refl (fun _=>False) wr).drew
    refine znCh 13 (fun w'=>Kept (fun _=>False) wr w') (by kernel_rfl) hkd (fun hH=>?_)
    simp only [List.length_cons,List.length_nil,List.replicate]
    refine tK 0 ?_ (fun w' hw'=>?_) hH ?_
    rotate_left
    ·obtain ⟨d1,d2,d0⟩:=HD.out w' hw'
     go_simp<;>with_reducible rfl
    simp only [Act.put,oZa,oZb,oZc]
    refine tK 1 ?_ (fun w' hw'=>?_) hH ?_
    rotate_left
    ·obtain ⟨d1,d2,d0⟩:=HD.out w' hw'
     go_simp<;>with_reducible rfl
    simp only [Act.put,oZa,oZb,oZc]
    refine tK 2 ?_ (fun w' hw'=>?_) hH ?_
    rotate_left
    ·obtain ⟨d1,d2,d0⟩:=HD.out w' hw'
     go_simp<;>with_reducible rfl
    simp only [Act.put,oZa,oZb,oZc]
    refine tK 3 ?_ (fun w' hw'=>?_) hH ?_
    rotate_left
    ·obtain ⟨d1,d2,d0⟩:=HD.out w' hw'
     go_simp<;>with_reducible rfl
    simp only [Act.put,oZa,oZb,oZc]
    refine tK 4 ?_ (fun w' hw'=>?_) hH ?_
    rotate_left
    ·obtain ⟨d1,d2,d0⟩:=HD.out w' hw'
     go_simp<;>with_reducible rfl
    simp only [Act.put,oZa,oZb,oZc]
    refine tK 6 ?_ (fun w' hw'=>?_) hH ?_
    rotate_left
    ·obtain ⟨d1,d2,d0⟩:=HD.out w' hw'
     go_simp<;>with_reducible rfl
    simp only [Act.put,oZa,oZb,oZc]
    refine tK 7 ?_ (fun w' hw'=>?_) hH ?_
    rotate_left
    ·obtain ⟨d1,d2,d0⟩:=HD.out w' hw'
     go_simp<;>with_reducible rfl
    simp only [Act.put,oZa,oZb,oZc]
    refine tK 8 ?_ (fun w' hw'=>?_) hH ?_
    rotate_left
    ·obtain ⟨d1,d2,d0⟩:=HD.out w' hw'
     go_simp<;>with_reducible rfl
    simp only [Act.put,oZa,oZb,oZc]
    refine tK 9 ?_ (fun w' hw'=>?_) hH ?_
    rotate_left
    ·obtain ⟨d1,d2,d0⟩:=HD.out w' hw'
     go_simp<;>with_reducible rfl
    simp only [Act.put,oZa,oZb,oZc]
    refine tK 10 ?_ (fun w' hw'=>?_) hH ?_
    rotate_left
    ·obtain ⟨d1,d2,d0⟩:=HD.out w' hw'
     go_simp<;>with_reducible rfl
    simp only [Act.put,oZa,oZb,oZc]
    refine stepL 5 rfl (by kernel_rfl) (fun K hK=>?_)
    go_simp
    refine (HP1.out _).mono ?_
    rintro e wx ⟨rfl,rfl⟩
    go_simp
    refine hK.out _ _ (fun _=>hH) (fun _=>?_)
    simp only [oZa,oZb,oZc]
    clear hK K
    refine stepL 11 rfl (by kernel_rfl) (fun K hK=>?_)
    go_simp
    refine (HP2.out _).mono ?_
    rintro e wx ⟨rfl,rfl⟩
    go_simp
    refine hK.out _ _ (fun _=>hH) (fun _=>?_)
    simp only [oZa,oZb,oZc]
    clear hK K
    refine tK 12 ?_ (fun w' hw'=>?_) hH ?_
    rotate_left
    ·skip
     go_simp<;>with_reducible rfl
    simp only [Act.put,oZa,oZb,oZc]
    refine stepL 13 rfl (by kernel_rfl) (fun K hK=>?_)
    go_simp
    refine hK.out _ _ (fun h=>absurd rfl h) (fun _=>?_)
    simp only [oZa,oZb,oZc]
    clear hK K
    refine doneL (by kernel_rfl) ?_ _
    have HBd:=qh (HB.out.keep0 hkd)
    have HRd:=qh (show wr.drew.heap[gr]?=some (.cells (iC R) 58 (0,0)) from HR.out)
    obtain ⟨d1,d2,d0⟩:=HD.out wr.drew hkd
    have HKd:=qh hkd
    clear hH hkd HB HR d1 d2 HP1 HP2
    have hsr:=HSR.out.set q0 q1 q2 q3
    have hset:=zxVX HBd.out.b (by omega) wh pg
    unfold ptrV at hset
    rw [HBK.out] at hset
    obtain ⟨V,hV⟩:∃ V,V=S.setRoot wh pg:=⟨_,rfl⟩
    rw [<- hV] at hset hsr
    obtain ⟨S1,e1⟩:=V
    clear hV
    dsimp only at hsr
    have HSR1:=qh hsr
    have HSET:=qh hset
    clear hsr hset
    go_wp2_with fail
    refine HSET.out.mono ?_
    rintro e w4 ⟨rfl,x4,h1,h2⟩
    have H4:=qh (show Bk w w4 x4 S1 (g+1) from HBd.out.to h1 h2)
    have HR4:=qh (h1.k.heap HRd.out (HBd.out.notR8 HRd.out))
    have HBK4:=qh (show x4.bk=x0.bk from h1.fix.bk.trans HBK.out)
    clear h1 h2 HSET HRd HBd
    rcases HSR1.out.2 with rfl | ⟨rfl,hsr⟩
    ·obtain ⟨S2,S3,ea,-⟩:=zhWV HSR1.out.1
     have hb:=zhWV HSR1.out.1
     have hab:=zslo H4.out.b (by omega)
     rw [ea] at hab
     unfold ptrV at hab
     rw [HBK4.out] at hab
     have HAB:=qh hab
     clear hab hb ea HSR1
     go_wp2_with fail
     refine HAB.out.mono ?_
     rintro e w5 ⟨rfl,x5,h1,h2⟩
     have H5:=qh (H4.out.to h1 h2)
     clear h1 h2 HAB
     go_wp2
     go_ret
     exact ⟨rfl,H5.out.k⟩
    ·have HSR2:=qh hsr
     clear hsr HSR1 HSR d0
     obtain ⟨j,rfl⟩:∃ j:Nat,wh=j:=⟨wh.toNat,by omega⟩
     have hj:j < 8:=by omega
     rw [Int.toNat_natCast] at HSR2
     have HRl:=qh (show R.length=8 from by have:=HSR2.out.len;rw [List.length_set] at this;exact this)
     go_wp2_with (refine z2q7 rfl _ _ _ rfl gr j (.int .i64 pg) (iC R) rfl rfl HR4.out (by kernel_rfl) (by rw [ztDA,HRl.out];exact hj) rfl ?_)
     intro w5 hb5 hk5
     have HR5:=qh (show w5.heap[gr]?=some (.cells (iC (R.set j pg)) 58 (0,0)) from by rw [<- zin9];exact hb5)
     have HNK:=qh (H4.out.notR8 HR4.out)
     have H5:=qh (H4.out.keep hk5 (fun z hz=>by subst hz;exact HLR.out) (fun z hz e=>HNK.out (by rw [<- e];exact hz)))
     clear hb5 hk5 HR4 H4 HNK
     have HD0:=qh (show ∀ w',Kept (fun _=>False) w w'->w'.cell? ⟨bA,oA+k*3,none⟩=some (.int .i64 y.op) from fun w' hk=>by
      have hv:w.cell? ⟨bA,oA+k*3,none⟩=some (.int .i64 y.op):=HDW.out 0 (by decide)
      exact (World.cell?_of_block (hk.block bA (block_lt_of_cell hv) id)).trans hv)
     have d0:=HD0.out w5 H5.out.k
     have HRO:=qh (show RoAt w x0.bk gr (g+1) (R.set j pg) w5 from ⟨x4,S1,g+1,H5.out,HBK4.out,Nat.le_refl _,HSR2.out,HR5.out⟩)
     obtain ⟨R2,hR2⟩:∃ R2,R2=R.set j pg:=⟨_,rfl⟩
     rw [<- hR2] at HSR2 HRO HR5
     clear hR2 HDW HD HC
     go_upto_if 62 with (fail)
     go_cut [9,10] from 24 to 109 (fun _ _ wx=>RoAt w x0.bk gr (g+3) R2 wx)
     case first=>
      have HT:=qh (zSDl H5.out.b (by omega))
      have HST:=Lib.hid HSR2.out.take
      unfold ptrV at HT
      rw [HBK4.out] at HT
      obtain ⟨V,hV⟩:∃ V,V=S1.take:=⟨_,rfl⟩
      unfold zo0G at HT
      rw [<- hV] at HT HST
      obtain ⟨S6,v6,e6⟩:=V
      clear hV
      by_cases h3:y.op.tmod 3=0
      ·go_wp2_with fail
       refine HT.out.mono ?_
       rintro e w6 ⟨rfl,x6,h1,h2⟩
       have H6:=qh (H5.out.to h1 h2)
       have HR6:=qh (h1.k.heap HR5.out (H5.out.notR8 HR5.out))
       have HBK6:=qh (show x6.bk=x0.bk from h1.fix.bk.trans HBK4.out)
       have HRO6:=qh (show RoAt w x0.bk gr (g+3) R2 w6 from ⟨x6,S6,g+1+2,H6.out,HBK6.out,by omega,HST.out.2,HR6.out⟩)
       have he:=HST.out.1
       clear h1 h2 HT HST H5 HR5
       dsimp only at he ⊢
       rcases he with rfl | rfl
       ·go_wp2_with fail
        go_meet
        exact HRO6.out
       ·go_wp2_with fail
        go_meet
        exact HRO6.out
      ·go_wp2_with fail
       go_meet
       obtain ⟨x,S,g',k1,k2,k3,k4⟩:=HRO.out
       exact ⟨x,S,g',k1,k2,by omega,k4⟩
     case rest=>
      clear HRO H5 HR5 d0 HSR2
      obtain ⟨x6,S6,g6,h1,h2,h3,h4,h5⟩:=hcut
      have H6:=qh h1
      have HBK6:=qh h2
      have HSR6:=qh h4
      have HR6:=qh h5
      have d0:=HD0.out wc h1.k
      clear h1 h2 h4 h5
      have HN:=Lib.hid HSR6.out.next
      go_upto_region 23 with (fail)
      go_cut [90] from 24 to 109 (fun v wx=>v=.bool false/\RoAt w x0.bk gr (g+6) R2 wx)
      case first=>
       by_cases h5:y.op.tmod 5=0
       ·obtain ⟨S7,S8,f1,f2,f3⟩:=HN.out
        have F3:=Lib.hid f3
        have F2:=Lib.hid f2
        have hb:=zlbX H6.out.b (by omega)
        rw [f1] at hb
        unfold ptrV at hb
        rw [HBK6.out] at hb
        have HC:=qh hb
        clear f1 f2 f3 hb HN
        go_wp2_with fail
        refine HC.out.mono ?_
        rintro e w7 ⟨rfl,x7,h1,h2⟩
        have H7:=qh (show Bk w w7 x7 S7 (g6+1) from H6.out.to h1 h2)
        have HR7:=qh (h1.k.heap HR6.out (H6.out.notR8 HR6.out))
        have HBK7:=qh (show x7.bk=x0.bk from h1.fix.bk.trans HBK6.out)
        have hb:=zvJ4 H7.out.b (by omega)
        rw [F2.out] at hb
        unfold ptrV at hb
        rw [HBK7.out] at hb
        have HC2:=qh hb
        clear h1 h2 hb HC d0 H6 HR6
        go_wp2_with fail
        refine HC2.out.mono ?_
        rintro e w8 ⟨rfl,x8,h1,h2⟩
        have HRO8:=qh (show RoAt w x0.bk gr (g+6) R2 w8 from ⟨x8,S8,g6+2,H7.out.to h1 h2,h1.fix.bk.trans HBK7.out,by omega,F3.out,h1.k.heap HR7.out (H7.out.notR8 HR7.out)⟩)
        clear h1 h2 HC2 H7 HR7
        go_wp2_with fail
        go_meet
        exact ⟨rfl,HRO8.out⟩
       ·have HRO6:=qh (show RoAt w x0.bk gr (g+6) R2 wc from ⟨x6,S6,g6,H6.out,HBK6.out,by omega,HSR6.out,HR6.out⟩)
        go_wp2_with fail
        go_meet
        exact ⟨rfl,HRO6.out⟩
      case rest=>
       obtain ⟨rfl,hro⟩:=hcut
       have HRO:=qh hro
       clear hro H6 HBK6 HSR6 HR6 d0 HN HD0
       go_wp2_with fail
       go_loopw [11] (fun i wx=>∃ q:Nat,i=.int .i64 q/\q<=8/\RoAt w x0.bk gr (g+6) R2 wx) (fun i _=>8 - (intOf i).toNat)
       case atStart=>exact ⟨0,rfl,by omega,HRO.out⟩
       case round=>
        clear HRO
        obtain ⟨q,rfl,hq,x7,S7,g7,h1,h2,h3,h4,h5⟩:=hrel
        have H7:=qh h1
        have HBK7:=qh h2
        have HSR7:=qh h4
        have HR7:=qh h5
        clear h1 h2 h4 h5
        by_cases hq8:q < 8
        ·have j1:(q:Int) < 8:=by omega
         have hb:=zGfd H7.out.b (q:Int)
         unfold zfnK at hb
         rw [HSR7.out.root (by omega) (by omega),Int.toNat_natCast] at hb
         unfold ptrV at hb
         rw [HBK7.out] at hb
         have HB:=qh hb
         clear hb
         go_wp2_with fail
         refine HB.out.mono ?_
         rintro e w8 ⟨rfl,x8,h1,h2⟩
         have H8:=qh (show Bk w w8 x8 S7 g7 from H7.out.to h1 h2)
         have HR8:=qh (h1.k.heap HR7.out (H7.out.notR8 HR7.out))
         have HBK8:=qh (show x8.bk=x0.bk from h1.fix.bk.trans HBK7.out)
         have c8:w8.cell? ⟨gr,q,none⟩=some (.int .i64 (R2.getD q 0)):=zcjX HR8.out (zOd6 (by rw [HSR7.out.len];exact hq8))
         obtain ⟨rv,hrv⟩:∃ rv,rv=R2.getD q 0:=⟨_,rfl⟩
         rw [<- hrv] at c8 ⊢
         have e1:wrap64 ((q:Int)+1)=((q+1:Nat):Int):=by unfold wrap64;omega
         clear h1 h2 HB H7 HR7 hrv
         go_wp2_with fail
         case roundEnd=>
          refine ⟨⟨q+1,by simp,by omega,x8,S7,g7,H8.out,HBK8.out,h3,HSR7.out,HR8.out⟩,?_⟩
          simp only [intOf]
          omega
        ·have j1:¬ (q:Int) < 8:=by omega
         go_wp2_with fail
         case roundEnd=>
          refine ⟨⟨k+1,x7,S7,g7,R2,by simp,by omega,H7.out,HBK7.out,by omega,HSR7.out,HR7.out⟩,?_⟩
          simp only [intOf]
          omega
   ·have i1:¬ (k:Int) < m:=by omega
    go_wp2
    go_ret
    exact ⟨rfl,HB.out.k⟩
end
end Go.Proofs.YtfgagakepmigbaaGreat
