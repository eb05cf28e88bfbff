/-
  No statement is proved here.
-/
import Derived.Test.YtnbfhdgojmflhaaJLgm
namespace Go.Proofs.Ytnbfhdgojmflhaa
open Go.RowKit
def openT (D:DevM) (f c o t:Int) (all:Bytes) (s:List Int×Int×Nat):Option LogM×DevM×Int:=
 let L:LogM:=⟨f,c,t,o,s.2.1,s.2.1,s.1,[],0⟩
 let b:=L.begin D
 if b.2≠0 then (none,D,b.2) else
 let t:=b.1.stale D
 if t.2≠0 then (none,D,t.2) else
 if t.1\/s.2.2 < all.length then
  let x:=b.1.cut D
  if x.2≠0 then (none,x.1,x.2) else (some b.1,x.1,0)
 else (some b.1,D,0)
theorem zyHI (D:DevM) (f c o t:Int) (h0:D.n≠0) (hg:¬ badM D.n f c o t):openM D f c o t =
  if (zoel D f c t (c*408 - 408).toNat ((c*408 - 408).toNat+1) o 0 []).2≠0 then (none,D,(zoel D f c t (c*408 - 408).toNat ((c*408 - 408).toNat+1) o 0 []).2) else
  openT D f c o t (zoel D f c t (c*408 - 408).toNat ((c*408 - 408).toNat+1) o 0 []).1
   (scanM t (zoel D f c t (c*408 - 408).toNat ((c*408 - 408).toNat+1) o 0 []).1 ((zoel D f c t (c*408 - 408).toNat ((c*408 - 408).toNat+1) o 0 []).1.length+1) 0 o 0 []):=by
 unfold openM
 rw [if_neg h0]
 show (if badM D.n f c o t then _ else _)=_
 rw [if_neg hg]
 rfl
def opL (f c t o fin:Int) (lsns:List Int):LogM:=⟨f,c,t,o,fin,o,lsns,[],0⟩
set_option maxRecDepth 100000 in
set_option maxHeartbeats 3200000 in
theorem ztLr (w:World) (p ms mo:Nat) (D:DevM) (h:DevAt w p ms mo D) (f c o t:Int) (hg:¬ badM D.n f c o t)
  (hall:(zoel D f c t (c*408 - 408).toNat ((c*408 - 408).toNat+1) o 0 []).1.length<=1000000) :
  Calls Try.prog 19 #[.pointer (some ⟨p,0,none⟩),.int .i64 f,.int .i64 c,.int .i64 o,.int .i64 t] w (zM8s w p ms mo (openM D f c o t)):=by
 have H:=qh h
 have HB:=qh (zyYd h)
 have n0:=h.n0
 have n1:=h.n1
 have hg':=hg
 unfold badM at hg'
 have g1:0<=f:=by omega
 have g2:4<=c:=by omega
 have g3:f<=D.n:=by omega
 have g4:c<=D.n - f:=by omega
 have g5:1<=o:=by omega
 have g6:o<=2305843009213693952:=by omega
 have g7:1<=t:=by omega
 have g8:t < 2147483648:=by omega
 have g9:c<=65536:=by omega
 have hv:=zyHI D f c o t (by omega) hg
 obtain ⟨X,hX⟩:∃ X,X=openM D f c o t:=⟨_,rfl⟩
 rw [<- hX] at hv ⊢
 obtain ⟨C,hC⟩:∃ C,C=zoel D f c t (c*408 - 408).toNat ((c*408 - 408).toNat+1) o 0 []:=⟨_,rfl⟩
 rw [<- hC] at hv hall
 have HV:=qh hv
 have HC:=qh hC
 have HALL:=qh hall
 obtain ⟨n,hn⟩:∃ n,n=D.n:=⟨_,rfl⟩
 rw [<- hn] at HB n0 n1 g3 g4
 have hz:(n == 0)=false:=by simp;omega
 have BL:=bLog' p f c t o
 have LOK0:=qh (show LogOk (opL f c t o o []) from ⟨g1,by show f<=65536;omega,g2,g9,g5,Int.le_refl _,by show o<=3000000000000000000;omega,g5,by show o<=3000000000000000000;omega⟩)
 clear hg hg' hv hX hC hn h hall
 go_enter Try.func19,Try.ntmps19
 go_wp2_with fail
 refine HB.out.mono ?_
 rintro e w2 ⟨rfl,rfl⟩
 go_wp2_with (refine znBH rfl 104 _ rfl (.agg (logC p (.slice none 0 0) (.slice none 0 0) (opL f c t o o []))) rfl ?_)
 intro q w1 q1 q2 hb1 hk1
 have HQ1:=qh (show LogQ w1 q p (.slice none 0 0) (.slice none 0 0) (opL f c t o o []) from hb1)
 have HK1:=qh hk1
 have HD1:=qh (H.out.keep hk1 id id id)
 clear hb1 hk1 BL
 have HSZ:=qh (show Calls Try.prog 46 #[.pointer (some ⟨q,0,none⟩)] w1 fun e w'=>e=.returned (.int .i64 (c*408))/\w1=w' from znpN w1 q p _ _ _ HQ1.out LOK0.out)
 obtain ⟨m,hm⟩:∃ m:Nat,c*408 - 408=(m:Int):=⟨(c*408 - 408).toNat,by omega⟩
 have hm2:m<=30000000:=by omega
 have HCH:=qh (show Calls Try.prog 45 #[.pointer (some ⟨q,0,none⟩),.int .i64 o,.int .i64 (c*408 - 408)] w1 (zUIb w1 C) from by
  rw [HC.out,hm,Int.toNat_natCast]
  exact zRIF w1 q p ms mo _ _ _ D HQ1.out HD1.out LOK0.out o g5 (by omega) m hm2)
 clear hm hm2
 go_wp2_with fail
 refine HSZ.out.mono ?_
 rintro e wx ⟨rfl,rfl⟩
 go_wp2_with fail
 refine HCH.out.mono ?_
 rintro e w2 ⟨hk2,Aa,na,ca,rfl,ho2⟩
 obtain ⟨E,hE⟩:∃ E,E=C.2:=⟨_,rfl⟩
 rw [<- hE] at HV ⊢
 have HK2:=qh (HK1.out.trans0 hk2)
 have HQ2:=qh (hk2.heap HQ1.out id)
 have HD2:=qh (HD1.out.keep hk2 id id id)
 have HA2:=qh (ho2.low (base':=w.heap.size) HK1.out.size)
 clear hE hk2 ho2 HSZ HCH
 by_cases hE0:E=0
 ·subst hE0
  obtain ⟨all,hal⟩:∃ all,all=C.1:=⟨_,rfl⟩
  obtain ⟨S,hS⟩:∃ S,S=scanM t all (all.length+1) 0 o 0 []:=⟨_,rfl⟩
  have HX:=qh (show X=openT D f c o t all S from by rw [HV.out,if_neg (by simp),hS,hal])
  rw [<- hal] at HA2 HALL
  have HSS:=qh hS.symm
  have hna:na=all.length:=by
   rcases HA2.out.form with ⟨h1,h2⟩ | ⟨g,cap,h1,h2⟩
   ·cases h1;rw [h2];rfl
   ·cases h1;rfl
  have hca:=HA2.out.capM
  have hca2:=HA2.out.len.2
  have HNA:=qh hna
  have hal6:all.length<=1000000:=HALL.out
  rw [<- hna] at hca2 hal6
  clear hal hS hna HV HC
  go_wp2_with fail
  go_loopw [16,17] (fun x y wr=>∃ (fu a:Nat) (last:Int) (lsns:List Int) (lv:Value),x=.int .i64 last/\y=.int .i64 a/\LogQ wr q p lv (.slice none 0 0) (opL f c t o (o+a) lsns)/\LsV wr w.heap.size lv lsns/\OwnV wr w.heap.size (.slice Aa na ca) all/\scanM t all fu a (o+a) last lsns=S/\na < fu+a/\a<=na/\0<=last/\last < t/\lsns.length<=a/\DevAt wr p ms mo D/\Kept (fun _=>False) w wr) (fun x y wr=>na - (intOf y).toNat)
  case atStart=>exact ⟨all.length+1,0,0,[],.slice none 0 0,rfl,rfl,by have h1:=HQ2.out;rwa [show o+((0:Nat):Int)=o by omega],LsV.nil _ _,HA2.out,by have h1:=HSS.out;rwa [show o+((0:Nat):Int)=o by omega],by rw [HNA.out];omega,Nat.zero_le _,Int.le_refl _,by omega,by simp,HD2.out,HK2.out⟩
  case round=>
   obtain ⟨fu,a,last,lsns,lv,rfl,rfl,hq,hl,hA,hs,hfu,han,hl0,hl1,hll,hD,hk⟩:=hrel
   have HQr:=qh hq
   have HLr:=qh hl
   have HAr:=qh hA
   have HSr:=qh hs
   have HDr:=qh hD
   have HKr:=qh hk
   have HRD:=qh (hA.rd.sl a ca (by rw [<- HNA.out];exact hca2))
   have LEN:=qh (show (all.drop a).length=na - a from by rw [List.length_drop,HNA.out])
   have HGT:=qh (show Calls Try.prog 47 #[.slice (slA Aa a ca) (na - a) (ca - a)] wr (zLSY (all.drop a) wr) from by
    have:=zkOY (slA Aa a ca) (ca - a) (all.drop a) wr HRD.out (by rw [LEN.out];omega) (by omega) (by rw [LEN.out];omega)
    rwa [LEN.out] at this)
   clear hq hl hA hs hD hk
   go_wp2_with (refine z3Ho rfl (zjw2 _ _ a rfl Aa na ca _ rfl rfl rfl han _) ?_)
   refine HGT.out.mono ?_
   intro e w3 hp
   obtain ⟨hk3,hg1,hg2⟩:=hp
   have HQ3:=qh (hk3.heap HQr.out id)
   have HL3:=qh (HLr.out.keep hk3 (fun _ _=>id))
   have HA3:=qh (HAr.out.keep hk3 (fun _ _=>id))
   have HD3:=qh (HDr.out.keep hk3 id id id)
   have HK3:=qh (HKr.out.trans0 hk3)
   obtain ⟨R,A1,c1,A2,c2,kk,E,he,hcase⟩:∃ R A1 c1 A2 c2 kk E,e=.returned (.tuple #[.agg (recC R A1 c1 A2 c2),.int .i64 kk,.int .i64 E])/\((E=4/\getL (all.drop a)=none)\/(E=0/\∃ k:Nat,getL (all.drop a)=some (R,k)/\kk=(k:Int))):=by
    cases hgl:getL (all.drop a) with
    | none=>exact ⟨zRec,none,0,none,0,0,4,hg1 hgl,.inl ⟨rfl,rfl⟩⟩
    | some x=>
     obtain ⟨r,k⟩:=x
     obtain ⟨A1,c1,A2,c2,he,_⟩:=hg2 r k hgl
     exact ⟨r,A1,c1,A2,c2,k,0,he,.inr ⟨rfl,k,rfl,rfl⟩⟩
   subst he
   have HCS:=qh hcase
   obtain ⟨bb,hbb⟩:∃ bb,bb=decide (E≠0\/R.lsn≠o+a\/R.turn < last\/t<=R.turn):=⟨_,rfl⟩
   have HBb:=qh hbb
   clear hk3 hg1 hg2 hcase hbb
   go_wp2_with (refine zNko rfl 78 rfl zRecC zzWm ?_)
   intro y w4 y1 y2 hb4 hk4
   refine zxQF rfl 78 _ _ rfl y (recC R A1 c1 A2 c2) _ rfl rfl hb4 zWmC rfl (zh6u _ _ _ _ _) ?_
   intro w5 hb5 hk5
   have HY5:=qh hb5
   have hk45:Kept (fun _=>False) w3 w5:=hk4.new hk5 (by rintro x rfl;exact y1)
   have HQ5:=qh (hk45.heap HQ3.out id)
   have HL5:=qh (HL3.out.keep hk45 (fun _ _=>id))
   have HA5:=qh (HA3.out.keep hk45 (fun _ _=>id))
   have HD5:=qh (HD3.out.keep hk45 id id id)
   have HK5:=qh (HK3.out.trans0 hk45)
   clear hb4 hk4 hb5 hk5 hk45 y1 y2
   go_upto_region 12 with fail
   go_cut [118] from 96 to 118 (fun v wx=>v=.bool bb/\∃ q,w5.drewN q=wx)
   case first=>
    have cy0:w5.cell? ⟨y,0,none⟩=some (.int .i64 R.lsn):=zcjX HY5.out rfl
    have cy1:w5.cell? ⟨y,1,none⟩=some (.int .i64 R.turn):=zcjX HY5.out rfl
    have cq5:w5.cell? ⟨q,5,none⟩=some (.int .i64 (o+a)):=zcjX HQ5.out rfl
    obtain ⟨RL,hRL⟩:∃ RL,RL=R.lsn:=⟨_,rfl⟩
    obtain ⟨RT,hRT⟩:∃ RT,RT=R.turn:=⟨_,rfl⟩
    rw [<- hRL] at cy0 HBb
    rw [<- hRT] at cy1 HBb
    clear hRL hRT
    by_cases l0:E=0
    ·subst l0
     by_cases l1:RL=o+a
     ·have l1b:(RL != o+(a:Int))=false:=by rw [l1];simp
      have L1:=Lib.hid l1
      clear l1
      by_cases l2:RT < last
      ·have H2:=qh (show Value.bool true=.bool bb from by rw [HBb.out,decide_eq_true (.inr (.inr (.inl l2)))])
       have l2d:decide (RT < last)=true:=decide_eq_true l2
       clear l2
       go_quiet (fail)
       go_wp2
       go_meet
       case rel=>exact ⟨H2.out,_,rfl⟩
      ·have l2d:decide (RT < last)=false:=decide_eq_false l2
       by_cases l3:t<=RT
       ·have H2:=qh (show Value.bool true=.bool bb from by rw [HBb.out,decide_eq_true (.inr (.inr (.inr l3)))])
        have l3d:decide (t<=RT)=true:=decide_eq_true l3
        clear l2
        go_quiet (fail)
        go_wp2
        go_meet
        case rel=>exact ⟨H2.out,_,rfl⟩
       ·have l3d:decide (t<=RT)=false:=decide_eq_false l3
        have H2:=qh (show Value.bool false=.bool bb from by rw [HBb.out,decide_eq_false (by rintro (h | h | h | h);exact h rfl;exact h L1.out;exact l2 h;exact l3 h)])
        clear l2
        go_quiet (fail)
        go_wp2
        go_meet
        case rel=>exact ⟨H2.out,_,rfl⟩
     ·have l1b:(RL != o+(a:Int))=true:=by simpa using l1
      have H2:=qh (show Value.bool true=.bool bb from by rw [HBb.out,decide_eq_true (.inr (.inl l1))])
      clear l1
      go_quiet (fail)
      go_wp2
      go_meet
      case rel=>exact ⟨H2.out,_,rfl⟩
    ·have l0b:(E != 0)=true:=by simpa using l0
     have H2:=qh (show Value.bool true=.bool bb from by rw [HBb.out,decide_eq_true (.inl l0)])
     clear l0
     go_quiet (fail)
     go_wp2
     go_meet
     case rel=>exact ⟨H2.out,_,rfl⟩
   case rest=>
    obtain ⟨rfl,qd,hwd⟩:=hcut
    have hkc:Kept (fun _=>False) w5 wc:=by rw [<- hwd];exact (Kept.refl (fun _=>False) w5).drewN qd
    have HYc:=qh (hkc.heap HY5.out id)
    have HQc:=qh (hkc.heap HQ5.out id)
    have HLc:=qh (HL5.out.keep hkc (fun _ _=>id))
    have HAc:=qh (HA5.out.keep hkc (fun _ _=>id))
    have HDc:=qh (HD5.out.keep hkc id id id)
    have HKc:=qh (HK5.out.trans0 hkc)
    clear hwd hkc
    cases bb
    ·have hno:=of_decide_eq_false HBb.out.symm
     have hE:E=0:=Decidable.byContradiction (fun h=>hno (.inl h))
     subst hE
     obtain ⟨k,hgk,hkk⟩:∃ k:Nat,getL (all.drop a)=some (R,k)/\kk=(k:Int):=by
      rcases HCS.out with ⟨h,_⟩ | ⟨_,h⟩
      ·cases h
      ·exact h
     subst hkk
     have hgo:¬ (R.lsn≠o+a\/R.turn < last\/t<=R.turn):=fun h=>hno (.inr h)
     obtain ⟨hr1,hr2,hr3⟩:=zagO hgk
     have hk1:k<=na - a:=by
      have:=congrArg List.length hr3
      rw [List.length_take,LEN.out,<- hr2] at this
      omega
     have hk0:18<=k:=by rw [hr2,z34p];omega
     obtain ⟨g,rfl⟩:∃ g,fu=g+1:=⟨fu - 1,by omega⟩
     have hs2:=HSr.out
     rw [zsdV hgk hgo,show o+(a:Int)+(k:Int)=o+((a+k:Nat):Int) by omega] at hs2
     have HS2:=qh hs2
     have ht0:0<=R.turn:=by have:=hr1.2.2.1;omega
     have ht1:R.turn < t:=by omega
     have cy1:wc.cell? ⟨y,1,none⟩=some (.int .i64 R.turn):=zcjX HYc.out rfl
     obtain ⟨RT,hRT⟩:∃ RT,RT=R.turn:=⟨_,rfl⟩
     rw [<- hRT] at HS2 ht0 ht1 cy1
     clear hs2 hno hgk hgo hr1 hr2 hr3 hRT HCS HBb HGT HRD HSr
     go_wp2_with fail
     refine znCh 13 (fun w'=>LogQ w' q p lv (.slice none 0 0) (opL f c t o (o+a) lsns)) (by kernel_rfl) HQc.out (fun hH=>?_)
     simp only [List.length_cons,List.length_nil,List.replicate]
     refine tK 0 ?_ (fun w' hw'=>?_) hH ?_
     rotate_left
     ·have c7:w'.cell? ⟨q,7,none⟩=some lv:=zcjX hw' rfl;have c5:w'.cell? ⟨q,5,none⟩=some (.int .i64 (o+(a:Int))):=zcjX hw' rfl
      go_simp<;>with_reducible rfl
     simp only [Act.put,oZa,oZb,oZc]
     refine tK 1 ?_ (fun w' hw'=>?_) hH ?_
     rotate_left
     ·have c7:w'.cell? ⟨q,7,none⟩=some lv:=zcjX hw' rfl;have c5:w'.cell? ⟨q,5,none⟩=some (.int .i64 (o+(a:Int))):=zcjX hw' rfl
      go_simp<;>with_reducible rfl
     simp only [Act.put,oZa,oZb,oZc]
     refine tK 2 ?_ (fun w' hw'=>?_) hH ?_
     rotate_left
     ·have c7:w'.cell? ⟨q,7,none⟩=some lv:=zcjX hw' rfl;have c5:w'.cell? ⟨q,5,none⟩=some (.int .i64 (o+(a:Int))):=zcjX hw' rfl
      go_simp<;>with_reducible rfl
     simp only [Act.put,oZa,oZb,oZc]
     refine tK 3 ?_ (fun w' hw'=>?_) hH ?_
     rotate_left
     ·have c7:w'.cell? ⟨q,7,none⟩=some lv:=zcjX hw' rfl;have c5:w'.cell? ⟨q,5,none⟩=some (.int .i64 (o+(a:Int))):=zcjX hw' rfl
      go_simp<;>with_reducible rfl
     simp only [Act.put,oZa,oZb,oZc]
     refine tK 4 ?_ (fun w' hw'=>?_) hH ?_
     rotate_left
     ·have c7:w'.cell? ⟨q,7,none⟩=some lv:=zcjX hw' rfl;have c5:w'.cell? ⟨q,5,none⟩=some (.int .i64 (o+(a:Int))):=zcjX hw' rfl
      go_simp<;>with_reducible rfl
     simp only [Act.put,oZa,oZb,oZc]
     refine tK 5 ?_ (fun w' hw'=>?_) hH ?_
     rotate_left
     ·have c7:w'.cell? ⟨q,7,none⟩=some lv:=zcjX hw' rfl;have c5:w'.cell? ⟨q,5,none⟩=some (.int .i64 (o+(a:Int))):=zcjX hw' rfl
      go_simp<;>with_reducible rfl
     simp only [Act.put,oZa,oZb,oZc]
     refine tK 6 ?_ (fun w' hw'=>?_) hH ?_
     rotate_left
     ·have c7:w'.cell? ⟨q,7,none⟩=some lv:=zcjX hw' rfl;have c5:w'.cell? ⟨q,5,none⟩=some (.int .i64 (o+(a:Int))):=zcjX hw' rfl
      go_simp<;>with_reducible rfl
     simp only [Act.put,oZa,oZb,oZc]
     refine tK 7 ?_ (fun w' hw'=>?_) hH ?_
     rotate_left
     ·have c7:w'.cell? ⟨q,7,none⟩=some lv:=zcjX hw' rfl;have c5:w'.cell? ⟨q,5,none⟩=some (.int .i64 (o+(a:Int))):=zcjX hw' rfl
      go_simp<;>with_reducible rfl
     simp only [Act.put,oZa,oZb,oZc]
     refine tK 8 ?_ (fun w' hw'=>?_) hH ?_
     rotate_left
     ·have c7:w'.cell? ⟨q,7,none⟩=some lv:=zcjX hw' rfl;have c5:w'.cell? ⟨q,5,none⟩=some (.int .i64 (o+(a:Int))):=zcjX hw' rfl
      go_simp<;>with_reducible rfl
     simp only [Act.put,oZa,oZb,oZc]
     refine stepL 9 rfl (by kernel_rfl) (fun K hK=>?_)
     go_simp
     obtain ⟨wa,hwa⟩:∃ wa,wa=(wc.alloc (.cells #[.int .i64 (o+(a:Int))] 2)).drew:=⟨_,rfl⟩
     have ka:Kept (fun _=>False) wc wa:=by rw [hwa];exact ((Kept.refl _ wc).alloc _).drew
     have HWN:=qh (show wa.heap[wc.heap.size]?=some (.cells #[.int .i64 (o+(a:Int))] 2 (0,0)) from by rw [hwa];exact heap_alloc_new wc _)
     have HQa:=qh (ka.heap HQc.out id)
     rw [<- hwa]
     refine hK.out _ _ (fun _=>HQa.out) (fun _=>?_)
     simp only [oZa,oZb,oZc]
     clear hK K hH hwa
     have HLa:=qh (HLc.out.keep ka (fun _ _=>id))
     have HAa:=qh (HAc.out.keep ka (fun _ _=>id))
     have HDa:=qh (HDc.out.keep ka id id id)
     have HKa:=qh (HKc.out.trans0 ka)
     clear ka
     refine stepL 10 rfl (by kernel_rfl) (fun K hK=>?_)
     refine zdvN rfl _ _ (by rfl) w.heap.size lv lsns (o+(a:Int)) (by rfl) HLa.out wc.heap.size 1 (by rfl) (zcjX HWN.out rfl) (by omega) HKa.out.size ?_
     intro lv' w8 ho8 hk8 hat8
     obtain ⟨A8,n8,c8,rfl,hn8⟩:=ho8.form3
     clear hn8 hat8
     have HL8:=qh ho8
     have HQ8:=qh (hk8.heap HQa.out (LogQ.ne_ls (w:=_) HQa.out HLa.out))
     have HA8:=qh (HAa.out.keep hk8 (fun x hx e=>HLa.out.ne_own HAa.out x e hx))
     have nd:∀ x,x < w.heap.size->lv.ownBlock≠some x:=fun x hx e=>by have:=(HLa.out.base_le e).1;omega
     have HD8:=qh (HDa.out.keep hk8 (nd p (zvKu H.out.hp)) (nd ms H.out.hs.lt) (nd mo H.out.ho.lt))
     have HK8:=qh (HKa.out.new hk8 (fun x hx=>(HLa.out.base_le hx).1))
     clear ho8 hk8 nd
     refine hK.out _ _ (fun _=>HQ8.out) (fun hH=>?_)
     simp only [Act.put,oZa,oZb,oZc]
     clear hK K
     refine stepL 11 rfl (by kernel_rfl) (fun K hK=>?_)
     go_simp
     refine hK.out _ _ (fun _=>HQ8.out) (fun hH=>?_)
     simp only [oZa,oZb,oZc]
     clear hK K
     refine stepL 12 rfl (by kernel_rfl) (fun K hK=>?_)
     go_simp
     refine hK.out _ _ (fun _=>HQ8.out) (fun hH=>?_)
     simp only [oZa,oZb,oZc]
     clear hK K
     refine stepL 13 rfl (by kernel_rfl) (fun K hK=>?_)
     refine zRRc rfl 102 _ _ (by rfl) q 7 (.slice A8 n8 c8) (logC p lv (.slice none 0 0) (opL f c t o (o+a) lsns)) (by rfl) (by rfl) HQ8.out (by kernel_rfl) (by show 7 < 10;decide) rfl ?_
     intro w9 hb9 hk9
     have HQ9:=qh (show LogQ w9 q p (.slice A8 n8 c8) (.slice none 0 0) (opL f c t o (o+a) lsns) from hb9)
     have HL9:=qh (HL8.out.keep hk9 (fun x hx e=>LogQ.ne_ls (w:=_) HQ8.out HL8.out (e▸hx)))
     have HA9:=qh (HA8.out.keep hk9 (fun x hx e=>LogQ.ne_own (w:=_) HQ8.out HA8.out (e▸hx)))
     have qn:∀ x,x < w.heap.size->x≠q:=fun x hx e=>by omega
     have HD9:=qh (HD8.out.keep hk9 (qn p (zvKu H.out.hp)) (qn ms H.out.hs.lt) (qn mo H.out.ho.lt))
     have HK9:=qh (HK8.out.new hk9 (by rintro x rfl;exact q1))
     clear hb9 hk9
     refine hK.out _ _ (fun h=>absurd rfl h) (fun _=>?_)
     simp only [Act.put,oZa,oZb,oZc]
     clear hK K hH
     refine doneL (by kernel_rfl) ?_ _
     have cq5:w9.cell? ⟨q,5,none⟩=some (.int .i64 (o+(a:Int))):=zcjX HQ9.out rfl
     go_wp2_with (refine z2q7 rfl 2 _ _ rfl q 5 (.int .i64 (o+(a:Int)+(k:Int))) (logC p (.slice A8 n8 c8) (.slice none 0 0) (opL f c t o (o+a) lsns)) rfl rfl HQ9.out (by kernel_rfl) (by show 5 < 10;decide) rfl ?_)
     intro w10 hb10 hk10
     have e10:o+(a:Int)+(k:Int)=o+((a+k:Nat):Int):=by omega
     have HQ10:=qh (show LogQ w10 q p (.slice A8 n8 c8) (.slice none 0 0) (opL f c t o (o+((a+k:Nat):Int)) (lsns ++ [o+a])) from by rw [<- e10];exact hb10)
     have HL10:=qh (HL9.out.keep hk10 (fun x hx e=>LogQ.ne_ls (w:=_) HQ9.out HL9.out (e▸hx)))
     have HA10:=qh (HA9.out.keep hk10 (fun x hx e=>LogQ.ne_own (w:=_) HQ9.out HA9.out (e▸hx)))
     have HD10:=qh (HD9.out.keep hk10 (qn p (zvKu H.out.hp)) (qn ms H.out.hs.lt) (qn mo H.out.ho.lt))
     have HK10:=qh (HK9.out.new hk10 (by rintro x rfl;exact q1))
     clear hb10 hk10 e10 qn
     go_wp2
     go_roundw
     case rel=>exact ⟨g,a+k,RT,lsns ++ [o+a],.slice A8 n8 c8,rfl,by go_num,HQ10.out,HL10.out,HA10.out,HS2.out,by omega,by omega,ht0,ht1,by rw [List.length_append,List.length_singleton];omega,HD10.out,HK10.out⟩
     case measure=>simp [intOf];omega
    ·have hyes:=of_decide_eq_true HBb.out.symm
     have hS:S=(lsns,o+(a:Int),a):=by
      rw [<- HSr.out]
      refine zJJJ ?_
      rcases HCS.out with ⟨_,h⟩ | ⟨h,k,h2,_⟩
      ·exact .inl h
      ·right
       refine ⟨R,k,h2,?_⟩
       rcases hyes with h3 | h3
       ·exact absurd h h3
       ·exact h3
     obtain ⟨L1,hL1⟩:∃ L1:LogM,L1=⟨f,c,t,o,o+a,o+a,lsns,[],0⟩:=⟨_,rfl⟩
     obtain ⟨b,hb⟩:∃ b,b=L1.begin D:=⟨_,rfl⟩
     have hx:X=if b.2≠0 then (none,D,b.2) else if (b.1.stale D).2≠0 then (none,D,(b.1.stale D).2) else
       if (b.1.stale D).1=true\/a < all.length then (if (b.1.cut D).2≠0 then (none,(b.1.cut D).1,(b.1.cut D).2) else (some b.1,(b.1.cut D).1,0)) else (some b.1,D,0):=by
      rw [HX.out,hS,hb,hL1];rfl
     have HX2:=qh hx
     have HL1:=qh hL1
     have HB1:=qh hb
     have LOK1:=qh (show LogOk L1 from by rw [hL1];exact ⟨g1,by show f<=65536;omega,g2,g9,g5,by show o<=o+a;omega,by show o+(a:Int)<=3000000000000000000;omega,by show 1<=o+(a:Int);omega,by show o+(a:Int)<=3000000000000000000;omega⟩)
     clear hyes hS hL1 hb hx HSr HCS HBb HGT HRD HX
     have cq5:wc.cell? ⟨q,5,none⟩=some (.int .i64 (o+(a:Int))):=zcjX HQc.out rfl
     go_wp2_with (refine z2q7 rfl 2 _ _ rfl q 6 (.int .i64 (o+(a:Int))) (logC p lv (.slice none 0 0) (opL f c t o (o+a) lsns)) rfl rfl HQc.out (by kernel_rfl) (by show 6 < 10;decide) rfl ?_)
     intro w6 hb6 hk6
     have HQ6:=qh (show LogQ w6 q p lv (.slice none 0 0) L1 from by rw [HL1.out];exact hb6)
     have HL6:=qh (HLc.out.keep hk6 (fun x hx e=>LogQ.ne_ls (w:=_) HQc.out HLc.out (e▸hx)))
     have qn:∀ x,x < w.heap.size->x≠q:=fun x hx e=>by omega
     have HD6:=qh (HDc.out.keep hk6 (qn p (zvKu H.out.hp)) (qn ms H.out.hs.lt) (qn mo H.out.ho.lt))
     have HA6:=qh (HAc.out.keep hk6 (fun x hx e=>LogQ.ne_own (w:=_) HQc.out HAc.out (e▸hx)))
     have HK6:=qh (HKc.out.new hk6 (by rintro x rfl;exact q1))
     clear hb6 hk6
     have HBG:=qh (z7eO w6 q p ms mo lv _ L1 D HQ6.out HD6.out LOK1.out)
     rw [<- HB1.out] at HBG
     obtain ⟨E2,hE2⟩:∃ E2,E2=b.2:=⟨_,rfl⟩
     rw [<- hE2] at HBG HX2
     have HE2:=qh hE2
     clear hE2
     go_wp2_with fail
     refine HBG.out.mono ?_
     rintro e w7 ⟨At,nt,ct,rfl,hq7,ht7,hk7⟩
     have HQ7:=qh hq7
     have HT7:=qh ht7
     have HL7:=qh (HL6.out.keep hk7 (fun x hx e=>LogQ.ne_ls (w:=_) HQ6.out HL6.out (e▸hx)))
     have HD7:=qh (HD6.out.keep hk7 (qn p (zvKu H.out.hp)) (qn ms H.out.hs.lt) (qn mo H.out.ho.lt))
     have HK7:=qh (HK6.out.new hk7 (by rintro x rfl;exact q1))
     clear hq7 ht7 hk7 HBG
     by_cases hE20:E2=0
     ·subst hE20
      have hbl:b.1.tail.length<=51/\LogOk b.1/\b.1.turn=t/\b.1.lsns=lsns:=by
       have hb2:(L1.begin D).2=0:=by rw [<- HB1.out];exact HE2.out.symm
       have hok:=LOK1.out
       rw [HB1.out]
       refine ⟨?_,⟨hok.f0,hok.f1,hok.c0,hok.c1,hok.o0,hok.o1,hok.e1,hok.s0,hok.s1⟩,by rw [HL1.out];rfl,by rw [HL1.out];rfl⟩
       have:=zvCL D L1.first L1.count (L1.safe - secF L1.safe).toNat hok.c0 H.out.len ((L1.safe - secF L1.safe).toNat+1) (secF L1.safe) [] (by simp) hb2
       show (zXvy D L1.first L1.count (L1.safe - secF L1.safe).toNat ((L1.safe - secF L1.safe).toNat+1) (secF L1.safe) []).1.length<=51
       rw [this]
       have:=zjuj (a:=L1.safe)
       omega
      obtain ⟨B1,hB1⟩:∃ B1,B1=b.1:=⟨_,rfl⟩
      rw [<- hB1] at hbl HX2 HQ7 HT7
      obtain ⟨hbt,hbok,hbtu,hbls⟩:=hbl
      have HBOK:=qh hbok
      have HBT:=qh hbt
      have HBTU:=qh hbtu
      have HLS7:=qh (show LogS w7 q p ms mo lv (.slice At nt ct) B1 D from by
       have hqp:∀ x,x < w.heap.size->x≠q:=fun x hx e=>by omega
       refine ⟨HD7.out,HQ7.out,?_,HT7.out.low (Nat.zero_le _),⟨qn p (zvKu H.out.hp),qn ms H.out.hs.lt,qn mo H.out.ho.lt⟩,fun x hx=>?_,fun x hx=>?_⟩
       ·rw [hbls];exact HL7.out.low (Nat.zero_le _)
       ·have h1:=(HL7.out.base_le hx).1
        exact ⟨fun e=>LogQ.ne_ls (w:=_) HQ7.out HL7.out (e▸hx),fun e=>by have:=zvKu H.out.hp;omega,fun e=>by have:=H.out.hs.lt;omega,fun e=>by have:=H.out.ho.lt;omega,HL7.out.ne_own HT7.out x hx⟩
       ·have h1:=(HT7.out.base_le hx).1
        have h0:=HK6.out.size
        exact ⟨fun e=>LogQ.ne_own (w:=_) HQ7.out HT7.out (e▸hx),fun e=>by have:=zvKu H.out.hp;omega,fun e=>by have:=H.out.hs.lt;omega,fun e=>by have:=H.out.ho.lt;omega⟩)
      have HFR:=qh (show (∀ x,lv.ownBlock=some x->w.heap.size<=x)/\(∀ x,(Value.slice At nt ct).ownBlock=some x->w.heap.size<=x) from
       ⟨fun x hx=>(HL7.out.base_le hx).1,fun x hx=>Nat.le_trans HK6.out.size (HT7.out.base_le hx).1⟩)
      have HST:=qh (zKn9 w7 q p ms mo lv _ B1 D HQ7.out HD7.out hbok)
      obtain ⟨Z,hZ⟩:∃ Z,Z=B1.stale D:=⟨_,rfl⟩
      rw [<- hZ] at HST HX2
      obtain ⟨ob,hob⟩:∃ ob,ob=Z.1:=⟨_,rfl⟩
      obtain ⟨E3,hE3⟩:∃ E3,E3=Z.2:=⟨_,rfl⟩
      rw [<- hob,<- hE3] at HST HX2
      clear hbt hbok hbtu hbls hB1 hZ hob hE3 qn
      go_wp2_with fail
      refine HST.out.mono ?_
      rintro e w8 ⟨rfl,hk8⟩
      have HS8:=qh (HLS7.out.keep hk8 (fun _ _=>id))
      have HK8:=qh (HK7.out.trans0 hk8)
      clear hk8 HST
      by_cases hE30:E3=0
      ·subst hE30
       have HX3:=qh (show X=if ob=true\/a < all.length then (if (B1.cut D).2≠0 then (none,(B1.cut D).1,(B1.cut D).2) else (some B1,(B1.cut D).1,0)) else (some B1,D,0) from by rw [HX2.out,if_neg (by simp),if_neg (by simp)])
       have HCT:=qh (zGlJ w8 q p ms mo lv _ B1 D HS8.out HBOK.out (by rw [HBTU.out];omega) (by rw [HBTU.out];omega) HBT.out)
       obtain ⟨Y,hY⟩:∃ Y,Y=B1.cut D:=⟨_,rfl⟩
       rw [<- hY] at HCT HX3
       clear hY
       by_cases hcut:ob=true\/a < all.length
       ·have HX4:=qh (show X=if Y.2≠0 then (none,Y.1,Y.2) else (some B1,Y.1,0) from by rw [HX3.out,if_pos hcut])
        have hcut2:ob=true\/(a:Int) < (na:Int):=by rcases hcut with h | h;exact .inl h;right;rw [HNA.out];omega
        obtain ⟨E4,hE4⟩:∃ E4,E4=Y.2:=⟨_,rfl⟩
        obtain ⟨D4,hD4⟩:∃ D4,D4=Y.1:=⟨_,rfl⟩
        rw [<- hE4,<- hD4] at HX4
        have HCT2:=qh (show Calls Try.prog 50 #[.pointer (some ⟨q,0,none⟩)] w8 fun e w'=>e=.returned (.int .i64 E4)/\LogS w' q p ms mo lv (.slice At nt ct) B1 D4/\Kept (fun x=>x=p\/x=ms\/x=mo) w8 w' from by rw [hE4,hD4];exact HCT.out)
        have HC2:=qh hcut2
        clear hcut hcut2 hE4 hD4 HCT
        go_upto_region 22 with fail
        go_cut [172] from 162 to 172 (fun v wx=>v=.bool true/\w8=wx)
        case first=>
         cases ob
         ·have hlt:(a:Int) < (na:Int):=by rcases HC2.out with h | h;cases h;exact h
          go_wp2
          go_meet
          case rel=>exact ⟨by first | rfl | (rw [decide_eq_true hlt]),rfl⟩
         ·go_wp2
          go_meet
          case rel=>exact ⟨rfl,rfl⟩
        case rest=>
         obtain ⟨rfl,rfl⟩:=hcut
         go_wp2_with fail
         refine HCT2.out.mono ?_
         rintro e w9 ⟨rfl,hs9,hk9⟩
         have HS9:=qh hs9
         have HK9:=qh ((HK8.out.mono (T:=fun x=>x=p\/x=ms\/x=mo) (fun _ _ h=>h.elim)).trans' hk9)
         clear hs9 hk9
         by_cases hE40:E4=0
         ·subst hE40
          have HX5:=qh (show X=(some B1,D4,0) from by rw [HX4.out,if_neg (by simp)])
          go_wp2
          go_ret2
          refine ⟨HK9.out,fun h=>(by rw [HX5.out] at h;cases h),fun L hL=>?_⟩
          rw [HX5.out] at hL ⊢
          cases hL
          exact ⟨q,lv,_,rfl,HS9.out,q1,HFR.out.1,HFR.out.2⟩
         ·have hEb:(E4 != 0)=true:=by simpa using hE40
          have HX5:=qh (show X=(none,D4,E4) from by rw [HX4.out,if_pos hE40])
          go_wp2
          go_ret2
          exact zM8s.no HK9.out (by rw [HX5.out]) (by rw [HX5.out];rfl) (by rw [HX5.out];exact HS9.out.dev)
       ·have HX4:=qh (show X=(some B1,D,0) from by rw [HX3.out,if_neg hcut])
        have h1:ob=false:=by
         rcases Bool.eq_false_or_eq_true ob with h | h
         ·exact absurd (.inl h) hcut
         ·exact h
        have h2:¬ (a:Int) < (na:Int):=fun h=>hcut (.inr (by rw [<- HNA.out];omega))
        subst h1
        clear hcut
        go_upto_region 22 with fail
        go_cut [172] from 162 to 172 (fun v wx=>v=.bool false/\w8=wx)
        case first=>
         go_wp2
         go_meet
         case rel=>exact ⟨by first | rfl | (rw [decide_eq_false h2]) | (rw [decide_eq_false (by omega)]),rfl⟩
        case rest=>
         obtain ⟨rfl,rfl⟩:=hcut
         go_wp2
         go_ret2
         refine ⟨HK8.out.mono (fun _ _ h=>h.elim),fun h=>(by rw [HX4.out] at h;cases h),fun L hL=>?_⟩
         rw [HX4.out] at hL ⊢
         cases hL
         exact ⟨q,lv,_,rfl,HS8.out,q1,HFR.out.1,HFR.out.2⟩
      ·have hEb:(E3 != 0)=true:=by simpa using hE30
       have hEb2:(E3 == 0)=false:=by simpa using hE30
       have HX3:=qh (show X=(none,D,E3) from by rw [HX2.out,if_neg (by simp),if_pos hE30])
       go_wp2
       go_ret2
       exact zM8s.no (HK8.out.mono (fun _ _ h=>h.elim)) (by rw [HX3.out]) (by rw [HX3.out];rfl) (by rw [HX3.out];exact HS8.out.dev)
     ·have hEb:(E2 != 0)=true:=by simpa using hE20
      have HX3:=qh (show X=(none,D,E2) from by rw [HX2.out,if_pos hE20])
      go_wp2
      go_ret2
      exact zM8s.no (HK7.out.mono (fun _ _ h=>h.elim)) (by rw [HX3.out]) (by rw [HX3.out];rfl) (by rw [HX3.out];exact HD7.out)
 ·have hEb:(E != 0)=true:=by simpa using hE0
  have HX:=qh (show X=(none,D,E) from by rw [HV.out,if_pos hE0])
  go_wp2
  go_ret2
  exact zM8s.no (HK2.out.mono (fun _ _ h=>h.elim)) (by rw [HX.out]) (by rw [HX.out];rfl) (by rw [HX.out];exact HD2.out)
end Go.Proofs.Ytnbfhdgojmflhaa
