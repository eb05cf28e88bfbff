/-
  No statement is proved here.
-/
import Derived.Test.YtnbfhdgojmflhaaJLgb
namespace Go.Proofs.Ytnbfhdgojmflhaa
open Go.RowKit
theorem zW0U (D:DevM) (F C a:Int) (h:(D.latest (secB F C a)).length=512) (hc:4<=C):(secP D F C a).length=64:=by
 have:=zSEi (C:=C) (a:=a) hc
 unfold secP
 exact z08T _ _ _ (by omega)
theorem zTm4 (l:Bytes) (n:Nat):l.take (min l.length n)=l.take n:=by
 rw [Nat.min_comm,<- List.take_take,List.take_length]
theorem zkBG (D:DevM) (F C turn:Int) (most f:Nat) (a last:Int) (l:Bytes) (hl:l.length < most) (hm:D.mayE (secB F C a)=0) :
  zoel D F C turn most (f+1) a last l=if zsGR (secP D F C a) (secF a) a last turn then (l.take most,0) else
   if (bAt (secP D F C a) 12).toNat < 51 then ((l ++ ((secP D F C a).take (13+(bAt (secP D F C a) 12).toNat)).drop (13+(a - secF a).toNat)).take most,0) else
   zoel D F C turn most f (secF a+51) (valN (cut (secP D F C a) 8 4) 0:Nat) (l ++ ((secP D F C a).take (13+(bAt (secP D F C a) 12).toNat)).drop (13+(a - secF a).toNat)):=by
 show (if most<=l.length then (l.take most,0) else if D.mayE (secB F C a)≠0 then ([],D.mayE (secB F C a)) else _)=_
 rw [if_neg (by omega),if_neg (by rw [hm];decide)]
set_option maxRecDepth 100000 in
set_option maxHeartbeats 1600000 in
theorem zRIF (w:World) (q p ms mo:Nat) (lv tv:Value) (L:LogM) (D:DevM) (h:LogQ w q p lv tv L) (hd:DevAt w p ms mo D) (hok:LogOk L) (a:Int) (h1:1<=a) (h2:a<=3000000000000000000) (n:Nat) (hn:n<=30000000) :
  Calls Try.prog 45 #[.pointer (some ⟨q,0,none⟩),.int .i64 a,.int .i64 n] w (zUIb w (zoel D L.first L.count L.turn n (n+1) a 0 [])):=by
 have HQ:=qh h
 have HD:=qh hd
 have HOK:=qh hok
 obtain ⟨X,hX⟩:∃ X,X=zoel D L.first L.count L.turn n (n+1) a 0 []:=⟨_,rfl⟩
 rw [<- hX]
 have HX:=qh hX.symm
 clear h hd hX
 go_enter Try.func45,Try.ntmps45
 go_wp2
 go_loopw [1,8,9] (fun x out y wr=>∃ (f:Nat) (a' last:Int) (l:Bytes),x=.int .i64 a'/\y=.int .i64 last/\0<=last/\last<=5000000000/\OwnV wr w.heap.size out l/\zoel D L.first L.count L.turn n f a' last l=X/\n < f+l.length/\f<=n+1/\1<=a'/\a'<=a+51*((n:Int)+1 - f)/\l.length<=n+51/\Kept (fun _=>False) w wr) (fun x out y wr=>n - vlen out)
 case atStart=>exact ⟨n+1,a,0,[],rfl,rfl,by omega,by omega,OwnV.nil _ _,HX.out,by simp,Nat.le_refl _,h1,by omega,by simp,Kept.refl _ w⟩
 case round=>
  obtain ⟨f,a',last,l,rfl,rfl,hl0,hl1,ho,hs,hf,hf1,ha1,ha2,hl,hk⟩:=hrel
  obtain ⟨A,c,rfl,hlc⟩:=ho.slice
  have HO:=qh ho
  have HS:=qh hs
  have HK:=qh hk
  have HQr:=qh (hk.heap HQ.out id)
  have HDr:=qh (HD.out.keep hk id id id)
  have HSEC:=qh (zdrd wr q p lv tv L HQr.out HOK.out a' ha1 (by omega))
  have c0:wr.cell? ⟨q,0,none⟩=some (.pointer (some ⟨p,0,none⟩)):=zcjX HQr.out rfl
  clear ho hs hk
  by_cases hlt:l.length < n
  ·have i1:(l.length:Int) < (n:Int):=by omega
   obtain ⟨g,rfl⟩:∃ g,f=g+1:=⟨f - 1,by omega⟩
   by_cases hm:D.mayE (secB L.first L.count a')=0
   ·have hs':=HS.out
    rw [zkBG D L.first L.count L.turn n g a' last l hlt hm] at hs'
    have HRD:=qh (zqzz HDr.out _ hm)
    have hO:=zSEi (a:=a') hok.c0
    have hF:=zjuj (a:=a')
    have lb:(D.latest (secB L.first L.count a')).length=512:=HD.out.len _
    have hPl:=zW0U D L.first L.count a' lb hok.c0
    have hPe:secP D L.first L.count a'=((D.latest (secB L.first L.count a')).drop (secO L.count a').toNat).take 64:=rfl
    obtain ⟨P,hP⟩:∃ P,P=secP D L.first L.count a':=⟨_,rfl⟩
    rw [<- hP] at hs' hPl hPe
    obtain ⟨B,hB⟩:∃ B,B=secB L.first L.count a':=⟨_,rfl⟩
    rw [<- hB] at HSEC HRD hPe lb
    obtain ⟨O,hO'⟩:∃ O:Nat,secO L.count a'=(O:Int):=⟨(secO L.count a').toNat,by omega⟩
    obtain ⟨d,hd'⟩:∃ d:Nat,a' - secF a'=(d:Int):=⟨(a' - secF a').toNat,by omega⟩
    have e1:secF a'=a' - d:=by omega
    have hd51:d<=50:=by omega
    have hO448:O<=448:=by omega
    rw [hO',e1] at HSEC
    rw [hO',Int.toNat_natCast] at hPe
    rw [hd',Int.toNat_natCast,e1] at hs'
    have HS2:=qh hs'
    have HP:=qh hPe
    have HPl:=qh hPl
    have LB:=Lib.hid lb
    clear hs' HS hB hO hF hPe hO' hd' e1 hm hP hPl lb
    go_wp2_with fail
    refine HSEC.out.mono ?_
    rintro e wx ⟨rfl,rfl⟩
    go_wp2_with fail
    refine HRD.out.mono ?_
    rintro e w2 ⟨g2,k2,rfl,hb2,hk2⟩
    have hk512:512<=k2:=by
     obtain ⟨cur,_,_,h5,_⟩:=hb2.form
     rw [LB.out] at h5;exact h5
    have hr2:RdB w2 (some ⟨g2,0,none⟩) (D.latest B):=OwnV.rd (n:=(D.latest B).length) (c:=k2) hb2
    have HPR:=qh (show RdB w2 (slA (some ⟨g2,0,none⟩) O k2) P from by rw [HP.out];exact (hr2.sl O k2 (by rw [LB.out];exact hk512)).takeG 64)
    have HO2:=qh (HO.out.keep hk2 (fun _ _=>id))
    have HK2:=qh (HK.out.trans0 hk2)
    have HQ2:=qh (hk2.heap HQr.out id)
    clear hr2 hb2 hk2 HO HRD HSEC HK HQr c0
    have cT:w2.cell? ⟨q,3,none⟩=some (.int .i64 L.turn):=zcjX HQ2.out rfl
    go_upto_region 9 with (refine z3Ho rfl (zW40 _ _ _ O (O+64) 64 rfl (some ⟨g2,0,none⟩) 512 k2 _ _ rfl rfl rfl rfl (by go_num) (by omega) (by omega) (by omega) _) ?_)
    obtain ⟨A2,hA2⟩:∃ A2,A2=slA (some ⟨g2,0,none⟩) O k2:=⟨_,rfl⟩
    rw [<- hA2] at HPR ⊢
    have hA2s:A2≠none:=by rw [hA2];exact ztrL (by simp) _ _
    obtain ⟨c2,hc2⟩:∃ c2,c2=k2 - O:=⟨_,rfl⟩
    rw [<- hc2]
    have hc64:64<=c2:=by omega
    obtain ⟨x2,o2,hx2,hcell⟩:=HPR.out.cell (k:=12) (by rw [HPl.out];decide)
    subst hx2
    clear hA2 hc2 hA2s
    obtain ⟨T,hT⟩:∃ T,T=valN (cut P 8 4) 0:=⟨_,rfl⟩
    have VT:=qh (show sgn (valN ((P.drop 8).take 4) 0)=(T:Int) from by rw [hT];exact zPu5 (by decide))
    have hT32:T < 4294967296:=by rw [hT];exact val4 P 8 4 (by decide)
    obtain ⟨U,hU⟩:∃ U,U=(bAt P 12).toNat:=⟨_,rfl⟩
    have hU8:U < 256:=by rw [hU];exact (bAt P 12).toNat_lt
    rw [<- hU] at hcell HS2
    rw [<- hT] at HS2
    obtain ⟨V,hV⟩:∃ V,V=sgn (valN (cut P 0 8) 0):=⟨_,rfl⟩
    have VV:=qh (show sgn (valN (P.take 8) 0)=V from hV.symm)
    have HT:=qh hT
    have HU:=qh hU
    have HV:=qh hV
    have HCE:=qh (fun (w':World) (hk:w2.heap=w'.heap)=>show w'.cell? ⟨x2,o2+12,none⟩=some (.int .u8 (U:Int)) from by
     rw [<- hcell];unfold World.cell?;rw [hk])
    have e2:IntKind.i64.wrap (a' - (a' - (d:Int)))=(d:Int):=by rw [IntKind.wrap_i64];omega
    clear hT hU hV hcell
    go_cut [15,16,17] from 46 to 55 (fun x y z wx=>x=.int .i64 (T:Int)/\y=.int .i64 (U:Int)/\z=.int .i64 (d:Int)/\w2.drew=wx)
    case first=>
     have hH0:w2.heap=w2.drew.heap:=rfl
     refine znCh 12 (fun w'=>w2.heap=w'.heap) (by kernel_rfl) rfl (fun hH=>?_)
     simp only [List.length_cons,List.length_nil,List.replicate]
     refine tK 0 ?_ (fun w' hw'=>?_) hH ?_
     rotate_left
     ·skip
      go_simp<;>with_reducible rfl
     simp only [Act.put,oZa,oZb,oZc]
     refine takeL 1 (.slice (slA (some ⟨x2,o2,none⟩) 8 c2) (64 - 8) (c2 - 8)) rfl (by kernel_rfl) (fun _ _ _ h=>h) (by rfl) (fun w' _=>z6mH _ 8 rfl (some ⟨x2,o2,none⟩) 64 c2 rfl rfl (by omega) w') hH ?_
     simp only [Act.put,oZa,oZb,oZc]
     refine takeC 2 (.int .i64 (T:Int)) rfl (by kernel_rfl) (fun _ _ _ h=>h) (by rfl) (by intro h;cases h) 71 #[.slice (slA (some ⟨x2,o2,none⟩) 8 c2) (64 - 8) (c2 - 8),.int .i64 4] (fun w' _=>by go_simp) (fun w' hw'=>by
      have:=ze6V _ (64 - 8) (c2 - 8) (P.drop 8) 4 w' (by rw [List.length_drop,HPl.out]) (RdB.sl (w:=w') (show RdB w' (some ⟨x2,o2,none⟩) P from by
       have:=HPR.out
       unfold RdB World.cell? at this ⊢
       rw [<- hw']
       exact this) 8 c2 (by rw [HPl.out];exact hc64)) (by decide) (by decide) (by omega)
      rwa [VT.out] at this) hH ?_
     simp only [Act.put,oZa,oZb,oZc]
     refine tK 3 ?_ (fun w' hw'=>?_) hH ?_
     rotate_left
     ·skip
      go_simp<;>with_reducible rfl
     simp only [Act.put,oZa,oZb,oZc]
     refine tK 4 ?_ (fun w' hw'=>?_) hH ?_
     rotate_left
     ·skip
      go_simp<;>with_reducible rfl
     simp only [Act.put,oZa,oZb,oZc]
     refine takeL 5 (.int .u8 (U:Int)) rfl (by kernel_rfl) (fun _ _ _ h=>h) (by rfl) (fun w' hw'=>?_) hH ?_
     ·have:=HCE.out w' hw'
      go_simp
     simp only [Act.put,oZa,oZb,oZc]
     have eU:IntKind.i64.wrap (U:Int)=(U:Int):=by rw [IntKind.wrap_i64];omega
     have eU2:wrap64 (U:Int)=(U:Int):=by unfold wrap64;omega
     have e3:wrap64 (a' - (a' - (d:Int)))=(d:Int):=by unfold wrap64;omega
     refine takeL 6 (.int .i64 (U:Int)) rfl (by kernel_rfl) (fun _ _ _ h=>h) (by rfl) (fun w' hw'=>?_) hH ?_
     ·go_simp
     simp only [Act.put,oZa,oZb,oZc]
     refine tK 7 ?_ (fun w' hw'=>?_) hH ?_
     rotate_left
     ·skip
      go_simp<;>with_reducible rfl
     simp only [Act.put,oZa,oZb,oZc]
     refine tK 8 ?_ (fun w' hw'=>?_) hH ?_
     rotate_left
     ·skip
      go_simp<;>with_reducible rfl
     simp only [Act.put,oZa,oZb,oZc]
     refine takeL 9 (.int .i64 (d:Int)) rfl (by kernel_rfl) (fun _ _ _ h=>h) (by rfl) (fun w' hw'=>?_) hH ?_
     ·go_simp
     simp only [Act.put,oZa,oZb,oZc]
     refine stepL 10 rfl (by kernel_rfl) (fun K hK=>?_)
     go_simp
     refine hK.out _ _ (fun _=>hH) (fun _=>?_)
     simp only [oZa,oZb,oZc]
     clear hK K
     refine stepL 11 rfl (by kernel_rfl) (fun K hK=>?_)
     go_simp
     refine hK.out _ _ (fun _=>hH) (fun _=>?_)
     simp only [oZa,oZb,oZc]
     clear hK K
     refine stepL 12 rfl (by kernel_rfl) (fun K hK=>?_)
     go_simp
     refine hK.out _ _ (fun _=>hH) (fun _=>?_)
     simp only [oZa,oZb,oZc]
     clear hK K
     refine doneL (by kernel_rfl) ?_ _
     go_wp2
     go_meet
     case rel=>exact ⟨rfl,rfl,rfl,rfl⟩
    case rest=>
     obtain ⟨rfl,rfl,rfl,hwc⟩:=hcut
     have HPRc:=qh (show RdB wc (some ⟨x2,o2,none⟩) P from by rw [<- hwc];exact HPR.out)
     have HQc:=qh (show wc.heap[q]?=some (.cells (logC p lv tv L) 104 (0,0)) from by rw [<- hwc];exact HQ2.out)
     have HKc:=qh (show Kept (fun _=>False) w wc from by rw [<- hwc];exact HK2.out.drew)
     have HOc:=qh (show OwnV wc w.heap.size (.slice A l.length c) l from by rw [<- hwc];exact HO2.out)
     have chs:zsGR P (a' - d) a' last L.turn↔(V≠a' - d\/(T:Int) < max last 1\/L.turn<=(T:Int)\/51 < U\/(U:Int) < (d:Int)):=by
      unfold zsGR
      rw [<- HV.out,<- HT.out,<- HU.out,show a' - (a' - (d:Int))=(d:Int) by omega]
     have CHS:=Lib.hid chs
     have cT:wc.cell? ⟨q,3,none⟩=some (.int .i64 L.turn):=zcjX HQc.out rfl
     clear hwc chs HPR HK2 HO2 HCE HQ2
     go_upto_region 10 with fail
     go_cut [82] from 56 to 82 (fun v wx=>v=.bool (decide (zsGR P (a' - d) a' last L.turn))/\wc=wx)
     case first=>
      by_cases s1:V=a' - d
      ·have s1b:(V != a' - d)=false:=by rw [s1];simp
       have S1:=Lib.hid s1
       clear s1
       obtain ⟨mx,hmx⟩:∃ mx,mx=max last 1:=⟨_,rfl⟩
       have HMX:=qh hmx
       have hmx1:(last < 1/\mx=1)\/(¬ last < 1/\mx=last):=by omega
       clear hmx
       by_cases s2:(T:Int) < mx
       ·rcases hmx1 with ⟨q1,rfl⟩ | ⟨q1,rfl⟩
        ·go_wp2_with (go_at_call 71;refine (ze6V (some ⟨x2,o2,none⟩) 64 c2 P 8 _ HPl.out HPRc.out (by decide) (by decide) hc64).mono ?_;rw [VV.out];rintro e wx ⟨rfl,rfl⟩)
         go_meet
         case rel=>exact ⟨zhHT (CHS.out.2 (.inr (.inl (by rw [<- HMX.out];exact s2)))),rfl⟩
        ·go_wp2_with (go_at_call 71;refine (ze6V (some ⟨x2,o2,none⟩) 64 c2 P 8 _ HPl.out HPRc.out (by decide) (by decide) hc64).mono ?_;rw [VV.out];rintro e wx ⟨rfl,rfl⟩)
         go_meet
         case rel=>exact ⟨zhHT (CHS.out.2 (.inr (.inl (by rw [<- HMX.out];exact s2)))),rfl⟩
       ·by_cases s3:L.turn<=(T:Int)
        ·rcases hmx1 with ⟨q1,rfl⟩ | ⟨q1,rfl⟩ <;>
         ·go_wp2_with (go_at_call 71;refine (ze6V (some ⟨x2,o2,none⟩) 64 c2 P 8 _ HPl.out HPRc.out (by decide) (by decide) hc64).mono ?_;rw [VV.out];rintro e wx ⟨rfl,rfl⟩)
          go_meet
          case rel=>exact ⟨zhHT (CHS.out.2 (.inr (.inr (.inl s3)))),rfl⟩
        ·by_cases s4:51 < (U:Int)
         ·rcases hmx1 with ⟨q1,rfl⟩ | ⟨q1,rfl⟩ <;>
          ·go_wp2_with (go_at_call 71;refine (ze6V (some ⟨x2,o2,none⟩) 64 c2 P 8 _ HPl.out HPRc.out (by decide) (by decide) hc64).mono ?_;rw [VV.out];rintro e wx ⟨rfl,rfl⟩)
           go_meet
           case rel=>exact ⟨zhHT (CHS.out.2 (.inr (.inr (.inr (.inl (by omega)))))),rfl⟩
         ·by_cases s5:(U:Int) < (d:Int)
          ·rcases hmx1 with ⟨q1,rfl⟩ | ⟨q1,rfl⟩ <;>
           ·go_wp2_with (go_at_call 71;refine (ze6V (some ⟨x2,o2,none⟩) 64 c2 P 8 _ HPl.out HPRc.out (by decide) (by decide) hc64).mono ?_;rw [VV.out];rintro e wx ⟨rfl,rfl⟩)
            go_meet
            case rel=>exact ⟨zhHT (CHS.out.2 (.inr (.inr (.inr (.inr s5))))),rfl⟩
          ·rcases hmx1 with ⟨q1,rfl⟩ | ⟨q1,rfl⟩ <;>
           ·go_wp2_with (go_at_call 71;refine (ze6V (some ⟨x2,o2,none⟩) 64 c2 P 8 _ HPl.out HPRc.out (by decide) (by decide) hc64).mono ?_;rw [VV.out];rintro e wx ⟨rfl,rfl⟩)
            go_meet
            case rel=>
             have nb:¬ zsGR P (a' - d) a' _ L.turn:=fun h=>by
              rcases CHS.out.1 h with h | h | h | h | h
              ·exact h S1.out
              ·rw [<- HMX.out] at h;omega
              ·omega
              ·omega
              ·omega
             refine ⟨congrArg Value.bool ?_,rfl⟩
             rw [decide_eq_false nb]
             simp only [Bool.or_eq_false_iff,decide_eq_false_iff_not]
             omega
      ·have s1b:(V != a' - d)=true:=by rw [bne_iff_ne];exact s1
       have S1:=Lib.hid s1
       clear s1
       go_wp2_with (go_at_call 71;refine (ze6V (some ⟨x2,o2,none⟩) 64 c2 P 8 _ HPl.out HPRc.out (by decide) (by decide) hc64).mono ?_;rw [VV.out];rintro e wx ⟨rfl,rfl⟩)
       go_meet
       case rel=>exact ⟨zhHT (CHS.out.2 (.inl S1.out)),rfl⟩
     case rest=>
      obtain ⟨hu82,rfl⟩:=hcut
      have minA:∀ (l':Bytes) (A':Option Addr) (c':Nat),OwnV wc w.heap.size (.slice A' l'.length c') l'->l'.length<=n->OwnV wc w.heap.size (.slice (slA A' 0 c') l'.length c') (l'.take n):=fun l' A' c' h hn=>by
       have:=h.short l'.length (Nat.le_refl _)
       have e:l'.take n=l':=List.take_of_length_le hn
       rw [e]
       rwa [List.take_length] at this
      by_cases hst:zsGR P (a' - d) a' last L.turn
      ·rw [decide_eq_true hst] at hu82
       subst hu82
       have hs':=HS2.out
       rw [if_pos hst] at hs'
       have HS3:=qh hs'.symm
       have HOS:=qh (minA l A c HOc.out (by omega))
       clear hs' HS2 hst minA
       go_wp2_with (refine z3Ho rfl (zdzR _ _ l.length rfl A l.length c _ rfl rfl (by go_num) (by omega) _) ?_)
       all_goals
        go_ret2
        rw [HS3.out]
        exact ⟨HKc.out,_,_,_,rfl,HOS.out⟩
      ·rw [decide_eq_false hst] at hu82
       subst hu82
       have hs':=HS2.out
       rw [if_neg hst] at hs'
       have hno:¬ 51 < U/\¬ (U:Int) < (d:Int):=⟨fun h=>hst (CHS.out.2 (.inr (.inr (.inr (.inl h))))),fun h=>hst (CHS.out.2 (.inr (.inr (.inr (.inr h)))))⟩
       have u1:U<=51:=by omega
       have u2:d<=U:=by omega
       have em:(P.take (13+U)).drop (13+d)=(P.drop (13+d)).take (U - d):=by rw [List.drop_take,show 13+U - (13+d)=U - d by omega]
       rw [em] at hs'
       have lm:((P.drop (13+d)).take (U - d)).length=U - d:=by rw [List.length_take,List.length_drop,HPl.out];omega
       have hmr:RdB wc (slA (some ⟨x2,o2,none⟩) (13+d) c2) ((P.drop (13+d)).take (U - d)):=(HPRc.out.sl (13+d) c2 (by rw [HPl.out];exact hc64)).takeG (U - d)
       obtain ⟨m,hm⟩:∃ m,m=(P.drop (13+d)).take (U - d):=⟨_,rfl⟩
       rw [<- hm] at hs' lm hmr
       have HS3:=qh hs'
       have LM:=Lib.hid lm
       have HMR:=qh hmr
       clear hs' HS2 hst minA em lm hmr hm hno
       go_upto_region 12 with (first
        | (refine z3Ho rfl (zW40 _ _ _ (13+d) (13+U) (U - d) rfl (some ⟨x2,o2,none⟩) 64 c2 _ _ rfl rfl rfl (by go_num) (by go_num) (by omega) (by omega) (by omega) _) ?_)
        | (at_builtin;refine zZjY rfl _ _ rfl w.heap.size _ l m rfl HOc.out _ (U - d) (c2 - (13+d)) rfl LM.out HMR.out (by rw [LM.out];omega) (by have:=HKc.out.size;exact this) ?_))
       intro v3 w3 ho3 hk3 hat3
       have HO3:=qh ho3
       have HK3:=qh (HKc.out.new hk3 (fun x hx=>(HOc.out.base_le hx).1))
       obtain ⟨A3,c3,rfl,hc3⟩:=ho3.slice
       have l3:(l ++ m).length=l.length+(U - d):=by rw [List.length_append,LM.out]
       have HOn:=qh (fun (hh:n<=(l ++ m).length)=>HO3.out.short n hh)
       have HOl:=qh (fun (hh:(l ++ m).length<=n)=>show OwnV w3 w.heap.size (.slice (slA A3 0 c3) (l ++ m).length c3) ((l ++ m).take n) from by
        have:=HO3.out.short (l ++ m).length (Nat.le_refl _)
        rw [List.take_length] at this
        rw [List.take_of_length_le hh]
        exact this)
       obtain ⟨l',hl'⟩:∃ l',l'=l ++ m:=⟨_,rfl⟩
       rw [<- hl'] at HO3 HOn HOl HS3 hc3 l3 ⊢
       clear ho3 hk3 hat3 hl' HOc HKc HMR LM
       by_cases h51:U < 51
       ·have h51i:(U:Int) < 51:=by omega
        have hs':=HS3.out
        rw [if_pos h51] at hs'
        have HS4:=qh hs'.symm
        clear hs' HS3 h51
        by_cases hh:n < l'.length
        ·have hmin:((n:Int) < (l'.length:Int)):=by omega
         have HF:=qh (HOn.out (by omega))
         go_wp2_with (refine z3Ho rfl (zdzR _ _ n rfl A3 l'.length c3 _ rfl rfl (by go_num) (by omega) _) ?_)
         all_goals
          go_ret2
          rw [HS4.out]
          exact ⟨HK3.out,_,_,_,rfl,by first | exact HF.out | (have:=HF.out;rwa [l3] at this)⟩
        ·have hmin:¬ ((n:Int) < (l'.length:Int)):=by omega
         have HF:=qh (HOl.out (by omega))
         go_wp2_with (refine z3Ho rfl (zdzR _ _ l'.length rfl A3 l'.length c3 _ rfl rfl (by go_num) (by omega) _) ?_)
         all_goals
          go_ret2
          rw [HS4.out]
          exact ⟨HK3.out,_,_,_,rfl,by first | exact HF.out | (have:=HF.out;rwa [l3] at this)⟩
       ·have h51i:¬ (U:Int) < 51:=by omega
        have hs':=HS3.out
        rw [if_neg h51] at hs'
        have HS4:=qh hs'
        have hu51:U=51:=by omega
        clear hs' HS3 h51 HOn HOl
        go_wp2
        go_roundw
        case rel=>exact ⟨g,a' - d+51,(T:Int),l',by go_num,rfl,by omega,by omega,HO3.out,HS4.out,by omega,by omega,by omega,by omega,by omega,HK3.out⟩
        case measure=>simp [vlen];omega
   ·have hs':=HS.out
    have hv:zoel D L.first L.count L.turn n (g+1) a' last l=([],D.mayE (secB L.first L.count a')):=by
     show (if n<=l.length then (l.take n,0) else if D.mayE (secB L.first L.count a')≠0 then ([],D.mayE (secB L.first L.count a')) else _)=_
     rw [if_neg (by omega),if_pos hm]
    rw [hv] at hs'
    have HS2:=qh hs'.symm
    have HRD:=qh (zpER HDr.out _ hm)
    have hmb:(D.mayE (secB L.first L.count a') != 0)=true:=by simpa using hm
    obtain ⟨E,hE⟩:∃ E,E=D.mayE (secB L.first L.count a'):=⟨_,rfl⟩
    rw [<- hE] at HRD HS2 hmb
    clear hs' HS hE hv hm
    go_wp2_with fail
    refine HSEC.out.mono ?_
    rintro e wx ⟨rfl,rfl⟩
    go_wp2_with (go_at_call 28;refine HRD.out.mono ?_;rintro e w2 ⟨rfl,rfl⟩)
    go_ret2
    rw [HS2.out]
    exact ⟨HK.out,none,0,0,rfl,OwnV.nil _ _⟩
  ·have i1:¬ (l.length:Int) < (n:Int):=by omega
   have hs':=HS.out
   have hv:zoel D L.first L.count L.turn n f a' last l=(l.take n,0):=by
    cases f with
    | zero=>rfl
    | succ f=>
     show (if n<=l.length then (l.take n,0) else _)=_
     rw [if_pos (by omega)]
   rw [hv] at hs'
   have HS2:=qh hs'.symm
   have HOS:=qh (HO.out.short n (by omega))
   clear hs' hv HS HSEC
   go_wp2_with (refine z3Ho rfl (zdzR _ _ n rfl A l.length c _ rfl rfl (by go_num) (by omega) _) ?_)
   all_goals
    go_ret2
    rw [HS2.out]
    exact ⟨HK.out,_,_,_,rfl,HOS.out⟩
end Go.Proofs.Ytnbfhdgojmflhaa
