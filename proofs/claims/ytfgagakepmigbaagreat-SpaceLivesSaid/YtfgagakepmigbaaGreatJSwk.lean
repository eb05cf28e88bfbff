/-
  No statement is proved here.
-/
import Derived.Test.YtfgagakepmigbaaGreatJSwj
import Derived.Test.YtfgagakepmigbaaGreatJSmd
import Derived.Lib.BufferWrite
namespace Go.Proofs.YtfgagakepmigbaaGreat
open Go.RowKit
theorem z4tW {ops:Array Oper} {Q:Exit->Act->World->Prop} {E:Prop} {K:Act->World->Prop} {a:Act} {w:World} {o:Oper} (hgd:o.guard=none) (t:TypeId) (x y:Operand) (ho:o.op=.store t x y) (ht:((Tryz.prog).info? t).map (·.size)=some 1) (B g c:Nat) (l:Bytes) (i:Nat) (z:UInt8) (z':Int) (hx:a.eval x=.pointer (some ⟨g,i,none⟩)) (hy:a.eval y=.int .u8 z') (hz:z'=(z.toNat:Int)) (h:OwnB w B g c l) (hi:i < l.length)
  (k:∀ w',OwnB w' B g c (l.set i z)->Kept (fun x=>x=g) w w'->K (a.put o.dst undef) w'):if Region.wanted o (yielded ops a.tmps)=true then Oper.wp Tryz.prog o a w K Q else E:=by
 subst hz
 obtain ⟨cur,hB,hh,h1,h2,h3,ht'⟩:=h.form
 refine zRRc hgd t x y ho g i (.int .u8 z.toNat) cur hx hy hh ht (by omega) rfl ?_
 intro w' hb' hk'
 refine k w' ⟨by rw [z6VZ,Nat.mul_one],.inr ⟨g,c,_,by rw [List.length_set],hB,hb',by rw [List.length_set];exact h1,h2,by simpa using h3,?_⟩⟩ hk'
 rw [List.length_set,Nat.mul_one,Array.toList_setIfInBounds,List.take_set,ht',<- zBUG]
 simp
theorem zPgz (w:World) (g B:Nat) (ty:TypeId) (hh:w.heap[g]?=some (.cells (cellsOf (zeros 512)) 5 (0,0))) (hB:B<=g) :
  ∃ w',(Builtin.copy_ #[47,9] ty #[.slice (some ⟨g,0,none⟩) 512 512,.string ⟨#[115,112,97,99,101,1]⟩]).run Tryz.prog w=.ok (goInt 6) w'/\OwnB w' B g 512 hdrP/\Kept (fun x=>x=g) w w':=by
 have hr:=Lib.run_copy_row_string (P:=Tryz.prog) w 47 9 ty 5 g 0 512 512 ⟨#[115,112,97,99,101,1]⟩ (cellsOf (zeros 512)) 5 Tryz.underlying47 (by kernel_rfl) hh (by decide) (by rw [<- Array.length_toList,z6VZ,zrlC];decide)
 have hc:((cellsOf (zeros 512)).toList.take 0 ++ Lib.byteCells (⟨#[115,112,97,99,101,1]⟩:ByteArray).data.toList ++ (cellsOf (zeros 512)).toList.drop (0+(⟨#[115,112,97,99,101,1]⟩:ByteArray).size)).toArray=cellsOf hdrP:=by kernel_rfl
 rw [hc] at hr
 refine ⟨_,hr,?_,(Kept.refl (fun x=>x=g) w).setRow (.inr rfl) _⟩
 exact ⟨by rw [z6VZ,Nat.mul_one],.inr ⟨g,512,_,by rw [zZmK],hB,setRow_heap w g _ _ _ _ hh,by rw [zZmK];exact Nat.le_refl _,by decide,by rw [<- Array.length_toList,z6VZ,zZmK],by rw [zZmK];exact List.take_of_length_le (by rw [z6VZ,zZmK];exact Nat.le_refl _)⟩⟩
theorem zOtY {w:World} {ops:Array Oper} {rest:List Oper} {o:Oper} {a:Act} {Q:Exit->Act->World->Prop} (hgd:o.guard=none) (d s:Operand)
  (ho:o.op=.call { callee:=.builtin .copy,args:=#[d,s],argTypes:=#[47,9] }) (g B:Nat) (hh:w.heap[g]?=some (.cells (cellsOf (zeros 512)) 5 (0,0))) (hB:B<=g)
  (hd:a.eval d=.slice (some ⟨g,0,none⟩) 512 512) (hs:a.eval s=.string ⟨#[115,112,97,99,101,1]⟩)
  (k:∀ w',OwnB w' B g 512 hdrP->Kept (fun x=>x=g) w w'->wpList Tryz.prog ops Q rest (a.put o.dst (goInt 6)) w'):wpList Tryz.prog ops Q (o :: rest) a w:=by
 obtain ⟨w',hr,h2,h3⟩:=zPgz w g B o.type hh hB
 refine wpList_plain hgd fun K hK=>?_
 unfold Oper.wp
 simp [execOp,ho,resolve,invoke,builtin,hd,hs,hr,Result.andThen]
 exact hK _ _ (k w' h2 h3)
def pgI (i k:Nat):Bytes:=if i=1 then ownP k else zeros 512
theorem zeNC (i k:Nat):(pgI i k).length=512:=by
 unfold pgI
 split
 ·exact zsf6 k
 ·exact zrlC 512
section
variable {w w' w1 w2:World} {x x1:BAdr} {S:BkA} {g:Nat}
set_option maxRecDepth 100000 in
set_option maxHeartbeats 3200000 in
theorem zBXs (h:BkW w x S g) (hg:g<=1000000000 - 30):Calls Tryz.prog 17 #[ptrV x.bk] w (APost w x S.format (g+20)):=by
 obtain ⟨p0,p1⟩:=h.pg
 obtain ⟨POST,hPOST⟩:∃ POST,POST=APost w x S.format (g+20):=⟨_,rfl⟩
 rw [<- hPOST]
 have HPO:=qh (show ∀ S' n w' x',S.format=(S',n)->BTo w x w' x'->BkW w' x' S' (g+20)->POST (.returned (.int .i64 n)) w' from fun S' n w' x' h1 h2 h3=>by rw [hPOST,h1];exact ⟨rfl,x',h2,h3⟩)
 have HP:=qh (zQfR h)
 have HST:=qh (zjaJ h)
 have HOW:=qh (zJh4 h)
 have H:=qh h
 obtain ⟨N,hN⟩:∃ N,N=S.pages:=⟨_,rfl⟩
 obtain ⟨ow,how⟩:∃ ow:Nat,ownS S.pages=ow:=⟨(ownS S.pages).toNat,by unfold ownS;omega⟩
 have hob:2<=ow/\ow<=9/\(ow:Int) < N:=by have hw:=how;unfold ownS at hw;omega
 have HS:=qh (show S.format=if S.inT=false then (S,7) else thenA (mapsM ow (ow - 1) 1 S) fun S1=>S1.put 0 hdrP from by
  unfold BkA.format
  rw [if_neg (show ¬ S.pages<=ownS S.pages by rw [how];omega),how,Int.toNat_natCast])
 rw [how] at HOW
 have hNN:=hN
 rw [<- hN] at HP p0 p1
 have HN:=qh hNN
 unfold ptrV at HP HST HOW ⊢
 clear h hPOST hN hNN how
 go_enter Tryz.func17,Tryz.ntmps17
 go_wp2_with fail
 refine HST.out.mono ?_
 rintro e wx ⟨rfl,rfl⟩
 by_cases hT:S.inT=true
 ·rw [if_pos hT]
  have HS2:=qh (show S.format=thenA (mapsM ow (ow - 1) 1 S) fun S1=>S1.put 0 hdrP from by rw [HS.out,if_neg (by rw [hT];decide)])
  clear hT HS HST
  go_wp2_with fail
  refine HOW.out.mono ?_
  rintro e wx ⟨rfl,rfl⟩
  go_wp2_with fail
  refine HP.out.mono ?_
  rintro e wx ⟨rfl,rfl⟩
  have i1:¬ N<=(ow:Int):=by omega
  go_wp2_with fail
  go_loopw [5] (fun i wr=>∃ (m:Nat) (xr:BAdr) (Sr:BkA),i=.int .i64 m/\1<=m/\m<=ow/\BTo w x wr xr/\BkW wr xr Sr (g+m)/\mapsM ow (ow - 1) 1 S=mapsM ow (ow - m) m Sr) (fun i _=>20 - (intOf i).toNat)
  case atStart=>exact ⟨1,x,S,rfl,by omega,by omega,.refl _ _,H.out.up (by omega),rfl⟩
  case round=>
   obtain ⟨m,xr,Sr,rfl,hm1,hm2,hto,hbw,hmp⟩:=hrel
   have HTO:=qh hto
   have HW:=qh hbw
   have HM:=qh hmp
   have HBK:=qh (show xr.bk=x.bk from hto.fix.bk)
   clear hto hbw hmp
   by_cases hlt:m < ow
   ·have j1:(m:Int) < ow:=by omega
    go_wp2_with (refine ztfv rfl _ _ rfl .i64 .i64 512 512 rfl rfl (Nat.le_refl 512) (by decide) ?_)
    intro gz w2 l2 m2 hb2 hk2
    have HO2:=qh (OwnB.zeros_of hb2 l2)
    have HTO2:=qh (HTO.out.keep0 hk2)
    have H2:=qh (HW.out.keep0 hk2)
    have HNZ:=qh (show ¬ xr.K gz from fun hK=>by have:=HW.out.lt hK;omega)
    have HLZ:=qh (show w.heap.size<=gz from by have:=HTO.out.k.size;omega)
    clear hb2 hk2 l2 m2
    obtain ⟨B0,hB0⟩:∃ B0,B0=wr.heap.size:=⟨_,rfl⟩
    rw [<- hB0] at HO2
    clear hB0
    go_wp2_with fail
    go_loopw [7] (fun i wr2=>∃ k:Nat,i=.int .i64 k/\k<=ow/\(m≠1->k=0)/\OwnB wr2 B0 gz 512 (pgI m k)/\Kept (fun z=>z=gz) w2 wr2) (fun i _=>20 - (intOf i).toNat)
    case atStart=>
     refine ⟨0,rfl,by omega,fun _=>rfl,?_,Kept.refl _ _⟩
     have e:pgI m 0=zeros 512:=by unfold pgI;split<;>rfl
     rw [e];exact HO2.out
    case round=>
     obtain ⟨k,rfl,hk,hk1,ho,hkk⟩:=hrel
     have HO:=qh ho
     have HKK:=qh hkk
     clear ho hkk
     by_cases hk4:k < ow
     ·have j2:(k:Int) < ow:=by omega
      by_cases hm:m=1
      ·subst hm
       have hk8:k / 8 < 512:=by omega
       have j3:(k:Int) / 8 < 512:=by omega
       obtain ⟨l,hl⟩:∃ l,l=ownP k:=⟨_,rfl⟩
       have hll:l.length=512:=by rw [hl];exact zsf6 k
       have HOL:=qh (show OwnB wr.drew B0 gz 512 l from by
        have:=HO.out
        unfold pgI at this
        rw [if_pos rfl,<- hl] at this
        exact this.kept ((Kept.refl _ _).drew))
       have hb:=z36y (bAt l (k / 8)) (j:=k % 8) (by omega)
       obtain ⟨z,hz⟩:∃ z,z=orB (bAt l (k / 8)) (k % 8):=⟨_,rfl⟩
       rw [<- hz] at hb
       have HZ:=qh (show l.set (k / 8) z=pgI 1 (k+1) from by
        unfold pgI
        rw [if_pos rfl]
        show _=setP (ownP k) k
        unfold setP
        rw [hz,hl])
       have HLL:=qh hll
       have x1:IntKind.i64.wrap ((k:Int) / 8)=((k / 8:Nat):Int):=by rw [IntKind.wrap_i64];omega
       have x2:(k:Int).tmod 8=((k % 8:Nat):Int):=by rw [Int.tmod_eq_emod_of_nonneg (by omega)];omega
       have x3:((k / 8:Nat):Int) < 512:=by omega
       have x4:0<=(k:Int) / 8:=by omega
       have x5:((k:Int) / 8).toNat=k / 8:=by omega
       have x6:IntKind.u8.wrap (2 ^ ((k:Int) % 8).toNat)=((2 ^ (k % 8):Nat):Int):=by
        rw [show ((k:Int) % 8).toNat=k % 8 by omega]
        have h:((List.range 8).all fun j=>IntKind.u8.wrap (2 ^ j) == ((2 ^ j:Nat):Int))=true:=by decide +kernel
        exact eq_of_beq (List.all_eq_true.1 h (k % 8) (List.mem_range.2 (by omega)))
       obtain ⟨P2,hP2⟩:∃ P2:Int,P2=((2 ^ (k % 8):Nat):Int):=⟨_,rfl⟩
       rw [<- hP2] at x6 hb
       clear hP2
       clear hl hz hll HO
       go_wp2_with fail
       refine znCh 10 (fun w'=>OwnB w' B0 gz 512 l) (by kernel_rfl) HOL.out (fun hH=>?_)
       simp only [List.length_cons,List.length_nil,List.replicate]
       refine tK 0 ?_ (fun w' hw'=>?_) hH ?_
       rotate_left
       ·have c0:=hw'.cellAt (i:=k / 8) (by rw [HLL.out];exact hk8)
        go_simp<;>with_reducible rfl
       simp only [Act.put,oZa,oZb,oZc]
       refine tK 1 ?_ (fun w' hw'=>?_) hH ?_
       rotate_left
       ·have c0:=hw'.cellAt (i:=k / 8) (by rw [HLL.out];exact hk8)
        go_simp<;>with_reducible rfl
       simp only [Act.put,oZa,oZb,oZc]
       refine tK 2 ?_ (fun w' hw'=>?_) hH ?_
       rotate_left
       ·have c0:=hw'.cellAt (i:=k / 8) (by rw [HLL.out];exact hk8)
        go_simp<;>with_reducible rfl
       simp only [Act.put,oZa,oZb,oZc]
       refine tK 3 ?_ (fun w' hw'=>?_) hH ?_
       rotate_left
       ·have c0:=hw'.cellAt (i:=k / 8) (by rw [HLL.out];exact hk8)
        go_simp<;>with_reducible rfl
       simp only [Act.put,oZa,oZb,oZc]
       refine tK 4 ?_ (fun w' hw'=>?_) hH ?_
       rotate_left
       ·have c0:=hw'.cellAt (i:=k / 8) (by rw [HLL.out];exact hk8)
        go_simp<;>with_reducible rfl
       simp only [Act.put,oZa,oZb,oZc]
       refine tK 5 ?_ (fun w' hw'=>?_) hH ?_
       rotate_left
       ·have c0:=hw'.cellAt (i:=k / 8) (by rw [HLL.out];exact hk8)
        go_simp<;>with_reducible rfl
       simp only [Act.put,oZa,oZb,oZc]
       refine tK 6 ?_ (fun w' hw'=>?_) hH ?_
       rotate_left
       ·have c0:=hw'.cellAt (i:=k / 8) (by rw [HLL.out];exact hk8)
        go_simp<;>with_reducible rfl
       simp only [Act.put,oZa,oZb,oZc]
       refine tK 7 ?_ (fun w' hw'=>?_) hH ?_
       rotate_left
       ·have c0:=hw'.cellAt (i:=k / 8) (by rw [HLL.out];exact hk8)
        go_simp<;>with_reducible rfl
       simp only [Act.put,oZa,oZb,oZc]
       refine tK 8 ?_ (fun w' hw'=>?_) hH ?_
       rotate_left
       ·have c0:=hw'.cellAt (i:=k / 8) (by rw [HLL.out];exact hk8)
        go_simp<;>with_reducible rfl
       simp only [Act.put,oZa,oZb,oZc]
       refine tK 9 ?_ (fun w' hw'=>?_) hH ?_
       rotate_left
       ·have c0:=hw'.cellAt (i:=k / 8) (by rw [HLL.out];exact hk8)
        go_simp<;>with_reducible rfl
       simp only [Act.put,oZa,oZb,oZc]
       refine stepL 10 rfl (by kernel_rfl) (fun K hK=>?_)
       refine z4tW rfl _ _ _ rfl (by kernel_rfl) B0 gz 512 l (k / 8) z _ rfl rfl (by first | rfl | exact hb) HOL.out (by rw [HLL.out];exact hk8) ?_
       intro w3 ho3 hk3
       rw [HZ.out] at ho3
       have HO3:=qh ho3
       have HK3:=qh (HKK.out.drew.trans' hk3)
       clear ho3 hk3
       refine hK.out _ _ (fun h=>absurd rfl h) (fun _=>?_)
       simp only [Act.put,oZa,oZb,oZc]
       clear hK K
       refine doneL (by kernel_rfl) ?_ _
       go_wp2
       go_roundw
       case rel=>exact ⟨k+1,by go_num,by omega,fun h=>absurd rfl h,HO3.out,HK3.out⟩
       case measure=>simp [intOf];omega
      ·have j3:((m:Int) == 1)=false:=by rw [beq_eq_false_iff_ne];omega
       have HKE:=qh (show m=1->k=ow from fun h=>absurd h hm)
       have HPU:=qh (show Calls Tryz.prog 25 #[.pointer (some ⟨x.bk,0,none⟩),.int .i64 (m:Int),.slice (some ⟨gz,0,none⟩) 512 512] wr (APost wr xr (Sr.put m (mapD ow m)) (g+m+1)) from by
        have hd:pgI m k=mapD ow m:=by
         unfold pgI mapD
         by_cases c:m=1
         ·rw [if_pos c,if_pos c,HKE.out c]
         ·rw [if_neg c,if_neg c]
        have hpl:=zeNC m k
        have:=zvUq (BkW.keep H2.out HKK.out (fun z hz e=>HNZ.out (by rw [<- e];exact hz))) (by omega) (m:Int) (some ⟨gz,0,none⟩) 512 (pgI m k) HO.out.v.rd (fun b o e hb hK=>by cases e;exact HNZ.out hK) (by rw [hpl];exact Nat.le_refl _) (by decide) (by rw [hpl];decide) (by unfold isI;omega)
        rw [hpl,hd] at this
        unfold ptrV at this
        rw [HBK.out] at this
        exact this)
       have HTO3:=qh (HTO2.out.newK HKK.out (fun z hz=>by subst hz;exact HLZ.out))
       have HMS:=qh (show mapsM ow (ow - 1) 1 S=thenA (Sr.put m (mapD ow m)) (mapsM ow (ow - (m+1)) (m+1)) from by
        rw [HM.out,show ow - m=(ow - (m+1))+1 by omega]
        rfl)
       clear HO HKK HTO2 H2 HTO HW HM HLZ HNZ HO2
       go_wp2_with fail
       refine HPU.out.mono ?_
       rintro e w3 ⟨rfl,x3,h3,h4⟩
       have HX:=qh (⟨HTO3.out.trans h3,h4⟩:BTo w x w3 x3/\BkW w3 x3 (Sr.put m (mapD ow m)).1 (g+m+1))
       obtain ⟨V,hV⟩:∃ V,V=Sr.put m (mapD ow m):=⟨_,rfl⟩
       rw [<- hV] at HX HMS
       rw [<- hV]
       obtain ⟨S2,n⟩:=V
       dsimp only at HX ⊢
       clear h3 h4 HPU hV HTO3
       by_cases hn:n=0
       ·subst hn
        have HM2:=qh (show mapsM ow (ow - 1) 1 S=mapsM ow (ow - (m+1)) (m+1) S2 from by rw [HMS.out];unfold thenA;rw [if_neg (by simp)])
        clear HMS
        go_wp2
        go_roundw
        case rel=>exact ⟨m+1,x3,S2,by go_num,by omega,by omega,HX.out.1,HX.out.2,HM2.out⟩
        case measure=>simp [intOf];omega
       ·have hnb:(n != 0)=true:=by rw [bne_iff_ne];exact hn
        have HG:=qh (show S.format=(S2,n) from by
         rw [HS2.out,HMS.out]
         unfold thenA
         rw [if_pos hn]
         dsimp only
         rw [if_pos hn])
        clear HMS hn
        go_wp2
        exact HPO.out _ _ _ x3 HG.out HX.out.1 (HX.out.2.up (by omega))
     ·have j2:¬ (k:Int) < ow:=by omega
      have HKE:=qh (show m=1->k=ow from fun _=>by omega)
      have HPU:=qh (show Calls Tryz.prog 25 #[.pointer (some ⟨x.bk,0,none⟩),.int .i64 (m:Int),.slice (some ⟨gz,0,none⟩) 512 512] wr (APost wr xr (Sr.put m (mapD ow m)) (g+m+1)) from by
       have hd:pgI m k=mapD ow m:=by
        unfold pgI mapD
        by_cases c:m=1
        ·rw [if_pos c,if_pos c,HKE.out c]
        ·rw [if_neg c,if_neg c]
       have hpl:=zeNC m k
       have:=zvUq (BkW.keep H2.out HKK.out (fun z hz e=>HNZ.out (by rw [<- e];exact hz))) (by omega) (m:Int) (some ⟨gz,0,none⟩) 512 (pgI m k) HO.out.v.rd (fun b o e hb hK=>by cases e;exact HNZ.out hK) (by rw [hpl];exact Nat.le_refl _) (by decide) (by rw [hpl];decide) (by unfold isI;omega)
       rw [hpl,hd] at this
       unfold ptrV at this
       rw [HBK.out] at this
       exact this)
      have HTO3:=qh (HTO2.out.newK HKK.out (fun z hz=>by subst hz;exact HLZ.out))
      have HMS:=qh (show mapsM ow (ow - 1) 1 S=thenA (Sr.put m (mapD ow m)) (mapsM ow (ow - (m+1)) (m+1)) from by
       rw [HM.out,show ow - m=(ow - (m+1))+1 by omega]
       rfl)
      clear HO HKK HTO2 H2 HTO HW HM HLZ HNZ HO2
      go_wp2_with fail
      refine HPU.out.mono ?_
      rintro e w3 ⟨rfl,x3,h3,h4⟩
      have HX:=qh (⟨HTO3.out.trans h3,h4⟩:BTo w x w3 x3/\BkW w3 x3 (Sr.put m (mapD ow m)).1 (g+m+1))
      obtain ⟨V,hV⟩:∃ V,V=Sr.put m (mapD ow m):=⟨_,rfl⟩
      rw [<- hV] at HX HMS
      rw [<- hV]
      obtain ⟨S2,n⟩:=V
      dsimp only at HX ⊢
      clear h3 h4 HPU hV HTO3
      by_cases hn:n=0
      ·subst hn
       have HM2:=qh (show mapsM ow (ow - 1) 1 S=mapsM ow (ow - (m+1)) (m+1) S2 from by rw [HMS.out];unfold thenA;rw [if_neg (by simp)])
       clear HMS
       go_wp2
       go_roundw
       case rel=>exact ⟨m+1,x3,S2,by go_num,by omega,by omega,HX.out.1,HX.out.2,HM2.out⟩
       case measure=>simp [intOf];omega
      ·have hnb:(n != 0)=true:=by rw [bne_iff_ne];exact hn
       have HG:=qh (show S.format=(S2,n) from by
        rw [HS2.out,HMS.out]
        unfold thenA
        rw [if_pos hn]
        dsimp only
        rw [if_pos hn])
       clear HMS hn
       go_wp2
       exact HPO.out _ _ _ x3 HG.out HX.out.1 (HX.out.2.up (by omega))
   ·have j1:¬ (m:Int) < ow:=by omega
    have em:m=ow:=by omega
    have HM2:=qh (show S.format=Sr.put 0 hdrP from by
     have e:mapsM ow (ow - 1) 1 S=(Sr,0):=by rw [HM.out,em,Nat.sub_self];rfl
     rw [HS2.out,e]
     unfold thenA
     rw [if_neg (by simp)])
    go_wp2_with (refine ztfv rfl _ _ rfl .i64 .i64 512 512 rfl rfl (Nat.le_refl 512) (by decide) ?_)
    intro gz w2 l2 m2 hb2 hk2
    have HB2:=qh hb2
    have HTO2:=qh (HTO.out.keep0 hk2)
    have H2:=qh (HW.out.keep0 hk2)
    have HNZ:=qh (show ¬ xr.K gz from fun hK=>by have:=HW.out.lt hK;omega)
    have HLZ:=qh (show w.heap.size<=gz/\wr.heap.size<=gz from ⟨by have:=HTO.out.k.size;omega,l2⟩)
    clear hb2 hk2 l2 m2
    go_wp2_with (refine zOtY rfl _ _ rfl gz wr.heap.size HB2.out HLZ.out.2 rfl rfl ?_)
    intro w3 ho3 hk3
    have HPU:=qh (show Calls Tryz.prog 25 #[.pointer (some ⟨x.bk,0,none⟩),.int .i64 0,.slice (some ⟨gz,0,none⟩) 512 512] w3 (APost w3 xr (Sr.put 0 hdrP) (g+m+1)) from by
     have:=zvUq (BkW.keep H2.out hk3 (fun z hz e=>HNZ.out (by rw [<- e];exact hz))) (by omega) 0 (some ⟨gz,0,none⟩) 512 hdrP ho3.v.rd (fun b o e hb hK=>by cases e;exact HNZ.out hK) (by rw [zZmK];exact Nat.le_refl _) (by decide) (by rw [zZmK];decide) (by unfold isI;decide)
     rw [zZmK] at this
     unfold ptrV at this
     rw [HBK.out] at this
     exact this)
    have HTO3:=qh (HTO2.out.newK hk3 (fun z hz=>by subst hz;exact HLZ.out.1))
    clear ho3 hk3 HTO2 H2 HTO HW HB2
    go_wp2_with fail
    refine HPU.out.mono ?_
    rintro e w4 ⟨rfl,x4,h4,h5⟩
    have HX:=qh (⟨HTO3.out.trans h4,h5⟩:BTo w x w4 x4/\BkW w4 x4 (Sr.put 0 hdrP).1 (g+m+1))
    rw [<- HM2.out] at HX
    rw [<- HM2.out]
    obtain ⟨V,hV⟩:∃ V,V=S.format:=⟨_,rfl⟩
    rw [<- hV] at HX HPO
    rw [<- hV]
    obtain ⟨S2,n⟩:=V
    dsimp only at HX ⊢
    clear h4 h5 HPU hV HTO3
    go_wp2
    exact HPO.out _ _ _ x4 rfl HX.out.1 (HX.out.2.up (by omega))
 ·have hT0:S.inT=false:=by simpa using hT
  have HG:=qh (show S.format=(S,7) from by rw [HS.out,if_pos hT0])
  rw [if_neg hT]
  clear hT hT0
  go_wp2
  exact HPO.out _ _ _ x HG.out (.refl _ _) (H.out.up (by omega))
end
end Go.Proofs.YtfgagakepmigbaaGreat
