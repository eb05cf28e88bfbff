/-
  No statement is proved here.
-/
import Derived.Test.YtfgagakepmigbaaGreatJSwg
namespace Go.Proofs.YtfgagakepmigbaaGreat
open Go.RowKit
theorem zzG8 (f:Int->Bytes) (q:Nat):freeN f (q+1)=freeN f q+if takB f q=true then 0 else 1:=by
 unfold freeN
 rw [List.range_succ,List.filter_append,List.length_append]
 cases h:takB f q<;>simp [h]
theorem zELp (f:Int->Bytes) (q:Nat):freeN f q<=q:=by
 unfold freeN
 have:=List.length_filter_le (fun q=>!takB f q) (List.range q)
 rw [List.length_range] at this
 exact this
section
variable {w w' w1 w2:World} {x x1:BAdr} {S:BkA} {g:Nat}
def zpmK (w:World) (x:BAdr) (S:BkA) (g:Nat) (e:Ending) (w':World):Prop:=e=.returned (.tuple #[.int .i64 S.free.1,.int .i64 S.free.2])/\∃ x',BTo w x w' x'/\BkW w' x' S g
set_option maxRecDepth 100000 in
set_option maxHeartbeats 3200000 in
theorem znV8 (h:BkW w x S g):Calls Tryz.prog 11 #[ptrV x.bk] w (zpmK w x S g):=by
 obtain ⟨p0,p1⟩:=h.pg
 obtain ⟨POST,hPOST⟩:∃ POST,POST=zpmK w x S g:=⟨_,rfl⟩
 rw [<- hPOST]
 have HPO:=qh (show ∀ q n w' x',S.free=(q,n)->BTo w x w' x'->BkW w' x' S g->POST (.returned (.tuple #[.int .i64 q,.int .i64 n])) w' from fun q n w' x' h1 h2 h3=>by rw [hPOST];unfold zpmK;rw [h1];exact ⟨rfl,x',h2,h3⟩)
 have HPG:=qh (show 10<=S.pages/\S.pages<=32766 from ⟨p0,p1⟩)
 have HH:=qh (zCd5 h)
 unfold ptrV at HH ⊢
 clear h hPOST p0 p1
 go_enter Tryz.func11,Tryz.ntmps11
 go_wp2_with fail
 refine HH.out.mono ?_
 rintro e w2 ⟨x2,h1,h2,⟨h3,rfl⟩ | ⟨h3,y,c,hl,rfl,ho,hn⟩⟩
 ·have HTO:=qh h1
  have H2:=qh h2
  have HG:=qh (show S.free=(0,4) from by unfold BkA.free;rw [if_pos h3])
  clear h1 h2 h3 HH
  go_wp2
  exact HPO.out _ _ _ x2 HG.out HTO.out H2.out
 ·have HTO:=qh h1
  have H2:=qh h2
  obtain ⟨N,hNN⟩:∃ N:Nat,S.pages=N:=⟨S.pages.toNat,by have:=HPG.out;omega⟩
  have HNN:=qh hNN
  have HG:=qh (show S.free=(((freeN S.now N:Nat):Int),0) from by
   unfold BkA.free BkA.N;rw [if_neg (by rw [h3];decide),hNN,Int.toNat_natCast])
  have hN:10<=N/\N<=32766:=by have:=HPG.out;omega
  clear h1 h2 h3 HH hl ho hn hNN
  go_wp2_with fail
  go_loopw [7,6] (fun i n wr=>∃ (m:Nat) (xr:BAdr),i=.int .i64 m/\n=.int .i64 ((freeN S.now (min (m*4096) N):Nat):Int)/\m*4096 < N+4096/\BTo w x wr xr/\BkW wr xr S g) (fun i _ _=>100 - (intOf i).toNat)
  case atStart=>exact ⟨0,x2,rfl,by simp [freeN],by omega,HTO.out,H2.out⟩
  case round=>
   clear HTO H2
   obtain ⟨m,xr,rfl,rfl,hm,hto,hbw⟩:=hrel
   have HTO:=qh hto
   have HW:=qh hbw
   have HBK:=qh (show xr.bk=x.bk from hto.fix.bk)
   clear hto hbw
   have HPN:=qh (show Calls Tryz.prog 29 #[.pointer (some ⟨x.bk,0,none⟩)] wr fun e w'=>e=.returned (.int .i64 (N:Int))/\wr=w' from by
    have:=zQfR HW.out
    unfold ptrV at this
    rw [HBK.out,HNN.out] at this
    exact this)
   obtain ⟨F0,hF0⟩:∃ F0:Nat,F0=freeN S.now (min (m*4096) N):=⟨_,rfl⟩
   rw [<- hF0]
   have HF0:=qh hF0
   clear hF0
   go_wp2_with fail
   refine HPN.out.mono ?_
   rintro e wx ⟨rfl,rfl⟩
   by_cases hlt:m*4096 < N
   ·have i1:(m:Int)*4096 < (N:Int):=by omega
    have HPP:=qh (show Calls Tryz.prog 23 #[.pointer (some ⟨x.bk,0,none⟩),.int .i64 (1+(m:Int))] wr (z5Jn wr xr S g (1+(m:Int))) from by
     have:=zqnz HW.out (1+(m:Int))
     unfold ptrV at this
     rw [HBK.out] at this
     exact this)
    have HFM:=qh (show F0=freeN S.now (m*4096) from by rw [HF0.out,Nat.min_eq_left (by omega)])
    go_wp2_with fail
    refine HPP.out.mono ?_
    rintro e w5 ⟨x5,h1,h2,⟨h3,rfl⟩ | ⟨h3,y5,c5,hl5,rfl,ho5,hn5⟩⟩
    ·have:=HNN.out;omega
    ·have HTO5:=qh (HTO.out.trans h1)
     have H5:=qh h2
     have HBK5:=qh (show x5.bk=x.bk from h1.fix.bk.trans HBK.out)
     obtain ⟨l,hll⟩:∃ l,l=S.now (1+(m:Int)):=⟨_,rfl⟩
     rw [<- hll] at ho5 hl5
     have HO5:=qh ho5
     have HL5:=qh hl5
     have HLL:=qh (show l=S.now (mapP (m*4096)) from by rw [hll];unfold mapP;congr 1;omega)
     have HPN5:=qh (show Calls Tryz.prog 29 #[.pointer (some ⟨x.bk,0,none⟩)] w5 fun e w'=>e=.returned (.int .i64 (N:Int))/\w5=w' from by
      have:=zQfR H5.out
      unfold ptrV at this
      rw [HBK5.out,HNN.out] at this
      exact this)
     clear h1 h2 h3 ho5 hl5 hn5 hll HTO HW HPP HPN i1
     go_wp2_with fail
     go_loopw [10,6] (fun i n wr=>∃ (k F:Nat),i=.int .i64 k/\n=.int .i64 (F:Int)/\wr=w5/\k<=4096/\m*4096+k<=N/\F=freeN S.now (m*4096+k)/\F<=100000) (fun i _ _=>5000 - (intOf i).toNat)
     case atStart=>exact ⟨0,F0,rfl,rfl,rfl,by omega,by omega,HFM.out,by rw [HFM.out];have:=zELp S.now (m*4096);omega⟩
     case round=>
      obtain ⟨k,F,rfl,rfl,rfl,hk,hkN,hF,hFl⟩:=hrel
      have HF:=qh hF
      clear hF
      by_cases hk4:k < 4096
      ·have j1:(k:Int) < 4096:=by omega
       go_wp2_with fail
       refine HPN5.out.mono ?_
       rintro e wx ⟨rfl,rfl⟩
       by_cases hq:m*4096+k < N
       ·have j2:(m:Int)*4096+k < N:=by omega
        have hk8:k / 8 < 512:=by omega
        have j3:(k:Int) / 8 < 512:=by omega
        have c0:=HO5.out.cellAt (i:=k / 8) (by rw [HL5.out];exact hk8)
        have hb:=zWw4 (bAt l (k / 8)) (j:=k % 8) (by omega)
        have ht:takB S.now (m*4096+k)=bitB (bAt l (k / 8)) (k % 8):=by
         unfold takB bitP
         rw [show mapP (m*4096+k)=mapP (m*4096) from by unfold mapP;omega,<- HLL.out,show (m*4096+k) % 4096=k by omega]
        obtain ⟨bb,hbb⟩:∃ bb,bb=bitB (bAt l (k / 8)) (k % 8):=⟨_,rfl⟩
        rw [<- hbb] at ht hb
        have HTQ:=qh ht
        have HF1:=qh (show freeN S.now (m*4096+(k+1))=F+if bb=true then 0 else 1 from by
         rw [show m*4096+(k+1)=m*4096+k+1 by omega,zzG8,HF.out,ht])
        clear ht hbb
        cases bb with
        | true=>
         rw [if_pos rfl] at hb
         rw [if_pos rfl] at HF1
         go_wp2
         go_roundw
         case rel=>exact ⟨k+1,F,by go_num,by go_num,by first | rfl | trivial,by omega,by omega,HF1.out.symm,hFl⟩
         case measure=>simp [intOf];omega
        | false=>
         rw [if_neg (by decide)] at hb
         rw [if_neg (by decide)] at HF1
         have j4:(F:Int)+1<=100001:=by omega
         go_wp2
         go_roundw
         case rel=>exact ⟨k+1,F+1,by go_num,by go_num,by first | rfl | trivial,by omega,by omega,HF1.out.symm,by rw [<- HF1.out];have:=zELp S.now (m*4096+(k+1));omega⟩
         case measure=>simp [intOf];omega
       ·have j2:¬ (m:Int)*4096+k < N:=by omega
        go_wp2
        go_roundw
        case rel=>exact ⟨m+1,x5,by go_num,by rw [HF.out,Nat.min_eq_right (by omega),show m*4096+k=N by omega],by omega,HTO5.out,H5.out⟩
        case measure=>simp [intOf];omega
      ·have j1:¬ (k:Int) < 4096:=by omega
       go_wp2
       go_roundw
       case rel=>exact ⟨m+1,x5,by go_num,by rw [HF.out,show k=4096 by omega,show (m+1)*4096=m*4096+4096 by omega,Nat.min_eq_left (by omega)],by omega,HTO5.out,H5.out⟩
       case measure=>simp [intOf];omega
   ·have i1:¬ (m:Int)*4096 < (N:Int):=by omega
    have HG2:=qh (show S.free=((F0:Int),0) from by rw [HG.out,HF0.out,Nat.min_eq_right (by omega)])
    go_wp2
    exact HPO.out _ _ _ xr HG2.out HTO.out HW.out
end
theorem zNtj (a b:Nat) (ha:a < 4611686018427387904) (hb:b < 4611686018427387904):bits BinOp.or IntKind.i64 (a:Int) (b:Int)=((a ||| b:Nat):Int):=by
 have hy:a ||| b < 2 ^ 62:=Nat.or_lt_two_pow (by omega) (by omega)
 have h1:(BitVec.ofInt 64 (a:Int)).toNat=a:=by
  rw [BitVec.ofInt_natCast,BitVec.toNat_ofNat];exact Nat.mod_eq_of_lt (by omega)
 have h2:(BitVec.ofInt 64 (b:Int)).toNat=b:=by
  rw [BitVec.ofInt_natCast,BitVec.toNat_ofNat];exact Nat.mod_eq_of_lt (by omega)
 show IntKind.i64.wrap ((BitVec.ofInt 64 (a:Int) ||| BitVec.ofInt 64 (b:Int)).toNat:Int)=_
 rw [BitVec.toNat_or,h1,h2,IntKind.wrap_i64]
 omega
theorem zRDi {a b i:Nat} (h:b < 2 ^ i):a*2 ^ i ||| b=a*2 ^ i+b:=by
 rw [Nat.mul_comm,Nat.two_pow_add_eq_or_of_lt h]
theorem or4 (a b c d:UInt8):bits BinOp.or IntKind.i64 (bits BinOp.or IntKind.i64 (bits BinOp.or IntKind.i64 (wrap64 (wrap64 (a.toNat:Int)*16777216)) (wrap64 (wrap64 (b.toNat:Int)*65536))) (wrap64 (wrap64 (c.toNat:Int)*256))) (wrap64 (d.toNat:Int))=((valN [a,b,c,d] 0:Nat):Int):=by
 have ha:=a.toNat_lt
 have hb:=b.toNat_lt
 have hc:=c.toNat_lt
 have hd:=d.toNat_lt
 have e1:wrap64 (wrap64 (a.toNat:Int)*16777216)=((a.toNat*2 ^ 24:Nat):Int):=by unfold wrap64;omega
 have e2:wrap64 (wrap64 (b.toNat:Int)*65536)=((b.toNat*2 ^ 16:Nat):Int):=by unfold wrap64;omega
 have e3:wrap64 (wrap64 (c.toNat:Int)*256)=((c.toNat*2 ^ 8:Nat):Int):=by unfold wrap64;omega
 have e4:wrap64 (d.toNat:Int)=((d.toNat:Nat):Int):=by unfold wrap64;omega
 rw [e1,e2,e3,e4,zNtj _ _ (by omega) (by omega),zRDi (by omega),show a.toNat*2 ^ 24+b.toNat*2 ^ 16=(a.toNat*2 ^ 8+b.toNat)*2 ^ 16 by omega,zNtj _ _ (by omega) (by omega),zRDi (by omega),
  show (a.toNat*2 ^ 8+b.toNat)*2 ^ 16+c.toNat*2 ^ 8=((a.toNat*2 ^ 8+b.toNat)*2 ^ 8+c.toNat)*2 ^ 8 by omega,zNtj _ _ (by omega) (by omega),zRDi (by omega)]
 simp only [valN]
 omega
theorem zrJ8 {l:Bytes} {i:Nat} (h:i+4<=l.length):(l.drop i).take 4=[bAt l i,bAt l (i+1),bAt l (i+2),bAt l (i+3)]:=by
 refine zdCA (by simp;omega) fun k hk=>?_
 have hk4:k < 4:=by rw [List.length_take] at hk;omega
 have e:bAt ((l.drop i).take 4) k=bAt l (i+k):=by
  unfold bAt
  simp only [List.getD_eq_getElem?_getD]
  rw [List.getElem?_take,if_pos hk4,List.getElem?_drop]
 rw [e]
 rcases (show k=0\/k=1\/k=2\/k=3 by omega) with rfl | rfl | rfl | rfl<;>rfl
section
variable {w w' w1 w2:World} {x x1:BAdr} {S:BkA} {g:Nat}
def zfnK (w:World) (x:BAdr) (S:BkA) (g:Nat) (k:Int) (e:Ending) (w':World):Prop:=e=.returned (.tuple #[.int .i64 (S.root k).1,.int .i64 (S.root k).2])/\∃ x',BTo w x w' x'/\BkW w' x' S g
set_option maxRecDepth 100000 in
set_option maxHeartbeats 3200000 in
theorem zGfd (h:BkW w x S g) (k:Int):Calls Tryz.prog 15 #[ptrV x.bk,.int .i64 k] w (zfnK w x S g k):=by
 obtain ⟨p0,p1⟩:=h.pg
 obtain ⟨POST,hPOST⟩:∃ POST,POST=zfnK w x S g k:=⟨_,rfl⟩
 rw [<- hPOST]
 have HPO:=qh (show ∀ q n w' x',S.root k=(q,n)->BTo w x w' x'->BkW w' x' S g->POST (.returned (.tuple #[.int .i64 q,.int .i64 n])) w' from fun q n w' x' h1 h2 h3=>by rw [hPOST];unfold zfnK;rw [h1];exact ⟨rfl,x',h2,h3⟩)
 have HH:=qh (zCd5 h)
 have HP:=qh (zQfR h)
 have H:=qh h
 obtain ⟨n,hn⟩:∃ n,n=S.pages:=⟨_,rfl⟩
 rw [<- hn] at HP p0 p1
 have e0:(n == 0)=false:=by rw [beq_eq_false_iff_ne];omega
 unfold ptrV at HH HP ⊢
 clear h hPOST hn
 go_enter Tryz.func15,Tryz.ntmps15
 go_wp2_with fail
 refine HP.out.mono ?_
 rintro e wx ⟨rfl,rfl⟩
 by_cases hk0:k < 0
 ·have HG:=qh (show S.root k=(0,2) from by unfold BkA.root;rw [if_pos (.inl hk0)])
  go_wp2
  exact HPO.out _ _ _ x HG.out (.refl _ _) H.out
 ·by_cases hk7:7 < k
  ·have HG:=qh (show S.root k=(0,2) from by unfold BkA.root;rw [if_pos (.inr hk7)])
   go_wp2
   exact HPO.out _ _ _ x HG.out (.refl _ _) H.out
  ·go_wp2_with fail
   refine HH.out.mono ?_
   rintro e w2 ⟨x2,h1,h2,⟨h3,rfl⟩ | ⟨h3,y,c,hl,rfl,ho,hn⟩⟩
   ·have HTO:=qh h1
    have H2:=qh h2
    have HG:=qh (show S.root k=(0,4) from by unfold BkA.root;rw [if_neg (by omega),if_pos h3])
    clear h1 h2 h3 HH
    go_wp2
    exact HPO.out _ _ _ x2 HG.out HTO.out H2.out
   ·have HTO:=qh h1
    have H2:=qh h2
    have HG:=qh (show S.root k=(rootV S.now k.toNat,0) from by unfold BkA.root;rw [if_neg (by omega),if_neg (by rw [h3];decide)])
    obtain ⟨j,hj⟩:∃ j:Nat,k=j:=⟨k.toNat,by omega⟩
    subst hj
    rw [Int.toNat_natCast] at HG
    obtain ⟨l,hll⟩:∃ l,l=S.now 0:=⟨_,rfl⟩
    rw [<- hll] at ho hl
    have hc:=ho.ltE.2.1
    have HRV:=qh (show rootV S.now j=((valN ((l.drop (8+4*j)).take 4) 0:Nat):Int) from by unfold rootV;rw [hll])
    have HF4:=qh (zrJ8 (l:=l) (i:=8+4*j) (by omega))
    have c0:=ho.cellAt (i:=8+4*j) (by omega)
    have c1:=ho.cellAt (i:=8+4*j+1) (by omega)
    have c2:=ho.cellAt (i:=8+4*j+2) (by omega)
    have c3:=ho.cellAt (i:=8+4*j+3) (by omega)
    rw [hl] at hc
    have hA:slA (some ⟨y,0,none⟩) (8+4*j) c=some ⟨y,8+4*j,none⟩:=by unfold slA;rw [if_neg (by omega)];simp [Addr.add_mid]
    have i1:(8:Int)+4*j<=512:=by omega
    have i2:0<=(8:Int)+4*j:=by omega
    clear h1 h2 h3 HH hl ho hn hll
    have i3:0 < 512 - (8+4*j):=by omega
    have i4:(1:Int) < ((512 - (8+4*j):Nat):Int):=by omega
    go_wp2_with fail
    go_quiet (fail)
    go_wp2
    have hfin:=HPO.out _ _ (w2.drewN nq) x2 HG.out (HTO.out.keep0 ((Kept.refl _ _).drewN _)) (H2.out.keep0 ((Kept.refl _ _).drewN _))
    rw [HRV.out,HF4.out,<- or4] at hfin
    exact hfin
end
theorem bY4 (a b c d:Int) (wz:World):(Instr.buildSlice 47 4 #[(0,.int .u8 a),(1,.int .u8 b),(2,.int .u8 c),(3,.int .u8 d)]).run Tryz.prog wz =
  .ok (.slice (some ⟨wz.heap.size,0,none⟩) 4 4) (wz.alloc (.cells #[.int .u8 a,.int .u8 b,.int .u8 c,.int .u8 d] 5)):=by
 obtain ⟨i,hi,h2,h3,h4⟩:=info_parts info5
 exact run_buildSlice wz _ 5 4 _ _ i _ Tryz.underlying47 hi h2 (by rw [h3];decide) (by rw [h3];decide) (by rw [h3];kernel_rfl)
theorem zLgL {w:World} {ops:Array Oper} {rest:List Oper} {o:Oper} {a:Act} {Q:Exit->Act->World->Prop} (hgd:o.guard=none) (x0 x1 x2 x3:Operand) (ho:o.op=.buildSlice 47 4 #[(0,x0),(1,x1),(2,x2),(3,x3)]) (b0 b1 b2 b3:UInt8) (v0 v1 v2 v3:Int)
  (h0:a.eval x0=.int .u8 v0) (h1:a.eval x1=.int .u8 v1) (h2:a.eval x2=.int .u8 v2) (h3:a.eval x3=.int .u8 v3) (g0:v0=b0.toNat) (g1:v1=b1.toNat) (g2:v2=b2.toNat) (g3:v3=b3.toNat)
  (k:∀ g w',w.heap.size<=g->w'.heap[g]?=some (.cells (cellsOf [b0,b1,b2,b3]) 5 (0,0))->Kept (fun _=>False) w w'->wpList Tryz.prog ops Q rest (a.put o.dst (.slice (some ⟨g,0,none⟩) 4 4)) w'):wpList Tryz.prog ops Q (o :: rest) a w:=by
 subst g0;subst g1;subst g2;subst g3
 refine z3Ho hgd ?_ (k w.heap.size _ (Nat.le_refl _) (heap_alloc_new w _) ((Kept.refl _ w).alloc _))
 have h:=bY4 b0.toNat b1.toNat b2.toNat b3.toNat w
 simp only [execOp,ho,List.map_toArray,List.map_cons,List.map_nil,h0,h1,h2,h3,Sem.run_bind,h,Result.andThen_ok]
 rfl
section
variable {w w' w1 w2:World} {x x1:BAdr} {S:BkA} {g:Nat}
set_option maxRecDepth 100000 in
set_option maxHeartbeats 3200000 in
theorem zxVX (h:BkW w x S g) (hg:g<=1000000000) (k p:Int):Calls Tryz.prog 14 #[ptrV x.bk,.int .i64 k,.int .i64 p] w (APost w x (S.setRoot k p) (g+1)):=by
 obtain ⟨p0,p1⟩:=h.pg
 obtain ⟨POST,hPOST⟩:∃ POST,POST=APost w x (S.setRoot k p) (g+1):=⟨_,rfl⟩
 rw [<- hPOST]
 have HPO:=qh (show ∀ S' n w' x',S.setRoot k p=(S',n)->BTo w x w' x'->BkW w' x' S' (g+1)->POST (.returned (.int .i64 n)) w' from fun S' n w' x' h1 h2 h3=>by rw [hPOST,h1];exact ⟨rfl,x',h2,h3⟩)
 have HH:=qh (zCd5 h)
 have HP:=qh (zQfR h)
 have HST:=qh (zjaJ h)
 have H:=qh h
 obtain ⟨n,hn⟩:∃ n,n=S.pages:=⟨_,rfl⟩
 rw [<- hn] at HP p0 p1
 have HN:=qh hn
 have hu:∀ b:Bool,S.setRoot k p=S.setRoot k p:=fun _=>rfl
 clear hu
 have HS:=qh (show S.setRoot k p=if S.inT=false then (S,7) else if k < 0\/7 < k\/p < 0\/n<=p then (S,2) else if hdrB S.now=false then (S,4) else S.put 0 (rootP (S.now 0) k.toNat p) from by rw [hn];rfl)
 unfold ptrV at HH HP HST ⊢
 clear h hPOST hn
 go_enter Tryz.func14,Tryz.ntmps14
 go_wp2_with fail
 refine HST.out.mono ?_
 rintro e wx ⟨rfl,rfl⟩
 by_cases hT:S.inT=true
 ·rw [if_pos hT]
  have HS2:=qh (show S.setRoot k p=if k < 0\/7 < k\/p < 0\/n<=p then (S,2) else if hdrB S.now=false then (S,4) else S.put 0 (rootP (S.now 0) k.toNat p) from by rw [HS.out,if_neg (by rw [hT];decide)])
  clear hT HS HST
  by_cases hk0:k < 0
  ·have HG:=qh (show S.setRoot k p=(S,2) from by rw [HS2.out,if_pos (.inl hk0)])
   go_wp2
   exact HPO.out _ _ _ x HG.out (.refl _ _) (H.out.up (by omega))
  ·by_cases hk7:7 < k
   ·have HG:=qh (show S.setRoot k p=(S,2) from by rw [HS2.out,if_pos (.inr (.inl hk7))])
    go_wp2
    exact HPO.out _ _ _ x HG.out (.refl _ _) (H.out.up (by omega))
   ·by_cases hp0:p < 0
    ·have HG:=qh (show S.setRoot k p=(S,2) from by rw [HS2.out,if_pos (.inr (.inr (.inl hp0)))])
     go_wp2
     exact HPO.out _ _ _ x HG.out (.refl _ _) (H.out.up (by omega))
    ·by_cases hp1:n<=p
     ·have HG:=qh (show S.setRoot k p=(S,2) from by rw [HS2.out,if_pos (.inr (.inr (.inr hp1)))])
      go_wp2_with fail
      refine HP.out.mono ?_
      rintro e wx ⟨rfl,rfl⟩
      go_wp2
      exact HPO.out _ _ _ x HG.out (.refl _ _) (H.out.up (by omega))
     ·go_wp2_with fail
      refine HP.out.mono ?_
      rintro e wx ⟨rfl,rfl⟩
      go_wp2_with fail
      refine HH.out.mono ?_
      rintro e w2 ⟨x2,h1,h2,⟨h3,rfl⟩ | ⟨h3,y,c,hl,rfl,ho,hn⟩⟩
      ·have HTO:=qh h1
       have H2:=qh h2
       have HG:=qh (show S.setRoot k p=(S,4) from by rw [HS2.out,if_neg (by omega),if_pos h3])
       clear h1 h2 h3 HH
       go_wp2
       exact HPO.out _ _ _ x2 HG.out HTO.out (H2.out.up (by omega))
      ·have HTO:=qh h1
       have H2:=qh h2
       obtain ⟨j,hj⟩:∃ j:Nat,k=j:=⟨k.toNat,by omega⟩
       subst hj
       obtain ⟨l,hll⟩:∃ l,l=S.now 0:=⟨_,rfl⟩
       rw [<- hll] at ho hl
       have hc:=ho.ltE.2.1
       rw [hl] at hc
       have HG:=qh (show S.setRoot j p=S.put 0 (rootP l j p) from by rw [HS2.out,if_neg (by omega),if_neg (by rw [h3];decide),<- hll,Int.toNat_natCast])
       have HO:=qh ho
       have HL:=qh hl
       have HNY:=qh hn
       have HBK:=qh (show x2.bk=x.bk from h1.fix.bk)
       have hA:slA (some ⟨y,0,none⟩) (8+4*j) c=some ⟨y,8+4*j,none⟩:=by unfold slA;rw [if_neg (by omega)];simp [Addr.add_mid]
       have i1:(8:Int)+4*j<=512:=by omega
       have i2:0<=(8:Int)+4*j:=by omega
       have i3:8+4*j≠c:=by omega
       clear h1 h2 h3 HH hl ho hn hll HS2
       go_wp2_with (refine zLgL rfl _ _ _ _ rfl (UInt8.ofNat (p.toNat / 256 ^ 3)) (UInt8.ofNat (p.toNat / 256 ^ 2)) (UInt8.ofNat (p.toNat / 256 ^ 1)) (UInt8.ofNat (p.toNat / 256 ^ 0)) _ _ _ _ rfl rfl rfl rfl ?_ ?_ ?_ ?_ ?_)
       ·rw [UInt8.toNat_ofNat'];omega
       ·rw [UInt8.toNat_ofNat'];omega
       ·rw [UInt8.toNat_ofNat'];omega
       ·rw [UInt8.toNat_ofNat'];omega
       intro gn w3 l3 hb3 hk3
       have HB3:=qh (show RdB w3 (some ⟨gn,0,none⟩) (beN p.toNat 4) from by
        have e:beN p.toNat 4=[UInt8.ofNat (p.toNat / 16777216),UInt8.ofNat (p.toNat / 65536),UInt8.ofNat (p.toNat / 256),UInt8.ofNat p.toNat]:=by
         show [UInt8.ofNat (p.toNat / 256 ^ 3),UInt8.ofNat (p.toNat / 256 ^ 2),UInt8.ofNat (p.toNat / 256 ^ 1),UInt8.ofNat (p.toNat / 256 ^ 0)]=_
         rw [Nat.pow_zero,Nat.div_one]
        rw [e];exact RdB.of_blk hb3)
       have HO3:=qh (HO.out.kept hk3)
       have HTO3:=qh (HTO.out.keep0 hk3)
       have H3:=qh (H2.out.keep0 hk3)
       have hl4:(beN p.toNat 4).length=4:=zmTu _ 4
       have HL4:=qh hl4
       clear hb3 hk3 l3 hl4
       go_wp2_with (refine zLHr rfl _ _ rfl HO3.out (8+4*j) (by rw [HL.out];omega) (some ⟨y,8+4*j,none⟩) (some ⟨gn,0,none⟩) (fun _=>rfl) (beN p.toNat 4) HB3.out (c - (8+4*j)) 4 (by rw [HL.out];rfl) (by rw [HL4.out];rfl) ?_)
       intro nn w4 hnn ho4 hk4
       have hov:ovL l (8+4*j) (beN p.toNat 4)=rootP l j p:=by
        unfold rootP
        rw [z5uX (by rw [HL4.out,HL.out];omega)]
        rfl
       rw [hov] at ho4
       have hrl:(rootP l j p).length=512:=by
        unfold rootP
        rw [zTAh (by rw [HL4.out,HL.out];omega),HL.out]
       have HO4:=qh ho4
       have HTO4:=qh (HTO3.out.newK hk4 (fun z hz=>by subst hz;exact HO3.out.base_le))
       have H4:=qh (BkW.keep H3.out hk4 (fun u hu e=>HNY.out (by rw [<- e];exact hu)))
       have HP4:=qh (show Calls Tryz.prog 25 #[.pointer (some ⟨x.bk,0,none⟩),.int .i64 0,.slice (some ⟨y,0,none⟩) 512 c] w4 (APost w4 x2 (S.put 0 (rootP l j p)) (g+1)) from by
        have:=zvUq H4.out hg 0 (some ⟨y,0,none⟩) c (rootP l j p) HO4.out.v.rd (fun b o e hb hK=>by cases e;exact HNY.out hK) HO4.out.ltE.2.1 HO4.out.ltE.2.2 (by rw [hrl];decide) (by unfold isI;decide)
        rw [hrl] at this
        unfold ptrV at this
        rw [HBK.out] at this
        exact this)
       clear hnn ho4 hk4 hov hrl HO3 HTO3 H3 HB3 HL4 hA
       go_wp2_with fail
       refine HP4.out.mono ?_
       rintro e w5 ⟨rfl,x5,h5,h6⟩
       have HX:=qh (⟨h5,h6⟩:BTo w4 x2 w5 x5/\BkW w5 x5 (S.put 0 (rootP l j p)).1 (g+1))
       rw [<- HG.out] at HX
       rw [<- HG.out]
       obtain ⟨V,hV⟩:∃ V,V=S.setRoot j p:=⟨_,rfl⟩
       rw [<- hV] at HX HPO
       rw [<- hV]
       obtain ⟨S2,m⟩:=V
       dsimp only at HX ⊢
       clear h5 h6 HP4 hV
       go_wp2
       exact HPO.out _ _ _ x5 rfl (HTO4.out.trans HX.out.1) HX.out.2
 ·have hT0:S.inT=false:=by simpa using hT
  have HG:=qh (show S.setRoot k p=(S,7) from by rw [HS.out,if_pos hT0])
  rw [if_neg hT]
  clear hT hT0
  go_wp2
  exact HPO.out _ _ _ x HG.out (.refl _ _) (H.out.up (by omega))
end
end Go.Proofs.YtfgagakepmigbaaGreat
