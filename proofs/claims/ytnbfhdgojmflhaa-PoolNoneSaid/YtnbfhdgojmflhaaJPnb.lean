/-
  No statement is proved here.
-/
import Derived.Test.YtnbfhdgojmflhaaJPna
import Derived.Test.YtnbfhdgojmflhaaJRgw
namespace Go.Proofs.Ytnbfhdgojmflhaa
open Go.RowKit
theorem bPl0 (wz:World):(Instr.build 57 #[]).run Try.prog wz=.ok (.agg zPl) wz:=run_build wz _ _ _ (by kernel_rfl)
set_option maxRecDepth 100000 in
def pnR8s:PSigma fun l:List Oper=>findF Try.f4 8=some l.toArray:=⟨_,rfl⟩
def pnR8:List Oper:=pnR8s.1
set_option maxRecDepth 100000 in
theorem z07M:pnR8.length=64:=by kernel_rfl
theorem zSja:pnR8.length=64:=z07M
set_option maxRecDepth 100000 in
theorem zFjK:witB pnR8 63 [1,2,3,4,5,6,7,8,10,10,11,13,13,14,15,16,17,19,19,20,22,22,23,24,25,26,28,28,29,31,31,32,33,34,36,36,37,38,39,40,41,42,43,45,45,46,47,48,49,50,51,53,53,54,55,60,58,58,59,60,61,62,63]=true:=by kernel_rfl
def zgXi:List Nat:=[0,1,2,3,4,5,6,7,8,9,10,11,12,13,14,15,16,17,18,19,20,21,22,23,24,25,26,27,28,29,30,31,32,33,34,35,36,37,38,39,40,41,42,43,44,45,46,47,48,49,50,51,52,53,54,56,57,58,59,55,60,61,62,63]
set_option maxRecDepth 100000 in
theorem zTW3:([0,1,2,3,4,5,6,7,8,9,10,11,12,14,15,16,17,18,19,20].all fun m=>chkU pnR8 64 63 (ordD zgXi m) (zgXi.getD m 0))=true:=by kernel_rfl
set_option maxRecDepth 100000 in
theorem zh12:([21,23,24,25,26,27,28,29,30,32,33,34,35,36,37,39,40,41,42,43].all fun m=>chkU pnR8 64 63 (ordD zgXi m) (zgXi.getD m 0))=true:=by kernel_rfl
set_option maxRecDepth 100000 in
theorem zVA4:([44,45,46,48,49,50,51,52,53,54,55,56,57,58,61,62].all fun m=>chkU pnR8 64 63 (ordD zgXi m) (zgXi.getD m 0))=true:=by kernel_rfl
set_option maxRecDepth 100000 in
theorem zWd9:([13,22,31,38,47,59,60,63].all fun m=>chkS pnR8 64 (ordD zgXi m) (zgXi.getD m 0))=true:=by kernel_rfl
theorem zBQg (w:World):Calls Try.prog 51 #[.pointer none] w fun e w'=>e=.returned (.bool false)/\w=w':=by
 go_enter Try.func51,Try.ntmps51
 go_wp2
 go_ret
 exact ⟨rfl,rfl⟩
theorem zVkm (w:World):Calls Try.prog 33 #[.pointer none] w fun e w'=>e=.returned (.int .i64 0)/\w=w':=by
 have HT:=qh (zBQg w)
 go_enter Try.func33,Try.ntmps33
 go_wp2_with fail
 refine HT.out.mono ?_
 rintro e wx ⟨rfl,rfl⟩
 go_wp2
 go_ret
 exact ⟨rfl,rfl⟩
section
variable {w:World} {L:LogM} {D:DevM}
theorem z3x1 (v:Value) (f b m:Int):Calls Try.prog 20 #[.pointer none,v,.int .i64 f,.int .i64 b,.int .i64 m] w fun e w'=>e=.returned (.pointer none)/\w=w':=by
 have HB:=qh (z7RB w)
 go_enter Try.func20,Try.ntmps20
 go_wp2_with fail
 refine HB.out.mono ?_
 rintro e wx ⟨rfl,rfl⟩
 go_wp2
 go_ret
 exact ⟨rfl,rfl⟩
theorem zOt0 {p ms mo:Nat} (h:DevAt w p ms mo D) (f b m:Int):Calls Try.prog 20 #[ptrV p,.pointer none,.int .i64 f,.int .i64 b,.int .i64 m] w fun e w'=>e=.returned (.pointer none)/\w=w':=by
 have HB:=qh (zyYd h)
 have HE:=qh (zVkm w)
 have n0:=h.n0
 obtain ⟨n,hn⟩:∃ n,n=D.n:=⟨_,rfl⟩
 rw [<- hn] at HB n0
 have c1:(n == 0)=false:=by rw [beq_eq_false_iff_ne];omega
 unfold ptrV
 clear h hn
 go_enter Try.func20,Try.ntmps20
 go_wp2_with fail
 refine HB.out.mono ?_
 rintro e wx ⟨rfl,rfl⟩
 go_wp2_with fail
 refine HE.out.mono ?_
 rintro e wx ⟨rfl,rfl⟩
 go_wp2
 go_ret
 exact ⟨rfl,rfl⟩
theorem zBqp {q p ms mo:Nat} {lv tv:Value} (h:LogS w q p ms mo lv tv L D) (hf:L.fin≠0) (hn:D.n=20) (f b:Int) (hx:f = -1/\b=4\/f=8/\b=13):Calls Try.prog 20 #[ptrV p,ptrV q,.int .i64 f,.int .i64 b,.int .i64 8] w fun e w'=>e=.returned (.pointer none)/\w=w':=by
 have HB:=qh (zyYd h.dev)
 have HE:=qh (z4JP w q p lv tv L h.hq)
 rw [hn] at HB
 have c2:(L.fin == 0)=false:=by rw [beq_eq_false_iff_ne];exact hf
 obtain ⟨n,hn2⟩:∃ n,n=L.fin:=⟨_,rfl⟩
 rw [<- hn2] at HE c2
 unfold ptrV
 clear h hn2
 rcases hx with ⟨rfl,rfl⟩ | ⟨rfl,rfl⟩
 all_goals
  go_enter Try.func20,Try.ntmps20
  go_wp2_with fail
  refine HB.out.mono ?_
  rintro e wx ⟨rfl,rfl⟩
  go_wp2_with fail
  refine HE.out.mono ?_
  rintro e wx ⟨rfl,rfl⟩
  go_wp2
  go_ret
  exact ⟨rfl,rfl⟩
end
def pnL0:LogM:=⟨0,8,1,1,1,1,[],[],1⟩
theorem zLro:openM (newM 20) 0 8 1 1=(some pnL0,newM 20,0):=by kernel_rfl
theorem zrw6:(zoel (newM 20) 0 8 1 2856 2857 1 0 []).1.length<=1000000:=of_decide_eq_true (by kernel_rfl)
set_option maxRecDepth 100000 in
set_option maxHeartbeats 6400000 in
theorem zUjc (w:World) (page:Int) (bk ofs:Int) (A1:Option Addr) (n1 c1:Nat) (A2:Option Addr) (n2 c2:Nat) :
  Calls Try.prog 4 #[.int .i64 page,.agg (spnC bk ofs A1 n1 c1 A2 n2 c2)] w fun e w'=>e=.returned (.bool true)/\Kept (fun _=>False) w w':=by
 have B0:=bPl0
 go_enter Try.func4,Try.ntmps4
 go_wp2_with (refine znBH rfl 42 _ rfl (.agg (spnC bk ofs A1 n1 c1 A2 n2 c2)) rfl ?_)
 intro gm w1 l1 m1 hb1 hk1
 have HM:=qh (show w1.heap[gm]?=some (.cells (spnC bk ofs A1 n1 c1 A2 n2 c2) 42 (0,0)) from hb1)
 have HK1:=qh hk1
 clear hb1 hk1 l1 m1
 go_wp2_with fail
 refine (zaCw w1).mono ?_
 rintro e w2 ⟨rfl,hk2⟩
 have HM2:=qh (hk2.heap HM.out id)
 have HK2:=qh (HK1.out.trans0 hk2)
 clear hk2 HM HK1
 go_wp2_with (refine znBH rfl 57 _ rfl (.agg zPl) rfl ?_)
 intro gb w3 l3 m3 hb3 hk3
 have HM3:=qh (hk3.heap HM2.out id)
 have HB3:=qh (show w3.heap[gb]?=some (.cells zPl 57 (0,0)) from hb3)
 have HK3:=qh (HK2.out.trans0 hk3)
 clear hb3 hk3 l3 m3 HM2 HK2
 obtain ⟨F,hF⟩:∃ F:Array Value,F=#[.pointer none,.pointer (some ⟨gb,0,none⟩)]:=⟨_,rfl⟩
 obtain ⟨w4,hw4⟩:∃ w4,w4=w3.alloc (.cells F 26):=⟨_,rfl⟩
 have hk4:Kept (fun _=>False) w3 w4:=by rw [hw4];exact (Kept.refl _ w3).alloc _
 have hf4:w4.heap[w3.heap.size]?=some (.cells F 26 (0,0)):=by rw [hw4];exact heap_alloc_new w3 _
 have HM4:=qh (hk4.heap HM3.out id)
 have HB4:=qh (hk4.heap HB3.out id)
 have HK4:=qh (HK3.out.trans0 hk4)
 obtain ⟨gf,hgf⟩:∃ gf,gf=w3.heap.size:=⟨_,rfl⟩
 rw [<- hgf] at hf4
 have HF4:=qh hf4
 have HW4:=qh (show w3.alloc (.cells #[.pointer none,.pointer (some ⟨gb,0,none⟩)] 26)=w4 from by rw [hw4,hF])
 have HGF:=qh hgf
 have HFF:=qh hF
 clear hF hw4 hk4 hf4 hgf HM3 HB3 HK3
 go_wp2_with fail
 rw [HW4.out,<- HGF.out]
 go_loopw [6] (fun i wr=>∃ j:Nat,j<=2/\i=.int .i64 j/\Kept (fun _=>False) w4 wr) (fun i _=>2 - (intOf i).toNat)
 case atStart=>exact ⟨0,by omega,rfl,Kept.refl _ _⟩
 case round=>
  obtain ⟨j,hj,rfl,hkr⟩:=hrel
  have HKr:=qh hkr
  clear hkr
  by_cases hlt:j < 2
  ·have i1:(j:Int) < 2:=by omega
   have i0:(0:Int)<=(j:Int):=by omega
   have e1:wrap64 ((j:Int)+1)=((j+1:Nat):Int):=by unfold wrap64;omega
   obtain ⟨A,hA⟩:∃ A:Option Addr,F[j]?=some (.pointer A)/\(A=none\/A=some ⟨gb,0,none⟩):=by
    rw [HFF.out]
    rcases (show j=0\/j=1 by omega) with rfl | rfl
    ·exact ⟨none,rfl,.inl rfl⟩
    ·exact ⟨_,rfl,.inr rfl⟩
   have HNB:=qh (show ∀ w',Kept (fun _=>False) wr w'->NoPl w' A from fun w' hk=>by
    rcases hA.2 with h | h
    ·exact .inl h
    ·exact .inr ⟨gb,h,(HKr.out.trans0 hk).heap HB4.out id⟩)
   have HCE:=qh (show ∀ w',Kept (fun _=>False) wr w'->w'.cell? ⟨gf,j,none⟩=some (.pointer A)/\w'.cell? ⟨gm,0,none⟩=some (.int .i64 bk)/\w'.cell? ⟨gm,1,none⟩=some (.int .i64 ofs)/\w'.cell? ⟨gm,2,none⟩=some (.slice A1 n1 c1)/\w'.cell? ⟨gm,3,none⟩=some (.slice A2 n2 c2) from fun w' hk=>by
    have hb:=(HKr.out.trans0 hk).heap HM4.out id
    exact ⟨zcjX ((HKr.out.trans0 hk).heap HF4.out id) hA.1,zcjX hb rfl,zcjX hb rfl,zcjX hb rfl,zcjX hb rfl⟩)
   have HKz:=qh (Kept.refl (fun _=>False) wr)
   have ce:=(HCE.out wr HKz.out).1
   clear hA
   go_wp2_with fail
   refine (zcar (HNB.out wr HKz.out) page).mono ?_
   rintro e wx ⟨rfl,rfl⟩
   go_wp2_with fail
   refine zHn1 pnR8 64 63 (fun w'=>Kept (fun _=>False) wr w') (by rfl) z07M (by kernel_rfl) ((Kept.refl (fun _=>False) wr).drew) (fun hH=>?_)
   have HKD:=qh ((Kept.refl (fun _=>False) wr).drew)
   clear ce hH
   refine takeS [] 0 ?_ (all_T zFjK zSja.symm zTW3 0 rfl) rfl rfl (fun _ _ _ h=>h) (by rfl) (fun w' hw'=>?_) HKD.out rfl ?_
   rotate_left
   ·obtain ⟨ce,s0,s1,s2,s3⟩:=HCE.out w' hw'
    go_simp<;>with_reducible rfl
   refine takeS [0] 1 ?_ (all_T zFjK zSja.symm zTW3 1 rfl) rfl rfl (fun _ _ _ h=>h) (by rfl) (fun w' hw'=>?_) HKD.out rfl ?_
   rotate_left
   ·obtain ⟨ce,s0,s1,s2,s3⟩:=HCE.out w' hw'
    go_simp<;>with_reducible rfl
   refine takeS [1,0] 2 ?_ (all_T zFjK zSja.symm zTW3 2 rfl) rfl rfl (fun _ _ _ h=>h) (by rfl) (fun w' hw'=>?_) HKD.out rfl ?_
   rotate_left
   ·obtain ⟨ce,s0,s1,s2,s3⟩:=HCE.out w' hw'
    go_simp<;>with_reducible rfl
   refine takeS [2,1,0] 3 ?_ (all_T zFjK zSja.symm zTW3 3 rfl) rfl rfl (fun _ _ _ h=>h) (by rfl) (fun w' hw'=>?_) HKD.out rfl ?_
   rotate_left
   ·obtain ⟨ce,s0,s1,s2,s3⟩:=HCE.out w' hw'
    go_simp<;>with_reducible rfl
   refine takeS [3,2,1,0] 4 ?_ (all_T zFjK zSja.symm zTW3 4 rfl) rfl rfl (fun _ _ _ h=>h) (by rfl) (fun w' hw'=>?_) HKD.out rfl ?_
   rotate_left
   ·obtain ⟨ce,s0,s1,s2,s3⟩:=HCE.out w' hw'
    go_simp<;>with_reducible rfl
   refine takeS [4,3,2,1,0] 5 ?_ (all_T zFjK zSja.symm zTW3 5 rfl) rfl rfl (fun _ _ _ h=>h) (by rfl) (fun w' hw'=>?_) HKD.out rfl ?_
   rotate_left
   ·obtain ⟨ce,s0,s1,s2,s3⟩:=HCE.out w' hw'
    go_simp<;>with_reducible rfl
   refine takeS [5,4,3,2,1,0] 6 ?_ (all_T zFjK zSja.symm zTW3 6 rfl) rfl rfl (fun _ _ _ h=>h) (by rfl) (fun w' hw'=>?_) HKD.out rfl ?_
   rotate_left
   ·obtain ⟨ce,s0,s1,s2,s3⟩:=HCE.out w' hw'
    go_simp<;>with_reducible rfl
   refine takeS [6,5,4,3,2,1,0] 7 ?_ (all_T zFjK zSja.symm zTW3 7 rfl) rfl rfl (fun _ _ _ h=>h) (by rfl) (fun w' hw'=>?_) HKD.out rfl ?_
   rotate_left
   ·obtain ⟨ce,s0,s1,s2,s3⟩:=HCE.out w' hw'
    go_simp<;>with_reducible rfl
   refine takeS [7,6,5,4,3,2,1,0] 8 ?_ (all_T zFjK zSja.symm zTW3 8 rfl) rfl rfl (fun _ _ _ h=>h) (by rfl) (fun w' hw'=>?_) HKD.out rfl ?_
   rotate_left
   ·obtain ⟨ce,s0,s1,s2,s3⟩:=HCE.out w' hw'
    go_simp<;>with_reducible rfl
   refine takeS [8,7,6,5,4,3,2,1,0] 9 ?_ (all_T zFjK zSja.symm zTW3 9 rfl) rfl rfl (fun _ _ _ h=>h) (by rfl) (fun w' hw'=>?_) HKD.out rfl ?_
   rotate_left
   ·obtain ⟨ce,s0,s1,s2,s3⟩:=HCE.out w' hw'
    go_simp<;>with_reducible rfl
   refine takeS [9,8,7,6,5,4,3,2,1,0] 10 ?_ (all_T zFjK zSja.symm zTW3 10 rfl) rfl rfl (fun _ _ _ h=>h) (by rfl) (fun w' hw'=>?_) HKD.out rfl ?_
   rotate_left
   ·obtain ⟨ce,s0,s1,s2,s3⟩:=HCE.out w' hw'
    go_simp<;>with_reducible rfl
   refine takeS [10,9,8,7,6,5,4,3,2,1,0] 11 ?_ (all_T zFjK zSja.symm zTW3 11 rfl) rfl rfl (fun _ _ _ h=>h) (by rfl) (fun w' hw'=>?_) HKD.out rfl ?_
   rotate_left
   ·obtain ⟨ce,s0,s1,s2,s3⟩:=HCE.out w' hw'
    go_simp<;>with_reducible rfl
   refine takeS [11,10,9,8,7,6,5,4,3,2,1,0] 12 ?_ (all_T zFjK zSja.symm zTW3 12 rfl) rfl rfl (fun _ _ _ h=>h) (by rfl) (fun w' hw'=>?_) HKD.out rfl ?_
   rotate_left
   ·obtain ⟨ce,s0,s1,s2,s3⟩:=HCE.out w' hw'
    go_simp<;>with_reducible rfl
   refine stepS [12,11,10,9,8,7,6,5,4,3,2,1,0] 13 (all_S zWd9 13 rfl) rfl (fun K hK=>?_)
   go_simp
   refine (zrDu (HNB.out _ HKD.out) bk ofs A1 n1 c1 A2 n2 c2 1).mono ?_
   rintro e v13 ⟨rfl,hk⟩
   have HK_13:=qh (HKD.out.trans0 hk)
   clear hk
   go_simp
   refine hK.out _ _ (fun _=>HK_13.out) (fun _=>?_)
   try simp only [oZa,oZb,oZc]
   clear hK K
   refine takeS [13,12,11,10,9,8,7,6,5,4,3,2,1,0] 14 ?_ (all_T zFjK zSja.symm zTW3 14 rfl) rfl rfl (fun _ _ _ h=>h) (by rfl) (fun w' hw'=>?_) HK_13.out rfl ?_
   rotate_left
   ·obtain ⟨ce,s0,s1,s2,s3⟩:=HCE.out w' hw'
    go_simp<;>with_reducible rfl
   refine takeS [14,13,12,11,10,9,8,7,6,5,4,3,2,1,0] 15 ?_ (all_T zFjK zSja.symm zTW3 15 rfl) rfl rfl (fun _ _ _ h=>h) (by rfl) (fun w' hw'=>?_) HK_13.out rfl ?_
   rotate_left
   ·obtain ⟨ce,s0,s1,s2,s3⟩:=HCE.out w' hw'
    go_simp<;>with_reducible rfl
   refine takeS [15,14,13,12,11,10,9,8,7,6,5,4,3,2,1,0] 16 ?_ (all_T zFjK zSja.symm zTW3 16 rfl) rfl rfl (fun _ _ _ h=>h) (by rfl) (fun w' hw'=>?_) HK_13.out rfl ?_
   rotate_left
   ·obtain ⟨ce,s0,s1,s2,s3⟩:=HCE.out w' hw'
    go_simp<;>with_reducible rfl
   refine takeS [16,15,14,13,12,11,10,9,8,7,6,5,4,3,2,1,0] 17 ?_ (all_T zFjK zSja.symm zTW3 17 rfl) rfl rfl (fun _ _ _ h=>h) (by rfl) (fun w' hw'=>?_) HK_13.out rfl ?_
   rotate_left
   ·obtain ⟨ce,s0,s1,s2,s3⟩:=HCE.out w' hw'
    go_simp<;>with_reducible rfl
   refine takeS [17,16,15,14,13,12,11,10,9,8,7,6,5,4,3,2,1,0] 18 ?_ (all_T zFjK zSja.symm zTW3 18 rfl) rfl rfl (fun _ _ _ h=>h) (by rfl) (fun w' hw'=>?_) HK_13.out rfl ?_
   rotate_left
   ·obtain ⟨ce,s0,s1,s2,s3⟩:=HCE.out w' hw'
    go_simp<;>with_reducible rfl
   refine takeS [18,17,16,15,14,13,12,11,10,9,8,7,6,5,4,3,2,1,0] 19 ?_ (all_T zFjK zSja.symm zTW3 19 rfl) rfl rfl (fun _ _ _ h=>h) (by rfl) (fun w' hw'=>?_) HK_13.out rfl ?_
   rotate_left
   ·obtain ⟨ce,s0,s1,s2,s3⟩:=HCE.out w' hw'
    go_simp<;>with_reducible rfl
   refine takeS [19,18,17,16,15,14,13,12,11,10,9,8,7,6,5,4,3,2,1,0] 20 ?_ (all_T zFjK zSja.symm zTW3 20 rfl) rfl rfl (fun _ _ _ h=>h) (by rfl) (fun w' hw'=>?_) HK_13.out rfl ?_
   rotate_left
   ·obtain ⟨ce,s0,s1,s2,s3⟩:=HCE.out w' hw'
    go_simp<;>with_reducible rfl
   refine takeS [20,19,18,17,16,15,14,13,12,11,10,9,8,7,6,5,4,3,2,1,0] 21 ?_ (all_T zFjK zSja.symm zh12 21 rfl) rfl rfl (fun _ _ _ h=>h) (by rfl) (fun w' hw'=>?_) HK_13.out rfl ?_
   rotate_left
   ·obtain ⟨ce,s0,s1,s2,s3⟩:=HCE.out w' hw'
    go_simp<;>with_reducible rfl
   refine stepS [21,20,19,18,17,16,15,14,13,12,11,10,9,8,7,6,5,4,3,2,1,0] 22 (all_S zWd9 22 rfl) rfl (fun K hK=>?_)
   go_simp
   refine (zxas (HNB.out _ HK_13.out) page).mono ?_
   rintro e wx ⟨rfl,rfl⟩
   go_simp
   refine hK.out _ _ (fun _=>HK_13.out) (fun _=>?_)
   try simp only [oZa,oZb,oZc]
   clear hK K
   refine takeS [22,21,20,19,18,17,16,15,14,13,12,11,10,9,8,7,6,5,4,3,2,1,0] 23 ?_ (all_T zFjK zSja.symm zh12 23 rfl) rfl rfl (fun _ _ _ h=>h) (by rfl) (fun w' hw'=>?_) HK_13.out rfl ?_
   rotate_left
   ·obtain ⟨ce,s0,s1,s2,s3⟩:=HCE.out w' hw'
    go_simp<;>with_reducible rfl
   refine takeS [23,22,21,20,19,18,17,16,15,14,13,12,11,10,9,8,7,6,5,4,3,2,1,0] 24 ?_ (all_T zFjK zSja.symm zh12 24 rfl) rfl rfl (fun _ _ _ h=>h) (by rfl) (fun w' hw'=>?_) HK_13.out rfl ?_
   rotate_left
   ·obtain ⟨ce,s0,s1,s2,s3⟩:=HCE.out w' hw'
    go_simp<;>with_reducible rfl
   refine takeS [24,23,22,21,20,19,18,17,16,15,14,13,12,11,10,9,8,7,6,5,4,3,2,1,0] 25 ?_ (all_T zFjK zSja.symm zh12 25 rfl) rfl rfl (fun _ _ _ h=>h) (by rfl) (fun w' hw'=>?_) HK_13.out rfl ?_
   rotate_left
   ·obtain ⟨ce,s0,s1,s2,s3⟩:=HCE.out w' hw'
    go_simp<;>with_reducible rfl
   refine takeS [25,24,23,22,21,20,19,18,17,16,15,14,13,12,11,10,9,8,7,6,5,4,3,2,1,0] 26 ?_ (all_T zFjK zSja.symm zh12 26 rfl) rfl rfl (fun _ _ _ h=>h) (by rfl) (fun w' hw'=>?_) HK_13.out rfl ?_
   rotate_left
   ·obtain ⟨ce,s0,s1,s2,s3⟩:=HCE.out w' hw'
    go_simp<;>with_reducible rfl
   refine takeS [26,25,24,23,22,21,20,19,18,17,16,15,14,13,12,11,10,9,8,7,6,5,4,3,2,1,0] 27 ?_ (all_T zFjK zSja.symm zh12 27 rfl) rfl rfl (fun _ _ _ h=>h) (by rfl) (fun w' hw'=>?_) HK_13.out rfl ?_
   rotate_left
   ·obtain ⟨ce,s0,s1,s2,s3⟩:=HCE.out w' hw'
    go_simp<;>with_reducible rfl
   refine takeS [27,26,25,24,23,22,21,20,19,18,17,16,15,14,13,12,11,10,9,8,7,6,5,4,3,2,1,0] 28 ?_ (all_T zFjK zSja.symm zh12 28 rfl) rfl rfl (fun _ _ _ h=>h) (by rfl) (fun w' hw'=>?_) HK_13.out rfl ?_
   rotate_left
   ·obtain ⟨ce,s0,s1,s2,s3⟩:=HCE.out w' hw'
    go_simp<;>with_reducible rfl
   refine takeS [28,27,26,25,24,23,22,21,20,19,18,17,16,15,14,13,12,11,10,9,8,7,6,5,4,3,2,1,0] 29 ?_ (all_T zFjK zSja.symm zh12 29 rfl) rfl rfl (fun _ _ _ h=>h) (by rfl) (fun w' hw'=>?_) HK_13.out rfl ?_
   rotate_left
   ·obtain ⟨ce,s0,s1,s2,s3⟩:=HCE.out w' hw'
    go_simp<;>with_reducible rfl
   refine takeS [29,28,27,26,25,24,23,22,21,20,19,18,17,16,15,14,13,12,11,10,9,8,7,6,5,4,3,2,1,0] 30 ?_ (all_T zFjK zSja.symm zh12 30 rfl) rfl rfl (fun _ _ _ h=>h) (by rfl) (fun w' hw'=>?_) HK_13.out rfl ?_
   rotate_left
   ·obtain ⟨ce,s0,s1,s2,s3⟩:=HCE.out w' hw'
    go_simp<;>with_reducible rfl
   refine stepS [30,29,28,27,26,25,24,23,22,21,20,19,18,17,16,15,14,13,12,11,10,9,8,7,6,5,4,3,2,1,0] 31 (all_S zWd9 31 rfl) rfl (fun K hK=>?_)
   go_simp
   refine (zvPr (HNB.out _ HK_13.out) page).mono ?_
   rintro e wx ⟨rfl,rfl⟩
   go_simp
   refine hK.out _ _ (fun _=>HK_13.out) (fun _=>?_)
   try simp only [oZa,oZb,oZc]
   clear hK K
   refine takeS [31,30,29,28,27,26,25,24,23,22,21,20,19,18,17,16,15,14,13,12,11,10,9,8,7,6,5,4,3,2,1,0] 32 ?_ (all_T zFjK zSja.symm zh12 32 rfl) rfl rfl (fun _ _ _ h=>h) (by rfl) (fun w' hw'=>?_) HK_13.out rfl ?_
   rotate_left
   ·obtain ⟨ce,s0,s1,s2,s3⟩:=HCE.out w' hw'
    go_simp<;>with_reducible rfl
   refine takeS [32,31,30,29,28,27,26,25,24,23,22,21,20,19,18,17,16,15,14,13,12,11,10,9,8,7,6,5,4,3,2,1,0] 33 ?_ (all_T zFjK zSja.symm zh12 33 rfl) rfl rfl (fun _ _ _ h=>h) (by rfl) (fun w' hw'=>?_) HK_13.out rfl ?_
   rotate_left
   ·obtain ⟨ce,s0,s1,s2,s3⟩:=HCE.out w' hw'
    go_simp<;>with_reducible rfl
   refine takeS [33,32,31,30,29,28,27,26,25,24,23,22,21,20,19,18,17,16,15,14,13,12,11,10,9,8,7,6,5,4,3,2,1,0] 34 ?_ (all_T zFjK zSja.symm zh12 34 rfl) rfl rfl (fun _ _ _ h=>h) (by rfl) (fun w' hw'=>?_) HK_13.out rfl ?_
   rotate_left
   ·obtain ⟨ce,s0,s1,s2,s3⟩:=HCE.out w' hw'
    go_simp<;>with_reducible rfl
   refine takeS [34,33,32,31,30,29,28,27,26,25,24,23,22,21,20,19,18,17,16,15,14,13,12,11,10,9,8,7,6,5,4,3,2,1,0] 35 ?_ (all_T zFjK zSja.symm zh12 35 rfl) rfl rfl (fun _ _ _ h=>h) (by rfl) (fun w' hw'=>?_) HK_13.out rfl ?_
   rotate_left
   ·obtain ⟨ce,s0,s1,s2,s3⟩:=HCE.out w' hw'
    go_simp<;>with_reducible rfl
   refine takeS [35,34,33,32,31,30,29,28,27,26,25,24,23,22,21,20,19,18,17,16,15,14,13,12,11,10,9,8,7,6,5,4,3,2,1,0] 36 ?_ (all_T zFjK zSja.symm zh12 36 rfl) rfl rfl (fun _ _ _ h=>h) (by rfl) (fun w' hw'=>?_) HK_13.out rfl ?_
   rotate_left
   ·obtain ⟨ce,s0,s1,s2,s3⟩:=HCE.out w' hw'
    go_simp<;>with_reducible rfl
   refine takeS [36,35,34,33,32,31,30,29,28,27,26,25,24,23,22,21,20,19,18,17,16,15,14,13,12,11,10,9,8,7,6,5,4,3,2,1,0] 37 ?_ (all_T zFjK zSja.symm zh12 37 rfl) rfl rfl (fun _ _ _ h=>h) (by rfl) (fun w' hw'=>?_) HK_13.out rfl ?_
   rotate_left
   ·obtain ⟨ce,s0,s1,s2,s3⟩:=HCE.out w' hw'
    go_simp<;>with_reducible rfl
   refine stepS [37,36,35,34,33,32,31,30,29,28,27,26,25,24,23,22,21,20,19,18,17,16,15,14,13,12,11,10,9,8,7,6,5,4,3,2,1,0] 38 (all_S zWd9 38 rfl) rfl (fun K hK=>?_)
   go_simp
   refine (zIDp (HNB.out _ HK_13.out)).mono ?_
   rintro e wx ⟨rfl,rfl⟩
   go_simp
   refine hK.out _ _ (fun _=>HK_13.out) (fun _=>?_)
   try simp only [oZa,oZb,oZc]
   clear hK K
   refine takeS [38,37,36,35,34,33,32,31,30,29,28,27,26,25,24,23,22,21,20,19,18,17,16,15,14,13,12,11,10,9,8,7,6,5,4,3,2,1,0] 39 ?_ (all_T zFjK zSja.symm zh12 39 rfl) rfl rfl (fun _ _ _ h=>h) (by rfl) (fun w' hw'=>?_) HK_13.out rfl ?_
   rotate_left
   ·obtain ⟨ce,s0,s1,s2,s3⟩:=HCE.out w' hw'
    go_simp<;>with_reducible rfl
   refine takeS [39,38,37,36,35,34,33,32,31,30,29,28,27,26,25,24,23,22,21,20,19,18,17,16,15,14,13,12,11,10,9,8,7,6,5,4,3,2,1,0] 40 ?_ (all_T zFjK zSja.symm zh12 40 rfl) rfl rfl (fun _ _ _ h=>h) (by rfl) (fun w' hw'=>?_) HK_13.out rfl ?_
   rotate_left
   ·obtain ⟨ce,s0,s1,s2,s3⟩:=HCE.out w' hw'
    go_simp<;>with_reducible rfl
   refine takeS [40,39,38,37,36,35,34,33,32,31,30,29,28,27,26,25,24,23,22,21,20,19,18,17,16,15,14,13,12,11,10,9,8,7,6,5,4,3,2,1,0] 41 ?_ (all_T zFjK zSja.symm zh12 41 rfl) rfl rfl (fun _ _ _ h=>h) (by rfl) (fun w' hw'=>?_) HK_13.out rfl ?_
   rotate_left
   ·obtain ⟨ce,s0,s1,s2,s3⟩:=HCE.out w' hw'
    go_simp<;>with_reducible rfl
   refine takeS [41,40,39,38,37,36,35,34,33,32,31,30,29,28,27,26,25,24,23,22,21,20,19,18,17,16,15,14,13,12,11,10,9,8,7,6,5,4,3,2,1,0] 42 ?_ (all_T zFjK zSja.symm zh12 42 rfl) rfl rfl (fun _ _ _ h=>h) (by rfl) (fun w' hw'=>?_) HK_13.out rfl ?_
   rotate_left
   ·obtain ⟨ce,s0,s1,s2,s3⟩:=HCE.out w' hw'
    go_simp<;>with_reducible rfl
   refine takeS [42,41,40,39,38,37,36,35,34,33,32,31,30,29,28,27,26,25,24,23,22,21,20,19,18,17,16,15,14,13,12,11,10,9,8,7,6,5,4,3,2,1,0] 43 ?_ (all_T zFjK zSja.symm zh12 43 rfl) rfl rfl (fun _ _ _ h=>h) (by rfl) (fun w' hw'=>?_) HK_13.out rfl ?_
   rotate_left
   ·obtain ⟨ce,s0,s1,s2,s3⟩:=HCE.out w' hw'
    go_simp<;>with_reducible rfl
   refine takeS [43,42,41,40,39,38,37,36,35,34,33,32,31,30,29,28,27,26,25,24,23,22,21,20,19,18,17,16,15,14,13,12,11,10,9,8,7,6,5,4,3,2,1,0] 44 ?_ (all_T zFjK zSja.symm zVA4 44 rfl) rfl rfl (fun _ _ _ h=>h) (by rfl) (fun w' hw'=>?_) HK_13.out rfl ?_
   rotate_left
   ·obtain ⟨ce,s0,s1,s2,s3⟩:=HCE.out w' hw'
    go_simp<;>with_reducible rfl
   refine takeS [44,43,42,41,40,39,38,37,36,35,34,33,32,31,30,29,28,27,26,25,24,23,22,21,20,19,18,17,16,15,14,13,12,11,10,9,8,7,6,5,4,3,2,1,0] 45 ?_ (all_T zFjK zSja.symm zVA4 45 rfl) rfl rfl (fun _ _ _ h=>h) (by rfl) (fun w' hw'=>?_) HK_13.out rfl ?_
   rotate_left
   ·obtain ⟨ce,s0,s1,s2,s3⟩:=HCE.out w' hw'
    go_simp<;>with_reducible rfl
   refine takeS [45,44,43,42,41,40,39,38,37,36,35,34,33,32,31,30,29,28,27,26,25,24,23,22,21,20,19,18,17,16,15,14,13,12,11,10,9,8,7,6,5,4,3,2,1,0] 46 ?_ (all_T zFjK zSja.symm zVA4 46 rfl) rfl rfl (fun _ _ _ h=>h) (by rfl) (fun w' hw'=>?_) HK_13.out rfl ?_
   rotate_left
   ·obtain ⟨ce,s0,s1,s2,s3⟩:=HCE.out w' hw'
    go_simp<;>with_reducible rfl
   refine stepS [46,45,44,43,42,41,40,39,38,37,36,35,34,33,32,31,30,29,28,27,26,25,24,23,22,21,20,19,18,17,16,15,14,13,12,11,10,9,8,7,6,5,4,3,2,1,0] 47 (all_S zWd9 47 rfl) rfl (fun K hK=>?_)
   go_simp
   refine (zWjj (HNB.out _ HK_13.out)).mono ?_
   rintro e wx ⟨rfl,rfl⟩
   go_simp
   refine hK.out _ _ (fun _=>HK_13.out) (fun _=>?_)
   try simp only [oZa,oZb,oZc]
   clear hK K
   refine takeS [47,46,45,44,43,42,41,40,39,38,37,36,35,34,33,32,31,30,29,28,27,26,25,24,23,22,21,20,19,18,17,16,15,14,13,12,11,10,9,8,7,6,5,4,3,2,1,0] 48 ?_ (all_T zFjK zSja.symm zVA4 48 rfl) rfl rfl (fun _ _ _ h=>h) (by rfl) (fun w' hw'=>?_) HK_13.out rfl ?_
   rotate_left
   ·obtain ⟨ce,s0,s1,s2,s3⟩:=HCE.out w' hw'
    go_simp<;>with_reducible rfl
   refine takeS [48,47,46,45,44,43,42,41,40,39,38,37,36,35,34,33,32,31,30,29,28,27,26,25,24,23,22,21,20,19,18,17,16,15,14,13,12,11,10,9,8,7,6,5,4,3,2,1,0] 49 ?_ (all_T zFjK zSja.symm zVA4 49 rfl) rfl rfl (fun _ _ _ h=>h) (by rfl) (fun w' hw'=>?_) HK_13.out rfl ?_
   rotate_left
   ·obtain ⟨ce,s0,s1,s2,s3⟩:=HCE.out w' hw'
    go_simp<;>with_reducible rfl
   refine takeS [49,48,47,46,45,44,43,42,41,40,39,38,37,36,35,34,33,32,31,30,29,28,27,26,25,24,23,22,21,20,19,18,17,16,15,14,13,12,11,10,9,8,7,6,5,4,3,2,1,0] 50 ?_ (all_T zFjK zSja.symm zVA4 50 rfl) rfl rfl (fun _ _ _ h=>h) (by rfl) (fun w' hw'=>?_) HK_13.out rfl ?_
   rotate_left
   ·obtain ⟨ce,s0,s1,s2,s3⟩:=HCE.out w' hw'
    go_simp<;>with_reducible rfl
   refine takeS [50,49,48,47,46,45,44,43,42,41,40,39,38,37,36,35,34,33,32,31,30,29,28,27,26,25,24,23,22,21,20,19,18,17,16,15,14,13,12,11,10,9,8,7,6,5,4,3,2,1,0] 51 ?_ (all_T zFjK zSja.symm zVA4 51 rfl) rfl rfl (fun _ _ _ h=>h) (by rfl) (fun w' hw'=>?_) HK_13.out rfl ?_
   rotate_left
   ·obtain ⟨ce,s0,s1,s2,s3⟩:=HCE.out w' hw'
    go_simp<;>with_reducible rfl
   refine takeS [51,50,49,48,47,46,45,44,43,42,41,40,39,38,37,36,35,34,33,32,31,30,29,28,27,26,25,24,23,22,21,20,19,18,17,16,15,14,13,12,11,10,9,8,7,6,5,4,3,2,1,0] 52 ?_ (all_T zFjK zSja.symm zVA4 52 rfl) rfl rfl (fun _ _ _ h=>h) (by rfl) (fun w' hw'=>?_) HK_13.out rfl ?_
   rotate_left
   ·obtain ⟨ce,s0,s1,s2,s3⟩:=HCE.out w' hw'
    go_simp<;>with_reducible rfl
   refine takeS [52,51,50,49,48,47,46,45,44,43,42,41,40,39,38,37,36,35,34,33,32,31,30,29,28,27,26,25,24,23,22,21,20,19,18,17,16,15,14,13,12,11,10,9,8,7,6,5,4,3,2,1,0] 53 ?_ (all_T zFjK zSja.symm zVA4 53 rfl) rfl rfl (fun _ _ _ h=>h) (by rfl) (fun w' hw'=>?_) HK_13.out rfl ?_
   rotate_left
   ·obtain ⟨ce,s0,s1,s2,s3⟩:=HCE.out w' hw'
    go_simp<;>with_reducible rfl
   refine takeS [53,52,51,50,49,48,47,46,45,44,43,42,41,40,39,38,37,36,35,34,33,32,31,30,29,28,27,26,25,24,23,22,21,20,19,18,17,16,15,14,13,12,11,10,9,8,7,6,5,4,3,2,1,0] 54 ?_ (all_T zFjK zSja.symm zVA4 54 rfl) rfl rfl (fun _ _ _ h=>h) (by rfl) (fun w' hw'=>?_) HK_13.out rfl ?_
   rotate_left
   ·obtain ⟨ce,s0,s1,s2,s3⟩:=HCE.out w' hw'
    go_simp<;>with_reducible rfl
   refine takeS [54,53,52,51,50,49,48,47,46,45,44,43,42,41,40,39,38,37,36,35,34,33,32,31,30,29,28,27,26,25,24,23,22,21,20,19,18,17,16,15,14,13,12,11,10,9,8,7,6,5,4,3,2,1,0] 56 ?_ (all_T zFjK zSja.symm zVA4 55 rfl) rfl rfl (fun _ _ _ h=>h) (by rfl) (fun w' hw'=>?_) HK_13.out rfl ?_
   rotate_left
   ·obtain ⟨ce,s0,s1,s2,s3⟩:=HCE.out w' hw'
    go_simp<;>with_reducible rfl
   refine takeS [56,54,53,52,51,50,49,48,47,46,45,44,43,42,41,40,39,38,37,36,35,34,33,32,31,30,29,28,27,26,25,24,23,22,21,20,19,18,17,16,15,14,13,12,11,10,9,8,7,6,5,4,3,2,1,0] 57 ?_ (all_T zFjK zSja.symm zVA4 56 rfl) rfl rfl (fun _ _ _ h=>h) (by rfl) (fun w' hw'=>?_) HK_13.out rfl ?_
   rotate_left
   ·obtain ⟨ce,s0,s1,s2,s3⟩:=HCE.out w' hw'
    go_simp<;>with_reducible rfl
   refine takeS [57,56,54,53,52,51,50,49,48,47,46,45,44,43,42,41,40,39,38,37,36,35,34,33,32,31,30,29,28,27,26,25,24,23,22,21,20,19,18,17,16,15,14,13,12,11,10,9,8,7,6,5,4,3,2,1,0] 58 ?_ (all_T zFjK zSja.symm zVA4 57 rfl) rfl rfl (fun _ _ _ h=>h) (by rfl) (fun w' hw'=>?_) HK_13.out rfl ?_
   rotate_left
   ·obtain ⟨ce,s0,s1,s2,s3⟩:=HCE.out w' hw'
    go_simp<;>with_reducible rfl
   refine takeS [58,57,56,54,53,52,51,50,49,48,47,46,45,44,43,42,41,40,39,38,37,36,35,34,33,32,31,30,29,28,27,26,25,24,23,22,21,20,19,18,17,16,15,14,13,12,11,10,9,8,7,6,5,4,3,2,1,0] 59 ?_ (all_T zFjK zSja.symm zVA4 58 rfl) rfl rfl (fun _ _ _ h=>h) (by rfl) (fun w' hw'=>?_) HK_13.out rfl ?_
   rotate_left
   ·obtain ⟨ce,s0,s1,s2,s3⟩:=HCE.out w' hw'
    go_simp<;>with_reducible rfl
   refine stepS [59,58,57,56,54,53,52,51,50,49,48,47,46,45,44,43,42,41,40,39,38,37,36,35,34,33,32,31,30,29,28,27,26,25,24,23,22,21,20,19,18,17,16,15,14,13,12,11,10,9,8,7,6,5,4,3,2,1,0] 55 (all_S zWd9 59 rfl) rfl (fun K hK=>?_)
   go_simp
   refine (zD9H (HNB.out _ HK_13.out)).mono ?_
   rintro e wx ⟨rfl,rfl⟩
   go_simp
   refine hK.out _ _ (fun _=>HK_13.out) (fun _=>?_)
   try simp only [oZa,oZb,oZc]
   clear hK K
   refine stepS [55,59,58,57,56,54,53,52,51,50,49,48,47,46,45,44,43,42,41,40,39,38,37,36,35,34,33,32,31,30,29,28,27,26,25,24,23,22,21,20,19,18,17,16,15,14,13,12,11,10,9,8,7,6,5,4,3,2,1,0] 60 (all_S zWd9 60 rfl) rfl (fun K hK=>?_)
   go_simp
   refine (zA28 (HNB.out _ HK_13.out)).mono ?_
   rintro e wx ⟨rfl,rfl⟩
   go_simp
   refine hK.out _ _ (fun _=>HK_13.out) (fun _=>?_)
   try simp only [oZa,oZb,oZc]
   clear hK K
   refine takeS [60,55,59,58,57,56,54,53,52,51,50,49,48,47,46,45,44,43,42,41,40,39,38,37,36,35,34,33,32,31,30,29,28,27,26,25,24,23,22,21,20,19,18,17,16,15,14,13,12,11,10,9,8,7,6,5,4,3,2,1,0] 61 ?_ (all_T zFjK zSja.symm zVA4 61 rfl) rfl rfl (fun _ _ _ h=>h) (by rfl) (fun w' hw'=>?_) HK_13.out rfl ?_
   rotate_left
   ·obtain ⟨ce,s0,s1,s2,s3⟩:=HCE.out w' hw'
    go_simp<;>with_reducible rfl
   refine takeS [61,60,55,59,58,57,56,54,53,52,51,50,49,48,47,46,45,44,43,42,41,40,39,38,37,36,35,34,33,32,31,30,29,28,27,26,25,24,23,22,21,20,19,18,17,16,15,14,13,12,11,10,9,8,7,6,5,4,3,2,1,0] 62 ?_ (all_T zFjK zSja.symm zVA4 62 rfl) rfl rfl (fun _ _ _ h=>h) (by rfl) (fun w' hw'=>?_) HK_13.out rfl ?_
   rotate_left
   ·obtain ⟨ce,s0,s1,s2,s3⟩:=HCE.out w' hw'
    go_simp<;>with_reducible rfl
   refine stepS [62,61,60,55,59,58,57,56,54,53,52,51,50,49,48,47,46,45,44,43,42,41,40,39,38,37,36,35,34,33,32,31,30,29,28,27,26,25,24,23,22,21,20,19,18,17,16,15,14,13,12,11,10,9,8,7,6,5,4,3,2,1,0] 63 (all_S zWd9 63 rfl) rfl (fun K hK=>?_)
   go_simp
   refine hK.out _ _ (fun h=>absurd rfl h) (fun _=>?_)
   try simp only [oZa,oZb,oZc]
   clear hK K
   refine doneL (by kernel_rfl) ?_ _
   go_wp2
   go_roundw
   case rel=>exact ⟨j+1,by omega,by go_num,HKr.out.trans0 HK_13.out⟩
   case measure=>simp [intOf];omega
  ·have hj2:j=2:=by omega
   subst hj2
   have HKw:=qh (HK4.out.trans0 HKr.out)
   clear hlt HK4 HM4 HB4 HF4 HW4 HGF HFF HKr
   go_wp2_with fail
   refine (zAkz 20 (by decide) (by decide) wr).mono ?_
   rintro e w5 ⟨p,ms,mo,rfl,hD,hk5,lp,lms,lmo⟩
   have HOP:=qh (show Calls Try.prog 19 #[.pointer (some ⟨p,0,none⟩),.int .i64 0,.int .i64 8,.int .i64 1,.int .i64 1] w5 (zM8s w5 p ms mo (some pnL0,newM 20,0)) from by
    have:=ztLr w5 p ms mo (newM 20) hD 0 8 1 1 (by unfold badM newM;dsimp only;omega) zrw6
    rwa [zLro] at this)
   have HK5:=qh (HKw.out.trans0 hk5)
   have HLP:=qh (⟨lp,lms,lmo⟩:wr.heap.size<=p/\wr.heap.size<=ms/\wr.heap.size<=mo)
   have HS0:=Lib.hid HKw.out.size
   clear hD hk5 lp lms lmo
   go_wp2_with fail
   refine HOP.out.mono ?_
   intro e w6 hp6
   obtain ⟨hk6,-,hy⟩:=hp6
   obtain ⟨q,lv,tv,rfl,hs6,hq,hlv,htv⟩:=hy pnL0 rfl
   have HS6:=qh hs6
   have HK6:=qh (HK5.out.new hk6 (fun x hx=>by have:=HLP.out;have:=HS0.out;rcases hx with rfl | rfl | rfl<;>omega))
   clear hy hs6 hk6 hq hlv htv HOP HK5
   have hn1:=z3x1 (w:=w6) (.pointer (some ⟨q,0,none⟩)) 0 4 8
   have hn2:=zOt0 HS6.out.dev 0 4 8
   have hn3:=zBqp HS6.out (by decide) rfl (-1) 4 (.inl ⟨rfl,rfl⟩)
   have hn4:=zBqp HS6.out (by decide) rfl 8 13 (.inr ⟨rfl,rfl⟩)
   have hn5:=zywc HS6.out (by decide) (first:=8) (blocks:=12) (most:=8) (by decide) (by decide) (by show (8:Int)+12<=20;decide) (by decide) (by decide)
   unfold ptrV at hn2 hn3 hn4 hn5
   have HN1:=qh hn1
   have HN2:=qh hn2
   have HN3:=qh hn3
   have HN4:=qh hn4
   have HN5:=qh hn5
   clear hn1 hn2 hn3 hn4 hn5
   go_wp2_with fail
   refine HN1.out.mono ?_
   rintro e wx ⟨rfl,rfl⟩
   go_wp2_with fail
   refine HN2.out.mono ?_
   rintro e wx ⟨rfl,rfl⟩
   go_wp2_with fail
   refine HN3.out.mono ?_
   rintro e wx ⟨rfl,rfl⟩
   go_wp2_with fail
   refine HN4.out.mono ?_
   rintro e wx ⟨rfl,rfl⟩
   go_wp2_with fail
   refine HN5.out.mono ?_
   rintro e w7 ⟨a,rfl,-,-,-,-,-,-,-,-,-,-,-,hk7⟩
   have HK7:=qh (HK6.out.trans0 hk7)
   clear hk7
   go_wp2
   go_ret
   exact ⟨rfl,HK7.out⟩
end Go.Proofs.Ytnbfhdgojmflhaa
