/-
  No statement is proved here.
-/
import Derived.Test.YtnbfhdgojmflhaaJKept
namespace Go.Proofs.Ytnbfhdgojmflhaa
open Go.RowKit
def blkF (f:Int->Option Bytes):Int->Option Value:=fun k=>(f k).map blk
theorem zwVv {f:Int->Option Bytes} {n:Int} {v:Value} (h:blkF f n=some v):∃ l,f n=some l/\v=blk l:=by
 obtain ⟨l,h1,h2⟩:=Option.map_eq_some_iff.1 h;exact ⟨l,h1,h2.symm⟩
theorem zK1o (f:Int->Option Bytes) (n:Int) (l:Bytes):updF (blkF f) n (blk l)=blkF (updF f n l):=by
 funext k;simp only [updF,blkF];split<;>rfl
structure DevM where
 n:Int
 safe:Int->Option Bytes
 opn:Int->Option Bytes
 armed:Int
 down:Bool
structure DevAt (w:World) (p ms mo:Nat) (D:DevM):Prop where
 h1:p≠ms
 h2:p≠mo
 h3:ms≠mo
 hp:w.heap[p]?=some (.cells #[.int .i64 D.n,.map (some ms),.map (some mo),.int .i64 D.armed,.bool D.down] 101 (0,0))
 hs:IMap w ms (blkF D.safe)
 ho:IMap w mo (blkF D.opn)
 ls:∀ k l,D.safe k=some l->l.length=512
 lo:∀ k l,D.opn k=some l->l.length=512
 n0:1<=D.n
 n1:D.n<=65536
 a0:0<=D.armed
 a1:D.armed<=9223372036854775807
theorem DevAt.keep {S:Nat->Prop} {w w':World} {p ms mo:Nat} {D:DevM} (h:DevAt w p ms mo D) (hk:Kept S w w') (k1:¬ S p) (k2:¬ S ms) (k3:¬ S mo):DevAt w' p ms mo D:=
 ⟨h.h1,h.h2,h.h3,hk.heap h.hp k1,h.hs.kept hk k2,h.ho.kept hk k3,h.ls,h.lo,h.n0,h.n1,h.a0,h.a1⟩
def DevM.mayE (D:DevM) (n:Int):Int:=if D.down then 8 else if n < 0\/D.n<=n then 6 else 0
def DevM.latest (D:DevM) (n:Int):Bytes:=(D.opn n).getD ((D.safe n).getD (zeros 512))
theorem DevM.mayE_down {D:DevM} {n:Int} (h:D.down=true):D.mayE n=8:=by simp [mayE,h]
theorem DevM.mayE_none {D:DevM} {n:Int} (h:D.down=false) (h2:n < 0\/D.n<=n):D.mayE n=6:=by simp [mayE,h,h2]
theorem DevM.mayE_ok {D:DevM} {n:Int} (h:D.down=false) (h1:0<=n) (h2:n < D.n):D.mayE n=0:=by
 rw [mayE,h];simp;omega
section
variable {w:World} {p ms mo:Nat} {D:DevM}
theorem DevAt.c0 (h:DevAt w p ms mo D):w.cell? ⟨p,0,none⟩=some (.int .i64 D.n):=zcjX h.hp rfl
theorem DevAt.c2 (h:DevAt w p ms mo D):w.cell? ⟨p,2,none⟩=some (.map (some mo)):=zcjX h.hp rfl
theorem DevAt.c3 (h:DevAt w p ms mo D):w.cell? ⟨p,3,none⟩=some (.int .i64 D.armed):=zcjX h.hp rfl
theorem DevAt.c4 (h:DevAt w p ms mo D):w.cell? ⟨p,4,none⟩=some (.bool D.down):=zcjX h.hp rfl
set_option maxHeartbeats 400000 in
theorem zZzN (h:DevAt w p ms mo D) (n:Int) :
  Calls Try.prog 59 #[.pointer (some ⟨p,0,none⟩),.int .i64 n] w fun e w'=>e=.returned (.int .i64 (D.mayE n))/\w=w':=by
 have c0:=h.c0;have c4:=h.c4;have hn:=h.n0
 have hz:(D.n == 0)=false:=by simp;omega
 cases hd:D.down
 ·by_cases hlt:n < 0\/D.n<=n
  ·have e:=DevM.mayE_none hd hlt
   rw [e]
   by_cases h0:n < 0
   ·rw [hd] at c4
    clear e hd hlt h
    go_enter Try.func59,Try.ntmps59
    go_wp2
    go_ret
    exact ⟨rfl,rfl⟩
   ·have h1:D.n<=n:=by omega
    rw [hd] at c4
    clear e hd hlt h
    go_enter Try.func59,Try.ntmps59
    go_wp2
    go_ret
    exact ⟨rfl,rfl⟩
  ·have e:=DevM.mayE_ok hd (by omega) (by omega:n < D.n)
   rw [e]
   have h0:¬ n < 0:=by omega
   have h1:¬ D.n<=n:=by omega
   rw [hd] at c4
   clear e hd hlt h
   go_enter Try.func59,Try.ntmps59
   go_wp2
   go_ret
   exact ⟨rfl,rfl⟩
 ·have e:=DevM.mayE_down (n:=n) hd
  rw [e]
  rw [hd] at c4
  clear e hd h
  go_enter Try.func59,Try.ntmps59
  go_wp2
  go_ret
  exact ⟨rfl,rfl⟩
theorem z512:(Try.prog.info? 119).map (fun i=>(i.zero,i.size))=some (some (blk (zeros 512)),512):=by kernel_rfl
theorem ziCy (w:World):(zeroValue 119).run Try.prog w=.ok (.agg (cellsOf (zeros 512))) w:=(zero_of_info z512).1 w
theorem zzAS {l:Bytes} (h:l.length=512):(Try.prog.info? 119).map (·.size)=some (cellsOf l).size:=by
 rw [z54R,h];exact (zero_of_info z512).2
theorem DevAt.len (h:DevAt w p ms mo D) (n:Int):(D.latest n).length=512:=by
 unfold DevM.latest
 cases ho:D.opn n with
 | some l=>exact h.lo n l ho
 | none=>cases hs:D.safe n with
  | some l=>exact h.ls n l hs
  | none=>exact zguE _
set_option maxHeartbeats 400000 in
theorem zNBA (h:DevAt w p ms mo D) (n:Int) :
  Calls Try.prog 60 #[.pointer (some ⟨p,0,none⟩),.int .i64 n] w fun e w'=>e=.returned (blk (D.latest n))/\Kept (fun _=>False) w w':=by
 have HL1:=qh (fun w1 (hk:Kept (fun _=>False) w w1)=>(h.ho.kept hk id).lookup_ok Try.underlying99 Try.underlying3 (ziCy w1) n)
 have HL2:=qh (fun w1 (hk:Kept (fun _=>False) w w1)=>(h.hs.kept hk id).lookup Try.underlying99 Try.underlying3 (ziCy w1) n)
 have HC1:=qh (show ∀ w1,Kept (fun _=>False) w w1->w1.cell? ⟨p,1,none⟩=some (.map (some ms)) from fun w1 hk=>zcjX (hk.heap h.hp id) rfl)
 have HC2:=qh (show ∀ w1,Kept (fun _=>False) w w1->w1.cell? ⟨p,2,none⟩=some (.map (some mo)) from fun w1 hk=>zcjX (hk.heap h.hp id) rfl)
 have hlen:=h.len n
 cases ho:D.opn n with
 | some l=>
  have e:D.latest n=l:=by simp [DevM.latest,ho]
  rw [e] at hlen ⊢
  simp only [blkF,ho,Option.map_some,Option.getD_some,Option.isSome_some] at HL1
  have HX:=qh hlen
  clear e ho h hlen
  go_enter Try.func60,Try.ntmps60
  go_wp2_with (refine zNko rfl 119 rfl (cellsOf (zeros 512)) ziCy ?_)
  intro g1 w1 n1 m1 hb1 hk1
  have c1:=HC2.out w1 hk1
  have l1:=HL1.out w1 hk1
  go_wp2_with (refine zNko rfl 119 rfl (cellsOf (zeros 512)) ziCy ?_)
  intro g2 w2 n2 m2 hb2 hk2
  have hb2':=hk2.heap hb1 id
  have hk2':=hk1.trans0 hk2
  refine zxQF rfl 119 _ _ rfl g2 (cellsOf l) _ rfl rfl hb2 (zzAS HX.out) (by simp [z54R,HX.out,zguE]) (zZ84 l) ?_
  intro w3 hb3 hk3
  have hb3':w3.heap[g1]?=some (.cells (cellsOf (zeros 512)) 119 (0,0)):=hk3.heap hb2' (by omega)
  have hk3':Kept (fun _=>False) w w3:=hk2'.trans hk3 (by intro x hx e;have:=hk1.size;omega)
  clear hb1 hb2 hb2' hk1 hk2 hk2' hk3 c1 l1
  go_wp2_with (first
   | refine zFcC rfl 119 _ rfl g2 rfl (cellsOf l) hb3 Try.underlying119 rfl (zzAS HX.out) ?_
   | refine zxQF rfl 119 _ _ rfl g1 (cellsOf l) _ rfl rfl hb3' (zzAS HX.out) (by simp [z54R,HX.out,zguE]) (zZ84 l) ?_)
  intro w4 hb4 hk4
  go_wp2
  refine bodyPost_ret (results_cell_row rfl _ w4 g1 119 (cellsOf l) (0,0) _ rfl hb4 Try.underlying119 rfl (zzAS HX.out)) rfl ⟨rfl,hk3'.trans hk4 (by intro x hx e;omega)⟩
 | none=>
  have e:D.latest n=(D.safe n).getD (zeros 512):=by simp [DevM.latest,ho]
  rw [e] at hlen ⊢
  simp only [blkF,ho,Option.map_none,Option.getD_none,Option.isSome_none] at HL1
  have e2:(blkF D.safe n).getD (.agg (cellsOf (zeros 512)))=.agg (cellsOf ((D.safe n).getD (zeros 512))):=by unfold blkF;cases D.safe n<;>rfl
  rw [e2] at HL2
  have HX:=qh hlen
  clear e e2 ho h hlen
  generalize (D.safe n).getD (zeros 512)=l at *
  go_enter Try.func60,Try.ntmps60
  go_wp2_with (refine zNko rfl 119 rfl (cellsOf (zeros 512)) ziCy ?_)
  intro g1 w1 n1 m1 hb1 hk1
  have c1:=HC2.out w1 hk1
  have l1:=HL1.out w1 hk1
  go_wp2_with (refine zNko rfl 119 rfl (cellsOf (zeros 512)) ziCy ?_)
  intro g2 w2 n2 m2 hb2 hk2
  have hb2':=hk2.heap hb1 id
  have hk2':=hk1.trans0 hk2
  refine zxQF rfl 119 _ _ rfl g2 (cellsOf (zeros 512)) _ rfl rfl hb2 (zzAS (zguE _)) rfl (zZ84 _) ?_
  intro w3 hb3 hk3
  have hb3':w3.heap[g1]?=some (.cells (cellsOf (zeros 512)) 119 (0,0)):=hk3.heap hb2' (by omega)
  have hk3':Kept (fun _=>False) w w3:=hk2'.trans hk3 (by intro x hx e;have:=hk1.size;omega)
  have c3:=HC1.out w3 hk3'
  have l3:=HL2.out w3 hk3'
  clear hb1 hb2 hb2' hk1 hk2 hk2' hk3 c1 l1
  go_wp2_with (refine zxQF rfl 119 _ _ rfl g1 (cellsOf l) _ rfl rfl hb3' (zzAS HX.out) (by simp [z54R,HX.out,zguE]) (zZ84 l) ?_)
  intro w4 hb4 hk4
  go_wp2
  refine bodyPost_ret (results_cell_row rfl _ w4 g1 119 (cellsOf l) (0,0) _ rfl hb4 Try.underlying119 rfl (zzAS HX.out)) rfl ⟨rfl,hk3'.trans hk4 (by intro x hx e;omega)⟩
set_option maxHeartbeats 400000 in
theorem zqzz (h:DevAt w p ms mo D) (n:Int) (hm:D.mayE n=0) :
  Calls Try.prog 28 #[.pointer (some ⟨p,0,none⟩),.int .i64 n] w fun e w'=>∃ g cap,e=.returned (.tuple #[.slice (some ⟨g,0,none⟩) 512 cap,.int .i64 0])/\OwnB w' w.heap.size g cap (D.latest n)/\Kept (fun _=>False) w w':=by
 have hl:=h.len n
 have M:=zZzN h n
 rw [hm] at M
 have HM:=Lib.hid M;clear M
 have HR:=qh (zNBA h n)
 obtain ⟨i0,hi0,hz0,hz1,hz2⟩:=info_parts info5
 clear h hm
 have HL:=qh hl
 generalize D.latest n=l at *
 clear hl
 go_enter Try.func28,Try.ntmps28
 go_wp2_with (first
  | (go_at_call 59;refine HM.out.mono ?_;rintro e w' ⟨rfl,rfl⟩)
  | (go_at_call 60;refine HR.out.mono ?_;rintro e w1 ⟨rfl,hk1⟩)
  | refine zNko rfl 119 rfl (cellsOf (zeros 512)) ziCy ?_)
 intro g2 w2 n2 m2 hb2 hk2
 have hk2':=hk1.trans0 hk2
 go_wp2_with (first
  | refine zxQF rfl 119 _ _ rfl g2 (cellsOf l) _ rfl rfl hb2 (zzAS HL.out) (by simp [z54R,HL.out,zguE]) (zZ84 l) ?_
  | refine zFfS rfl 37 5 rfl Try.underlying37 (by kernel_rfl) ?_)
 intro w3 hb3 hk3
 have hk3':Kept (fun _=>False) w w3:=hk2'.trans hk3 (by intro x hx e;have:=hk1.size;omega)
 clear hb2 hk2 hk2' hk3
 go_wp2_with (refine zFfS rfl 37 5 rfl Try.underlying37 (by kernel_rfl) ?_)
 intro g4 w4 n4 m4 hb4 hk4
 have hb4':=hk4.heap hb3 id
 have hk4':=hk3'.trans0 hk4
 have o4:w4.ownsRow w.heap.size 5 1 (.slice (some ⟨g4,0,none⟩) 0 0) 0 []:=⟨rfl,.inr ⟨g4,0,#[],rfl,by have:=hk3'.size;omega,hb4,by omega,by decide,rfl,rfl⟩⟩
 have ho4:=Lib.hid o4
 clear hk4 hb3 hb4 o4
 go_wp2_with (at_builtin;refine wl_append rfl _ _ 37 rfl w.heap.size 5 Try.underlying37 info5 rfl (by omega) (.slice (some ⟨g4,0,none⟩) 0 0) 0 [] rfl ho4.out g2 0 512 512 (cellsOf l).toList rfl (by rw [z6VZ,HL.out]) (fun j u hu=>zcjX hb4' (by simpa using hu)) (fun u hu=>(Array.all_eq_true_iff_forall_mem.1 (zZ84 l)) u (by simpa using hu)) (by omega) (by decide) (by decide) hk4'.size ?_)
 intro g5 cap w5 ho5 hk5 hat m5
 go_wp2
 go_ret2
 have e5:(0:Nat)+512=l.length:=by rw [HL.out]
 refine ⟨g5,cap,rfl,?_,hk4'.trans hk5 ?_⟩
 ·unfold OwnB;rw [<- e5];simpa using ho5
 ·intro x hx e;have:=hk3'.size;simp [Value.ownBlock] at e;omega
theorem zpER (h:DevAt w p ms mo D) (n:Int) (hm:D.mayE n≠0) :
  Calls Try.prog 28 #[.pointer (some ⟨p,0,none⟩),.int .i64 n] w fun e w'=>e=.returned (.tuple #[.slice none 0 0,.int .i64 (D.mayE n)])/\w=w':=by
 have HM:=qh (zZzN h n)
 have hb:(D.mayE n != 0)=true:=by simpa using hm
 clear h hm
 generalize D.mayE n=x at *
 go_enter Try.func28,Try.ntmps28
 go_wp2_with (go_at_call 59;refine HM.out.mono ?_;rintro e w' ⟨rfl,rfl⟩)
 go_ret2
 exact ⟨rfl,rfl⟩
def DevM.crash (D:DevM):DevM:=if 0 < D.armed then { D with armed:=D.armed - 1,down:=D.armed - 1 == 0 } else D
set_option maxHeartbeats 400000 in
theorem zZqd (h:DevAt w p ms mo D) :
  Calls Try.prog 70 #[.pointer (some ⟨p,0,none⟩)] w fun e w'=>e=.returned (.bool D.crash.down)/\DevAt w' p ms mo D.crash/\Kept (fun x=>x=p) w w':=by
 have c3:=h.c3;have c4:=h.c4;have f:=fun i=>zZnw h.hp i
 by_cases ha:0 < D.armed
 ·have e:D.crash={ D with armed:=D.armed - 1,down:=D.armed - 1 == 0 }:=by simp [DevM.crash,ha]
  rw [e]
  have hx:=h
  have f3:=f 3;have f4:=f 4
  have h1:=h.a1
  clear f e h
  go_enter Try.func70,Try.ntmps70
  go_wp2
  go_ret
  have k:Kept (fun x=>x=p) w ((w.setCell ⟨p,3,none⟩ (.int .i64 (D.armed - 1))).setCell ⟨p,4,none⟩ (.bool (D.armed - 1 == 0))):=(Kept.cell w p 3 _).trans' (Kept.cell _ p 4 _)
  refine ⟨rfl,?_,k⟩
  exact ⟨hx.h1,hx.h2,hx.h3,zAtc (zAtc hx.hp 3 _) 4 _,hx.hs.kept k (Ne.symm hx.h1),hx.ho.kept k (Ne.symm hx.h2),hx.ls,hx.lo,hx.n0,hx.n1,by show 0<=D.armed - 1;omega,by show D.armed - 1<=_;omega⟩
 ·have e:D.crash=D:=by simp [DevM.crash,ha]
  rw [e]
  have hx:=h
  have ha':D.armed<=0:=by omega
  clear f e h
  go_enter Try.func70,Try.ntmps70
  go_wp2
  go_ret
  exact ⟨rfl,hx,Kept.refl _ _⟩
def zPhp (b:Bool):Int:=if b then 8 else 0
def DevM.put (D:DevM) (n:Int) (l:Bytes):DevM:={ D with opn:=updF D.opn n l }
theorem DevAt.put (h:DevAt w p ms mo D) {w':World} (hk:Kept (fun x=>x=mo) w w') {n:Int} {l:Bytes} (hm:IMap w' mo (updF (blkF D.opn) n (blk l))) (hl:l.length=512):DevAt w' p ms mo (D.put n l):=
 ⟨h.h1,h.h2,h.h3,hk.heap h.hp h.h2,h.hs.kept hk h.h3,by rw [zK1o] at hm;exact hm,h.ls,fun k l' hl'=>by
  simp only [DevM.put,updF] at hl'
  split at hl'
  ·cases hl';exact hl
  ·exact h.lo k l' hl',h.n0,h.n1,h.a0,h.a1⟩
set_option maxRecDepth 100000 in
set_option maxHeartbeats 800000 in
theorem zh1w (h:DevAt w p ms mo D) (n:Int) (hm:D.mayE n=0) (b off c:Nat) (l:Bytes) (hl:l.length=512) (hb:∀ j v,(cellsOf l)[j]?=some v->w.cell? ⟨b,off+j,none⟩=some v) :
  Calls Try.prog 56 #[.pointer (some ⟨p,0,none⟩),.int .i64 n,.slice (some ⟨b,off,none⟩) 512 c] w fun e w'=>
   e=.returned (.int .i64 (zPhp (D.put n l).crash.down))/\DevAt w' p ms mo (D.put n l).crash/\Kept (fun x=>x=p\/x=mo) w w':=by
 have M:=zZzN h n
 rw [hm] at M
 have HM:=Lib.hid M
 have c2:=h.c2
 have HX:=qh h
 have HL:=qh hl
 have HB:=qh hb
 have h1:=h.h1;have h2:=h.h2
 clear M h hm hl hb
 go_enter Try.func56,Try.ntmps56
 go_wp2_with (go_at_call 59;refine HM.out.mono ?_;rintro e w' ⟨rfl,rfl⟩)
 refine wp_region_still_tail 8 (by kernel_rfl) (by kernel_rfl) ?_
 simp only [List.take_succ_cons,List.take_zero,List.drop_succ_cons,List.drop_zero]
 iterate 6 still_step
 refine zQJM rfl 119 _ rfl (some ⟨b,off,none⟩) 512 c rfl Try.underlying119 (Nat.le_refl _) ?_
 refine zfMB rfl 119 _ rfl b off rfl (cellsOf l) HB.out Try.underlying119 rfl (zzAS HL.out) ?_
 refine wpStill_nil ?_
 obtain ⟨w1,hrun,hmap,hk1,hs1⟩:=IMap.update (P:=Try.prog) (w:=w.drew) HX.out.ho Try.underlying99 Try.underlying3 n (blk l)
 refine zwNv rfl 99 _ _ _ rfl hrun ?_
 have hk1':Kept (fun x=>x=mo) w w1:=⟨hk1.os,hk1.tape,hk1.output,hk1.size,hk1.block⟩
 have HD:=qh (zZqd (HX.out.put hk1' hmap HL.out))
 clear hmap hk1 hs1 hrun
 have hk1:=qh hk1'
 clear hk1'
 cases hd:(D.put n l).crash.down
 ·rw [hd] at HD
  have Hd:=qh hd
  clear hd
  go_wp2_with (go_at_call 70;refine HD.out.mono ?_;rintro e w2 ⟨rfl,hd2,hk2⟩)
  go_ret
  exact ⟨by rw [Hd.out];rfl,hd2,(hk1.out.mono (fun x _ e=>.inr e)).trans hk2 (fun x _ e=>.inl e)⟩
 ·rw [hd] at HD
  have Hd:=qh hd
  clear hd
  go_wp2_with (go_at_call 70;refine HD.out.mono ?_;rintro e w2 ⟨rfl,hd2,hk2⟩)
  go_ret
  exact ⟨by rw [Hd.out];rfl,hd2,(hk1.out.mono (fun x _ e=>.inr e)).trans hk2 (fun x _ e=>.inl e)⟩
theorem zlSx (h:DevAt w p ms mo D) (n:Int) (hm:D.mayE n≠0) (v:Value) :
  Calls Try.prog 56 #[.pointer (some ⟨p,0,none⟩),.int .i64 n,v] w fun e w'=>e=.returned (.int .i64 (D.mayE n))/\w=w':=by
 have HM:=qh (zZzN h n)
 have hb:(D.mayE n != 0)=true:=by simpa using hm
 clear h hm
 generalize D.mayE n=x at *
 go_enter Try.func56,Try.ntmps56
 go_wp2_with (go_at_call 59;refine HM.out.mono ?_;rintro e w' ⟨rfl,rfl⟩)
 go_ret
 exact ⟨rfl,rfl⟩
theorem zNRo (h:DevAt w p ms mo D) (n:Int) (hm:D.mayE n=0) (A:Option Addr) (k c:Nat) (hk:k≠512) :
  Calls Try.prog 56 #[.pointer (some ⟨p,0,none⟩),.int .i64 n,.slice A k c] w fun e w'=>e=.returned (.int .i64 2)/\w=w':=by
 have M:=zZzN h n
 rw [hm] at M
 have HM:=Lib.hid M
 have hb:((k:Int) != 512)=true:=by simp;omega
 clear h hm M hk
 go_enter Try.func56,Try.ntmps56
 go_wp2_with (go_at_call 59;refine HM.out.mono ?_;rintro e w' ⟨rfl,rfl⟩)
 go_ret
 exact ⟨rfl,rfl⟩
theorem zyYd (h:DevAt w p ms mo D):Calls Try.prog 44 #[.pointer (some ⟨p,0,none⟩)] w fun e w'=>e=.returned (.int .i64 D.n)/\w=w':=by
 have c4:=h.c0
 clear h
 go_enter Try.func44,Try.ntmps44
 go_wp2
 go_ret
 exact ⟨rfl,rfl⟩
end
end Go.Proofs.Ytnbfhdgojmflhaa
