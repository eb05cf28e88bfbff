/-
  No statement is proved here.
-/
import Derived.Test.YtnbfhdgojmflhaaJLgf
import Derived.Deep.LoopGhost
import Derived.Deep.CutBlock
import Derived.Laws.ResultCell
namespace Go.Proofs.Ytnbfhdgojmflhaa
open Go.RowKit
theorem zsc2 (x:Int) (w:World):Calls Try.prog 86 #[.int .i64 x] w fun e w'=>e=.returned (.bool false)/\w=w':=by
 go_enter Try.func86,Try.ntmps86
 go_wp2
 go_ret
 exact ⟨by simp,rfl⟩
theorem zHx6 (x:Int) (w:World):Calls Try.prog 79 #[.int .i64 x] w fun e w'=>e=.returned (.bool false)/\w=w':=by
 go_enter Try.func79,Try.ntmps79
 go_wp2
 go_ret
 exact ⟨by simp,rfl⟩
theorem zQUD (x y:Int) (w:World):Calls Try.prog 78 #[.int .i64 x,.int .i64 y] w fun e w'=>e=.returned (.bool (decide (x < y)))/\w=w':=by
 go_enter Try.func78,Try.ntmps78
 go_wp2_with (go_at_call 86;refine (zsc2 _ _).mono ?_;rintro e w' ⟨rfl,rfl⟩)
 go_ret
 exact ⟨rfl,rfl⟩
theorem zhop:∀ (l:List Int) (x:Int) (i:Nat),i<=l.length->(∀ t,t < i->l.getD t 0 < x)->(∀ t,i<=t->t < l.length->x<=l.getD t 0)->findM l x=i
 | [],x,i,h,_,_=>by simp at h;subst h;rfl
 | y :: l,x,0,_,_,h=>by
  have:=h 0 (Nat.le_refl _) (by simp)
  simp at this
  unfold findM
  rw [List.takeWhile_cons_of_neg (by simpa using this)]
  rfl
 | y :: l,x,i+1,h0,h1,h2=>by
  have h3:=h1 0 (by omega)
  simp at h3
  have ih:=zhop l x i (by simpa using h0) (fun t ht=>by simpa using h1 (t+1) (by omega)) (fun t ht hl=>by simpa using h2 (t+1) (by omega) (by simpa using hl))
  unfold findM at ih ⊢
  rw [List.takeWhile_cons_of_pos (by simpa using h3),List.length_cons,ih]
def Rises (l:List Int):Prop:=∀ i j,i < j->j < l.length->l.getD i 0 < l.getD j 0
def zVUo (l:List Int) (x:Int):Bool:=decide (findM l x < l.length/\l.getD (findM l x) 0=x)
theorem zNvr {i j:Nat} {a b:Bool} (h1:i=j) (h2:a=b):Ending.returned (.tuple #[.int .i64 (i:Nat),.bool a])=.returned (.tuple #[.int .i64 (j:Nat),.bool b]):=by rw [h1,h2]
set_option maxRecDepth 100000 in
set_option maxHeartbeats 800000 in
theorem zpf1 (A:Option Addr) (c:Nat) (l:List Int) (x:Int) (w:World) (hr:Rises l) (hl:l.length<=1000000000) (hcell:∀ k x,l[k]?=some x->∃ g off,A=some ⟨g,off,none⟩/\w.cell? ⟨g,off+k,none⟩=some (.int .i64 x)) :
  Calls Try.prog 57 #[.slice A l.length c,.int .i64 x] w fun e w'=>e=.returned (.tuple #[.int .i64 (findM l x:Nat),.bool (zVUo l x)])/\w=w':=by
 have C:=qh (show ∀ k,k < l.length->∃ g off,A=some ⟨g,off,none⟩/\w.cell? ⟨g,off+k,none⟩=some (.int .i64 (l.getD k 0)) from fun k hk=>by
  refine hcell k _ ?_
  rw [List.getD_eq_getElem?_getD,List.getElem?_eq_getElem hk]
  rfl)
 have S:=qh hr
 obtain ⟨n,hn⟩:∃ n,n=l.length:=⟨_,rfl⟩
 rw [<- hn] at C hl ⊢
 have N:=qh hn
 clear hr hcell hn
 go_enter Try.func57,Try.ntmps57
 go_wp2
 go_loopg [7,8] n (fun g i j wr=>∃ lo hi:Nat,i=.int .i64 lo/\j=.int .i64 hi/\lo<=hi/\hi<=n/\hi - lo<=g/\w=wr/\(∀ t,t < lo->l.getD t 0 < x)/\(∀ t,hi<=t->t < n->x<=l.getD t 0))
 case atStart=>exact ⟨0,n,rfl,rfl,Nat.zero_le _,Nat.le_refl _,Nat.le_refl _,rfl,fun t ht=>absurd ht (by omega),fun t h1 h2=>absurd h1 (by omega)⟩
 case round=>
  obtain ⟨lo,hi,rfl,rfl,hlh,hin,hg,rfl,h1,h2⟩:=hrel
  have I:=qh (And.intro h1 h2)
  clear h1 h2
  by_cases hlt:lo < hi
  ·obtain ⟨g0,o0,hA,cm⟩:=C.out ((lo+hi) / 2) (by omega)
   subst hA
   obtain ⟨y,hy⟩:∃ y,y=l.getD ((lo+hi) / 2) 0:=⟨_,rfl⟩
   rw [<- hy] at cm
   have Y:=qh hy.symm
   clear hy
   by_cases hyx:y < x
   ·go_wp2_with (go_at_call 78;refine (zQUD _ _ _).mono ?_;rintro e w' ⟨rfl,rfl⟩)
    go_roundg (hi - ((lo+hi) / 2+1))
    case measure=>omega
    case rel=>
     refine ⟨(lo+hi) / 2+1,hi,by go_num,rfl,by omega,hin,Nat.le_refl _,rfl,fun t ht=>?_,I.out.2⟩
     rcases Nat.lt_or_ge t ((lo+hi) / 2) with h | h
     ·have:=S.out t ((lo+hi) / 2) h (by rw [<- N.out];omega)
      rw [Y.out] at this
      omega
     ·have:t=(lo+hi) / 2:=by omega
      rw [this,Y.out];exact hyx
   ·go_wp2_with (go_at_call 78;refine (zQUD _ _ _).mono ?_;rintro e w' ⟨rfl,rfl⟩)
    go_roundg ((lo+hi) / 2 - lo)
    case measure=>omega
    case rel=>
     refine ⟨lo,(lo+hi) / 2,rfl,by go_num,by omega,by omega,Nat.le_refl _,rfl,I.out.1,fun t ht htn=>?_⟩
     rcases Nat.lt_or_ge ((lo+hi) / 2) t with h | h
     ·have:=S.out ((lo+hi) / 2) t h (by rw [<- N.out];omega)
      rw [Y.out] at this
      omega
     ·have:t=(lo+hi) / 2:=by omega
      rw [this,Y.out];omega
  ·have:hi=lo:=by omega
   subst this
   have hf:=zhop l x hi (by rw [<- N.out];omega) I.out.1 (fun t h3 h4=>I.out.2 t h3 (by rw [N.out];exact h4))
   have E:=qh hf
   have EF:=qh (show zVUo l x=decide (hi < n/\l.getD hi 0=x) from by unfold zVUo;rw [hf,N.out])
   clear hf
   by_cases hn:hi < n
   ·obtain ⟨g0,o0,hA,cm⟩:=C.out hi hn
    subst hA
    obtain ⟨y,hy⟩:∃ y,y=l.getD hi 0:=⟨_,rfl⟩
    rw [<- hy] at cm EF
    clear hy
    by_cases hyx:y=x
    ·subst hyx
     go_wp2_with (go_at_call 79;refine (zHx6 _ _).mono ?_;rintro e w' ⟨rfl,rfl⟩)
     go_ret2
     exact ⟨zNvr E.out.symm (EF.out.trans (decide_eq_true (⟨hn,by trivial⟩:_/\_))).symm,rfl⟩
    ·have hyb:(y == x)=false:=by simpa using hyx
     go_wp2_with (go_at_call 79;refine (zHx6 _ _).mono ?_;rintro e w' ⟨rfl,rfl⟩)
     go_ret2
     exact ⟨zNvr E.out.symm (EF.out.trans (decide_eq_false (show ¬ (hi < n/\y=x) from fun h=>hyx h.2))).symm,rfl⟩
   ·go_wp2_with (go_at_call 79;refine (zHx6 _ _).mono ?_;rintro e w' ⟨rfl,rfl⟩)
    go_ret2
    exact ⟨zNvr E.out.symm (EF.out.trans (decide_eq_false (show ¬ (hi < n/\l.getD hi 0=x) from fun h=>hn h.1))).symm,rfl⟩
theorem zvCL (D:DevM) (F C:Int) (n:Nat) (hC:4<=C) (hl:∀ k,(D.latest k).length=512):∀ (f:Nat) (a:Int) (l:Bytes),n < f+l.length->(zXvy D F C n f a l).2=0->(zXvy D F C n f a l).1.length=n:=by
 intro f
 induction f with
 | zero=>intro a l h _;show (l.take n).length=n;rw [List.length_take];omega
 | succ f ih=>
  intro a l h h2
  unfold zXvy at h2 ⊢
  by_cases hn:n<=l.length
  ·rw [if_pos hn];show (l.take n).length=n;rw [List.length_take];omega
  ·rw [if_neg hn] at h2 ⊢
   by_cases hm:D.mayE (secB F C a)≠0
   ·rw [if_pos hm] at h2
    exact absurd h2 hm
   ·rw [if_neg hm] at h2 ⊢
    refine ih _ _ ?_ h2
    have h3:=zW0U D F C a (hl _) hC
    have h4:=zjuj (a:=a)
    rw [List.length_append,List.length_drop,h3]
    omega
structure LogB (L:LogM):Prop where
 fe:L.fin=L.beg+L.tail.length
 b0:1<=L.beg
 bs:L.beg<=3000000000000000000
structure LogR (L:LogM):Prop where
 ri:Rises L.lsns
 n1:∀ k,k < L.lsns.length->1<=L.lsns.getD k 0
 nx:∀ k,k+1 < L.lsns.length->L.lsns.getD (k+1) 0 - L.lsns.getD k 0<=10000/\L.lsns.getD (k+1) 0<=L.fin
 nl:∀ k,k+1=L.lsns.length->L.lsns.getD k 0<=L.fin/\L.fin - L.lsns.getD k 0<=10000
 ll:L.lsns.length<=1000000000
theorem OwnV.capM {w:World} {base:Nat} {A:Option Addr} {n c:Nat} {l:Bytes} (h:OwnV w base (.slice A n c) l):c<=9223372036854775807:=by
 rcases h.form with ⟨h1,rfl⟩ | ⟨g,cap,h1,h2⟩
 ·cases h1;decide
 ·cases h1
  obtain ⟨cur,_,_,_,h6,_⟩:=h2.form
  exact h6
def LogM.trim (L:LogM) (lsn:Int):LogM×Int:=
 if (zVUo L.lsns lsn=false/\lsn≠L.fin)\/L.safe < lsn then (L,2) else ({ L with oldest:=lsn,lsns:=L.lsns.drop (findM L.lsns lsn) },0)
theorem zS1Y (w:World):(sizeOf ((Try.prog).elem 102)).run Try.prog w=.ok 1 w:=by
 have h:((Try.prog).info? ((Try.prog).elem 102)).map (·.size)=some 1:=by kernel_rfl
 cases hq:(Try.prog).info? ((Try.prog).elem 102) with
 | none=>simp [hq] at h
 | some i=>
  have h1:i.size=1:=by simpa [hq] using h
  simp [sizeOf,typeInfo,hq,h1]
theorem z3Cg:(Try.prog).underlying 102=some (.slice ((Try.prog).elem 102)):=by kernel_rfl
theorem zJ3p {ev:Operand->Value} {o:Oper} (x z:Operand) (k:Nat) (ho:o.op=.slice 102 x (some z) none none) (A:Option Addr) (n c:Nat) (hI:Int) (hx:ev x=.slice A n c) (hz:ev z=.int .i64 hI) (e:hI=(k:Int)) (hk:k<=n) (w:World) :
  (execOp ev o).run Try.prog w=.ok (.value (.slice (slA A k c) (n - k) (c - k))) w:=by
 subst e
 have h:(Instr.slice 102 (.slice A n c) (some (.int .i64 k)) none none).run Try.prog w=.ok (.slice (slA A k c) (n - k) (c - k)) w:=by
  rw [run_slice_l w 102 A n c z3Cg .i64 (k:Int) (by omega) (by omega),zS1Y]
  rfl
 simp only [execOp,ho,hx,hz,Option.map,Sem.run_bind,run_sliceAt_slice w 102 _ _ _ _ z3Cg,h,Result.andThen]
 rfl
theorem zgGZ {A:Option Addr} {k c n m c':Nat}:(Value.slice (slA A k c) n c').ownBlock=(Value.slice A m c).ownBlock:=by
 unfold slA
 split
 ·cases A<;>rfl
 ·cases A with
  | none=>rfl
  | some a=>
   show some (a.add (k*1)).block=some a.block
   unfold Addr.add
   split<;>rfl
theorem LsV.drop {w:World} {base:Nat} {A:Option Addr} {n c:Nat} {l:List Int} (h:LsV w base (.slice A n c) l) (k:Nat) (hk:k<=n):LsV w base (.slice (slA A k c) (n - k) (c - k)) (l.drop k):=by
 rcases h with ⟨h1,rfl⟩ | ⟨g,off,c',cur,h1,h2,h3,h4,h5,h6,h7⟩
 ·cases h1
  have:k=0:=by omega
  subst this
  exact .inl ⟨rfl,rfl⟩
 ·cases h1
  unfold slA
  by_cases hck:c=k
  ·rw [if_pos hck]
   refine .inr ⟨g,off,c - k,cur,by rw [List.length_drop],h2,h3,by rw [List.length_drop];omega,by omega,by omega,fun j x hx=>?_⟩
   rw [List.getElem?_eq_none (by rw [List.length_drop];omega)] at hx
   cases hx
  ·rw [if_neg hck]
   refine .inr ⟨g,off+k,c - k,cur,?_,h2,h3,by rw [List.length_drop];omega,by omega,by omega,fun j x hx=>?_⟩
   ·rw [List.length_drop,Nat.mul_one]
    show Value.slice (some ((⟨g,off,none⟩:Addr).add k)) _ _=_
    rw [Addr.add_mid]
   ·rw [List.getElem?_drop] at hx
    rw [Nat.add_assoc]
    exact h7 _ x hx
def zns1 (w:World) (q p ms mo:Nat) (lv tv:Value) (_L:LogM) (D:DevM) (x:LogM×Int) (e:Ending) (w':World):Prop:=e=.returned (.int .i64 x.2) /\
 ∃ lv',LogS w' q p ms mo lv' tv x.1 D/\Kept (fun x=>x=q) w w'/\lv'.ownBlock=lv.ownBlock
set_option maxRecDepth 100000 in
set_option maxHeartbeats 1600000 in
theorem zV6y (w:World) (q p ms mo:Nat) (lv tv:Value) (L:LogM) (D:DevM) (h:LogS w q p ms mo lv tv L D) (hri:Rises L.lsns) (hll:L.lsns.length<=1000000000) (lsn:Int) :
  Calls Try.prog 61 #[.pointer (some ⟨q,0,none⟩),.int .i64 lsn] w (zns1 w q p ms mo lv tv L D (L.trim lsn)):=by
 obtain ⟨Al,nl,cl,hlv,hnl⟩:=h.hl.form3
 subst hlv
 obtain ⟨k,hk⟩:∃ k,k=findM L.lsns lsn:=⟨_,rfl⟩
 have HBS:=qh (show Calls Try.prog 57 #[.slice Al nl cl,.int .i64 lsn] w fun e w'=>e=.returned (.tuple #[.int .i64 (k:Nat),.bool (zVUo L.lsns lsn)])/\w=w' from by
  obtain ⟨A,c,h1,h2,h3,h4⟩:=h.hl.slice
  cases h1
  rw [hk]
  exact zpf1 _ _ _ _ _ hri hll h4)
 have hkl:k<=nl:=by
  rw [hk,hnl]
  unfold findM
  exact (List.takeWhile_sublist _).length_le
 obtain ⟨X,hX⟩:∃ X,X=L.trim lsn:=⟨_,rfl⟩
 have hv:X=if (zVUo L.lsns lsn=false/\lsn≠L.fin)\/L.safe < lsn then (L,2) else ({ L with oldest:=lsn,lsns:=L.lsns.drop k },0):=by rw [hX,hk];rfl
 rw [<- hX]
 have HV:=qh hv
 have HTH:=qh (zATj w q p _ tv L h.hq)
 have c7:w.cell? ⟨q,7,none⟩=some (.slice Al nl cl):=zcjX h.hq rfl
 have c5:w.cell? ⟨q,5,none⟩=some (.int .i64 L.fin):=zcjX h.hq rfl
 have c6:w.cell? ⟨q,6,none⟩=some (.int .i64 L.safe):=zcjX h.hq rfl
 have H:=qh h
 obtain ⟨FI,hFI⟩:∃ FI,FI=L.fin:=⟨_,rfl⟩
 obtain ⟨SA,hSA⟩:∃ SA,SA=L.safe:=⟨_,rfl⟩
 obtain ⟨FO,hFO⟩:∃ FO,FO=zVUo L.lsns lsn:=⟨_,rfl⟩
 rw [<- hFI] at c5 HV
 rw [<- hSA] at c6 HV
 rw [<- hFO] at HBS HV
 have hk9:k<=1000000000:=by omega
 have HFI:=qh hFI
 have HSA:=qh hSA
 clear h hk hnl hX hv hri hll hFI hSA hFO
 by_cases hbad:(FO=false/\lsn≠FI)\/SA < lsn
 ·have hx:X=(L,2):=by rw [HV.out,if_pos hbad]
  have HX:=qh hx
  clear hx HV
  go_enter Try.func61,Try.ntmps61
  go_wp2_with fail
  refine HTH.out.mono ?_
  rintro e wx ⟨rfl,rfl⟩
  go_wp2_with fail
  refine HBS.out.mono ?_
  rintro e wx ⟨rfl,rfl⟩
  by_cases h1:FO=false
  ·subst h1
   by_cases h2:lsn=FI
   ·have h2b:(lsn != FI)=false:=by rw [h2];simp
    have h3:SA < lsn:=by rcases hbad with ⟨_,h⟩ | h;exact absurd h2 h;exact h
    clear hbad h2
    go_wp2
    go_ret
    unfold zns1
    rw [HX.out]
    exact ⟨rfl,_,H.out,Kept.refl _ _,rfl⟩
   ·have h2b:(lsn != FI)=true:=by simpa using h2
    clear hbad h2
    go_wp2
    go_ret
    unfold zns1
    rw [HX.out]
    exact ⟨rfl,_,H.out,Kept.refl _ _,rfl⟩
  ·have h1':FO=true:=by
    rcases Bool.eq_false_or_eq_true FO with h | h
    ·exact h
    ·exact absurd h h1
   subst h1'
   have h3:SA < lsn:=by rcases hbad with ⟨h,_⟩ | h;cases h;exact h
   clear hbad h1
   go_wp2
   go_ret
   unfold zns1
   rw [HX.out]
   exact ⟨rfl,_,H.out,Kept.refl _ _,rfl⟩
 ·have hx:X=({ L with oldest:=lsn,lsns:=L.lsns.drop k },0):=(HV.out.trans (if_neg hbad)).trans (by rw [HFI.out,HSA.out])
  have HX:=qh hx
  have h3:¬ SA < lsn:=fun h=>hbad (.inr h)
  have h2:FO=true\/(FO=false/\lsn=FI):=by
   rcases Bool.eq_false_or_eq_true FO with h | h
   ·exact .inl h
   ·exact .inr ⟨h,Decidable.byContradiction (fun hn=>hbad (.inl ⟨h,hn⟩))⟩
  clear hx HV hbad
  have HFB:=qh h2
  have hb1:FO=false->(lsn != FI)=false:=fun h=>by
   rcases h2 with h2 | ⟨_,h2⟩
   ·rw [h] at h2;cases h2
   ·rw [h2];simp
  clear h2
  go_enter Try.func61,Try.ntmps61
  go_wp2_with fail
  refine HTH.out.mono ?_
  rintro e wx ⟨rfl,rfl⟩
  go_wp2_with fail
  refine HBS.out.mono ?_
  rintro e wx ⟨rfl,rfl⟩
  go_upto_region 4 with fail
  go_cut [36] from 19 to 36 (fun v wx=>v=.bool false/\w=wx)
  case first=>
   cases FO
   ·have hb2:=hb1 rfl
    clear hb1
    go_wp2
    go_meet
    case rel=>exact ⟨by rw [decide_eq_false (by omega:¬ SA < lsn)],rfl⟩
   ·clear hb1
    go_wp2
    go_meet
    case rel=>exact ⟨by rw [decide_eq_false (by omega:¬ SA < lsn)],rfl⟩
  case rest=>
   obtain ⟨rfl,rfl⟩:=hcut
   have HQ:=Lib.hid H.out.hq
   have HQd:=qh (show LogQ w.drew q p (.slice Al nl cl) tv L from H.out.hq)
   go_wp2_with fail
   refine znCh 14 (fun w'=>LogQ w' q p (.slice Al nl cl) tv L\/LogQ w' q p (.slice Al nl cl) tv { L with oldest:=lsn }) (by kernel_rfl) (.inl HQd.out) (fun hH=>?_)
   simp only [List.length_cons,List.length_nil,List.replicate]
   refine tK 0 ?_ (fun w' hw'=>?_) hH ?_
   rotate_left
   ·have c7:w'.cell? ⟨q,7,none⟩=some (.slice Al nl cl):=(by rcases hw' with h | h;exact zcjX h rfl;exact zcjX h rfl)
    go_simp<;>with_reducible rfl
   simp only [Act.put,oZa,oZb,oZc]
   refine tK 1 ?_ (fun w' hw'=>?_) hH ?_
   rotate_left
   ·have c7:w'.cell? ⟨q,7,none⟩=some (.slice Al nl cl):=(by rcases hw' with h | h;exact zcjX h rfl;exact zcjX h rfl)
    go_simp<;>with_reducible rfl
   simp only [Act.put,oZa,oZb,oZc]
   refine tK 2 ?_ (fun w' hw'=>?_) hH ?_
   rotate_left
   ·have c7:w'.cell? ⟨q,7,none⟩=some (.slice Al nl cl):=(by rcases hw' with h | h;exact zcjX h rfl;exact zcjX h rfl)
    go_simp<;>with_reducible rfl
   simp only [Act.put,oZa,oZb,oZc]
   refine tK 3 ?_ (fun w' hw'=>?_) hH ?_
   rotate_left
   ·have c7:w'.cell? ⟨q,7,none⟩=some (.slice Al nl cl):=(by rcases hw' with h | h;exact zcjX h rfl;exact zcjX h rfl)
    go_simp<;>with_reducible rfl
   simp only [Act.put,oZa,oZb,oZc]
   refine tK 4 ?_ (fun w' hw'=>?_) hH ?_
   rotate_left
   ·have c7:w'.cell? ⟨q,7,none⟩=some (.slice Al nl cl):=(by rcases hw' with h | h;exact zcjX h rfl;exact zcjX h rfl)
    go_simp<;>with_reducible rfl
   simp only [Act.put,oZa,oZb,oZc]
   refine tK 5 ?_ (fun w' hw'=>?_) hH ?_
   rotate_left
   ·have c7:w'.cell? ⟨q,7,none⟩=some (.slice Al nl cl):=(by rcases hw' with h | h;exact zcjX h rfl;exact zcjX h rfl)
    go_simp<;>with_reducible rfl
   simp only [Act.put,oZa,oZb,oZc]
   refine tK 6 ?_ (fun w' hw'=>?_) hH ?_
   rotate_left
   ·have c7:w'.cell? ⟨q,7,none⟩=some (.slice Al nl cl):=(by rcases hw' with h | h;exact zcjX h rfl;exact zcjX h rfl)
    go_simp<;>with_reducible rfl
   simp only [Act.put,oZa,oZb,oZc]
   refine tK 7 ?_ (fun w' hw'=>?_) hH ?_
   rotate_left
   ·have c7:w'.cell? ⟨q,7,none⟩=some (.slice Al nl cl):=(by rcases hw' with h | h;exact zcjX h rfl;exact zcjX h rfl)
    go_simp<;>with_reducible rfl
   simp only [Act.put,oZa,oZb,oZc]
   refine takeL 8 (.slice (slA Al k cl) (nl - k) (cl - k)) rfl (by kernel_rfl) (fun _ _ _ h=>h) (by rfl) (fun w' _=>zJ3p _ _ k rfl Al nl cl _ rfl rfl rfl hkl w') hH ?_
   simp only [Act.put,oZa,oZb,oZc]
   refine stepL 9 rfl (by kernel_rfl) (fun K hK=>?_)
   go_simp
   refine hK.out _ _ (fun _=>hH) (fun _=>?_)
   simp only [oZa,oZb,oZc]
   clear hK K
   refine stepL 10 rfl (by kernel_rfl) (fun K hK=>?_)
   go_simp
   refine hK.out _ _ (fun _=>hH) (fun _=>?_)
   simp only [oZa,oZb,oZc]
   clear hK K
   refine stepL 11 rfl (by kernel_rfl) (fun K hK=>?_)
   refine zRRc rfl 2 _ _ (by rfl) q 4 (.int .i64 lsn) (logC p (.slice Al nl cl) tv L) (by rfl) (by rfl) HQd.out (by kernel_rfl) (by show 4 < 10;decide) rfl ?_
   intro w2 hb2 hk2
   have HQ2:=qh (show LogQ w2 q p (.slice Al nl cl) tv { L with oldest:=lsn } from hb2)
   have HK2:=qh (((Kept.refl (fun x=>x=q) w).drew).trans' hk2)
   clear hb2 hk2 hH
   refine hK.out _ _ (fun _=>.inr HQ2.out) (fun hH=>?_)
   simp only [Act.put,oZa,oZb,oZc]
   clear hK K
   refine stepL 12 rfl (by kernel_rfl) (fun K hK=>?_)
   go_simp
   refine hK.out _ _ (fun _=>.inr HQ2.out) (fun hH=>?_)
   simp only [oZa,oZb,oZc]
   clear hK K
   refine stepL 13 rfl (by kernel_rfl) (fun K hK=>?_)
   go_simp
   refine hK.out _ _ (fun _=>.inr HQ2.out) (fun hH=>?_)
   simp only [oZa,oZb,oZc]
   clear hK K
   refine stepL 14 rfl (by kernel_rfl) (fun K hK=>?_)
   refine zRRc rfl 102 _ _ (by rfl) q 7 (.slice (slA Al k cl) (nl - k) (cl - k)) (logC p (.slice Al nl cl) tv { L with oldest:=lsn }) (by rfl) (by rfl) HQ2.out (by kernel_rfl) (by show 7 < 10;decide) rfl ?_
   intro w3 hb3 hk3
   have HQ3:=qh (show LogQ w3 q p (.slice (slA Al k cl) (nl - k) (cl - k)) tv { L with oldest:=lsn,lsns:=L.lsns.drop k } from hb3)
   have HK3:=qh (HK2.out.trans' hk3)
   clear hb3 hk3
   refine hK.out _ _ (fun h=>absurd rfl h) (fun _=>?_)
   simp only [Act.put,oZa,oZb,oZc]
   clear hK K hH
   refine doneL (by kernel_rfl) ?_ _
   go_wp2
   go_ret
   unfold zns1
   rw [HX.out]
   have hob:(Value.slice (slA Al k cl) (nl - k) (cl - k)).ownBlock=(Value.slice Al nl cl).ownBlock:=zgGZ
   refine ⟨rfl,_,⟨H.out.dev.keep HK3.out H.out.nq.1 H.out.nq.2.1 H.out.nq.2.2,HQ3.out,(H.out.hl.drop k hkl).keep HK3.out (fun x hx=>(H.out.nl x (hob▸hx)).1),H.out.ht.keep HK3.out (fun x hx=>(H.out.nt x hx).1),H.out.nq,fun x hx=>H.out.nl x (hob▸hx),H.out.nt⟩,HK3.out,hob⟩
end Go.Proofs.Ytnbfhdgojmflhaa
