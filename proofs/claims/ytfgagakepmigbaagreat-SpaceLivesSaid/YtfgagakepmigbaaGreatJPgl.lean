/-
  No statement is proved here.
-/
import Derived.Test.YtfgagakepmigbaaGreatProg
import Derived.Test.YtfgagakepmigbaaGreatJBase
import Derived.StillTailTactics
import Derived.Deep.QuietTactic
import Derived.BigQuiet
import Derived.Laws.OwnMore
import Derived.Lib.SliceRun
namespace Go.Proofs.YtfgagakepmigbaaGreat
open Go.RowKit
abbrev Bytes:=List UInt8
def cellsOf (l:Bytes):Array Value:=(l.map fun b=>Value.int .u8 b.toNat).toArray
def blk (l:Bytes):Value:=.agg (cellsOf l)
def zeros (n:Nat):Bytes:=List.replicate n 0
theorem z54R (l:Bytes):(cellsOf l).size=l.length:=by simp [cellsOf]
theorem zZ84 (l:Bytes):(cellsOf l).all (·.oneCell')=true:=by
 rw [Array.all_eq_true_iff_forall_mem]
 intro v hv
 simp [cellsOf] at hv
 obtain ⟨b,_,rfl⟩:=hv
 rfl
theorem zguE (n:Nat):(zeros n).length=n:=by simp [zeros]
section
variable {w:World}
theorem info5:(Tryz.prog.info? 5).map (fun i=>(i.zero,i.size,i.bytes))=some (some (.int .u8 0),1,1):=by kernel_rfl
def OwnB (w:World) (base g cap:Nat) (l:Bytes):Prop:=w.ownsRow base 5 1 (.slice (some ⟨g,0,none⟩) l.length cap) l.length (cellsOf l).toList
theorem zw4F (l:Bytes):(cellsOf l).toList=l.map fun b=>Value.int .u8 b.toNat:=by simp [cellsOf]
theorem z2D0 (l:Bytes) (i:Nat):(cellsOf l)[i]?=l[i]?.map fun b=>Value.int .u8 b.toNat:=by simp [cellsOf]
theorem z6VZ (l:Bytes):(cellsOf l).toList.length=l.length:=by simp [cellsOf]
theorem OwnB.form {base g cap:Nat} {l:Bytes} (h:OwnB w base g cap l):∃ cur,base<=g/\w.heap[g]?=some (.cells cur 5 (0,0))/\l.length<=cap/\cap<=maxLen/\cur.size=cap/\cur.toList.take l.length=(cellsOf l).toList:=by
 obtain ⟨_,h⟩:=h
 rcases h with ⟨h,_⟩ | ⟨g',cap',cur,hv,hb,hh,h1,h2,h3,h4⟩
 ·cases h
 ·injection hv with e1 e2 e3
  injection e1 with e1
  injection e1 with e1
  subst e1;subst e3
  exact ⟨cur,hb,hh,h1,h2,by simpa using h3,by simpa using h4⟩
theorem zJNy (w:World):(zeroValue 5).run Tryz.prog w=.ok (.int .u8 0) w:=by
 obtain ⟨i,h1,h2,_,_⟩:=info_parts info5
 simp [zeroValue,typeInfo,h1,h2]
end
def RdB (w:World) (A:Option Addr) (l:Bytes):Prop:=l≠[]->∃ b off,A=some ⟨b,off,none⟩/\∀ j v,(cellsOf l)[j]?=some v->w.cell? ⟨b,off+j,none⟩=some v
def bAt (l:Bytes) (k:Nat):UInt8:=l.getD k 0
theorem zWfp {l:Bytes} {k:Nat} (h:k < l.length):bAt l k=l[k]:=by
 unfold bAt;rw [List.getD_eq_getElem?_getD,List.getElem?_eq_getElem h];rfl
theorem zNgY {l:Bytes} {k:Nat} (h:k < l.length):(cellsOf l)[k]?=some (.int .u8 (bAt l k).toNat):=by
 rw [z2D0,List.getElem?_eq_getElem h,zWfp h];rfl
theorem RdB.cell {w:World} {A:Option Addr} {l:Bytes} (h:RdB w A l) {k:Nat} (hk:k < l.length):∃ b off,A=some ⟨b,off,none⟩/\w.cell? ⟨b,off+k,none⟩=some (.int .u8 (bAt l k).toNat):=by
 obtain ⟨b,off,e,hc⟩:=h (by intro e;simp [e] at hk)
 exact ⟨b,off,e,hc k _ (zNgY hk)⟩
theorem RdB.kept {S:Nat->Prop} {w w':World} {A:Option Addr} {l:Bytes} (h:RdB w A l) (hk:Kept S w w') (hS:∀ b off,A=some ⟨b,off,none⟩->b < w.heap.size->¬ S b):RdB w' A l:=by
 intro hl
 obtain ⟨b,off,e,hc⟩:=h hl
 refine ⟨b,off,e,fun j v hv=>?_⟩
 have h1:=hc j v hv
 have lb:=block_lt_of_cell h1
 exact (World.cell?_of_block (hk.block b lb (hS b off e lb))).trans h1
theorem zPbH {l l':Bytes} {k:Nat} (h:k < l.length) (h':k < l'.length) (he:l.take k=l'.take k) (e:bAt l k=bAt l' k):l.take (k+1)=l'.take (k+1):=by
 rw [List.take_succ_eq_append_getElem h,List.take_succ_eq_append_getElem h',he]
 rw [zWfp h,zWfp h'] at e
 rw [e]
theorem zBUG (l:Bytes) (i:Nat) (x:UInt8):(cellsOf l).setIfInBounds i (.int .u8 x.toNat)=cellsOf (l.set i x):=by
 apply Array.ext_getElem?
 intro j
 rw [Array.getElem?_setIfInBounds,z2D0,z2D0,z54R,List.getElem?_set]
 by_cases h:i=j
 ·subst h
  by_cases h2:i < l.length<;>simp [h2]
 ·simp [h]
theorem zMBr (n:Nat):madeCells #[Value.int .u8 0] n=cellsOf (zeros n):=by
 apply Array.toList_inj.1
 rw [toList_madeCells_one,zw4F]
 simp [zeros]
theorem ztfv {ops:Array Oper} {Q:Exit->Act->World->Prop} {a:Act} {w:World} {rest:List Oper} {o:Oper} (hg:o.guard=none) (l c:Operand) (ho:o.op=.makeSlice 47 l c)
  (kl kc:IntKind) (n m:Nat) (hl:a.eval l=.int kl n) (hc:a.eval c=.int kc m) (hnm:n<=m) (hm:m<=281474976710656)
  (k:∀ g w',w.heap.size<=g->g < w'.heap.size->w'.heap[g]?=some (.cells (cellsOf (zeros m)) 5 (0,0))->Kept (fun _=>False) w w'->wpList Tryz.prog ops Q rest (a.put o.dst (.slice (some ⟨g,0,none⟩) n m)) w'):wpList Tryz.prog ops Q (o :: rest) a w:=by
 obtain ⟨i,hi,h2,h3,h4⟩:=info_parts info5
 have hr:=run_make (P:=Tryz.prog) w 47 5 i _ Tryz.underlying47 hi h2 kl kc (n:Int) (m:Int) (by omega) (by omega) (by rw [h4];omega) (by omega)
 simp only [Int.toNat_natCast,h3,Nat.mul_one] at hr
 rw [show (Value.int IntKind.u8 0).cells=#[Value.int .u8 0] from rfl,zMBr] at hr
 refine z3Ho hg (v:=.slice (some ⟨w.heap.size,0,none⟩) n m) (w':=w.alloc (.cells (cellsOf (zeros m)) 5)) ?_ (k w.heap.size _ (Nat.le_refl _) (by simp) (heap_alloc_new w _) ((Kept.refl _ w).alloc _))
 simp [execOp,ho,hl,hc,hr,Result.andThen]
theorem RdB.of_blk {w:World} {g:Nat} {l:Bytes} {t:TypeId} {fr:Nat×Nat} (h:w.heap[g]?=some (.cells (cellsOf l) t fr)):RdB w (some ⟨g,0,none⟩) l:=
 fun _=>⟨g,0,rfl,fun j v hv=>zcjX h (by simpa using hv)⟩
theorem OwnB.cellAt {w:World} {base g cap:Nat} {l:Bytes} (h:OwnB w base g cap l) {i:Nat} (hi:i < l.length):w.cell? ⟨g,i,none⟩=some (.int .u8 (bAt l i).toNat):=by
 obtain ⟨cur,_,hh,_,_,_,ht⟩:=h.form
 refine zcjX hh ?_
 have e1:(cellsOf l).toList[i]?=some (.int .u8 (bAt l i).toNat):=by rw [Array.getElem?_toList];exact zNgY hi
 rw [<- ht,List.getElem?_take,if_pos hi,Array.getElem?_toList] at e1
 exact e1
def pickM (x n:Int):Int:=if n < 1 then 0 else x % n
theorem z1m9 {x n:Int} (h:1<=n):0<=pickM x n/\pickM x n < n:=by
 unfold pickM;rw [if_neg (by omega)]
 exact ⟨Int.emod_nonneg _ (by omega),Int.emod_lt_of_pos _ (by omega)⟩
theorem zkAP (x n:Int) (hn:n<=9223372036854775807) (w:World) :
  Calls Tryz.prog 21 #[.int .i64 x,.int .i64 n] w fun e w'=>e=.returned (.int .i64 (pickM x n))/\w=w':=by
 by_cases h:n < 1
 ·have e:pickM x n=0:=by simp [pickM,h]
  rw [e]
  clear e
  go_enter Tryz.func21,Tryz.ntmps21
  go_wp2
  go_ret
  exact ⟨rfl,rfl⟩
 ·have e:pickM x n=x % n:=by simp [pickM,h]
  rw [e]
  have t1:x.tmod n < n:=Int.tmod_lt_of_pos x (by omega)
  have t2 : -n < x.tmod n:=by
   have:=Int.tmod_lt_of_pos (-x) (b:=n) (by omega)
   rw [Int.neg_tmod] at this
   omega
  have t3:=qh (Int.tmod_eq_emod (a:=x) (b:=n))
  have t4:=Int.emod_nonneg x (show n≠0 by omega)
  have t5:=Int.emod_lt_of_pos x (show 0 < n by omega)
  clear e
  go_enter Tryz.func21,Tryz.ntmps21
  go_wp2
  ·go_ret
   refine ⟨?_,rfl⟩
   have h3:=t3.out
   split at h3
   ·exfalso;omega
   ·exact z3Qb (by omega)
  ·go_ret
   refine ⟨?_,rfl⟩
   have h3:=t3.out
   split at h3
   ·exact z3Qb (by omega)
   ·exact z3Qb (by omega)
set_option maxHeartbeats 400000 in
theorem ziyj (A A':Option Addr) (c c':Nat) (l l':Bytes) (w:World) (h:RdB w A l) (h':RdB w A' l') (hl:l.length<=4611686018427387904) :
  Calls Tryz.prog 24 #[.slice A l.length c,.slice A' l'.length c'] w fun e w'=>e=.returned (.bool (decide (l=l')))/\Same w w':=by
 by_cases hn:l.length=l'.length
 ·have H:=qh h;have H':=qh h'
  have HN:=qh hn
  have hne:((l.length:Int) != (l'.length:Int))=false:=by simp [hn]
  clear h h' hn
  go_enter Tryz.func24,Tryz.ntmps24
  go_wp2
  go_loopw [5] (fun i wr=>∃ k:Nat,k<=l.length/\i=.int .i64 k/\l.take k=l'.take k/\Same w wr) (fun i _=>l.length - (intOf i).toNat)
  case atStart=>exact ⟨0,Nat.zero_le _,rfl,by simp,Same.refl _⟩
  case round=>
   obtain ⟨k,hk,rfl,htk,q,rfl⟩:=hrel
   have HT:=qh htk
   clear htk
   by_cases hlt:k < l.length
   ·have hlt':k < l'.length:=by rw [<- HN.out];exact hlt
    obtain ⟨b,off,hA,hc⟩:=H.out.cell hlt
    obtain ⟨b',off',hA',hc'⟩:=H'.out.cell hlt'
    subst hA;subst hA'
    have i0:(0:Int)<=(k:Int):=by omega
    have i1:(k:Int) < (l.length:Int):=by omega
    have i2:(k:Int) < (l'.length:Int):=by omega
    by_cases he:bAt l k=bAt l' k
    ·have HS:=qh (zPbH hlt hlt' HT.out he)
     have hb:(((bAt l k).toNat:Int) != ((bAt l' k).toNat:Int))=false:=by simp [he]
     clear he
     go_wp2
     go_quiet (fail)
     go_wp2
     go_roundw
     case rel=>exact ⟨k+1,by omega,by go_num,HS.out,_,rfl⟩
     case measure=>simp [intOf];omega
    ·have hd:decide (l=l')=false:=by
      rw [decide_eq_false_iff_not];rintro rfl;exact he rfl
     have HD:=qh hd
     have hb:(((bAt l k).toNat:Int) != ((bAt l' k).toNat:Int))=true:=by
      rw [bne_iff_ne];intro e;exact he (UInt8.toNat_inj.1 (by omega))
     clear he hd
     go_wp2
     go_quiet (fail)
     go_wp2
     go_ret
     exact ⟨zwwH HD.out.symm,(Same.refl _).drewN _ |>.trans (by first | exact Same.refl _ | exact ⟨_,rfl⟩)⟩
   ·have hd:decide (l=l')=true:=by
     rw [decide_eq_true_eq]
     have:=HT.out
     rwa [List.take_of_length_le (by omega),List.take_of_length_le (by have:=HN.out;omega)] at this
    have HD:=qh hd
    have hge:¬ ((k:Int) < (l.length:Int)):=by omega
    clear hd
    go_wp2
    go_ret
    exact ⟨zwwH HD.out.symm,(Same.refl _).drewN _ |>.trans (by first | exact Same.refl _ | exact ⟨_,rfl⟩)⟩
 ·have hd:decide (l=l')=false:=by rw [decide_eq_false_iff_not];rintro rfl;exact hn rfl
  rw [hd]
  have hne:((l.length:Int) != (l'.length:Int))=true:=by rw [bne_iff_ne];omega
  clear h h' hn hd
  go_enter Tryz.func24,Tryz.ntmps24
  go_wp2
  go_ret
  exact ⟨rfl,Same.refl _⟩
theorem zdRz (l m:Bytes):(cellsOf (l ++ m)).toList=(cellsOf l).toList ++ (cellsOf m).toList:=by simp [cellsOf]
theorem zkac {P:Program} {w:World} (base:Nat) (t ty e:TypeId) (i:TypeInfo) (size:Nat) (ht:P.underlying t=some (.slice e)) (hi:P.info? e=some i)
  (v:Value) (n:Nat) (xs:List Value) (hown:w.ownsRow base e size v n xs) (A:Option Addr) (c:Nat) :
  (Builtin.append_ #[t,t] ty #[v,.slice A 0 c]).run P w=.ok v w:=by
 rcases hown.2 with ⟨rfl,rfl⟩ | ⟨g,cap,cur,rfl,_,_,hnc,_⟩
 ·cases A<;>simp [Builtin.append_,run_underlying ht,sizeOf,typeInfo,hi,Builtin.lenOf,Builtin.firstCells,loadCells,loadCellsFrom]
 ·cases A<;>simp [Builtin.append_,run_underlying ht,sizeOf,typeInfo,hi,Builtin.lenOf,Builtin.firstCells,hnc,storeCells,loadCells,loadCellsFrom]
theorem OwnB.kept {w w':World} {base g cap:Nat} {l:Bytes} (h:OwnB w base g cap l) (hk:Kept (fun _=>False) w w'):OwnB w' base g cap l:=by
 obtain ⟨h0,h⟩:=h
 rcases h with ⟨h,h'⟩ | ⟨g',cap',cur,hv,hb,hh,h1,h2,h3,h4⟩
 ·cases h
 ·exact ⟨h0,.inr ⟨g',cap',cur,hv,hb,hk.heap hh id,h1,h2,h3,h4⟩⟩
theorem OwnB.keep {S:Nat->Prop} {w w':World} {base g cap:Nat} {l:Bytes} (h:OwnB w base g cap l) (hk:Kept S w w') (hn:¬ S g):OwnB w' base g cap l:=by
 obtain ⟨h0,h⟩:=h
 rcases h with ⟨h,h'⟩ | ⟨g',cap',cur,hv,hb,hh,h1,h2,h3,h4⟩
 ·cases h
 ·injection hv with e1 e2 e3
  injection e1 with e1
  injection e1 with e1
  subst e1
  exact ⟨h0,.inr ⟨g,cap',cur,by rw [e3],hb,hk.heap hh hn,h1,h2,h3,h4⟩⟩
theorem OwnB.base_le {w:World} {base g cap:Nat} {l:Bytes} (h:OwnB w base g cap l):base<=g:=by
 obtain ⟨_,h,_⟩:=h.form;exact h
theorem zbY4 {P:Program} {w:World} {ops:Array Oper} {rest:List Oper} {o:Oper} {a:Act} {Q:Exit->Act->World->Prop} (hgd:o.guard=none) (s x:Operand) (t:TypeId)
  (ho:o.op=.call { callee:=.builtin .append,args:=#[s,x],argTypes:=#[t,t] })
  (base:Nat) (e:TypeId) {z:Value} {size bytes:Nat} (ht:P.underlying t=some (.slice e)) (hinf:(P.info? e).map (fun i=>(i.zero,i.size,i.bytes))=some (some z,size,bytes))
  (v:Value) (n:Nat) (xs:List Value) (hs:a.eval s=v) (hown:w.ownsRow base e size v n xs) (A:Option Addr) (c:Nat) (hx:a.eval x=.slice A 0 c)
  (h:wpList P ops Q rest (a.put o.dst v) w):wpList P ops Q (o :: rest) a w:=by
 obtain ⟨i,hi,h2,h3,h4⟩:=info_parts hinf
 refine wpList_plain hgd fun K hK=>?_
 have hrun:=zkac (P:=P) (w:=w) base t o.type e i size ht hi v n xs hown A c
 unfold Oper.wp
 simp [execOp,ho,resolve,invoke,builtin,hs,hx,hrun,Result.andThen]
 exact hK _ _ h
theorem zlSl {w:World} {ops:Array Oper} {rest:List Oper} {o:Oper} {a:Act} {Q:Exit->Act->World->Prop} (hgd:o.guard=none) (s x:Operand)
  (ho:o.op=.call { callee:=.builtin .append,args:=#[s,x],argTypes:=#[47,47] }) (base g cap:Nat) (l m:Bytes) (hs:a.eval s=.slice (some ⟨g,0,none⟩) l.length cap) (hown:OwnB w base g cap l)
  (A:Option Addr) (c:Nat) (hx:a.eval x=.slice A m.length c) (hm:RdB w A m) (h63:l.length+m.length<=140737488355328) (hbase:base<=w.heap.size)
  (k:∀ g' cap' w',OwnB w' base g' cap' (l ++ m)->Kept (fun x=>x=g) w w'->(g'=g\/w.heap.size<=g')->g' < w'.heap.size->wpList Tryz.prog ops Q rest (a.put o.dst (.slice (some ⟨g',0,none⟩) (l.length+m.length) cap')) w'):wpList Tryz.prog ops Q (o :: rest) a w:=by
 by_cases h0:m=[]
 ·subst h0
  refine zbY4 hgd s x 47 ho base 5 Tryz.underlying47 info5 _ l.length _ hs hown A c hx ?_
  refine k g cap w (by simpa using hown) (Kept.refl _ _) (.inl rfl) ?_
  obtain ⟨cur,_,hh,_⟩:=hown.form
  exact zvKu hh
 ·obtain ⟨b,off,rfl,hc⟩:=hm h0
  have:0 < m.length:=List.length_pos_iff.2 h0
  have e63:maxLen=9223372036854775807:=rfl
  refine wl_append hgd s x 47 ho base 5 Tryz.underlying47 info5 rfl (by omega) _ l.length _ hs hown b off m.length c (cellsOf m).toList hx (by rw [z6VZ,Nat.mul_one]) (fun j u hu=>hc j u (by simpa using hu)) (fun u hu=>(Array.all_eq_true_iff_forall_mem.1 (zZ84 m)) u (by simpa using hu)) this (by omega) (by omega) hbase ?_
  intro g' cap' w' ho' hk' hat m'
  refine k g' cap' w' ?_ (hk'.mono (fun x _ e=>by simpa [Value.ownBlock,eq_comm] using e)) (hat.imp_left (fun e=>by simpa [Value.ownBlock,eq_comm] using e)) m'
  unfold OwnB
  rw [List.length_append,zdRz]
  exact ho'
theorem RdB.drop {w:World} {b off:Nat} {l:Bytes} (h:RdB w (some ⟨b,off,none⟩) l) (i:Nat):RdB w (some ⟨b,off+i,none⟩) (l.drop i):=by
 intro hne
 have hl:l≠[]:=by rintro rfl;simp at hne
 obtain ⟨b',off',e,hc⟩:=h hl
 cases e
 refine ⟨b,off+i,rfl,fun j u hu=>?_⟩
 rw [z2D0,List.getElem?_drop] at hu
 have:=hc (i+j) u (by rw [z2D0];exact hu)
 rw [Nat.add_assoc]
 exact this
theorem RdB.take {w:World} {A:Option Addr} {l:Bytes} (h:RdB w A l) (n:Nat):RdB w A (l.take n):=by
 intro hne
 obtain ⟨b,off,e,hc⟩:=h (by rintro rfl;simp at hne)
 refine ⟨b,off,e,fun j u hu=>hc j u ?_⟩
 rw [z2D0,List.getElem?_take] at hu
 split at hu
 ·rw [z2D0];exact hu
 ·simp at hu
set_option maxHeartbeats 400000 in
theorem zlgu (b off c:Nat) (l:Bytes) (w:World) (h:RdB w (some ⟨b,off,none⟩) l) (hl:l.length<=1000000) :
  Calls Tryz.prog 99 #[.slice (some ⟨b,off,none⟩) l.length c] w fun e w'=>∃ g cap,e=.returned (.slice (some ⟨g,0,none⟩) l.length cap)/\OwnB w' w.heap.size g cap l/\Kept (fun _=>False) w w':=by
 have q22:∀ (w:World) (a:Option Addr) (n c n' c':Nat),(binOp .eql 47 (.slice a n c) (.slice none n' c')).run Tryz.prog w=.ok (.bool a.isNone) w:=fun w a n c n' c'=>Lib.run_eql_slice_nil w _ _ a n c n' c' Tryz.underlying47
 have H:=qh h
 clear h
 go_enter Tryz.func99,Tryz.ntmps99
 go_wp2_with (refine zFfS rfl 47 5 rfl Tryz.underlying47 (by kernel_rfl) ?_)
 intro g1 w1 n1 m1 hb1 hk1
 have HO1:=qh (show OwnB w1 w.heap.size g1 0 [] from ⟨rfl,.inr ⟨g1,0,#[],rfl,n1,hb1,Nat.le_refl _,by decide,rfl,rfl⟩⟩)
 have HR1:=qh (H.out.kept hk1 (fun _ _ _ _=>id))
 have HK1:=qh hk1
 have s1:=hk1.size
 clear hb1 hk1
 go_wp2_with (at_builtin;refine zlSl rfl _ _ rfl w.heap.size g1 0 [] l rfl HO1.out (some ⟨b,off,none⟩) c rfl HR1.out (by simp;omega) s1 ?_)
 intro g2 cap2 w2 ho2 hk2 hat2 m2
 have HO2:=qh (show OwnB w2 w.heap.size g2 cap2 l from by simpa using ho2)
 have HK2:=qh (HK1.out.new hk2 (by rintro x rfl;exact n1))
 clear ho2 hk2 hat2
 go_wp2
 go_ret
 refine ⟨g2,cap2,?_,HO2.out,HK2.out⟩
 first | rfl | (simp;done) | (congr 2;omega)
end Go.Proofs.YtfgagakepmigbaaGreat
