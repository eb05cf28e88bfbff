/-
  No statement is proved here.
-/
import Derived.Test.YtnbfhdgojmflhaaProg
import Derived.Test.YtnbfhdgojmflhaaJBase
import Derived.StillTailTactics
import Derived.Deep.QuietTactic
import Derived.BigQuiet
import Derived.Laws.OwnMore
namespace Go.Proofs.Ytnbfhdgojmflhaa
open Go.RowKit
abbrev Bytes:=List UInt8
def cellsOf (l:Bytes):Array Value:=(l.map fun b=>Value.int .u8 b.toNat).toArray
def blk (l:Bytes):Value:=.agg (cellsOf l)
def zeros (n:Nat):Bytes:=List.replicate n 0
theorem z54R (l:Bytes):(cellsOf l).size=l.length:=by simp [cellsOf]
theorem zZ84 (l:Bytes):(cellsOf l).all (·.oneCell')=true:=by
 rw [Array.all_eq_true_iff_forall_mem]
 intro v hv
 simp [cellsOf] at hv
 obtain ⟨b,_,rfl⟩:=hv
 rfl
theorem zguE (n:Nat):(zeros n).length=n:=by simp [zeros]
section
variable {w:World}
theorem info5:(Try.prog.info? 5).map (fun i=>(i.zero,i.size,i.bytes))=some (some (.int .u8 0),1,1):=by kernel_rfl
def OwnB (w:World) (base g cap:Nat) (l:Bytes):Prop:=w.ownsRow base 5 1 (.slice (some ⟨g,0,none⟩) l.length cap) l.length (cellsOf l).toList
theorem zw4F (l:Bytes):(cellsOf l).toList=l.map fun b=>Value.int .u8 b.toNat:=by simp [cellsOf]
theorem z2D0 (l:Bytes) (i:Nat):(cellsOf l)[i]?=l[i]?.map fun b=>Value.int .u8 b.toNat:=by simp [cellsOf]
theorem z6VZ (l:Bytes):(cellsOf l).toList.length=l.length:=by simp [cellsOf]
theorem OwnB.form {base g cap:Nat} {l:Bytes} (h:OwnB w base g cap l):∃ cur,base<=g/\w.heap[g]?=some (.cells cur 5 (0,0))/\l.length<=cap/\cap<=maxLen/\cur.size=cap/\cur.toList.take l.length=(cellsOf l).toList:=by
 obtain ⟨_,h⟩:=h
 rcases h with ⟨h,_⟩ | ⟨g',cap',cur,hv,hb,hh,h1,h2,h3,h4⟩
 ·cases h
 ·injection hv with e1 e2 e3
  injection e1 with e1
  injection e1 with e1
  subst e1;subst e3
  exact ⟨cur,hb,hh,h1,h2,by simpa using h3,by simpa using h4⟩
theorem zJNy (w:World):(zeroValue 5).run Try.prog w=.ok (.int .u8 0) w:=by
 obtain ⟨i,h1,h2,_,_⟩:=info_parts info5
 simp [zeroValue,typeInfo,h1,h2]
end
def RdB (w:World) (A:Option Addr) (l:Bytes):Prop:=l≠[]->∃ b off,A=some ⟨b,off,none⟩/\∀ j v,(cellsOf l)[j]?=some v->w.cell? ⟨b,off+j,none⟩=some v
def bAt (l:Bytes) (k:Nat):UInt8:=l.getD k 0
theorem zWfp {l:Bytes} {k:Nat} (h:k < l.length):bAt l k=l[k]:=by
 unfold bAt;rw [List.getD_eq_getElem?_getD,List.getElem?_eq_getElem h];rfl
theorem zNgY {l:Bytes} {k:Nat} (h:k < l.length):(cellsOf l)[k]?=some (.int .u8 (bAt l k).toNat):=by
 rw [z2D0,List.getElem?_eq_getElem h,zWfp h];rfl
theorem RdB.cell {w:World} {A:Option Addr} {l:Bytes} (h:RdB w A l) {k:Nat} (hk:k < l.length):∃ b off,A=some ⟨b,off,none⟩/\w.cell? ⟨b,off+k,none⟩=some (.int .u8 (bAt l k).toNat):=by
 obtain ⟨b,off,e,hc⟩:=h (by intro e;simp [e] at hk)
 exact ⟨b,off,e,hc k _ (zNgY hk)⟩
theorem RdB.kept {S:Nat->Prop} {w w':World} {A:Option Addr} {l:Bytes} (h:RdB w A l) (hk:Kept S w w') (hS:∀ b off,A=some ⟨b,off,none⟩->b < w.heap.size->¬ S b):RdB w' A l:=by
 intro hl
 obtain ⟨b,off,e,hc⟩:=h hl
 refine ⟨b,off,e,fun j v hv=>?_⟩
 have h1:=hc j v hv
 have lb:=block_lt_of_cell h1
 exact (World.cell?_of_block (hk.block b lb (hS b off e lb))).trans h1
theorem zBUG (l:Bytes) (i:Nat) (x:UInt8):(cellsOf l).setIfInBounds i (.int .u8 x.toNat)=cellsOf (l.set i x):=by
 apply Array.ext_getElem?
 intro j
 rw [Array.getElem?_setIfInBounds,z2D0,z2D0,z54R,List.getElem?_set]
 by_cases h:i=j
 ·subst h
  by_cases h2:i < l.length<;>simp [h2]
 ·simp [h]
theorem zMBr (n:Nat):madeCells #[Value.int .u8 0] n=cellsOf (zeros n):=by
 apply Array.toList_inj.1
 rw [toList_madeCells_one,zw4F]
 simp [zeros]
theorem RdB.of_blk {w:World} {g:Nat} {l:Bytes} {t:TypeId} {fr:Nat×Nat} (h:w.heap[g]?=some (.cells (cellsOf l) t fr)):RdB w (some ⟨g,0,none⟩) l:=
 fun _=>⟨g,0,rfl,fun j v hv=>zcjX h (by simpa using hv)⟩
theorem OwnB.cellAt {w:World} {base g cap:Nat} {l:Bytes} (h:OwnB w base g cap l) {i:Nat} (hi:i < l.length):w.cell? ⟨g,i,none⟩=some (.int .u8 (bAt l i).toNat):=by
 obtain ⟨cur,_,hh,_,_,_,ht⟩:=h.form
 refine zcjX hh ?_
 have e1:(cellsOf l).toList[i]?=some (.int .u8 (bAt l i).toNat):=by rw [Array.getElem?_toList];exact zNgY hi
 rw [<- ht,List.getElem?_take,if_pos hi,Array.getElem?_toList] at e1
 exact e1
theorem zdRz (l m:Bytes):(cellsOf (l ++ m)).toList=(cellsOf l).toList ++ (cellsOf m).toList:=by simp [cellsOf]
theorem zkac {P:Program} {w:World} (base:Nat) (t ty e:TypeId) (i:TypeInfo) (size:Nat) (ht:P.underlying t=some (.slice e)) (hi:P.info? e=some i)
  (v:Value) (n:Nat) (xs:List Value) (hown:w.ownsRow base e size v n xs) (A:Option Addr) (c:Nat) :
  (Builtin.append_ #[t,t] ty #[v,.slice A 0 c]).run P w=.ok v w:=by
 rcases hown.2 with ⟨rfl,rfl⟩ | ⟨g,cap,cur,rfl,_,_,hnc,_⟩
 ·cases A<;>simp [Builtin.append_,run_underlying ht,sizeOf,typeInfo,hi,Builtin.lenOf,Builtin.firstCells,loadCells,loadCellsFrom]
 ·cases A<;>simp [Builtin.append_,run_underlying ht,sizeOf,typeInfo,hi,Builtin.lenOf,Builtin.firstCells,hnc,storeCells,loadCells,loadCellsFrom]
theorem OwnB.kept {w w':World} {base g cap:Nat} {l:Bytes} (h:OwnB w base g cap l) (hk:Kept (fun _=>False) w w'):OwnB w' base g cap l:=by
 obtain ⟨h0,h⟩:=h
 rcases h with ⟨h,h'⟩ | ⟨g',cap',cur,hv,hb,hh,h1,h2,h3,h4⟩
 ·cases h
 ·exact ⟨h0,.inr ⟨g',cap',cur,hv,hb,hk.heap hh id,h1,h2,h3,h4⟩⟩
theorem OwnB.keep {S:Nat->Prop} {w w':World} {base g cap:Nat} {l:Bytes} (h:OwnB w base g cap l) (hk:Kept S w w') (hn:¬ S g):OwnB w' base g cap l:=by
 obtain ⟨h0,h⟩:=h
 rcases h with ⟨h,h'⟩ | ⟨g',cap',cur,hv,hb,hh,h1,h2,h3,h4⟩
 ·cases h
 ·injection hv with e1 e2 e3
  injection e1 with e1
  injection e1 with e1
  subst e1
  exact ⟨h0,.inr ⟨g,cap',cur,by rw [e3],hb,hk.heap hh hn,h1,h2,h3,h4⟩⟩
theorem OwnB.base_le {w:World} {base g cap:Nat} {l:Bytes} (h:OwnB w base g cap l):base<=g:=by
 obtain ⟨_,h,_⟩:=h.form;exact h
theorem zbY4 {P:Program} {w:World} {ops:Array Oper} {rest:List Oper} {o:Oper} {a:Act} {Q:Exit->Act->World->Prop} (hgd:o.guard=none) (s x:Operand) (t:TypeId)
  (ho:o.op=.call { callee:=.builtin .append,args:=#[s,x],argTypes:=#[t,t] })
  (base:Nat) (e:TypeId) {z:Value} {size bytes:Nat} (ht:P.underlying t=some (.slice e)) (hinf:(P.info? e).map (fun i=>(i.zero,i.size,i.bytes))=some (some z,size,bytes))
  (v:Value) (n:Nat) (xs:List Value) (hs:a.eval s=v) (hown:w.ownsRow base e size v n xs) (A:Option Addr) (c:Nat) (hx:a.eval x=.slice A 0 c)
  (h:wpList P ops Q rest (a.put o.dst v) w):wpList P ops Q (o :: rest) a w:=by
 obtain ⟨i,hi,h2,h3,h4⟩:=info_parts hinf
 refine wpList_plain hgd fun K hK=>?_
 have hrun:=zkac (P:=P) (w:=w) base t o.type e i size ht hi v n xs hown A c
 unfold Oper.wp
 simp [execOp,ho,resolve,invoke,builtin,hs,hx,hrun,Result.andThen]
 exact hK _ _ h
end Go.Proofs.Ytnbfhdgojmflhaa
