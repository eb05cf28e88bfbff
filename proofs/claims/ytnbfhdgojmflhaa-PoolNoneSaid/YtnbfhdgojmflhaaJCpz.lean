/-
  No statement is proved here.
-/
import Derived.Test.YtnbfhdgojmflhaaJLga
import Derived.Laws.CopyRow
import Derived.Laws.CopyOwn
import Derived.Lib.SliceRun
namespace Go.Proofs.Ytnbfhdgojmflhaa
open Go.RowKit
def ovL (l:Bytes) (i:Nat) (m:Bytes):Bytes:=l.take i ++ (m.take (l.length - i)) ++ l.drop (i+(m.take (l.length - i)).length)
theorem zvaq {l m:Bytes} {i:Nat} (h:i<=l.length):(ovL l i m).length=l.length:=by
 unfold ovL
 simp
 omega
theorem zAUi {α:Type} {cur X Y:List α} {L i:Nat} (h:cur.take L=X) (hL:L<=cur.length) (hi:i+Y.length<=L):(cur.take i ++ Y ++ cur.drop (i+Y.length)).take L=X.take i ++ Y ++ X.drop (i+Y.length):=by
 subst h
 rw [List.take_append,List.take_of_length_le (by simp;omega)]
 rw [List.take_take,Nat.min_eq_left (by omega),List.drop_take]
 congr 2
 simp
 omega
theorem zFR3 {w:World} {base g cap:Nat} {l:Bytes} (h:OwnB w base g cap l) (i:Nat) (hi:i<=l.length) (D S:Option Addr) (hD:i < l.length->D=some ⟨g,i,none⟩) (m:Bytes) (hS:RdB w S m) (dc sc:Nat) (ty:TypeId) :
  ∃ (n:Nat) (w':World),(Builtin.copy_ #[37,37] ty #[.slice D (l.length - i) dc,.slice S m.length sc]).run Try.prog w=.ok (goInt n) w'/\n=Nat.min m.length (l.length - i)/\OwnB w' base g cap (ovL l i m)/\Kept (fun x=>x=g) w w':=by
 have hsz:((Try.prog).info? 5).map (·.size)=some 1:=by kernel_rfl
 by_cases h0:Nat.min m.length (l.length - i)=0
 ·refine ⟨0,w,by simpa using run_copy_none (P:=Try.prog) w 37 37 ty 5 D S (l.length - i) dc m.length sc Try.underlying37 hsz h0,h0.symm,?_,Kept.refl _ _⟩
  have e:ovL l i m=l:=by
   unfold ovL
   have:m.take (l.length - i)=[]:=by
    apply List.eq_nil_of_length_eq_zero
    rw [List.length_take]
    have h0':min m.length (l.length - i)=0:=h0
    omega
   rw [this];simp
  rw [e];exact h
 ·have h0':¬ min m.length (l.length - i)=0:=h0
  have hil:i < l.length:=by omega
  obtain rfl:=hD hil
  obtain ⟨b,off,rfl,hc⟩:=hS (fun e=>by subst e;exact h0' (by simp))
  obtain ⟨cur,hb,hh,h1,h2,h3,h4⟩:=h.form
  have hcl:(cellsOf (m.take (l.length - i))).toList.length=Nat.min m.length (l.length - i):=by
   rw [z6VZ,List.length_take];exact Nat.min_comm _ _
  have hcl':(cellsOf (m.take (l.length - i))).toList.length=min m.length (l.length - i):=hcl
  have hr:=run_copy_row (P:=Try.prog) w 37 37 ty 5 g i (l.length - i) dc ⟨b,off,none⟩ m.length sc cur 5 (cellsOf (m.take (l.length - i))).toList Try.underlying37 hsz hh hcl
   (fun j v hv=>by
    rw [Addr.add_mid]
    refine hc j v ?_
    rw [Array.getElem?_toList,z2D0,List.getElem?_take] at hv
    rw [z2D0]
    split at hv
    ·exact hv
    ·simp at hv) (by omega) (fun u hu=>(Array.all_eq_true_iff_forall_mem.1 (zZ84 _)) u (by simpa using hu))
  refine ⟨_,_,hr,hcl,?_,(Kept.refl (fun x=>x=g) w).setRow (.inr rfl) _⟩
  have hlo:(ovL l i m).length=l.length:=zvaq hi
  unfold OwnB
  rw [hlo]
  refine ⟨by rw [z6VZ,hlo,Nat.mul_one],.inr ⟨g,cap,_,rfl,hb,setRow_heap w g cur _ 5 (0,0) hh,h1,h2,?_,?_⟩⟩
  ·simp [z54R];omega
  ·rw [Nat.mul_one]
   have:=zAUi (cur:=cur.toList) (Y:=(cellsOf (m.take (l.length - i))).toList) (i:=i) h4 (by simp;omega) (by omega)
   simp only []
   rw [this]
   unfold ovL
   simp [cellsOf]
theorem z83d {ops:Array Oper} {o:Oper} {a:Act} {w:World} {K:Act->World->Prop} {Q:Exit->Act->World->Prop} {E:Prop} (hgd:o.guard=none) (d s:Operand)
  (ho:o.op=.call { callee:=.builtin .copy,args:=#[d,s],argTypes:=#[37,37] }) {base g cap:Nat} {l:Bytes} (h:OwnB w base g cap l) (i:Nat) (hi:i<=l.length) (D S:Option Addr) (hD:i < l.length->D=some ⟨g,i,none⟩) (m:Bytes) (hS:RdB w S m) (dc sc:Nat)
  (hd:a.eval d=.slice D (l.length - i) dc) (hs:a.eval s=.slice S m.length sc)
  (k:∀ n w',n=Nat.min m.length (l.length - i)->OwnB w' base g cap (ovL l i m)->Kept (fun x=>x=g) w w'->K (a.put o.dst (goInt n)) w'):if Region.wanted o (yielded ops a.tmps)=true then Oper.wp Try.prog o a w K Q else E:=by
 obtain ⟨n,w',hr,hn,h2,h3⟩:=zFR3 h i hi D S hD m hS dc sc o.type
 rw [if_pos (by simp [Region.wanted,hgd])]
 unfold Oper.wp
 simp [execOp,ho,resolve,invoke,builtin,hd,hs,hr,Result.andThen]
 exact k n w' hn h2 h3
theorem zPUK {x y:Bytes} (h:x.length=y.length) (hj:∀ j,j < x.length->bAt x j=bAt y j):x=y:=by
 refine List.ext_getElem h fun j h1 h2=>?_
 have:=hj j h1
 unfold bAt at this
 simpa [h1,h2] using this
theorem zfBm {l m:Bytes} {i j:Nat} (hi:i+m.length<=l.length) (hj:j < l.length):bAt (ovL l i m) j=if i<=j/\j < i+m.length then bAt m (j - i) else bAt l j:=by
 have e:m.take (l.length - i)=m:=List.take_of_length_le (by omega)
 unfold ovL bAt
 rw [e]
 simp only [List.getD_eq_getElem?_getD]
 by_cases h1:j < i
 ·rw [if_neg (by omega),List.getElem?_append_left (by simp;omega),List.getElem?_append_left (by simp;omega),List.getElem?_take,if_pos h1]
 ·by_cases h2:j < i+m.length
  ·rw [if_pos (by omega),List.getElem?_append_left (by simp;omega),List.getElem?_append_right (by simp;omega)]
   congr 2
   simp;omega
  ·rw [if_neg (by omega),List.getElem?_append_right (by simp;omega),List.getElem?_drop]
   congr 2
   simp;omega
theorem ziRd (n j:Nat):bAt (zeros n) j=0:=by
 unfold bAt zeros
 simp only [List.getD_eq_getElem?_getD,List.getElem?_replicate]
 split<;>rfl
theorem zrlC (n:Nat):(zeros n).length=n:=by simp [zeros]
theorem zHmj (l:Bytes) (i:Nat) (x:UInt8) (k:Nat) (hi:i < l.length):bAt (l.set i x) k=if k=i then x else bAt l k:=by
 unfold bAt
 simp only [List.getD_eq_getElem?_getD]
 by_cases h:k=i
 ·subst h;rw [if_pos rfl,List.getElem?_set_self hi];rfl
 ·rw [if_neg h,List.getElem?_set_ne (fun e=>h e.symm)]
theorem OwnB.setL {w:World} {base g cap:Nat} {l:Bytes} (h:OwnB w base g cap l) (i:Nat) (x:UInt8):OwnB (w.setCell ⟨g,i,none⟩ (.int .u8 x.toNat)) base g cap (l.set i x):=by
 unfold OwnB at *
 have:=(h.stored i (.int .u8 x.toNat)).1
 have e:(cellsOf l).toList.set i (.int .u8 x.toNat)=(cellsOf (l.set i x)).toList:=by
  rw [<- zBUG];simp
 rw [e] at this
 rw [List.length_set]
 exact this
theorem OwnB.setzL:∀ (n:Nat) {w:World} {base g cap:Nat} {l:Bytes} (o:Nat),OwnB w base g cap l->o+n<=l.length->OwnB (w.setCells g o (List.replicate n (.int .u8 0))) base g cap (ovL l o (zeros n))/\Kept (fun x=>x=g) w (w.setCells g o (List.replicate n (.int .u8 0)))
 | 0,w,base,g,cap,l,o,h,_=>by
  have e:ovL l o (zeros 0)=l:=by simp [ovL,zeros]
  rw [e]
  exact ⟨h,Kept.refl _ _⟩
 | n+1,w,base,g,cap,l,o,h,hl=>by
  have h1:=h.setL o 0
  obtain ⟨h2,h3⟩:=OwnB.setzL n (o+1) h1 (by rw [List.length_set];omega)
  have e:ovL (l.set o 0) (o+1) (zeros n)=ovL l o (zeros (n+1)):=by
   refine zPUK (by rw [zvaq (by rw [List.length_set];omega),zvaq (by omega),List.length_set]) fun j hj=>?_
   rw [zvaq (by rw [List.length_set];omega),List.length_set] at hj
   rw [zfBm (by rw [List.length_set,zrlC];omega) (by rw [List.length_set];exact hj),zfBm (by rw [zrlC];omega) hj,ziRd,ziRd,zrlC,zrlC,zHmj _ _ _ _ (by omega)]
   by_cases q1:j=o
   ·rw [if_neg (by omega),if_pos q1,if_pos (by omega)]
   ·by_cases q2:o+1<=j/\j < o+1+n
    ·rw [if_pos q2,if_pos (by omega)]
    ·rw [if_neg q2,if_neg q1,if_neg (by omega)]
  rw [e] at h2
  rw [List.replicate_succ]
  exact ⟨h2,(Kept.cell w g o _).trans' h3⟩
theorem zwhU {w:World} {base g cap:Nat} {l:Bytes} (ty:TypeId) (h:OwnB w base g cap l) (o n c:Nat) (hl:o+n<=l.length) (D:Option Addr) (hD:0 < n->D=some ⟨g,o,none⟩) :
  ∃ w',(Builtin.clear_ #[37] ty #[.slice D n c]).run Try.prog w=.ok (.tuple #[]) w'/\OwnB w' base g cap (ovL l o (zeros n))/\Kept (fun x=>x=g) w w':=by
 by_cases h0:n=0
 ·subst h0
  have e:ovL l o (zeros 0)=l:=by simp [ovL,zeros]
  rw [e]
  refine ⟨w,?_,h,Kept.refl _ _⟩
  cases D<;>simp [Builtin.clear_,run_underlying Try.underlying37]
 ·have hp:0 < n:=by omega
  obtain ⟨h2,h3⟩:=h.setzL n o hl
  rw [hD hp]
  refine ⟨_,Lib.run_clear_slice w 37 5 ty (.int .u8 0) Try.underlying37 zJNy rfl rfl g o n c hp (fun j hj=>?_) (fun j hj=>?_),h2,h3⟩
  ·rw [h.cellAt (i:=o+j) (by omega)];rfl
  ·have:=h;unfold OwnB at this;exact this.frozenAt (o+j)
theorem z623 {w:World} {ops:Array Oper} {rest:List Oper} {o:Oper} {a:Act} {Q:Exit->Act->World->Prop} (hgd:o.guard=none) (x:Operand)
  (ho:o.op=.call { callee:=.builtin .clear,args:=#[x],argTypes:=#[37] }) {base g cap:Nat} {l:Bytes} (h:OwnB w base g cap l) (i n c:Nat) (hl:i+n<=l.length) (D:Option Addr) (hD:0 < n->D=some ⟨g,i,none⟩)
  (hx:a.eval x=.slice D n c) (k:∀ w',OwnB w' base g cap (ovL l i (zeros n))->Kept (fun x=>x=g) w w'->wpList Try.prog ops Q rest (a.put o.dst (.tuple #[])) w'):wpList Try.prog ops Q (o :: rest) a w:=by
 obtain ⟨w',hr,h2,h3⟩:=zwhU o.type h i n c hl D hD
 refine wpList_plain hgd fun K hK=>?_
 unfold Oper.wp
 simp [execOp,ho,resolve,invoke,builtin,hx,hr,Result.andThen]
 exact hK _ _ (k w' h2 h3)
theorem zqs4 {p m:Bytes} {off:Nat} (h:off+64<=p.length) (hm:m.length<=64):ovL (ovL p off (zeros 64)) off m=zPwQ p off m:=by
 have l1:(ovL p off (zeros 64)).length=p.length:=zvaq (by omega)
 have l2:(zPwQ p off m).length=p.length:=by simp [zPwQ,zrlC];omega
 refine zPUK (by rw [zvaq (by omega),l1,l2]) fun j hj=>?_
 rw [zvaq (by omega),l1] at hj
 rw [zfBm (by omega) (by omega),zfBm (by rw [zrlC];omega) hj,zrlC,ziRd]
 have l3:(p.take off).length=off:=by rw [List.length_take];omega
 have l4:((m ++ zeros (64 - m.length)).take 64).length=64:=by rw [List.length_take,List.length_append,zrlC];omega
 by_cases h1:j < off
 ·rw [if_neg (by omega),if_neg (by omega)]
  unfold zPwQ bAt
  simp only [List.getD_eq_getElem?_getD]
  rw [List.getElem?_append_left (by omega),List.getElem?_take,if_pos h1]
 ·by_cases h2:j < off+64
  ·by_cases h3:j < off+m.length
   ·rw [if_pos (by omega)]
    unfold zPwQ bAt
    simp only [List.getD_eq_getElem?_getD]
    rw [List.getElem?_append_right (by omega),l3,List.getElem?_append_left (by omega),List.getElem?_take,if_pos (by omega),List.getElem?_append_left (by omega)]
   ·rw [if_neg (by omega),if_pos (by omega)]
    unfold zPwQ bAt
    simp only [List.getD_eq_getElem?_getD]
    rw [List.getElem?_append_right (by omega),l3,List.getElem?_append_left (by omega),List.getElem?_take,if_pos (by omega),List.getElem?_append_right (by omega)]
    simp only [zeros,List.getElem?_replicate]
    split<;>rfl
  ·rw [if_neg (by omega),if_neg (by omega)]
   unfold zPwQ bAt
   simp only [List.getD_eq_getElem?_getD]
   rw [List.getElem?_append_right (by omega),l3,List.getElem?_append_right (by omega),l4,List.getElem?_drop]
   congr 2
   omega
end Go.Proofs.Ytnbfhdgojmflhaa
