/-
  No statement is proved here.
-/
import Derived.WalkKit
import Derived.WalkSpells
import Derived.WalkLawsBesides
import Derived.MapKept
import Derived.ChangeMaps5
import Derived.Maps.RangeRun
import Derived.StillTailTactics
import Derived.Deep.AppendLies
import Derived.Deep.MidRow
import Derived.Deep.Draws
import Derived.Deep.WholeRow
import Derived.Lib.Hide
import Derived.KernelRfl
namespace Go.Proofs.Ytnbfhdgojmflhaa
theorem qh {p:Prop} (h:p):Go.RowKit.Hid p:=Go.Lib.hid h
open Go.RowKit
open Go.ChangeMaps (setBlock heap_setBlock_same heap_setBlock_other)
structure Kept (S:Nat->Prop) (w w':World):Prop where
 os:w'.os=w.os
 tape:w'.tape=w.tape
 output:w'.output=w.output
 size:w.heap.size<=w'.heap.size
 block:∀ k,k < w.heap.size->¬ S k->w'.heap[k]?=w.heap[k]?
section
variable {S S' T:Nat->Prop} {a b c w w':World}
theorem Kept.refl (S:Nat->Prop) (w:World):Kept S w w:=⟨rfl,rfl,rfl,Nat.le_refl _,fun _ _ _=>rfl⟩
theorem Kept.trans (h:Kept S a b) (k:Kept T b c) (hT:∀ x,x < a.heap.size->T x->S x):Kept S a c:=
 ⟨k.os.trans h.os,k.tape.trans h.tape,k.output.trans h.output,Nat.le_trans h.size k.size,
  fun x hx hn=>(k.block x (Nat.lt_of_lt_of_le hx h.size) (fun ht=>hn (hT x hx ht))).trans (h.block x hx hn)⟩
theorem Kept.mono (h:Kept S a b) (hS:∀ x,x < a.heap.size->S x->T x):Kept T a b:=
 ⟨h.os,h.tape,h.output,h.size,fun x hx hn=>h.block x hx (fun hs=>hn (hS x hx hs))⟩
theorem Kept.drew (h:Kept S a b):Kept S a b.drew:=⟨h.os,h.tape,h.output,h.size,h.block⟩
theorem Kept.drewN (h:Kept S a b) (n:Nat):Kept S a (b.drewN n):=⟨h.os,h.tape,h.output,h.size,h.block⟩
theorem Kept.alloc (h:Kept S a b) (o:Obj):Kept S a (b.alloc o):=
 ⟨h.os,h.tape,h.output,by have:=h.size;simp;omega,fun x hx hn=>(Below.heap_alloc b o x (Nat.lt_of_lt_of_le hx h.size)).trans (h.block x hx hn)⟩
theorem Kept.setCell (h:Kept S a b) {p:Addr} (hp:a.heap.size<=p.block\/S p.block) (u:Value):Kept S a (b.setCell p u):=
 ⟨h.os,h.tape,h.output,by simpa using h.size,fun x hx hn=>(Below.heap_setCell b p u x (fun e=>by subst e;rcases hp with hp | hp;omega;exact hn hp)).trans (h.block x hx hn)⟩
theorem Kept.setRow (h:Kept S a b) {g:Nat} (hp:a.heap.size<=g\/S g) (cs:Array Value):Kept S a (b.setRow g cs):=
 ⟨h.os,h.tape,h.output,by simpa using h.size,fun x hx hn=>(setRow_other b g x cs (fun e=>by subst e;rcases hp with hp | hp;omega;exact hn hp)).trans (h.block x hx hn)⟩
theorem Kept.setBlock (h:Kept S a b) {g:Nat} (hp:a.heap.size<=g\/S g) (o:Obj):Kept S a (setBlock b g o):=
 ⟨h.os,h.tape,h.output,by simpa [ChangeMaps.setBlock] using h.size,fun x hx hn=>by
  have hne:g≠x:=fun e=>by subst e;rcases hp with hp | hp;omega;exact hn hp
  show (b.heap.setIfInBounds g o)[x]?=_
  rw [Array.getElem?_setIfInBounds_ne hne]
  exact h.block x hx hn⟩
theorem Kept.grown (h:Kept S a b) {row:Option Nat} (k:b.grownBy c row) (hr:∀ x,row=some x->a.heap.size<=x\/S x):Kept S a c:=
 ⟨k.os.trans h.os,k.tape.trans h.tape,k.output.trans h.output,Nat.le_trans h.size k.size,fun x hx hn=>
  (k.block x (Nat.lt_of_lt_of_le hx h.size) (fun e=>by rcases hr x e.symm with h1 | h1;omega;exact hn h1)).trans (h.block x hx hn)⟩
theorem Kept.below (h:Kept S a b) {B:Nat} (hB:B<=a.heap.size) (hS:∀ x,x < B->¬ S x):Below B a b:=
 ⟨h.os,h.tape,h.output,h.size,fun x hx=>h.block x (by omega) (hS x hx)⟩
theorem Kept.trans0 (h:Kept S a b) (k:Kept (fun _=>False) b c):Kept S a c:=h.trans k (fun _ _ h=>h.elim)
theorem Kept.trans' (h:Kept S a b) (k:Kept S b c):Kept S a c:=h.trans k (fun _ _ h=>h)
theorem Kept.new {w a b:World} {S:Nat->Prop} (h:Kept (fun _=>False) w a) (k:Kept S a b) (hS:∀ x,S x->w.heap.size<=x):Kept (fun _=>False) w b:=
 h.trans k (fun x hx e=>by have:=hS x e;omega)
theorem Kept.heap (h:Kept S a b) {x:Nat} {o:Obj} (hx:a.heap[x]?=some o) (hn:¬ S x):b.heap[x]?=some o:=
 (h.block x (Array.getElem?_eq_some_iff.1 hx).1 hn).trans hx
theorem Kept.cell (w:World) (p off:Nat) (v:Value):Kept (fun x=>x=p) w (w.setCell ⟨p,off,none⟩ v):=(Kept.refl (fun x=>x=p) w).setCell (p:=⟨p,off,none⟩) (Or.inr rfl) v
theorem zvKu {w:World} {x:Nat} {o:Obj} (h:w.heap[x]?=some o):x < w.heap.size:=(Array.getElem?_eq_some_iff.1 h).1
theorem zgjU {w:World} {x:Nat} {o:Obj} (h:w.heap[x]?=some o) (o':Obj):(w.alloc o').heap[x]?=some o:=
 (Below.heap_alloc w o' x (zvKu h)).trans h
end
def Same (w w':World):Prop:=∃ q,w.drewN q=w'
theorem Same.refl (w:World):Same w w:=⟨0,rfl⟩
theorem Same.kept {w w':World} (h:Same w w') (S:Nat->Prop):Kept S w w':=by
 obtain ⟨q,rfl⟩:=h;exact (Kept.refl S w).drewN q
theorem zcjX {w:World} {b:Nat} {cs:Array Value} {t:TypeId} {fr:Nat×Nat} (h:w.heap[b]?=some (.cells cs t fr)) {i:Nat} {v:Value} (hv:cs[i]?=some v):w.cell? ⟨b,i,none⟩=some v:=by
 rw [cell_of_row w b i cs t fr h];exact hv
theorem zZnw {w:World} {b:Nat} {cs:Array Value} {t:TypeId} (h:w.heap[b]?=some (.cells cs t (0,0))) (i:Nat):w.frozen? ⟨b,i,none⟩=false:=frozen_of_row w b i cs t h
theorem zAtc {w:World} {b:Nat} {cs:Array Value} {t:TypeId} (h:w.heap[b]?=some (.cells cs t (0,0))) (i:Nat) (v:Value):(w.setCell ⟨b,i,none⟩ v).heap[b]?=some (.cells (cs.setIfInBounds i v) t (0,0)):=
 heap_setCell_same w b i cs t v h
section
variable {P:Program} {ops:Array Oper} {Q:Exit->Act->World->Prop} {a:Act} {w w':World} {rest:List Oper} {o:Oper}
theorem z3Ho (hg:o.guard=none) {v:Value} (h:(execOp a.eval o).run P w=.ok (.value v) w') (k:wpList P ops Q rest (a.put o.dst v) w'):wpList P ops Q (o :: rest) a w:=
 wpList_plain hg fun K hK=>by unfold Oper.wp;rw [h];exact hK _ _ k
theorem zLKC (hg:o.guard=none) (h:(execOp a.eval o).run P w=.ok .skip w') (k:wpList P ops Q rest (a.put o.dst undef) w'):wpList P ops Q (o :: rest) a w:=
 wpList_plain hg fun K hK=>by unfold Oper.wp;rw [h];exact hK _ _ k
theorem znAV (hg:o.guard=none) (t:TypeId) (ho:o.op=.alloc t) (z:Value) (hz:(zeroValue t).run P w=.ok z w)
  (k:wpList P ops Q rest (a.put o.dst (.pointer (some ⟨w.heap.size,0,none⟩))) (w.alloc (.cells z.cells t))):wpList P ops Q (o :: rest) a w:=by
 refine z3Ho hg ?_ k
 simp only [execOp,ho,Instr.alloc,Sem.run_bind,hz,Result.andThen,newVar,newRow,newObj,Sem.run]
 rfl
theorem zd3w (hg:o.guard=none) (t:TypeId) (x:Operand) (ho:o.op=.range t x) (v:Value) (hr:(Instr.range t (a.eval x)).run P w=.ok v w')
  (k:wpList P ops Q rest (a.put o.dst v) w'):wpList P ops Q (o :: rest) a w:=by
 refine z3Ho hg ?_ k
 simp [execOp,ho,hr,Result.andThen]
theorem zdhF (hg:o.guard=none) (x:Operand) (b:Bool) (ho:o.op=.next x b) (v:Value) (hr:(Instr.next (a.eval x) b o.type).run P w=.ok v w')
  (k:wpList P ops Q rest (a.put o.dst v) w'):wpList P ops Q (o :: rest) a w:=by
 refine z3Ho hg ?_ k
 simp [execOp,ho,hr,Result.andThen]
theorem z1eo (hg:o.guard=none) (t:TypeId) (x y:Operand) (c:Bool) (ho:o.op=.lookup t x y c) (v:Value) (hr:(Instr.lookup t (a.eval x) (a.eval y) c).run P w=.ok v w')
  (k:wpList P ops Q rest (a.put o.dst v) w'):wpList P ops Q (o :: rest) a w:=by
 refine z3Ho hg ?_ k
 simp [execOp,ho,hr,Result.andThen]
theorem zwNv (hg:o.guard=none) (t:TypeId) (x y z:Operand) (ho:o.op=.mapUpdate t x y z) (hr:(Instr.mapUpdate t (a.eval x) (a.eval y) (a.eval z)).run P w=.ok () w')
  (k:wpList P ops Q rest (a.put o.dst undef) w'):wpList P ops Q (o :: rest) a w:=by
 refine zLKC hg ?_ k
 simp [execOp,ho,hr,Result.andThen]
end
def IMap (w:World) (b:Nat) (f:Int->Option Value):Prop:=
 ∃ es clock,w.heap[b]?=some (.map es clock)/\MapKept.Stamped es clock/\(∀ x∈es.toList,MapKept.IsKey (.int .i64) x.key) /\
  ∀ n v,f n=some v↔∃ x∈es.toList,x.key=.int .i64 n/\x.val=v
def updF {α:Type} (f:Int->Option α) (n:Int) (v:α):Int->Option α:=fun k=>if k=n then some v else f k
def delF {α:Type} (f:Int->Option α) (n:Int):Int->Option α:=fun k=>if k=n then none else f k
theorem IMap.lt {w:World} {b:Nat} {f:Int->Option Value} (h:IMap w b f):b < w.heap.size:=by
 obtain ⟨es,c,hb,_⟩:=h;exact zvKu hb
theorem IMap.keep {w w':World} {b:Nat} {f:Int->Option Value} (h:IMap w b f) (hb:w'.heap[b]?=w.heap[b]?):IMap w' b f:=by
 obtain ⟨es,c,hb',r⟩:=h;exact ⟨es,c,hb.trans hb',r⟩
theorem IMap.kept {S:Nat->Prop} {w w':World} {b:Nat} {f:Int->Option Value} (h:IMap w b f) (hk:Kept S w w') (hn:¬ S b):IMap w' b f:=h.keep (hk.block b h.lt hn)
theorem IMap.made (w:World):IMap (w.alloc (.map #[] 0)) w.heap.size (fun _=>none):=
 ⟨#[],0,heap_alloc_new w _,MapKept.stamped_empty 0,by simp,by simp⟩
theorem IMap.ext {w:World} {b:Nat} {f g:Int->Option Value} (h:IMap w b f) (he:∀ n,f n=g n):IMap w b g:=by
 have:f=g:=funext he
 exact this▸h
section
variable {P:Program} {w:World} {b:Nat} {f:Int->Option Value} {t k e:TypeId}
theorem zkwn {es:Array MapEntry} (hk:∀ x∈es.toList,MapKept.IsKey (.int .i64) x.key)
  (hf:∀ n v,f n=some v↔∃ x∈es.toList,x.key=.int .i64 n/\x.val=v) (n:Int) :
  (Instr.findNow (.int .i64) (.int .i64 n) es.toList 0=some none/\f n=none/\∀ x∈es.toList,x.key≠.int .i64 n) \/
  ∃ j x,Instr.findNow (.int .i64) (.int .i64 n) es.toList 0=some (some (j,x.val))/\es[j]?=some x/\x.key=.int .i64 n/\f n=some x.val:=by
 rcases MapKept.findNow_spec (d:=.int .i64) (k:=.int .i64 n) rfl es.toList 0 hk with ⟨h1,h2⟩ | ⟨j,x,h1,h2,h3⟩
 ·refine .inl ⟨h1,?_,h2⟩
  cases hfn:f n with
  | none=>rfl
  | some v=>obtain ⟨x,hx,hxk,_⟩:=(hf n v).1 hfn;exact absurd hxk (h2 x hx)
 ·refine .inr ⟨j,x,by simpa using h1,by simpa using h2,h3,(hf n _).2 ⟨x,?_,h3,rfl⟩⟩
  exact List.mem_of_getElem? h2
theorem IMap.lookup (h:IMap w b f) (ht:P.underlying t=some (.map k e)) (hk:P.underlying k=some (.int .i64)) {z:Value} (hz:(zeroValue e).run P w=.ok z w) (n:Int) :
  (Instr.lookup t (.map (some b)) (.int .i64 n) false).run P w=.ok ((f n).getD z) w:=by
 obtain ⟨es,clock,hb,hs,hks,hf⟩:=h
 rcases zkwn hks hf n with ⟨h1,h2,_⟩ | ⟨j,x,h1,_,_,h2⟩
 ·simp [Instr.lookup,run_underlying ht,MapKept.run_getObj_map hb,MapKept.run_checkKey hk (show MapKept.IsKey (.int .i64) (.int .i64 n) from rfl),MapKept.run_findKey hk h1,h2,hz,Result.andThen]
 ·simp [Instr.lookup,run_underlying ht,MapKept.run_getObj_map hb,MapKept.run_checkKey hk (show MapKept.IsKey (.int .i64) (.int .i64 n) from rfl),MapKept.run_findKey hk h1,h2,Result.andThen]
theorem IMap.lookup_ok (h:IMap w b f) (ht:P.underlying t=some (.map k e)) (hk:P.underlying k=some (.int .i64)) {z:Value} (hz:(zeroValue e).run P w=.ok z w) (n:Int) :
  (Instr.lookup t (.map (some b)) (.int .i64 n) true).run P w=.ok (.tuple #[(f n).getD z,.bool (f n).isSome]) w:=by
 obtain ⟨es,clock,hb,hs,hks,hf⟩:=h
 rcases zkwn hks hf n with ⟨h1,h2,_⟩ | ⟨j,x,h1,_,_,h2⟩
 ·simp [Instr.lookup,run_underlying ht,MapKept.run_getObj_map hb,MapKept.run_checkKey hk (show MapKept.IsKey (.int .i64) (.int .i64 n) from rfl),MapKept.run_findKey hk h1,h2,hz,Result.andThen]
 ·simp [Instr.lookup,run_underlying ht,MapKept.run_getObj_map hb,MapKept.run_checkKey hk (show MapKept.IsKey (.int .i64) (.int .i64 n) from rfl),MapKept.run_findKey hk h1,h2,Result.andThen]
theorem IMap.update (h:IMap w b f) (ht:P.underlying t=some (.map k e)) (hk:P.underlying k=some (.int .i64)) (n:Int) (v:Value) :
  ∃ w',(Instr.mapUpdate t (.map (some b)) (.int .i64 n) v).run P w=.ok () w'/\IMap w' b (updF f n v)/\Kept (· = b) w w'/\w'.heap.size=w.heap.size:=by
 obtain ⟨es,clock,hb,hs,hks,hf⟩:=h
 rcases zkwn hks hf n with ⟨h1,h2,hno⟩ | ⟨j,x,h1,hj,hxk,h2⟩
 ·refine ⟨setBlock w b (.map (es.push { key:=.int .i64 n,val:=v,born:=clock }) (clock+1)),?_,⟨_,_,heap_setBlock_same hb _,MapKept.stamped_push hs hno,?_,?_⟩,(Kept.refl (fun x=>x=b) w).setBlock (Or.inr rfl) _,by simp [setBlock]⟩
  ·simp [Instr.mapUpdate,run_underlying ht,MapKept.run_getObj_map hb,MapKept.run_checkKey hk (show MapKept.IsKey (.int .i64) (.int .i64 n) from rfl),MapKept.run_findKey hk h1,MapKept.run_setObj_map _ hb,Result.andThen,setBlock]
  ·intro x hx
   simp only [Array.toList_push,List.mem_append,List.mem_singleton] at hx
   rcases hx with hx | rfl
   ·exact hks x hx
   ·rfl
  ·intro m u
   simp only [Array.toList_push,List.mem_append,List.mem_singleton,updF]
   by_cases hm:m=n
   ·subst hm
    simp only [if_true,Option.some.injEq]
    constructor
    ·rintro rfl;exact ⟨_,.inr rfl,rfl,rfl⟩
    ·rintro ⟨x,hx | rfl,hxk,hxv⟩
     ·exact absurd hxk (hno x hx)
     ·exact hxv
   ·simp only [hm,if_false,hf]
    constructor
    ·rintro ⟨x,hx,r⟩;exact ⟨x,.inl hx,r⟩
    ·rintro ⟨x,hx | rfl,hxk,hxv⟩
     ·exact ⟨x,hx,hxk,hxv⟩
     ·injection hxk with _ e;exact absurd e.symm hm
 ·have hkey:∀ e',es[j]?=some e'->({ e' with key:=.int .i64 n,val:=v }:MapEntry).key=e'.key:=fun e' he'=>by rw [hj] at he';cases he';exact hxk.symm
  refine ⟨setBlock w b (.map (es.modify j fun e=>{ e with key:=.int .i64 n,val:=v }) clock),?_,⟨_,_,heap_setBlock_same hb _,MapKept.stamped_modify hs _ _ (fun _ _=>rfl) (fun e' _ he'=>hkey e' he'),MapKept.isKey_modify hks _ _ hkey,?_⟩,(Kept.refl (fun x=>x=b) w).setBlock (Or.inr rfl) _,by simp [setBlock]⟩
  ·simp [Instr.mapUpdate,run_underlying ht,MapKept.run_getObj_map hb,MapKept.run_checkKey hk (show MapKept.IsKey (.int .i64) (.int .i64 n) from rfl),MapKept.run_findKey hk h1,hj,hxk,MapKept.run_keyThatStays (show MapKept.IsKey (.int .i64) (.int .i64 n) from rfl),MapKept.run_setObj_map _ hb,Result.andThen,setBlock]
  ·have hmem:∀ y,y∈(es.modify j fun e=>{ e with key:=.int .i64 n,val:=v }).toList↔(∃ i,i≠j/\es[i]?=some y)\/y={ x with key:=.int .i64 n,val:=v }:=by
    intro y
    rw [Array.mem_toList_iff,Array.mem_iff_getElem?]
    constructor
    ·rintro ⟨i,hi⟩
     rw [Array.getElem?_modify] at hi
     by_cases hij:j=i
     ·subst hij;rw [if_pos rfl,hj] at hi;simp at hi;exact .inr hi.symm
     ·rw [if_neg hij] at hi;exact .inl ⟨i,Ne.symm hij,hi⟩
    ·rintro (⟨i,hne,hi⟩ | rfl)
     ·exact ⟨i,by rw [Array.getElem?_modify,if_neg (Ne.symm hne)];exact hi⟩
     ·exact ⟨j,by rw [Array.getElem?_modify,if_pos rfl,hj];rfl⟩
   have huniq:∀ i y,es[i]?=some y->y.key=.int .i64 n->i=j:=by
    intro i y hi hyk
    have hp:=((MapKept.stamped_iff es clock).1 hs).2.2
    rcases Nat.lt_trichotomy i j with hlt | heq | hgt
    ·have:=List.pairwise_iff_getElem.1 hp i j (by simpa using (Array.getElem?_eq_some_iff.1 hi).1) (by simpa using (Array.getElem?_eq_some_iff.1 hj).1) hlt
     have e1:=(Array.getElem?_eq_some_iff.1 hi).2
     have e2:=(Array.getElem?_eq_some_iff.1 hj).2
     simp [e1,e2,hyk,hxk] at this
    ·exact heq
    ·have:=List.pairwise_iff_getElem.1 hp j i (by simpa using (Array.getElem?_eq_some_iff.1 hj).1) (by simpa using (Array.getElem?_eq_some_iff.1 hi).1) hgt
     have e1:=(Array.getElem?_eq_some_iff.1 hi).2
     have e2:=(Array.getElem?_eq_some_iff.1 hj).2
     simp [e1,e2,hyk,hxk] at this
   intro m u
   simp only [updF]
   by_cases hm:m=n
   ·subst hm
    simp only [if_true,Option.some.injEq]
    constructor
    ·rintro rfl;exact ⟨_,(hmem _).2 (.inr rfl),rfl,rfl⟩
    ·rintro ⟨y,hy,hyk,hyv⟩
     rcases (hmem y).1 hy with ⟨i,hne,hi⟩ | rfl
     ·exact absurd (huniq i y hi hyk) hne
     ·exact hyv
   ·simp only [hm,if_false,hf]
    constructor
    ·rintro ⟨y,hy,hyk,hyv⟩
     rw [Array.mem_toList_iff,Array.mem_iff_getElem?] at hy
     obtain ⟨i,hi⟩:=hy
     refine ⟨y,(hmem y).2 (.inl ⟨i,?_,hi⟩),hyk,hyv⟩
     rintro rfl
     rw [hj] at hi;cases hi
     rw [hxk] at hyk;injection hyk with _ e;exact hm e.symm
    ·rintro ⟨y,hy,hyk,hyv⟩
     rcases (hmem y).1 hy with ⟨i,_,hi⟩ | rfl
     ·exact ⟨y,by rw [Array.mem_toList_iff];exact Array.mem_of_getElem? hi,hyk,hyv⟩
     ·injection hyk with _ e;exact absurd e.symm hm
theorem IMap.clear (h:IMap w b f) (ht:P.underlying t=some (.map k e)) (ty:TypeId) :
  ∃ w',(Builtin.clear_ #[t] ty #[.map (some b)]).run P w=.ok (.tuple #[]) w'/\IMap w' b (fun _=>none)/\Kept (· = b) w w'/\w'.heap.size=w.heap.size:=by
 obtain ⟨es,clock,hb,hs,hks,hf⟩:=h
 refine ⟨setBlock w b (.map #[] clock),?_,⟨_,_,heap_setBlock_same hb _,MapKept.stamped_empty _,by simp,by simp⟩,(Kept.refl (fun x=>x=b) w).setBlock (Or.inr rfl) _,by simp [setBlock]⟩
 simp [Builtin.clear_,run_underlying ht,MapKept.run_getObj_map hb,MapKept.run_setObj_map _ hb,Result.andThen,setBlock]
end
def zHk4 {α:Type} (f:Int->Option α):Int->Prop:=fun n=>(f n).isSome=true
def zXsb (w:World) (r b:Nat) (f:Int->Option Value) (left:Int->Prop) (cnt:Nat):Prop:=
 ∃ es clock since c0 seen,w.heap[r]?=some (.mapIter (some b) since seen c0)/\w.heap[b]?=some (.map es clock)/\MapKept.Stamped es clock/\(∀ x∈es.toList,MapKept.IsKey (.int .i64) x.key) /\
  (∀ n v,f n=some v↔∃ x∈es.toList,x.key=.int .i64 n/\x.val=v)/\(∀ x∈es.toList,x.born < since)/\since<=c0/\since<=clock /\
  (∀ n,left n↔∃ x∈es.toList,x.key=.int .i64 n/\seen.contains x.born=false)/\cnt=(leftOf es seen).size
def zup1 (w:World) (r:Nat):Nat:=
 match w.heap[r]? with
 | some (.mapIter (some b) _ seen _)=>match w.heap[b]? with | some (.map es _)=>(leftOf es seen).size | _=>0
 | _=>0
section
variable {P:Program} {w w':World} {r b:Nat} {f:Int->Option Value} {t k e:TypeId} {left:Int->Prop} {cnt:Nat}
theorem zXsb.left_eq (h:zXsb w r b f left cnt):zup1 w r=cnt:=by
 obtain ⟨es,clock,since,c0,seen,h1,h2,_,_,_,_,_,_,_,h3⟩:=h
 simp [zup1,h1,h2,h3]
theorem zXsb.lt (h:zXsb w r b f left cnt):r < w.heap.size:=by obtain ⟨es,clock,since,c0,seen,h1,_⟩:=h;exact zvKu h1
theorem zXsb.lt_b (h:zXsb w r b f left cnt):b < w.heap.size:=by obtain ⟨es,clock,since,c0,seen,_,h1,_⟩:=h;exact zvKu h1
theorem zXsb.ne (h:zXsb w r b f left cnt):r≠b:=by
 obtain ⟨es,clock,since,c0,seen,h1,h2,_⟩:=h
 rintro rfl;rw [h1] at h2;cases h2
theorem zXsb.keep (h:zXsb w r b f left cnt) (hr:w'.heap[r]?=w.heap[r]?) (hb:w'.heap[b]?=w.heap[b]?):zXsb w' r b f left cnt:=by
 obtain ⟨es,clock,since,c0,seen,h1,h2,h3⟩:=h
 exact ⟨es,clock,since,c0,seen,hr.trans h1,hb.trans h2,h3⟩
theorem zXsb.kept {S:Nat->Prop} (h:zXsb w r b f left cnt) (hk:Kept S w w') (hr:¬ S r) (hb:¬ S b):zXsb w' r b f left cnt:=
 h.keep (hk.block r h.lt hr) (hk.block b h.lt_b hb)
theorem zXsb.map (h:zXsb w r b f left cnt):IMap w b f:=by
 obtain ⟨es,clock,since,c0,seen,_,h2,h3,h4,h5,_⟩:=h
 exact ⟨es,clock,h2,h3,h4,h5⟩
theorem IMap.range (h:IMap w b f) (ht:P.underlying t=some (.map k e)) :
  ∃ cnt,(Instr.range t (.map (some b))).run P w=.ok (.pointer (some ⟨w.heap.size,0,none⟩)) (w.alloc (.mapIter (some b) ((fun o=>match o with | some (Obj.map _ c)=>c | _=>0) w.heap[b]?) #[] ((fun o=>match o with | some (Obj.map _ c)=>c | _=>0) w.heap[b]?))) /\
   zXsb (w.alloc (.mapIter (some b) ((fun o=>match o with | some (Obj.map _ c)=>c | _=>0) w.heap[b]?) #[] ((fun o=>match o with | some (Obj.map _ c)=>c | _=>0) w.heap[b]?))) w.heap.size b f (fun n=>(f n).isSome) cnt:=by
 obtain ⟨es,clock,hb,hs,hks,hf⟩:=h
 refine ⟨_,by rw [run_range_map w t k e b es clock ht hb,hb],es,clock,clock,clock,#[],?_,zgjU hb _,hs,hks,hf,hs.1,Nat.le_refl _,Nat.le_refl _,?_,rfl⟩
 ·rw [hb];exact heap_alloc_new w _
 ·intro n
  show (f n).isSome=true↔_
  rw [Option.isSome_iff_exists]
  constructor
  ·rintro ⟨v,hv⟩;obtain ⟨x,hx,hk,_⟩:=(hf n v).1 hv;exact ⟨x,hx,hk,by simp⟩
  ·rintro ⟨x,hx,hk,_⟩;exact ⟨x.val,(hf n _).2 ⟨x,hx,hk,rfl⟩⟩
theorem zefU {es:Array MapEntry} {seen:Array Nat} {x:MapEntry} (hx:x∈(leftOf es seen).toList):(leftOf es (seen.push x.born)).size < (leftOf es seen).size:=by
 have e:leftOf es (seen.push x.born)=(leftOf es seen).filter (fun y=>!(y.born == x.born)):=by
  unfold leftOf
  rw [Array.filter_filter]
  congr 1
  funext y
  by_cases h1:y.born=x.born<;>by_cases h2:y.born∈seen<;>simp [h1,h2]
 rw [e]
 have h2:((leftOf es seen).filter (fun y=>!(y.born == x.born))).size≠(leftOf es seen).size:=by
  intro h
  have:=Array.filter_size_eq_size.1 h x (by simpa using hx)
  simp at this
 have:=Array.size_filter_le (p:=fun y:MapEntry=>!(y.born == x.born)) (xs:=leftOf es seen)
 omega
theorem zXsb.next (h:zXsb w r b f left cnt) (ty:TypeId) :
  (cnt=0/\(∀ n,¬ left n)/\(Instr.next (.pointer (some ⟨r,0,none⟩)) false ty).run P w=.ok (.tuple #[.bool false]) w) \/
  ∃ n v w' cnt',left n/\f n=some v/\(Instr.next (.pointer (some ⟨r,0,none⟩)) false ty).run P w=.ok (.tuple #[.bool true,.int .i64 n,v]) w' /\
   zXsb w' r b f (fun m=>left m/\m≠n) cnt'/\cnt' < cnt/\Kept (· = r) w w'/\w'.heap.size=w.heap.size /\
   (Instr.entry (.pointer (some ⟨r,0,none⟩))).run P w'=.ok (.tuple #[.int .i64 n,v]) w':=by
 have hne:=h.ne
 obtain ⟨es,clock,since,c0,seen,hr,hb,hs,hks,hf,hold,hsc,hsk,hl,rfl⟩:=h
 rcases run_next_at (P:=P) w ty r b since c0 seen es clock hr hb hold hsc with ⟨h0,hrun⟩ | ⟨x,hx,w1,hw1,hrun⟩
 ·refine .inl ⟨h0,?_,hrun⟩
  intro n hn
  obtain ⟨x,hx,_,hxs⟩:=(hl n).1 hn
  have hm:x∈leftOf es seen:=by
   unfold leftOf;rw [Array.mem_filter];exact ⟨by simpa using hx,by rw [hxs];rfl⟩
  have:leftOf es seen=#[]:=Array.eq_empty_of_size_eq_zero h0
  rw [this] at hm;simp at hm
 ·have hxm:x∈leftOf es seen:=by simpa using hx
  have hx1:x∈es.toList/\seen.contains x.born=false:=by
   unfold leftOf at hxm;rw [Array.mem_filter] at hxm;exact ⟨by simpa using hxm.1,by simpa using hxm.2⟩
  obtain ⟨n,hn⟩:∃ n,x.key=.int .i64 n:=by
   have:=hks x hx1.1
   revert this
   cases x.key<;>simp [MapKept.IsKey]
  have hr1:w1.heap=w.heap:=by rcases hw1 with rfl | rfl<;>rfl
  have hkept:Kept (· = r) w w1:=by rcases hw1 with rfl | rfl;exact Kept.refl _ _;exact (Kept.refl _ _).drew
  have hsize:(setBlock w1 r (.mapIter (some b) since (seen.push x.born) clock)).heap.size=w.heap.size:=by simp [setBlock,hr1]
  have hrr:(setBlock w1 r (.mapIter (some b) since (seen.push x.born) clock)).heap[r]?=some (.mapIter (some b) since (seen.push x.born) clock):=by
   show (w1.heap.setIfInBounds r _)[r]?=_
   rw [hr1]
   simp [zvKu hr]
  have hbb:(setBlock w1 r (.mapIter (some b) since (seen.push x.born) clock)).heap[b]?=some (.map es clock):=by
   show (w1.heap.setIfInBounds r _)[b]?=_
   rw [hr1,Array.getElem?_setIfInBounds_ne hne];exact hb
  refine .inr ⟨n,x.val,_,_,(hl n).2 ⟨x,hx1.1,hn,hx1.2⟩,(hf n _).2 ⟨x,hx1.1,hn,rfl⟩,by rw [hrun,hn],⟨es,clock,since,clock,seen.push x.born,hrr,hbb,hs,hks,hf,hold,hsk,hsk,?_,rfl⟩,zefU hx,hkept.setBlock (.inr rfl) _,hsize,?_⟩
  ·intro m
   constructor
   ·rintro ⟨hm,hmn⟩
    obtain ⟨y,hy,hyk,hys⟩:=(hl m).1 hm
    refine ⟨y,hy,hyk,?_⟩
    have:y.born≠x.born:=by
     intro hbe
     have:y=x:=by
      obtain ⟨i,hi,rfl⟩:=List.getElem_of_mem hy
      obtain ⟨j,hj,rfl⟩:=List.getElem_of_mem hx1.1
      have hnd:=hs.2.1
      rw [List.nodup_iff_pairwise_ne,List.pairwise_map] at hnd
      rcases Nat.lt_trichotomy i j with h | h | h
      ·exact absurd hbe (List.pairwise_iff_getElem.1 hnd i j hi hj h)
      ·subst h;rfl
      ·exact absurd hbe.symm (List.pairwise_iff_getElem.1 hnd j i hj hi h)
     subst this
     rw [hn] at hyk;injection hyk with _ e;exact hmn e.symm
    have hys':y.born ∉ seen:=by simpa using hys
    simp [hys',this]
   ·rintro ⟨y,hy,hyk,hys⟩
    simp at hys
    refine ⟨(hl m).2 ⟨y,hy,hyk,by simpa using hys.1⟩,?_⟩
    rintro rfl
    have hp:=((MapKept.stamped_iff es clock).1 hs).2.2
    have:y=x:=by
     obtain ⟨i,hi,rfl⟩:=List.getElem_of_mem hy
     obtain ⟨j,hj,rfl⟩:=List.getElem_of_mem hx1.1
     rcases Nat.lt_trichotomy i j with h | h | h
     ·exact absurd (hyk.trans hn.symm) (List.pairwise_iff_getElem.1 hp i j hi hj h)
     ·subst h;rfl
     ·exact absurd (hn.trans hyk.symm) (List.pairwise_iff_getElem.1 hp j i hj hi h)
    subst this
    exact hys.2 rfl
  ·have:=run_entry_at (P:=P) _ r b since seen es clock x hrr hbb hx1.1 hs.2.1
   rw [this,hn]
end
section
variable {P:Program} {ops:Array Oper} {Q:Exit->Act->World->Prop} {a:Act} {w w':World} {rest:List Oper} {o:Oper}
theorem zOei (hg:o.guard=none) (t:TypeId) (x:Operand) (ho:o.op=.range t x) (b:Nat) (hx:a.eval x=.map (some b)) {f:Int->Option Value} (h:IMap w b f) {kt e:TypeId} (ht:P.underlying t=some (.map kt e))
  (k:∀ r w' cnt,w.heap.size<=r->r < w'.heap.size->zXsb w' r b f (zHk4 f) cnt->Kept (fun _=>False) w w'->wpList P ops Q rest (a.put o.dst (.pointer (some ⟨r,0,none⟩))) w'):wpList P ops Q (o :: rest) a w:=by
 obtain ⟨cnt,hrun,hit⟩:=h.range ht
 exact zd3w hg t x ho _ (by rw [hx];exact hrun) (k _ _ cnt (Nat.le_refl _) (by simp) hit ((Kept.refl _ w).alloc _))
theorem z3lK (hg:o.guard=none) (x:Operand) (ho:o.op=.next x false) (r b:Nat) (hx:a.eval x=.pointer (some ⟨r,0,none⟩)) {f:Int->Option Value} {left:Int->Prop} {cnt:Nat} (h:zXsb w r b f left cnt)
  (k0:(∀ n,¬ left n)->wpList P ops Q rest (a.put o.dst (.tuple #[.bool false])) w)
  (k1:∀ n v w' cnt',left n->f n=some v->zXsb w' r b f (fun m=>left m/\m≠n) cnt'->cnt' < cnt->Kept (fun x=>x=r) w w' ->
   (Instr.entry (.pointer (some ⟨r,0,none⟩))).run P w'=.ok (.tuple #[.int .i64 n,v]) w'->wpList P ops Q rest (a.put o.dst (.tuple #[.bool true,.int .i64 n,v])) w'):wpList P ops Q (o :: rest) a w:=by
 rcases h.next (P:=P) o.type with ⟨_,h1,h2⟩ | ⟨n,v,w',cnt',h1,h2,h3,h4,h5,h6,_,h7⟩
 ·exact zdhF hg x false ho _ (by rw [hx];exact h2) (k0 h1)
 ·exact zdhF hg x false ho _ (by rw [hx];exact h3) (k1 n v w' cnt' h1 h2 h4 h5 h6 h7)
end
section
variable {P:Program} {ops:Array Oper} {Q:Exit->Act->World->Prop} {a:Act} {w w':World} {rest:List Oper} {o:Oper}
theorem zFcC (hg:o.guard=none) (t:TypeId) (x:Operand) (ho:o.op=.load t x) (g:Nat) (hx:a.eval x=.pointer (some ⟨g,0,none⟩)) (cs:Array Value) {te:TypeId} {fr:Nat×Nat}
  (hb:w.heap[g]?=some (.cells cs te fr)) {d:TypeDesc} (hu:P.underlying t=some d) (hd:(match d with | .struct _ | .array _ _=>true | _=>false)=true) (hi:(P.info? t).map (·.size)=some cs.size)
  (k:wpList P ops Q rest (a.put o.dst (.agg cs)) w):wpList P ops Q (o :: rest) a w:=
 wpList_load_row hg t x ho g hx te cs fr d hb hu hd hi k
theorem zxQF (hg:o.guard=none) (t:TypeId) (x y:Operand) (ho:o.op=.store t x y) (g:Nat) (cs old:Array Value) (hx:a.eval x=.pointer (some ⟨g,0,none⟩)) (hy:a.eval y=.agg cs) {te:TypeId}
  (hb:w.heap[g]?=some (.cells old te (0,0))) (hi:(P.info? t).map (·.size)=some cs.size) (hold:old.size=cs.size) (h1:cs.all (·.oneCell')=true)
  (k:∀ w',w'.heap[g]?=some (.cells cs te (0,0))->Kept (fun x=>x=g) w w'->wpList P ops Q rest (a.put o.dst undef) w'):wpList P ops Q (o :: rest) a w:=
 wpList_store_row hg t x y ho g cs hx hy te old hb hi hold h1 (k _ (setRow_heap w g old cs te (0,0) hb) ((Kept.refl (fun x=>x=g) w).setRow (.inr rfl) _))
theorem z2q7 (hg:o.guard=none) (t:TypeId) (x y:Operand) (ho:o.op=.store t x y) (g off:Nat) (v:Value) (old:Array Value) (hx:a.eval x=.pointer (some ⟨g,off,none⟩)) (hy:a.eval y=v) {te:TypeId}
  (hb:w.heap[g]?=some (.cells old te (0,0))) (hi:(P.info? t).map (·.size)=some 1) (hlt:off < old.size) (h1:v.oneCell'=true)
  (k:∀ w',w'.heap[g]?=some (.cells (old.setIfInBounds off v) te (0,0))->Kept (fun x=>x=g) w w'->wpList P ops Q rest (a.put o.dst undef) w'):wpList P ops Q (o :: rest) a w:=by
 refine zLKC hg ?_ (k (w.setCell ⟨g,off,none⟩ v) (zAtc hb _ _) ((Kept.refl (fun x=>x=g) w).setCell (.inr rfl) _))
 have hc:w.cell? ⟨g,off,none⟩=some old[off]:=zcjX hb (by simp [hlt])
 have hcs:v.cells=#[v]:=by cases v<;>first | rfl | cases h1
 cases hq:P.info? t with
 | none=>simp [hq] at hi
 | some i=>
  have hs:i.size=1:=by simpa [hq] using hi
  have hst:=run_store P w ⟨g,off,none⟩ v .plain h1
  rw [hc] at hst
  simp [zZnw hb off] at hst
  simp [execOp,ho,hx,hy,Instr.storeAt,Instr.sureAddr,storeVar,hcs,sizeOf,typeInfo,hq,hs,storeCells,Sem.run_bind,Result.andThen]
  rw [Addr.add_zero',hst]
theorem zNko (hg:o.guard=none) (t:TypeId) (ho:o.op=.alloc t) (cs:Array Value) (hz:∀ w,(zeroValue t).run P w=.ok (.agg cs) w)
  (k:∀ g w',w.heap.size<=g->g < w'.heap.size->w'.heap[g]?=some (.cells cs t (0,0))->Kept (fun _=>False) w w'->wpList P ops Q rest (a.put o.dst (.pointer (some ⟨g,0,none⟩))) w'):wpList P ops Q (o :: rest) a w:=
 znAV hg t ho (.agg cs) (hz w) (k w.heap.size _ (Nat.le_refl _) (by simp) (heap_alloc_new w _) ((Kept.refl _ w).alloc _))
theorem znBH (hg:o.guard=none) (t:TypeId) (x:Operand) (ho:o.op=.box t x) (v:Value) (hx:a.eval x=v)
  (k:∀ g w',w.heap.size<=g->g < w'.heap.size->w'.heap[g]?=some (.cells v.cells t (0,0))->Kept (fun _=>False) w w'->wpList P ops Q rest (a.put o.dst (.pointer (some ⟨g,0,none⟩))) w'):wpList P ops Q (o :: rest) a w:=by
 refine z3Ho hg (v:=.pointer (some ⟨w.heap.size,0,none⟩)) (w':=w.alloc (.cells v.cells t)) ?_ (k w.heap.size _ (Nat.le_refl _) (by simp) (heap_alloc_new w _) ((Kept.refl _ w).alloc _))
 simp only [execOp,ho,hx,Instr.box,newVar,newRow,newObj,Sem.run_bind,Sem.run,Result.andThen]
 rfl
theorem zrzo (hg:o.guard=none) (t:TypeId) (ho:o.op=.makeMap t none)
  (k:∀ g w',w.heap.size<=g->g < w'.heap.size->IMap w' g (fun _=>none)->Kept (fun _=>False) w w'->wpList P ops Q rest (a.put o.dst (.map (some g))) w'):wpList P ops Q (o :: rest) a w:=by
 refine z3Ho hg (v:=.map (some w.heap.size)) (w':=w.alloc (.map #[] 0)) ?_ (k w.heap.size _ (Nat.le_refl _) (by simp) (IMap.made w) ((Kept.refl _ w).alloc _))
 simp only [execOp,ho,Instr.makeMap,newObj,Sem.run_bind,Sem.run,Result.andThen,Option.map]
 rfl
theorem zFfS (hg:o.guard=none) (t e:TypeId) (ho:o.op=.buildSlice t 0 #[]) (ht:P.underlying t=some (.slice e)) (hi:(P.info? e).isSome=true)
  (k:∀ g w',w.heap.size<=g->g < w'.heap.size->w'.heap[g]?=some (.cells #[] e (0,0))->Kept (fun _=>False) w w'->wpList P ops Q rest (a.put o.dst (.slice (some ⟨g,0,none⟩) 0 0)) w'):wpList P ops Q (o :: rest) a w:=by
 refine z3Ho hg (v:=.slice (some ⟨w.heap.size,0,none⟩) 0 0) (w':=w.alloc (.cells #[] e)) ?_ (k w.heap.size _ (Nat.le_refl _) (by simp) (heap_alloc_new w _) ((Kept.refl _ w).alloc _))
 obtain ⟨i,hi⟩:=Option.isSome_iff_exists.1 hi
 simp [execOp,ho,Instr.buildSlice,run_underlying ht,sizeOf,typeInfo,hi,Instr.fill,newRow,newObj,Sem.run_bind,Sem.run,Result.andThen,Array.range_zero']
theorem wl_append (hg:o.guard=none) (s x:Operand) (t:TypeId) (ho:o.op=.call { callee:=.builtin .append,args:=#[s,x],argTypes:=#[t,t] })
  (base:Nat) (e:TypeId) {z:Value} {size bytes:Nat} (ht:P.underlying t=some (.slice e)) (hinf:(P.info? e).map (fun i=>(i.zero,i.size,i.bytes))=some (some z,size,bytes)) (hzs:z.cells.size=size) (hsz:0 < size)
  (v:Value) (n:Nat) (xs:List Value) (hs:a.eval s=v) (hown:w.ownsRow base e size v n xs)
  (b off m c:Nat) (news:List Value) (hx:a.eval x=.slice (some ⟨b,off,none⟩) m c) (hl:news.length=m*size) (hnews:∀ j u,news[j]?=some u->w.cell? ⟨b,off+j,none⟩=some u) (h1:∀ u∈news,u.oneCell'=true)
  (hm:0 < m) (h63:n+m<=maxLen) (hbytes:(n+m)*bytes<=140737488355328) (hbase:base<=w.heap.size)
  (k:∀ g cap w',w'.ownsRow base e size (.slice (some ⟨g,0,none⟩) (n+m) cap) (n+m) (xs ++ news)->Kept (fun x=>v.ownBlock=some x) w w'->(v.ownBlock=some g\/w.heap.size<=g)->g < w'.heap.size ->
   wpList P ops Q rest (a.put o.dst (.slice (some ⟨g,0,none⟩) (n+m) cap)) w'):wpList P ops Q (o :: rest) a w:=by
 obtain ⟨i,hi,h2,h3,h4⟩:=info_parts hinf
 refine wpList_append_lies w hg s x t ho base e i z size bytes ht hi h2 h3 h4 hzs hsz v n xs hs hown ⟨b,off,none⟩ m c news hx hl (fun j u hu=>by rw [Addr.add_mid];exact hnews j u hu) h1 hm h63 hbytes hbase w.heap.size rfl ?_
 intro g cap w' hown' hgr hat hlt
 exact k g cap w' hown' ((Kept.refl _ w).grown hgr (fun x hx=>.inr hx)) (hat.imp id (fun e=>by omega)) hlt
theorem zzwC (t:TypeId) (b off:Nat) (cs:Array Value) (hc:∀ j v,cs[j]?=some v->w.cell? ⟨b,off+j,none⟩=some v) {d:TypeDesc} (hu:P.underlying t=some d) (hd:(match d with | .struct _ | .array _ _=>true | _=>false)=true)
  (hi:(P.info? t).map (·.size)=some cs.size):(Instr.loadAt t (.pointer (some ⟨b,off,none⟩))).run P w=.ok (.agg cs) w:=by
 have hl:(loadCells ⟨b,off,none⟩ cs.toList.length).run P w=.ok cs.toList.toArray w:=
  run_loadCells_list (P:=P) w ⟨b,off,none⟩ cs.toList (fun j v hv=>by
   have hadd:(⟨b,off,none⟩:Addr).add j=⟨b,off+j,none⟩:=by unfold Addr.add;split<;>simp_all
   rw [hadd]
   exact hc j v (by simpa using hv))
 cases hq:P.info? t with
 | none=>simp [hq] at hi
 | some i=>
  have hs:i.size=cs.size:=by simpa [hq] using hi
  have hagg:(isAgg t).run P w=.ok true w:=by
   unfold isAgg
   rw [Sem.run_bind,run_underlying hu w]
   cases d<;>simp_all
  simp only [Array.length_toList,Array.toArray_toList] at hl
  simp only [Instr.loadAt,Instr.sureAddr,Sem.run_bind,Sem.run_pure,Result.andThen_ok]
  simp [loadVar,Sem.run_bind,hagg,sizeOf,typeInfo,hq,hs,hl]
theorem zd61 (hg:o.guard=none) (t:TypeId) (x:Operand) (ho:o.op=.load t x) (b off:Nat) (hx:a.eval x=.pointer (some ⟨b,off,none⟩)) (cs:Array Value)
  (hc:∀ j v,cs[j]?=some v->w.cell? ⟨b,off+j,none⟩=some v) {d:TypeDesc} (hu:P.underlying t=some d) (hd:(match d with | .struct _ | .array _ _=>true | _=>false)=true) (hi:(P.info? t).map (·.size)=some cs.size)
  (k:wpList P ops Q rest (a.put o.dst (.agg cs)) w):wpList P ops Q (o :: rest) a w:=by
 refine z3Ho hg ?_ k
 simp only [execOp,ho,hx,Sem.run_bind,zzwC t b off cs hc hu hd hi,Result.andThen_ok]
 rfl
theorem zF7r {Qs:Act->Prop} (hg:o.guard=none) {v:Value} (h:(execOp a.eval o).run P w=.ok (.value v) w) (k:wpStill P ops w Qs rest (a.put o.dst v)):wpStill P ops w Qs (o :: rest) a:=
 wpStill_step fun K hK=>by
  rw [if_pos (by simp [Region.wanted,hg])]
  unfold Oper.still
  rw [h,Oper.stillUpon_value]
  exact hK _ k
theorem z4dz {Qs:Act->Prop} (hg:o.guard=none) (t:TypeId) (x:Operand) (ho:o.op=.load t x) (g:Nat) (hx:a.eval x=.pointer (some ⟨g,0,none⟩)) (cs:Array Value) {te:TypeId} {fr:Nat×Nat}
  (hb:w.heap[g]?=some (.cells cs te fr)) {d:TypeDesc} (hu:P.underlying t=some d) (hd:(match d with | .struct _ | .array _ _=>true | _=>false)=true) (hi:(P.info? t).map (·.size)=some cs.size)
  (k:wpStill P ops w Qs rest (a.put o.dst (.agg cs))):wpStill P ops w Qs (o :: rest) a:=by
 refine zF7r hg ?_ k
 simp only [execOp,ho,hx,Instr.loadAt,Instr.sureAddr,Sem.run_bind,Sem.run_pure,Result.andThen_ok,run_loadVar_row w g te t cs fr d hb hu hd hi]
theorem zfMB {Qs:Act->Prop} (hg:o.guard=none) (t:TypeId) (x:Operand) (ho:o.op=.load t x) (b off:Nat) (hx:a.eval x=.pointer (some ⟨b,off,none⟩)) (cs:Array Value)
  (hc:∀ j v,cs[j]?=some v->w.cell? ⟨b,off+j,none⟩=some v) {d:TypeDesc} (hu:P.underlying t=some d) (hd:(match d with | .struct _ | .array _ _=>true | _=>false)=true) (hi:(P.info? t).map (·.size)=some cs.size)
  (k:wpStill P ops w Qs rest (a.put o.dst (.agg cs))):wpStill P ops w Qs (o :: rest) a:=by
 refine zF7r hg ?_ k
 have hl:(loadCells ⟨b,off,none⟩ cs.toList.length).run P w=.ok cs.toList.toArray w:=
  run_loadCells_list (P:=P) w ⟨b,off,none⟩ cs.toList (fun j v hv=>by
   have hadd:(⟨b,off,none⟩:Addr).add j=⟨b,off+j,none⟩:=by unfold Addr.add;split<;>simp_all
   rw [hadd]
   exact hc j v (by simpa using hv))
 cases hq:P.info? t with
 | none=>simp [hq] at hi
 | some i=>
  have hs:i.size=cs.size:=by simpa [hq] using hi
  have hagg:(isAgg t).run P w=.ok true w:=by
   unfold isAgg
   rw [Sem.run_bind,run_underlying hu w]
   cases d<;>simp_all
  simp only [Array.length_toList,Array.toArray_toList] at hl
  simp only [execOp,ho,hx,Instr.loadAt,Instr.sureAddr,Sem.run_bind,Sem.run_pure,Result.andThen_ok]
  simp [loadVar,Sem.run_bind,hagg,sizeOf,typeInfo,hq,hs,hl]
theorem zQJM {Qs:Act->Prop} (hg:o.guard=none) (t:TypeId) (x:Operand) (ho:o.op=.sliceToArrayPointer t x) (A:Option Addr) (n c:Nat) (hx:a.eval x=.slice A n c) {N:Nat} {e:TypeId} (hu:P.underlying t=some (.array N e)) (hn:N<=n)
  (k:wpStill P ops w Qs rest (a.put o.dst (.pointer A))):wpStill P ops w Qs (o :: rest) a:=by
 refine zF7r hg ?_ k
 have:¬ n < N:=by omega
 simp [execOp,ho,hx,Instr.arrayAt,run_underlying hu,Result.andThen,this]
end
end Go.Proofs.Ytnbfhdgojmflhaa
