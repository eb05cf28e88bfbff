/-
  No statement is proved here.
-/
import Derived.Test.YtnbfhdgojmflhaaJGv
import Derived.Test.YtnbfhdgojmflhaaJOrc
namespace Go.Proofs.Ytnbfhdgojmflhaa
open Go.RowKit
theorem zfmj {fn:Func} {p u v:Tmp} {ty:TypeId} (h:fn.results=#[.cell p ty,.tmp u,.tmp v]) (tmps:Array Value) (P:Program) (w:World) :
  (results fn tmps).run P w =
   ((asAddr (tmps.getD p undef)).run P w).andThen fun a w₁=>((loadVar ty a).run P w₁).andThen fun x w₂=>.ok (.tuple #[x,tmps.getD u undef,tmps.getD v undef]) w₂:=by
 simp only [results,h]
 simp [Sem.run_bind,Result.andThen]
theorem z4H8 {P:Program} {fn:Func} {p u v:Tmp} {ty:TypeId} (h:fn.results=#[.cell p ty,.tmp u,.tmp v]) (tmps:Array Value) (w:World) (g:Nat) (cs:Array Value) {t:TypeId} {fr:Nat×Nat} {d:TypeDesc} (hp:tmps.getD p undef=.pointer (some ⟨g,0,none⟩)) (hg:w.heap[g]?=some (.cells cs t fr))
  (hu:P.underlying ty=some d) (hd:(match d with | .struct _ | .array _ _=>true | _=>false)=true) (hi:(P.info? ty).map (·.size)=some cs.size):(results fn tmps).run P w=.ok (.tuple #[.agg cs,tmps.getD u undef,tmps.getD v undef]) w:=by
 rw [zfmj h,hp]
 simp [asAddr,Result.andThen,run_loadVar_row w g t ty cs fr d hg hu hd hi]
def slA (A:Option Addr) (k c:Nat):Option Addr:=if c=k then A else A.map (·.add (k*1))
theorem zTgL (w:World):(sizeOf ((Try.prog).elem 37)).run Try.prog w=.ok 1 w:=by
 have h:((Try.prog).info? ((Try.prog).elem 37)).map (·.size)=some 1:=by kernel_rfl
 cases hq:(Try.prog).info? ((Try.prog).elem 37) with
 | none=>simp [hq] at h
 | some i=>
  have h1:i.size=1:=by simpa [hq] using h
  simp [sizeOf,typeInfo,hq,h1]
theorem z2Xy:(Try.prog).underlying 37=some (.slice ((Try.prog).elem 37)):=by kernel_rfl
theorem zMkx (A:Option Addr) (n c k:Nat) (hk:k<=n) (w:World):(Instr.slice 37 (.slice A n c) (some (.int .i64 k)) none none).run Try.prog w=.ok (.slice (slA A k c) (n - k) (c - k)) w:=by
 rw [run_slice_l w 37 A n c z2Xy .i64 (k:Int) (by omega) (by omega),zTgL]
 rfl
theorem zY6E (A:Option Addr) (n c k:Nat) (hk:k<=c) (w:World):(Instr.slice 37 (.slice A n c) none (some (.int .i64 k)) none).run Try.prog w=.ok (.slice (slA A 0 c) k c) w:=by
 rw [run_slice_h w 37 A n c z2Xy .i64 (k:Int) (by omega) (by omega),zTgL]
 rfl
theorem zRDz (A:Option Addr) (n c k h:Nat) (hk:k<=h) (hh:h<=c) (w:World):(Instr.slice 37 (.slice A n c) (some (.int .i64 k)) (some (.int .i64 h)) none).run Try.prog w=.ok (.slice (slA A k c) (h - k) (c - k)) w:=by
 rw [run_slice_lh w 37 A n c z2Xy .i64 .i64 (k:Int) (h:Int) (by omega) (by omega) (by omega),zTgL]
 rfl
theorem RdB.sl {w:World} {A:Option Addr} {l:Bytes} (h:RdB w A l) (k c:Nat) (hc:l.length<=c):RdB w (slA A k c) (l.drop k):=by
 intro hne
 have hl:l≠[]:=fun e=>hne (by rw [e];simp)
 have hkl:k < l.length:=by
  rcases Nat.lt_or_ge k l.length with h | h
  ·exact h
  ·exact absurd (List.drop_eq_nil_of_le h) hne
 obtain ⟨b,off,rfl,hcell⟩:=h hl
 unfold slA
 rw [if_neg (by omega)]
 refine ⟨b,off+k,?_,fun j v hv=>?_⟩
 ·rw [Nat.mul_one]
  show some ((⟨b,off,none⟩:Addr).add k)=_
  rw [Addr.add_mid]
 ·rw [z2D0,List.getElem?_drop,<- z2D0] at hv
  rw [Nat.add_assoc]
  exact hcell (k+j) v hv
theorem RdB.takeG {w:World} {A:Option Addr} {l:Bytes} (h:RdB w A l) (n:Nat):RdB w A (l.take n):=by
 intro hne
 obtain ⟨b,off,e,hc⟩:=h (by rintro rfl;simp at hne)
 refine ⟨b,off,e,fun j u hu=>hc j u ?_⟩
 rw [z2D0,List.getElem?_take] at hu
 split at hu
 ·rw [z2D0];exact hu
 ·simp at hu
theorem z6mH {ev:Operand->Value} {o:Oper} (x:Operand) (k:Nat) (ho:o.op=.slice 37 x (some (.const (.int .i64 k))) none none) (A:Option Addr) (n c:Nat) (hx:ev x=.slice A n c) (hev:ev (.const (.int .i64 k))=.int .i64 k) (hk:k<=n) (w:World) :
  (execOp ev o).run Try.prog w=.ok (.value (.slice (slA A k c) (n - k) (c - k))) w:=by
 simp only [execOp,ho,hx,hev,Option.map,Sem.run_bind,run_sliceAt_slice w 37 _ _ _ _ z2Xy,zMkx A n c k hk w,Result.andThen]
 rfl
theorem zdzR {ev:Operand->Value} {o:Oper} (x y:Operand) (k:Nat) (ho:o.op=.slice 37 x none (some y) none) (A:Option Addr) (n c:Nat) (hI:Int) (hx:ev x=.slice A n c) (hy:ev y=.int .i64 hI) (e:hI=(k:Int)) (hk:k<=c) (w:World) :
  (execOp ev o).run Try.prog w=.ok (.value (.slice (slA A 0 c) k c)) w:=by
 subst e
 simp only [execOp,ho,hx,hy,Option.map,Sem.run_bind,run_sliceAt_slice w 37 _ _ _ _ z2Xy,zY6E A n c k hk w,Result.andThen]
 rfl
theorem z7md {ev:Operand->Value} {o:Oper} (x y z:Operand) (k h m:Nat) {A':Option Addr} (ho:o.op=.slice 37 x (some z) (some y) none) (A:Option Addr) (n c:Nat) (hI:Int) (hx:ev x=.slice A n c) (hz:ev z=.int .i64 k) (hy:ev y=.int .i64 hI) (e:hI=(h:Int)) (hk:k<=h) (hh:h<=c) (hm:h - k=m) (hA:slA A k c=A') (w:World) :
  (execOp ev o).run Try.prog w=.ok (.value (.slice A' m (c - k))) w:=by
 subst e;subst hm;subst hA
 simp only [execOp,ho,hx,hy,hz,Option.map,Sem.run_bind,run_sliceAt_slice w 37 _ _ _ _ z2Xy,zRDz A n c k h hk hh w,Result.andThen]
 rfl
theorem zjw2 {ev:Operand->Value} {o:Oper} (x z:Operand) (k:Nat) (ho:o.op=.slice 37 x (some z) none none) (A:Option Addr) (n c:Nat) (hI:Int) (hx:ev x=.slice A n c) (hz:ev z=.int .i64 hI) (e:hI=(k:Int)) (hk:k<=n) (w:World) :
  (execOp ev o).run Try.prog w=.ok (.value (.slice (slA A k c) (n - k) (c - k))) w:=by
 subst e
 simp only [execOp,ho,hx,hz,Option.map,Sem.run_bind,run_sliceAt_slice w 37 _ _ _ _ z2Xy,zMkx A n c k hk w,Result.andThen]
 rfl
theorem zSwC {ops:Array Oper} {Q:Exit->Act->World->Prop} {E:Prop} {K:Act->World->Prop} {a:Act} {w:World} {o:Oper} (hg:o.guard=none) (t:TypeId) (x y:Operand) (ho:o.op=.store t x y) (g:Nat) (cs old:Array Value) (hx:a.eval x=.pointer (some ⟨g,0,none⟩)) (hy:a.eval y=.agg cs) {te:TypeId}
  (hb:w.heap[g]?=some (.cells old te (0,0))) (hi:((Try.prog).info? t).map (·.size)=some cs.size) (hold:old.size=cs.size) (h1:cs.all (·.oneCell')=true)
  (k:∀ w',w'.heap[g]?=some (.cells cs te (0,0))->Kept (fun x=>x=g) w w'->K (a.put o.dst undef) w'):if Region.wanted o (yielded ops a.tmps)=true then Oper.wp Try.prog o a w K Q else E:=by
 rw [if_pos (by simp [Region.wanted,hg])]
 exact wp_store_row t x y ho g cs hx hy te old hb hi hold h1 (k _ (setRow_heap w g old cs te (0,0) hb) ((Kept.refl (fun x=>x=g) w).setRow (.inr rfl) _))
theorem zRRc {ops:Array Oper} {Q:Exit->Act->World->Prop} {E:Prop} {K:Act->World->Prop} {a:Act} {w:World} {o:Oper} (hg:o.guard=none) (t:TypeId) (x y:Operand) (ho:o.op=.store t x y) (g off:Nat) (v:Value) (old:Array Value) (hx:a.eval x=.pointer (some ⟨g,off,none⟩)) (hy:a.eval y=v) {te:TypeId}
  (hb:w.heap[g]?=some (.cells old te (0,0))) (hi:((Try.prog).info? t).map (·.size)=some 1) (hlt:off < old.size) (h1:v.oneCell'=true)
  (k:∀ w',w'.heap[g]?=some (.cells (old.setIfInBounds off v) te (0,0))->Kept (fun x=>x=g) w w'->K (a.put o.dst undef) w'):if Region.wanted o (yielded ops a.tmps)=true then Oper.wp Try.prog o a w K Q else E:=by
 rw [if_pos (by simp [Region.wanted,hg])]
 have hr:(execOp a.eval o).run Try.prog w=.ok .skip (w.setCell ⟨g,off,none⟩ v):=by
  have hc:w.cell? ⟨g,off,none⟩=some old[off]:=zcjX hb (by simp [hlt])
  have hcs:v.cells=#[v]:=by cases v<;>first | rfl | cases h1
  cases hq:(Try.prog).info? t with
  | none=>simp [hq] at hi
  | some i=>
   have hs:i.size=1:=by simpa [hq] using hi
   have hst:=run_store Try.prog w ⟨g,off,none⟩ v .plain h1
   rw [hc] at hst
   simp [zZnw hb off] at hst
   simp [execOp,ho,hx,hy,Instr.storeAt,Instr.sureAddr,storeVar,hcs,sizeOf,typeInfo,hq,hs,storeCells,Sem.run_bind,Result.andThen]
   rw [Addr.add_zero',hst]
 unfold Oper.wp
 rw [hr]
 exact k _ (zAtc hb _ _) ((Kept.refl (fun x=>x=g) w).setCell (.inr rfl) _)
theorem bR0 (wz:World):(Instr.build 78 #[]).run Try.prog wz=.ok (.agg (recC ⟨0,0,0,0,0,0,0,0,[],[]⟩ none 0 none 0)) wz:=run_build wz _ _ _ (by kernel_rfl)
theorem bR5 (a b k c d:Int) (wz:World):(Instr.build 78 #[(0,.int .i64 a),(1,.int .i64 b),(2,.int .u8 k),(3,.int .i64 c),(4,.int .i64 d)]).run Try.prog wz =
  .ok (.agg #[.int .i64 a,.int .i64 b,.int .u8 k,.int .i64 c,.int .i64 d,.int .i64 0,.int .i64 0,.int .i64 0,.slice none 0 0,.slice none 0 0]) wz:=run_build wz _ _ _ (by kernel_rfl)
set_option maxRecDepth 20000 in
theorem zj14 (A:Option Addr) (c:Nat) (l:Bytes) (w:World) (h:RdB w A l) (hn:A=none->c=0) (hl:l.length<=1000000) :
  Calls Try.prog 41 #[.slice A l.length c] w fun e w'=>∃ v,e=.returned v/\OwnV w' w.heap.size v l/\Kept (fun _=>False) w w':=by
 have H:=qh h
 clear h
 cases A with
 | none=>
  have hl0:l=[]:=by
   rcases Decidable.em (l=[]) with h | h
   ·exact h
   ·obtain ⟨_,_,h,_⟩:=H.out h
    cases h
  obtain rfl:=hn rfl
  subst hl0
  have qT:∀ w:World,(binOp .eql 37 (.slice none 0 0) (.slice none 0 0)).run Try.prog w=.ok (.bool true) w:=fun w=>Lib.run_eql_slice_nil w _ _ _ _ _ _ _ Try.underlying37
  go_enter Try.func41,Try.ntmps41
  go_wp2
  go_ret
  exact ⟨_,rfl,OwnV.nil _ _,Kept.refl _ _⟩
 | some a=>
  clear hn
  have HO:=qh (show OwnV (w.alloc (.cells #[] 5)) w.heap.size (.slice (some ⟨w.heap.size,0,none⟩) 0 0) [] from OwnV.of_new (w:=w) [] (Nat.le_refl _))
  have HK:=qh ((Kept.refl (fun _=>False) w).alloc (.cells #[] 5))
  have HR:=qh (H.out.kept HK.out (fun _ _ _ _=>id))
  have qT:∀ w:World,(binOp .eql 37 (.slice (some a) l.length c) (.slice none 0 0)).run Try.prog w=.ok (.bool false) w:=fun w=>Lib.run_eql_slice_nil w _ _ _ _ _ _ _ Try.underlying37
  go_enter Try.func41,Try.ntmps41
  go_wp2_with (at_builtin;refine z7Vm rfl _ _ rfl w.heap.size _ [] l rfl HO.out (some a) c rfl HR.out (by simp;omega) (by have:=HK.out.size;exact this) ?_)
  intro v w2 ho hk _
  have HO2:=qh ho
  have HK2:=qh (HK.out.new hk (fun x hx=>by have e:w.heap.size=x:=Option.some.inj hx;omega))
  clear ho hk
  go_wp2
  go_ret
  exact ⟨_,rfl,HO2.out,HK2.out⟩
theorem z12v (A:Option Addr) (n c:Nat) (l:Bytes) (w:World) (hln:l.length=n) (h:RdB w A l) (hn:A≠none) (hl:n<=1000000) :
  Calls Try.prog 41 #[.slice A n c] w fun e w'=>∃ A' c',e=.returned (.slice A' n c')/\OwnV w' w.heap.size (.slice A' n c') l/\Kept (fun _=>False) w w':=by
 subst hln
 refine (zj14 A c l w h (fun e=>absurd e hn) hl).mono ?_
 rintro e w' ⟨v,rfl,h2,h3⟩
 rcases h2.form with ⟨rfl,rfl⟩ | ⟨g,cap,rfl,_⟩
 ·exact ⟨none,0,rfl,h2,h3⟩
 ·exact ⟨some ⟨g,0,none⟩,cap,rfl,h2,h3⟩
theorem ztrL {A:Option Addr} (h:A≠none) (k c:Nat):slA A k c≠none:=by
 unfold slA
 split
 ·exact h
 ·cases A with
  | none=>exact absurd rfl h
  | some a=>simp
theorem ze6V (A:Option Addr) (n c:Nat) (l:Bytes) (size:Nat) (w:World) (hn:l.length=n) (h:RdB w A l) (hs:size<=8) (hl:size<=n) (hc:n<=c) :
  Calls Try.prog 71 #[.slice A n c,.int .i64 size] w fun e w'=>e=.returned (.int .i64 (sgn (valN (l.take size) 0)))/\w=w':=by
 subst hn
 exact zy7D A c l size w h hs hl hc
theorem zPu5 {l:Bytes} {k:Nat} (h:k<=4):sgn (valN (l.take k) 0)=((valN (l.take k) 0:Nat):Int):=by
 refine zfEu ?_
 have h1:=zEqO (l.take k)
 have h2:(l.take k).length<=4:=by rw [List.length_take];omega
 have h3:256 ^ (l.take k).length<=256 ^ 4:=Nat.pow_le_pow_right (by decide) h2
 exact Nat.lt_of_lt_of_le h1 (Nat.le_trans h3 (by decide))
def zRec:RecM:=⟨0,0,0,0,0,0,0,0,[],[]⟩
def zRecC:Array Value:=recC zRec none 0 none 0
theorem zU5K:(Try.prog.info? 78).map (fun i=>(i.zero,i.size))=some (some (.agg zRecC),10):=by kernel_rfl
theorem zzWm (w:World):(zeroValue 78).run Try.prog w=.ok (.agg zRecC) w:=(zero_of_info zU5K).1 w
theorem zWmC:(Try.prog.info? 78).map (·.size)=some 10:=(zero_of_info zU5K).2
theorem zh6u (r:RecM) (A1:Option Addr) (c1:Nat) (A2:Option Addr) (c2:Nat):(recC r A1 c1 A2 c2).all (·.oneCell')=true:=by simp [recC,Value.oneCell']
theorem bR0' (wz:World):(Instr.build 78 #[]).run Try.prog wz=.ok (.agg zRecC) wz:=bR0 wz
def RecS (w:World) (y:Nat) (r:RecM) (A1:Option Addr) (c1:Nat) (A2:Option Addr) (c2:Nat):Prop:=w.heap[y]?=some (.cells (recC r A1 c1 A2 c2) 78 (0,0))
def zLSY (b:Bytes) (w:World) (e:Ending) (w':World):Prop:=Kept (fun _=>False) w w' /\
 (getL b=none->e=.returned (.tuple #[.agg zRecC,.int .i64 0,.int .i64 4])) /\
 (∀ r k,getL b=some (r,k)->∃ A1 c1 A2 c2,e=.returned (.tuple #[.agg (recC r A1 c1 A2 c2),.int .i64 (k:Nat),.int .i64 0]) /\
  OwnV w' w.heap.size (.slice A1 r.old.length c1) r.old/\OwnV w' w.heap.size (.slice A2 r.new.length c2) r.new/\(∀ x,(Value.slice A1 r.old.length c1).ownBlock=some x->(Value.slice A2 r.new.length c2).ownBlock=some x->False))
theorem zLSY.no {b:Bytes} {w w':World} (hk:Kept (fun _=>False) w w') (h:getL b=none):zLSY b w (.returned (.tuple #[.agg zRecC,.int .i64 0,.int .i64 4])) w':=
 ⟨hk,fun _=>rfl,fun r k h'=>by rw [h] at h';cases h'⟩
theorem zLSY.yes {b:Bytes} {w w':World} {r:RecM} {k:Nat} {e:Ending} (hk:Kept (fun _=>False) w w') (h:getL b=some (r,k)) {A1:Option Addr} {c1:Nat} {A2:Option Addr} {c2:Nat} (he:e=.returned (.tuple #[.agg (recC r A1 c1 A2 c2),.int .i64 (k:Nat),.int .i64 0]))
  (h1:OwnV w' w.heap.size (.slice A1 r.old.length c1) r.old) (h2:OwnV w' w.heap.size (.slice A2 r.new.length c2) r.new) (hd:∀ x,(Value.slice A1 r.old.length c1).ownBlock=some x->(Value.slice A2 r.new.length c2).ownBlock=some x->False):zLSY b w e w':=by
 refine ⟨hk,fun h'=>(by rw [h] at h';cases h'),fun r' k' h'=>?_⟩
 rw [h] at h'
 obtain ⟨rfl,rfl⟩:=Prod.mk.inj (Option.some.inj h')
 exact ⟨A1,c1,A2,c2,he,h1,h2,hd⟩
theorem zBRN {b:Bytes} (h:b.length < 18):getL b=none:=by unfold getL;rw [if_pos h]
theorem zEbe {b:Bytes} (h:gBad b):getL b=none:=by
 unfold getL
 split
 ·rfl
 ·first | rfl | rw [if_pos h]
def getT (b:Bytes):Option (RecM×Nat):=
 if gKind b=2\/gKind b=1 then
  if (zZTg b).length < 8 then none else
  if (z3N4 b).length≠gM b then none else
  if zZer (gR4 b) then some (gR4 b,18+gN b) else none
 else if 0 < (zZTg b).length\/¬ zZer (gR1 b) then none else some (gR1 b,18+gN b)
theorem zsCd {b:Bytes} (h:¬ b.length < 18) (h2:¬ gBad b):getL b=getT b:=by unfold getL getT;rw [if_neg h,if_neg h2]
theorem zKpa {v:Nat} (h:v < 256 ^ 8):isI (sgn v):=by
 unfold isI sgn
 split<;>omega
theorem val8 (l:Bytes) (a:Nat):valN (cut l a 8) 0 < 256 ^ 8:=by
 have h1:=zEqO (cut l a 8)
 have h2:(cut l a 8).length<=8:=by unfold cut;rw [List.length_take];omega
 exact Nat.lt_of_lt_of_le h1 (Nat.pow_le_pow_right (by decide) h2)
theorem val4 (l:Bytes) (a k:Nat) (hk:k<=4):valN (cut l a k) 0 < 4294967296:=by
 have h1:=zEqO (cut l a k)
 have h2:(cut l a k).length<=4:=by unfold cut;rw [List.length_take];omega
 exact Nat.lt_of_lt_of_le h1 (Nat.le_trans (Nat.pow_le_pow_right (by decide) h2) (by decide))
theorem zGlv {v:Nat} (h:v < 4294967296):isI ((v:Nat):Int):=by unfold isI;omega
theorem zT3y:isI 0:=by unfold isI;exact ⟨by decide,by decide⟩
theorem ok_R0 (b:Bytes):RecOk (gR0 b):=
 ⟨zKpa (val8 b 0),zGlv (val4 b 8 4 (by decide)),zKpa (val8 _ 1),zKpa (val8 _ 9),zT3y,zT3y,zT3y⟩
theorem ok_R1 (b:Bytes):RecOk (gR1 b):=by
 have h:=ok_R0 b
 unfold gR1
 split
 ·exact ⟨h.lsn,h.turn,h.tx,h.prev,zKpa (val8 _ 0),h.blk,h.off⟩
 ·exact h
theorem ok_R4 (b:Bytes):RecOk (gR4 b):=by
 have h:=ok_R1 b
 have h2:RecOk (gR2 b):=⟨h.lsn,h.turn,h.tx,h.prev,h.next,zGlv (val4 _ 0 4 (by decide)),zGlv (val4 _ 4 2 (by decide))⟩
 have h3:RecOk (gR3 b):=by
  unfold gR3
  split
  ·exact ⟨h2.lsn,h2.turn,h2.tx,h2.prev,h2.next,h2.blk,h2.off⟩
  ·exact h2
 exact ⟨h3.lsn,h3.turn,h3.tx,h3.prev,h3.next,h3.blk,h3.off⟩
def zIPy (b:Bytes) (w:World) (y z:Nat) (v:Value) (wx:World):Prop:=∃ A6 c6 l6 R A1 c1 A2 c2,v=.slice A6 l6 c6/\getL b=(if 0 < l6\/¬ zZer R then none else some (R,18+gN b))/\RecOk R/\R.old.length<=1000000/\R.new.length<=1000000 /\
 RecS wx y R A1 c1 A2 c2/\OwnV wx (y+1) (.slice A1 R.old.length c1) R.old/\OwnV wx (y+1) (.slice A2 R.new.length c2) R.new/\(∀ x,(Value.slice A1 R.old.length c1).ownBlock=some x->(Value.slice A2 R.new.length c2).ownBlock=some x->False) /\
 wx.heap[z]?=some (.cells zRecC 78 (0,0))/\Kept (fun _=>False) w wx
end Go.Proofs.Ytnbfhdgojmflhaa
