/-
  No statement is proved here.
-/
import Derived.Test.YtnbfhdgojmflhaaJLgl
namespace Go.Proofs.Ytnbfhdgojmflhaa
open Go.RowKit
theorem z7RB (w:World):Calls Try.prog 44 #[.pointer none] w fun e w'=>e=.returned (.int .i64 0)/\w=w':=by
 go_enter Try.func44,Try.ntmps44
 go_wp2
 go_ret
 exact ⟨rfl,rfl⟩
theorem LsV.ne_own {w:World} {base base':Nat} {v u:Value} {l:List Int} {b:Bytes} (h:LsV w base v l) (k:OwnV w base' u b) (x:Nat) (hx:v.ownBlock=some x):u.ownBlock≠some x:=by
 intro hu
 rcases h with ⟨rfl,_⟩ | ⟨g,off,c,cur,rfl,h2,h3,_⟩
 ·cases hx
 ·cases hx
  rcases k.form with ⟨rfl,_⟩ | ⟨g',cap,rfl,hb⟩
  ·cases hu
  ·cases hu
   obtain ⟨cur',_,h4,_⟩:=hb.form
   have h4':w.heap[g]?=some (.cells cur' 5 (0,0)):=h4
   rw [h3] at h4'
   cases h4'
theorem LogQ.ne_own {w:World} {q p:Nat} {lv tv:Value} {L:LogM} {base':Nat} {u:Value} {b:Bytes} (h:LogQ w q p lv tv L) (k:OwnV w base' u b):u.ownBlock≠some q:=by
 intro hu
 rcases k.form with ⟨rfl,_⟩ | ⟨g',cap,rfl,hb⟩
 ·cases hu
 ·cases hu
  obtain ⟨cur',_,h4,_⟩:=hb.form
  have h4':w.heap[g']?=some (.cells cur' 5 (0,0)):=h4
  unfold LogQ at h
  rw [h] at h4'
  cases h4'
theorem LogQ.ne_ls {w:World} {q p:Nat} {lv tv:Value} {L:LogM} {base':Nat} {u:Value} {b:List Int} (h:LogQ w q p lv tv L) (k:LsV w base' u b):u.ownBlock≠some q:=by
 intro hu
 rcases k with ⟨rfl,_⟩ | ⟨g,off,c,cur,rfl,h2,h3,_⟩
 ·cases hu
 ·cases hu
  have h3':w.heap[g]?=some (.cells cur 2 (0,0)):=h3
  unfold LogQ at h
  rw [h] at h3'
  cases h3'
theorem zJJJ {turn:Int} {all:Bytes} {f a:Nat} {fin last:Int} {lsns:List Int} (h:getL (all.drop a)=none\/∃ r n,getL (all.drop a)=some (r,n)/\(r.lsn≠fin\/r.turn < last\/turn<=r.turn)):scanM turn all f a fin last lsns=(lsns,fin,a):=by
 cases f with
 | zero=>rfl
 | succ f=>
  unfold scanM
  rcases h with h | ⟨r,n,h,h2⟩
  ·rw [h]
  ·rw [h]
   show (if _ then _ else _)=_
   rw [if_pos h2]
theorem zsdV {turn:Int} {all:Bytes} {f a:Nat} {fin last:Int} {lsns:List Int} {r:RecM} {n:Nat} (h:getL (all.drop a)=some (r,n)) (h2:¬ (r.lsn≠fin\/r.turn < last\/turn<=r.turn)):scanM turn all (f+1) a fin last lsns=scanM turn all f (a+n) (fin+n) r.turn (lsns ++ [fin]):=by
 rw [scanM,h]
 show (if _ then _ else _)=_
 rw [if_neg h2]
def zM8s (w:World) (p ms mo:Nat) (x:Option LogM×DevM×Int) (e:Ending) (w':World):Prop:=Kept (fun x=>x=p\/x=ms\/x=mo) w w' /\
 (x.1=none->e=.returned (.tuple #[.pointer none,.int .i64 x.2.2])/\DevAt w' p ms mo x.2.1) /\
 (∀ L,x.1=some L->∃ q lv tv,e=.returned (.tuple #[.pointer (some ⟨q,0,none⟩),.int .i64 0])/\LogS w' q p ms mo lv tv L x.2.1/\w.heap.size<=q/\(∀ x,lv.ownBlock=some x->w.heap.size<=x)/\(∀ x,tv.ownBlock=some x->w.heap.size<=x))
theorem zM8s.no {w w':World} {p ms mo:Nat} {x:Option LogM×DevM×Int} {e:Ending} (hk:Kept (fun x=>x=p\/x=ms\/x=mo) w w') (h:x.1=none) (he:e=.returned (.tuple #[.pointer none,.int .i64 x.2.2])) (hd:DevAt w' p ms mo x.2.1):zM8s w p ms mo x e w':=
 ⟨hk,fun _=>⟨he,hd⟩,fun L hL=>by rw [h] at hL;cases hL⟩
def badM (n f c o t:Int):Prop:=f < 0\/c < 4\/n < f\/n - f < c\/o < 1\/2305843009213693952 < o\/t < 1\/2147483648<=t
instance (n f c o t:Int):Decidable (badM n f c o t):=by unfold badM;infer_instance
theorem bLog' (p:Nat) (f c t o:Int) (wz:World):(Instr.build 104 #[(0,.pointer (some ⟨p,0,none⟩)),(1,.int .i64 f),(2,.int .i64 c),(3,.int .i64 t),(4,.int .i64 o),(5,.int .i64 o),(6,.int .i64 o)]).run Try.prog wz =
  .ok (.agg (logC p (.slice none 0 0) (.slice none 0 0) ⟨f,c,t,o,o,o,[],[],0⟩)) wz:=bLog p f c t o wz
end Go.Proofs.Ytnbfhdgojmflhaa
