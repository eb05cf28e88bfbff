/-
  No statement is proved here.
-/
import Derived.Test.YtnbfhdgojmflhaaJKept
import Derived.Test.YtnbfhdgojmflhaaJGm
namespace Go.Proofs.Ytnbfhdgojmflhaa
open Go.RowKit
theorem zu3v {w:World} {base:Nat} {e:TypeId} {size g n m cap:Nat} {xs ys:List Value} (h:w.ownsRow base e size (.slice (some ⟨g,0,none⟩) (n+m) cap) (n+m) (xs ++ ys)) (hx:xs.length=n*size):w.ownsRow base e size (.slice (some ⟨g,0,none⟩) n cap) n xs:=by
 obtain ⟨_,h⟩:=h
 rcases h with ⟨h,_⟩ | ⟨g',cap',cur,hv,hb,hh,h1,h2,h3,h4⟩
 ·cases h
 ·injection hv with e1 e2 e3
  injection e1 with e1
  injection e1 with e1
  subst e1;subst e3
  refine ⟨hx,.inr ⟨g,cap,cur,rfl,hb,hh,by omega,h2,h3,?_⟩⟩
  have:=congrArg (List.take (n*size)) h4
  rw [List.take_take,Nat.add_mul,Nat.min_eq_left (by omega)] at this
  rw [this,<- hx]
  exact List.take_left
theorem zh0U {S:Nat->Prop} {w w':World} {base:Nat} {e:TypeId} {size n:Nat} {v:Value} {xs:List Value} (h:w.ownsRow base e size v n xs) (hk:Kept S w w') (hn:∀ x,v.ownBlock=some x->¬ S x):w'.ownsRow base e size v n xs:=by
 obtain ⟨h0,h⟩:=h
 refine ⟨h0,?_⟩
 rcases h with h | ⟨g,cap,cur,hv,hb,hh,h1,h2,h3,h4⟩
 ·exact .inl h
 ·exact .inr ⟨g,cap,cur,hv,hb,hk.heap hh (hn g (by rw [hv];rfl)),h1,h2,h3,h4⟩
theorem z0TN {P:Program} {w:World} (t ty:TypeId) (base:Nat) (e:TypeId) {z:Value} {size bytes:Nat} (ht:P.underlying t=some (.slice e)) (hinf:(P.info? e).map (fun i=>(i.zero,i.size,i.bytes))=some (some z,size,bytes)) (hzs:z.cells.size=size) (hsz:0 < size)
  (v:Value) (n:Nat) (xs:List Value) (hown:w.ownsRow base e size v n xs)
  (ad:Addr) (m c:Nat) (news:List Value) (hl:news.length=m*size) (hnews:∀ j u,news[j]?=some u->w.cell? (ad.add j)=some u) (h1:∀ u∈news,u.oneCell'=true)
  (hm:0 < m) (h63:n+m<=maxLen) (hbytes:(n+m)*bytes<=140737488355328) (hbase:base<=w.heap.size) :
  ∃ g cap w',(Builtin.append_ #[t,t] ty #[v,.slice (some ad) m c]).run P w=.ok (.slice (some ⟨g,0,none⟩) (n+m) cap) w' /\
   w'.ownsRow base e size (.slice (some ⟨g,0,none⟩) (n+m) cap) (n+m) (xs ++ news)/\w'.ownsRow base e size v n xs /\
   ((v=.slice (some ⟨g,0,none⟩) n cap/\Kept (fun x=>x=g) w w')\/(g=w.heap.size/\Kept (fun _=>False) w w'))/\g < w'.heap.size:=by
 obtain ⟨i,hi,h2,h3,h4⟩:=info_parts hinf
 subst h3;subst h4
 obtain ⟨g,cap,w',hr,ho,hgr,hat,hlt⟩:=run_append_lies (P:=P) w t ty base e i z i.size i.bytes ht hi h2 rfl rfl hzs hsz v n xs hown ad m c news hl hnews h1 hm h63 hbytes hbase w.heap.size rfl
 have h63':n+m<=9223372036854775807:=h63
 rcases hown.2 with ⟨rfl,rfl⟩ | ⟨g0,cap0,cur,rfl,hbg,hg,hnc,hcm,hcs,htake⟩
 ·have hk:Kept (fun _=>False) w w':=(Kept.refl _ w).grown hgr (fun x hx=>by cases hx)
  refine ⟨g,cap,w',hr,ho,⟨hown.1,.inl ⟨rfl,rfl⟩⟩,.inr ⟨?_,hk⟩,hlt⟩
  rcases hat with e | e
  ·cases e
  ·exact e
 ·by_cases hroom:n+m<=cap0
  ·have hfit:n*i.size+news.length<=cur.size:=by rw [hl,hcs,<- Nat.add_mul];exact Nat.mul_le_mul_right _ hroom
   have hr2:=run_append_room (P:=P) w t ty e i ht hi g0 n cap0 cur hg ad m c news hl hnews h1 hroom hfit
   rw [hr] at hr2
   injection hr2 with hr2
   injection hr2 with e1 e2 e3
   injection e1 with e1
   injection e1 with e1
   subst e1;subst e3
   refine ⟨g,cap,w',hr,ho,zu3v ho hown.1,.inl ⟨rfl,(Kept.refl _ w).grown hgr (fun x hx=>by cases hx;exact .inr rfl)⟩,hlt⟩
  ·have holds:∀ j u,xs[j]?=some u->w.cell? ((⟨g0,0,none⟩:Addr).add j)=some u:=hown.cells (g:=g0) rfl
   have hr2:=run_append_grow (P:=P) w t ty e i z ht hi h2 ⟨g0,0,none⟩ n cap0 xs hown.1 holds ad m c news hl hnews (by omega) (by omega) (growslice_fits (by omega) hbytes)
   rw [hr] at hr2
   injection hr2 with hr2 hw
   injection hr2 with e1 e2 e3
   injection e1 with e1
   injection e1 with e1
   have hk:Kept (fun _=>False) w w':=by rw [hw];exact (Kept.refl _ w).drew.alloc _
   exact ⟨g,cap,w',hr,ho,zh0U hown hk (fun _ _=>id),.inr ⟨e1,hk⟩,hlt⟩
theorem zdvL {P:Program} {w:World} {ops:Array Oper} {rest:List Oper} {o:Oper} {a:Act} {Q:Exit->Act->World->Prop} (hgd:o.guard=none) (s x:Operand) (t:TypeId)
  (ho:o.op=.call { callee:=.builtin .append,args:=#[s,x],argTypes:=#[t,t] })
  (base:Nat) (e:TypeId) {z:Value} {size bytes:Nat} (ht:P.underlying t=some (.slice e)) (hinf:(P.info? e).map (fun i=>(i.zero,i.size,i.bytes))=some (some z,size,bytes)) (hzs:z.cells.size=size) (hsz:0 < size)
  (v:Value) (n:Nat) (xs:List Value) (hs:a.eval s=v) (hown:w.ownsRow base e size v n xs)
  (b off m c:Nat) (news:List Value) (hx:a.eval x=.slice (some ⟨b,off,none⟩) m c) (hl:news.length=m*size) (hnews:∀ j u,news[j]?=some u->w.cell? ⟨b,off+j,none⟩=some u) (h1:∀ u∈news,u.oneCell'=true)
  (hm:0 < m) (h63:n+m<=maxLen) (hbytes:(n+m)*bytes<=140737488355328) (hbase:base<=w.heap.size)
  (k:∀ g cap w',w'.ownsRow base e size (.slice (some ⟨g,0,none⟩) (n+m) cap) (n+m) (xs ++ news)->w'.ownsRow base e size v n xs->((v=.slice (some ⟨g,0,none⟩) n cap/\Kept (fun x=>x=g) w w')\/(g=w.heap.size/\Kept (fun _=>False) w w'))->g < w'.heap.size ->
   wpList P ops Q rest (a.put o.dst (.slice (some ⟨g,0,none⟩) (n+m) cap)) w'):wpList P ops Q (o :: rest) a w:=by
 obtain ⟨g,cap,w',hr,h2,h3,h4,h5⟩:=z0TN (P:=P) (w:=w) t o.type base e ht hinf hzs hsz v n xs hown ⟨b,off,none⟩ m c news hl (fun j u hu=>by rw [Addr.add_mid];exact hnews j u hu) h1 hm h63 hbytes hbase
 refine wpList_plain hgd fun K hK=>?_
 unfold Oper.wp
 simp [execOp,ho,resolve,invoke,builtin,hs,hx,hr,Result.andThen]
 exact hK _ _ (k g cap w' h2 h3 h4 h5)
def OwnV (w:World) (base:Nat) (v:Value) (l:Bytes):Prop:=w.ownsRow base 5 1 v l.length (cellsOf l).toList
theorem OwnV.nil (w:World) (base:Nat):OwnV w base (.slice none 0 0) []:=⟨rfl,.inl ⟨rfl,rfl⟩⟩
theorem OwnV.form {w:World} {base:Nat} {v:Value} {l:Bytes} (h:OwnV w base v l):(v=.slice none 0 0/\l=[])\/∃ g cap,v=.slice (some ⟨g,0,none⟩) l.length cap/\OwnB w base g cap l:=by
 have h':=h
 rcases h.2 with ⟨rfl,h2⟩ | ⟨g,cap,cur,rfl,h3⟩
 ·exact .inl ⟨rfl,List.length_eq_zero_iff.1 h2⟩
 ·exact .inr ⟨g,cap,rfl,h'⟩
theorem OwnB.v {w:World} {base g cap:Nat} {l:Bytes} (h:OwnB w base g cap l):OwnV w base (.slice (some ⟨g,0,none⟩) l.length cap) l:=h
theorem OwnV.keep {S:Nat->Prop} {w w':World} {base:Nat} {v:Value} {l:Bytes} (h:OwnV w base v l) (hk:Kept S w w') (hn:∀ x,v.ownBlock=some x->¬ S x):OwnV w' base v l:=zh0U h hk hn
theorem OwnV.base_le {w:World} {base:Nat} {v:Value} {l:Bytes} (h:OwnV w base v l) {x:Nat} (hx:v.ownBlock=some x):base<=x/\x < w.heap.size:=h.lt x hx
def OwnTo (w:World) (v v':Value):Prop:=v'.ownBlock=v.ownBlock\/∀ x,v'.ownBlock=some x->w.heap.size<=x
theorem OwnTo.trans {S:Nat->Prop} {w w':World} {v v' v'':Value} (h:OwnTo w v v') (hk:Kept S w w') (k:OwnTo w' v' v''):OwnTo w v v'':=by
 have:=hk.size
 rcases k with k | k
 ·rcases h with h | h
  ·exact .inl (k.trans h)
  ·exact .inr (fun x hx=>h x (by rw [<- k];exact hx))
 ·exact .inr (fun x hx=>by have:=k x hx;omega)
theorem z7Vm {w:World} {ops:Array Oper} {rest:List Oper} {o:Oper} {a:Act} {Q:Exit->Act->World->Prop} (hgd:o.guard=none) (s x:Operand)
  (ho:o.op=.call { callee:=.builtin .append,args:=#[s,x],argTypes:=#[37,37] }) (base:Nat) (v:Value) (l m:Bytes) (hs:a.eval s=v) (hown:OwnV w base v l)
  (A:Option Addr) (c:Nat) (hx:a.eval x=.slice A m.length c) (hm:RdB w A m) (h63:l.length+m.length<=140737488355328) (hbase:base<=w.heap.size)
  (k:∀ v' w',OwnV w' base v' (l ++ m)->Kept (fun x=>v.ownBlock=some x) w w'->OwnTo w v v'->wpList Try.prog ops Q rest (a.put o.dst v') w'):wpList Try.prog ops Q (o :: rest) a w:=by
 by_cases h0:m=[]
 ·subst h0
  refine zbY4 hgd s x 37 ho base 5 Try.underlying37 info5 _ l.length _ hs hown A c hx ?_
  exact k v w (by simpa using hown) (Kept.refl _ w) (.inl rfl)
 ·obtain ⟨b,off,rfl,hc⟩:=hm h0
  have:0 < m.length:=List.length_pos_iff.2 h0
  have e63:maxLen=9223372036854775807:=rfl
  refine wl_append hgd s x 37 ho base 5 Try.underlying37 info5 rfl (by omega) _ l.length _ hs hown b off m.length c (cellsOf m).toList hx (by rw [z6VZ,Nat.mul_one]) (fun j u hu=>hc j u (by simpa using hu)) (fun u hu=>(Array.all_eq_true_iff_forall_mem.1 (zZ84 m)) u (by simpa using hu)) this (by omega) (by omega) hbase ?_
  intro g' cap' w' ho' hk' hat m'
  refine k _ w' ?_ hk' ?_
  ·show World.ownsRow _ _ _ _ _ _ _
   rw [List.length_append,zdRz]
   exact ho'
  ·rcases hat with e | e
   ·exact .inl e.symm
   ·refine .inr (fun x hx=>?_)
    have:g'=x:=by simpa [Value.ownBlock] using hx
    omega
theorem zHHx (n:Int) (h0:0<=n) (k:Nat):n / 2 ^ (8*k) % 256=((UInt8.ofNat (n.toNat / 256 ^ k)).toNat:Int):=by
 obtain ⟨m,rfl⟩:=Int.eq_ofNat_of_zero_le h0
 have e:(2:Int) ^ (8*k)=((256 ^ k:Nat):Int):=by
  have e1:(2:Int) ^ (8*k)=((2 ^ (8*k):Nat):Int):=by rw [Int.natCast_pow];rfl
  rw [e1,Nat.pow_mul]
 rw [UInt8.toNat_ofNat',Int.toNat_natCast,e,<- Int.natCast_ediv]
 rfl
set_option maxRecDepth 20000 in
set_option maxHeartbeats 800000 in
theorem zAnI (v:Value) (l:Bytes) (n:Int) (size:Nat) (base:Nat) (w:World) (h:OwnV w base v l) (hb:base<=w.heap.size) (h0:0<=n) (_h1:n<=9223372036854775807) (hs:size<=8) (hl:l.length<=1000000) :
  Calls Try.prog 75 #[v,.int .i64 n,.int .i64 size] w fun e w'=>∃ v',e=.returned v'/\OwnV w' base v' (l ++ beN n.toNat size)/\Kept (fun x=>v.ownBlock=some x) w w'/\OwnTo w v v':=by
 have H:=qh h
 have HB:=qh hb
 clear h hb
 have e63:maxLen=9223372036854775807:=rfl
 go_enter Try.func75,Try.ntmps75
 go_wp2
 go_loopw [0,7] (fun o i wr=>∃ (k:Nat) (d:Bytes),k<=size/\i=.int .i64 ((k:Int) - 1)/\d ++ beN n.toNat k=beN n.toNat size/\OwnV wr base o (l ++ d)/\Kept (fun x=>v.ownBlock=some x) w wr/\OwnTo w v o) (fun o i wr=>(intOf i+1).toNat)
 case atStart=>exact ⟨size,[],Nat.le_refl _,rfl,rfl,by rw [List.append_nil];exact H.out,Kept.refl _ w,.inl rfl⟩
 case round=>
  obtain ⟨k,d,hk,rfl,hd,ho,hkr,hat⟩:=hrel
  have HO:=qh ho
  have HK:=qh hkr
  have HA:=qh hat
  have HD:=qh hd
  have sr:=hkr.size
  have ld:d.length+k=size:=by
   have:=congrArg List.length hd
   simpa [zmTu] using this
  clear ho hkr hat hd
  cases k with
  | zero=>
   have hge:¬ ((-1:Int)>=0):=by omega
   go_wp2
   go_ret
   have e:d=beN n.toNat size:=by simpa [beN] using HD.out
   exact ⟨_,rfl,by rw [<- e];exact HO.out,HK.out,HA.out⟩
  | succ k=>
   have ek:((k+1:Nat):Int) - 1=(k:Int):=by omega
   rw [ek]
   clear ek
   have LD:=Lib.hid ld
   clear ld
   have hge:(k:Int)>=0:=by omega
   have k7:k<=7:=by omega
   have x1:wrap64 (8*(k:Int))=8*(k:Int):=by unfold wrap64;omega
   have x2:(8*(k:Int)).toNat=8*k:=by omega
   have x3:0<=8*(k:Int):=by omega
   have x4:8*(k:Int)<=64:=by omega
   obtain ⟨B,hB⟩:∃ B:UInt8,B=UInt8.ofNat (n.toNat / 256 ^ k):=⟨_,rfl⟩
   have x5:n / 2 ^ (8*k) % 256=(B.toNat:Int):=by rw [hB];exact zHHx n h0 k
   have HB2:=qh hB
   clear hB
   have HO2:=qh (HO.out.keep ((Kept.refl (fun _=>False) wr).alloc (.cells #[.int .u8 B.toNat] 5)) (fun _ _=>id))
   have HS:=qh (RdB.of_blk (l:=[B]) (heap_alloc_new wr (.cells #[.int .u8 B.toNat] 5)))
   have HKa:=qh (HK.out.alloc (.cells #[.int .u8 B.toNat] 5))
   have HL:(l ++ d).length+1<=140737488355328:=by rw [List.length_append];have:=LD.out;omega
   have HL2:=Lib.hid HL
   clear HL
   go_wp2_with (at_builtin;refine z7Vm rfl _ _ rfl base _ (l ++ d) [B] rfl HO2.out _ 1 rfl HS.out HL2.out (by have:=HB.out;have:=HKa.out.size;omega) ?_)
   intro v3 w3 ho3 hk3 hat3
   have HO3:=qh ho3
   have HK3:=qh (HKa.out.trans hk3 (fun x hx hS=>by
    rcases HA.out with e | e
    ·rw [<- e];exact hS
    ·have:=e x hS;omega))
   have HA3:=qh (HA.out.trans HKa.out hat3)
   clear ho3 hk3 hat3
   go_wp2
   go_roundw
   case rel=>exact ⟨k,d ++ [B],by omega,by go_num,by rw [HB2.out,List.append_assoc];exact HD.out,HO3.out,HK3.out,HA3.out⟩
   case measure=>simp [intOf]
set_option maxRecDepth 20000 in
set_option maxHeartbeats 800000 in
theorem z3gd (v:Value) (l:Bytes) (n:Int) (size:Nat) (base:Nat) (w:World) (h:OwnV w base v l) (hb:base<=w.heap.size) (h0:0<=n) (_h1:n<=9223372036854775807) (hs:size<=8) (hl:l.length<=1000000) :
  Calls Try.prog 76 #[v,.int .i64 n,.int .i64 size] w fun e w'=>∃ v',e=.returned v'/\OwnV w' base v' (l ++ beN n.toNat size)/\Kept (fun x=>v.ownBlock=some x) w w'/\OwnTo w v v':=by
 have H:=qh h
 have HB:=qh hb
 clear h hb
 have e63:maxLen=9223372036854775807:=rfl
 go_enter Try.func76,Try.ntmps76
 go_wp2
 go_loopw [0,7] (fun o i wr=>∃ (k:Nat) (d:Bytes),k<=size/\i=.int .i64 ((k:Int) - 1)/\d ++ beN n.toNat k=beN n.toNat size/\OwnV wr base o (l ++ d)/\Kept (fun x=>v.ownBlock=some x) w wr/\OwnTo w v o) (fun o i wr=>(intOf i+1).toNat)
 case atStart=>exact ⟨size,[],Nat.le_refl _,rfl,rfl,by rw [List.append_nil];exact H.out,Kept.refl _ w,.inl rfl⟩
 case round=>
  obtain ⟨k,d,hk,rfl,hd,ho,hkr,hat⟩:=hrel
  have HO:=qh ho
  have HK:=qh hkr
  have HA:=qh hat
  have HD:=qh hd
  have sr:=hkr.size
  have ld:d.length+k=size:=by
   have:=congrArg List.length hd
   simpa [zmTu] using this
  clear ho hkr hat hd
  cases k with
  | zero=>
   have hge:¬ ((-1:Int)>=0):=by omega
   go_wp2
   go_ret
   have e:d=beN n.toNat size:=by simpa [beN] using HD.out
   exact ⟨_,rfl,by rw [<- e];exact HO.out,HK.out,HA.out⟩
  | succ k=>
   have ek:((k+1:Nat):Int) - 1=(k:Int):=by omega
   rw [ek]
   clear ek
   have LD:=Lib.hid ld
   clear ld
   have hge:(k:Int)>=0:=by omega
   have k7:k<=7:=by omega
   have x1:wrap64 (8*(k:Int))=8*(k:Int):=by unfold wrap64;omega
   have x2:(8*(k:Int)).toNat=8*k:=by omega
   have x3:0<=8*(k:Int):=by omega
   have x4:8*(k:Int)<=64:=by omega
   obtain ⟨B,hB⟩:∃ B:UInt8,B=UInt8.ofNat (n.toNat / 256 ^ k):=⟨_,rfl⟩
   have x5:n / 2 ^ (8*k) % 256=(B.toNat:Int):=by rw [hB];exact zHHx n h0 k
   have HB2:=qh hB
   clear hB
   have HO2:=qh (HO.out.keep ((Kept.refl (fun _=>False) wr).alloc (.cells #[.int .u8 B.toNat] 5)) (fun _ _=>id))
   have HS:=qh (RdB.of_blk (l:=[B]) (heap_alloc_new wr (.cells #[.int .u8 B.toNat] 5)))
   have HKa:=qh (HK.out.alloc (.cells #[.int .u8 B.toNat] 5))
   have HL:(l ++ d).length+1<=140737488355328:=by rw [List.length_append];have:=LD.out;omega
   have HL2:=Lib.hid HL
   clear HL
   go_wp2_with (at_builtin;refine z7Vm rfl _ _ rfl base _ (l ++ d) [B] rfl HO2.out _ 1 rfl HS.out HL2.out (by have:=HB.out;have:=HKa.out.size;omega) ?_)
   intro v3 w3 ho3 hk3 hat3
   have HO3:=qh ho3
   have HK3:=qh (HKa.out.trans hk3 (fun x hx hS=>by
    rcases HA.out with e | e
    ·rw [<- e];exact hS
    ·have:=e x hS;omega))
   have HA3:=qh (HA.out.trans HKa.out hat3)
   clear ho3 hk3 hat3
   go_wp2
   go_roundw
   case rel=>exact ⟨k,d ++ [B],by omega,by go_num,by rw [HB2.out,List.append_assoc];exact HD.out,HO3.out,HK3.out,HA3.out⟩
   case measure=>simp [intOf]
set_option maxRecDepth 20000 in
set_option maxHeartbeats 800000 in
theorem zkhm (v:Value) (l:Bytes) (n:Int) (size:Nat) (base:Nat) (w:World) (h:OwnV w base v l) (hb:base<=w.heap.size) (h0:0<=n) (h1:n < 4294967296) (hs:size<=8) (hl:l.length<=1000000) :
  Calls Try.prog 77 #[v,.int .u32 n,.int .i64 size] w fun e w'=>∃ v',e=.returned v'/\OwnV w' base v' (l ++ beN n.toNat size)/\Kept (fun x=>v.ownBlock=some x) w w'/\OwnTo w v v':=by
 have H:=qh h
 have HB:=qh hb
 clear h hb
 have e63:maxLen=9223372036854775807:=rfl
 go_enter Try.func77,Try.ntmps77
 go_wp2
 go_loopw [0,7] (fun o i wr=>∃ (k:Nat) (d:Bytes),k<=size/\i=.int .i64 ((k:Int) - 1)/\d ++ beN n.toNat k=beN n.toNat size/\OwnV wr base o (l ++ d)/\Kept (fun x=>v.ownBlock=some x) w wr/\OwnTo w v o) (fun o i wr=>(intOf i+1).toNat)
 case atStart=>exact ⟨size,[],Nat.le_refl _,rfl,rfl,by rw [List.append_nil];exact H.out,Kept.refl _ w,.inl rfl⟩
 case round=>
  obtain ⟨k,d,hk,rfl,hd,ho,hkr,hat⟩:=hrel
  have HO:=qh ho
  have HK:=qh hkr
  have HA:=qh hat
  have HD:=qh hd
  have sr:=hkr.size
  have ld:d.length+k=size:=by
   have:=congrArg List.length hd
   simpa [zmTu] using this
  clear ho hkr hat hd
  cases k with
  | zero=>
   have hge:¬ ((-1:Int)>=0):=by omega
   go_wp2
   go_ret
   have e:d=beN n.toNat size:=by simpa [beN] using HD.out
   exact ⟨_,rfl,by rw [<- e];exact HO.out,HK.out,HA.out⟩
  | succ k=>
   have ek:((k+1:Nat):Int) - 1=(k:Int):=by omega
   rw [ek]
   clear ek
   have LD:=Lib.hid ld
   clear ld
   have hge:(k:Int)>=0:=by omega
   have k7:k<=7:=by omega
   have x1:wrap64 (8*(k:Int))=8*(k:Int):=by unfold wrap64;omega
   have x2:(8*(k:Int)).toNat=8*k:=by omega
   have x3:0<=8*(k:Int):=by omega
   have x4:8*(k:Int)<=64:=by omega
   obtain ⟨B,hB⟩:∃ B:UInt8,B=UInt8.ofNat (n.toNat / 256 ^ k):=⟨_,rfl⟩
   have x5:n / 2 ^ (8*k) % 256=(B.toNat:Int):=by rw [hB];exact zHHx n h0 k
   have HB2:=qh hB
   clear hB
   have HO2:=qh (HO.out.keep ((Kept.refl (fun _=>False) wr).alloc (.cells #[.int .u8 B.toNat] 5)) (fun _ _=>id))
   have HS:=qh (RdB.of_blk (l:=[B]) (heap_alloc_new wr (.cells #[.int .u8 B.toNat] 5)))
   have HKa:=qh (HK.out.alloc (.cells #[.int .u8 B.toNat] 5))
   have HL:(l ++ d).length+1<=140737488355328:=by rw [List.length_append];have:=LD.out;omega
   have HL2:=Lib.hid HL
   clear HL
   go_wp2_with (at_builtin;refine z7Vm rfl _ _ rfl base _ (l ++ d) [B] rfl HO2.out _ 1 rfl HS.out HL2.out (by have:=HB.out;have:=HKa.out.size;omega) ?_)
   intro v3 w3 ho3 hk3 hat3
   have HO3:=qh ho3
   have HK3:=qh (HKa.out.trans hk3 (fun x hx hS=>by
    rcases HA.out with e | e
    ·rw [<- e];exact hS
    ·have:=e x hS;omega))
   have HA3:=qh (HA.out.trans HKa.out hat3)
   clear ho3 hk3 hat3
   go_wp2
   go_roundw
   case rel=>exact ⟨k,d ++ [B],by omega,by go_num,by rw [HB2.out,List.append_assoc];exact HD.out,HO3.out,HK3.out,HA3.out⟩
   case measure=>simp [intOf]
theorem zziy (v:Value) (l:Bytes) (n:Int) (size:Nat) (base:Nat) (w:World) (h:OwnV w base v l) (hb:base<=w.heap.size) (h0:0<=n) (h1:n<=9223372036854775807) (hs:size<=8) (hl:l.length<=1000000) :
  Calls Try.prog 75 #[v,.int .i64 n,.int .i64 size] w fun e w'=>∃ v',e=.returned v'/\OwnV w' base v' (l ++ beN n.toNat size)/\Kept (fun x=>base<=x) w w':=by
 refine (zAnI v l n size base w h hb h0 h1 hs hl).mono ?_
 rintro e w' ⟨v',rfl,h2,h3,_⟩
 exact ⟨v',rfl,h2,h3.mono (fun x _ hx=>(h.base_le hx).1)⟩
theorem zbpk (v:Value) (l:Bytes) (n:Int) (size:Nat) (base:Nat) (w:World) (h:OwnV w base v l) (hb:base<=w.heap.size) (h0:0<=n) (h1:n<=9223372036854775807) (hs:size<=8) (hl:l.length<=1000000) :
  Calls Try.prog 76 #[v,.int .i64 n,.int .i64 size] w fun e w'=>∃ v',e=.returned v'/\OwnV w' base v' (l ++ beN n.toNat size)/\Kept (fun x=>base<=x) w w':=by
 refine (z3gd v l n size base w h hb h0 h1 hs hl).mono ?_
 rintro e w' ⟨v',rfl,h2,h3,_⟩
 exact ⟨v',rfl,h2,h3.mono (fun x _ hx=>(h.base_le hx).1)⟩
theorem z82E (v:Value) (l:Bytes) (n:Int) (size:Nat) (base:Nat) (w:World) (h:OwnV w base v l) (hb:base<=w.heap.size) (h0:0<=n) (h1:n < 4294967296) (hs:size<=8) (hl:l.length<=1000000) :
  Calls Try.prog 77 #[v,.int .u32 n,.int .i64 size] w fun e w'=>∃ v',e=.returned v'/\OwnV w' base v' (l ++ beN n.toNat size)/\Kept (fun x=>base<=x) w w':=by
 refine (zkhm v l n size base w h hb h0 h1 hs hl).mono ?_
 rintro e w' ⟨v',rfl,h2,h3,_⟩
 exact ⟨v',rfl,h2,h3.mono (fun x _ hx=>(h.base_le hx).1)⟩
end Go.Proofs.Ytnbfhdgojmflhaa
