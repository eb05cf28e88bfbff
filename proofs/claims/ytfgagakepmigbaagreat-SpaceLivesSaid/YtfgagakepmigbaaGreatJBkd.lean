/-
  No statement is proved here.
-/
import Derived.Test.YtfgagakepmigbaaGreatJPgl
import Derived.Test.YtfgagakepmigbaaGreatJGs
import Derived.Test.YtfgagakepmigbaaGreatJGv
import Derived.Lib.SlBytesConst
import Derived.Laws.BytesArg
import Derived.Test.YtfgagakepmigbaaGreatJGw
import Derived.Laws.ResultCell
import Derived.Laws.Rows
namespace Go.Proofs.YtfgagakepmigbaaGreat
open Go.RowKit
theorem zeRo (n:Nat):(zeros n).length=n:=by simp [zeros]
theorem zBlb (n:Nat):(cellsOf (zeros n)).toList=List.replicate n (.int .u8 0):=by
 simp [cellsOf,zeros]
theorem zs7b {P:Program} (w:World) (t u ty e:TypeId) (i:TypeInfo) (k:IntKind) (ht:P.underlying t=some (.slice e)) (hu:P.underlying u=some (.int k)) (hi:P.info? e=some i)
  (g sLen sCap:Nat) (cur:Array Value) (hg:w.heap[g]?=some (.cells cur e (0,0))) (z:Value) (hz:i.zero=some z)
  (n:Nat) (hs:n*i.size≠0) (h63:n<=1000000) (hby:i.bytes<=1000) (hzc:z.cells.size=i.size) (h1:∀ v∈(Builtin.zeroCells z.cells n).toList,v.oneCell'=true)
  (hroom:sLen+n<=sCap) (hfit:sLen*i.size+n*i.size<=cur.size) :
  (Builtin.append_ #[t,u] ty #[.slice (some ⟨g,0,none⟩) sLen sCap,.int .i64 n]).run P w =
   .ok (.slice (some ⟨g,0,none⟩) (sLen+n) sCap) (w.setRow g (cur.toList.take (sLen*i.size) ++ (Builtin.zeroCells z.cells n).toList ++ cur.toList.drop (sLen*i.size+(Builtin.zeroCells z.cells n).toList.length)).toArray):=by
 have hl:(Builtin.zeroCells z.cells n).toList.length=n*i.size:=by rw [Array.length_toList,size_zeroCells,hzc]
 have hst:=run_storeCells_at P g (sLen*i.size) e (Builtin.zeroCells z.cells n).toList 0 cur w hg (by rw [hl];simpa using hfit) h1
 simp only [Nat.add_zero] at hst
 have hw:IntKind.i64.wrap (n:Int)=(n:Int):=by rw [IntKind.wrap_i64];omega
 have hn0:¬ ((n:Int) < 0):=by omega
 have hbb:n*i.bytes<=1000000*1000:=Nat.mul_le_mul h63 hby
 have hb:¬ (281474976710656 < (n:Int)*(i.bytes:Int)):=by
  have:((n*i.bytes:Nat):Int)=(n:Int)*(i.bytes:Int):=by simp
  omega
 simp [Builtin.append_,run_underlying ht,run_underlying hu,sizeOf,typeInfo,hi,asInt,asIntOf,hw,hn0,hb,hroom,hs,zeroValue,hz,Addr.add_lit,hst]
theorem zkV8 {P:Program} (w:World) (t u ty e:TypeId) (i:TypeInfo) (k:IntKind) (ht:P.underlying t=some (.slice e)) (hu:P.underlying u=some (.int k)) (hi:P.info? e=some i) (z:Value) (hz:i.zero=some z)
  (b:Addr) (sLen sCap:Nat) (olds:List Value) (hlo:olds.length=sLen*i.size) (holds:∀ j v,olds[j]?=some v->w.cell? (b.add j)=some v)
  (n:Nat) (hs:n*i.size≠0) (h63:n<=1000000) (hby:i.bytes<=1000)
  (hg:sCap < sLen+n) (h64:((sLen+n:Nat):Int)<=9223372036854775807) (hfit:Builtin.nextslicecap (sLen+n) sCap*i.bytes<=281474976710656) :
  (Builtin.append_ #[t,u] ty #[.slice (some b) sLen sCap,.int .i64 n]).run P w =
   .ok (.slice (some ⟨w.heap.size,0,none⟩) (sLen+n) (grownCap w (sLen+n) sCap e))
    (w.drew.alloc (.cells (olds.toArray ++ Builtin.zeroCells z.cells n ++ Builtin.zeroCells z.cells (grownCap w (sLen+n) sCap e - (sLen+n))) e)):=by
 have hn:¬ (sLen+n<=sCap):=by omega
 have h63':¬ (9223372036854775807 < ((sLen:Int)+(n:Int))):=by omega
 have h48':¬ (281474976710656 < Builtin.nextslicecap (sLen+n) sCap*i.bytes):=by omega
 have hfo:=run_firstCells_some (P:=P) w.drew i.size sLen b sLen sCap olds hlo (by simpa using holds)
 have hw:IntKind.i64.wrap (n:Int)=(n:Int):=by rw [IntKind.wrap_i64];omega
 have hn0:¬ ((n:Int) < 0):=by omega
 have hbb:n*i.bytes<=1000000*1000:=Nat.mul_le_mul h63 hby
 have hb:¬ (281474976710656 < (n:Int)*(i.bytes:Int)):=by
  have:((n*i.bytes:Nat):Int)=(n:Int)*(i.bytes:Int):=by simp
  omega
 simp [Builtin.append_,run_underlying ht,run_underlying hu,sizeOf,typeInfo,zeroValue,hi,hz,asInt,asIntOf,hw,hn0,hb,hn,hs,h63',h48',Question.forced,hfo,newRow,grownCap]
theorem zIKs (n:Nat):(Builtin.zeroCells #[Value.int .u8 0] n).toList=List.replicate n (.int .u8 0):=by
 simp [Builtin.zeroCells]
 apply List.ext_getElem
 ·simp
 ·intro i h1 h2
  simp [Nat.mod_one]
theorem z8G5 {w:World} {base g cap:Nat} {l:Bytes} (ty:TypeId) (h:OwnB w base g cap l) (n:Nat) (hn:n<=1000000) (hl:l.length<=1000000) (hbase:base<=w.heap.size) :
  ∃ g' cap' w',(Builtin.append_ #[47,3] ty #[.slice (some ⟨g,0,none⟩) l.length cap,.int .i64 n]).run Tryz.prog w=.ok (.slice (some ⟨g',0,none⟩) (l.length+n) cap') w' /\
   OwnB w' base g' cap' (l ++ zeros n)/\Kept (fun x=>x=g) w w'/\(g'=g\/w.heap.size<=g'):=by
 obtain ⟨i,hi,hz,hsz,hby⟩:=info_parts info5
 have e63:maxLen=9223372036854775807:=rfl
 obtain ⟨cur,hb,hh,h1,h2,h3,h4⟩:=h.form
 have hlz:(l ++ zeros n).length=l.length+n:=by rw [List.length_append,zeRo]
 have hcz:(cellsOf (l ++ zeros n)).toList=(cellsOf l).toList ++ List.replicate n (.int .u8 0):=by rw [zdRz,zBlb]
 by_cases h0:n=0
 ·subst h0
  refine ⟨g,cap,w,?_,by simpa [zeros] using h,Kept.refl _ _,.inl rfl⟩
  have hw:IntKind.i64.wrap 0=0:=by decide
  simp [Builtin.append_,run_underlying Tryz.underlying47,run_underlying Tryz.underlying3,sizeOf,typeInfo,hi,asInt,asIntOf,hw,h1,storeCells]
 ·by_cases hroom:l.length+n<=cap
  ·refine ⟨g,cap,_,zs7b (P:=Tryz.prog) w 47 3 ty 5 i _ Tryz.underlying47 Tryz.underlying3 hi g l.length cap cur hh _ hz n (by rw [hsz];omega) hn (by omega) (by rw [hsz];rfl) ?_ hroom (by rw [hsz];omega),?_,(Kept.refl (fun x=>x=g) w).setRow (.inr rfl) _,.inl rfl⟩
   ·intro v hv
    rw [show (Value.int .u8 0).cells=#[Value.int .u8 0] from rfl,zIKs] at hv
    rw [List.eq_of_mem_replicate hv];rfl
   ·rw [show (Value.int .u8 0).cells=#[Value.int .u8 0] from rfl,zIKs]
    unfold OwnB
    rw [hlz]
    refine ⟨by rw [hcz,List.length_append,z6VZ,List.length_replicate,Nat.mul_one],.inr ⟨g,cap,_,rfl,hb,setRow_heap w g cur _ 5 (0,0) hh,hroom,h2,?_,?_⟩⟩
    ·simp [hsz];omega
    ·rw [hcz,hsz,Nat.mul_one,Nat.mul_one,h4]
     have e1:((cellsOf l).toList ++ List.replicate n (Value.int .u8 0)).length=l.length+n:=by rw [List.length_append,z6VZ,List.length_replicate]
     rw [<- e1]
     exact List.take_left
  ·have holds:∀ j u,(cellsOf l).toList[j]?=some u->w.cell? ((⟨g,0,none⟩:Addr).add j)=some u:=fun j u hu=>by
    have:(⟨g,0,none⟩:Addr).add j=⟨g,j,none⟩:=by rw [Addr.add_mid,Nat.zero_add]
    rw [this]
    refine zcjX hh ?_
    rw [<- h4,List.getElem?_take] at hu
    split at hu
    ·rwa [Array.getElem?_toList] at hu
    ·simp at hu
   have hge:=grownCap_ge w (l.length+n) cap 5
   have hcm:grownCap w (l.length+n) cap 5<=maxLen:=grownCap_le_maxLen w (l.length+n) cap 5 (by omega)
   refine ⟨w.heap.size,_,_,zkV8 (P:=Tryz.prog) w 47 3 ty 5 i _ Tryz.underlying47 Tryz.underlying3 hi _ hz ⟨g,0,none⟩ l.length cap (cellsOf l).toList (by rw [z6VZ,hsz,Nat.mul_one]) holds n (by rw [hsz];omega) hn (by omega) (by omega) (by omega) (growslice_fits (by omega) (by rw [hby];omega)),?_,((Kept.refl (fun x=>x=g) w).drew).alloc _,.inr (Nat.le_refl _)⟩
   unfold OwnB
   rw [hlz]
   refine ⟨by rw [hcz,List.length_append,z6VZ,List.length_replicate,Nat.mul_one],.inr ⟨w.heap.size,_,_,rfl,hbase,heap_alloc_new w.drew _,hge,hcm,?_,?_⟩⟩
   ·simp only [Array.size_append,List.size_toArray,size_zeroCells,show (Value.int .u8 0).cells=#[Value.int .u8 0] from rfl,z6VZ]
    show l.length+n*1+(_ - _)*1=_
    omega
   ·have e1:((cellsOf l).toList ++ List.replicate n (Value.int .u8 0)).length=(l.length+n)*1:=by rw [List.length_append,z6VZ,List.length_replicate,Nat.mul_one]
    rw [hcz,<- e1]
    simp only [Array.toList_append,show (Value.int .u8 0).cells=#[Value.int .u8 0] from rfl,zIKs]
    exact List.take_left
theorem zzJJ {w:World} {ops:Array Oper} {rest:List Oper} {o:Oper} {a:Act} {Q:Exit->Act->World->Prop} (hgd:o.guard=none) (s x:Operand)
  (ho:o.op=.call { callee:=.builtin .append,args:=#[s,x],argTypes:=#[47,3] }) (base g cap:Nat) (l:Bytes) (hs:a.eval s=.slice (some ⟨g,0,none⟩) l.length cap) (hown:OwnB w base g cap l)
  (n:Nat) (hx:a.eval x=.int .i64 n) (hn:n<=1000000) (hl:l.length<=1000000) (hbase:base<=w.heap.size)
  (k:∀ g' cap' w',OwnB w' base g' cap' (l ++ zeros n)->Kept (fun x=>x=g) w w'->(g'=g\/w.heap.size<=g')->wpList Tryz.prog ops Q rest (a.put o.dst (.slice (some ⟨g',0,none⟩) (l.length+n) cap')) w'):wpList Tryz.prog ops Q (o :: rest) a w:=by
 obtain ⟨g',cap',w',hr,h2,h3,h4⟩:=z8G5 o.type hown n hn hl hbase
 refine wpList_plain hgd fun K hK=>?_
 unfold Oper.wp
 simp [execOp,ho,resolve,invoke,builtin,hs,hx,hr,Result.andThen]
 exact hK _ _ (k g' cap' w' h2 h3 h4)
def putI (n:Int):Bytes:=beN (n+9223372036854775808).toNat 8
theorem zOs4 (n:Int):(putI n).length=8:=zmTu _ 8
def getI (l:Bytes):Int:=((valN (l.take 8) 0:Nat):Int) - 9223372036854775808
theorem zHuO {n:Int} (h0 : -9223372036854775808<=n) (h1:n<=9223372036854775807) (m:Bytes):getI (putI n ++ m)=n:=by
 unfold getI
 rw [List.take_append_of_le_length (by rw [zOs4];exact Nat.le_refl 8),List.take_of_length_le (by rw [zOs4];exact Nat.le_refl 8)]
 unfold putI
 rw [z0pR]
 omega
theorem zkb9 (n:Nat):∀ k i,i < k->bAt (beN n k) i=UInt8.ofNat (n / 256 ^ (k - 1 - i))
 | 0,i,h=>by omega
 | k+1,0,_=>by show bAt (UInt8.ofNat (n / 256 ^ k) :: beN n k) 0=_;unfold bAt;simp
 | k+1,i+1,h=>by
  have:=zkb9 n k i (by omega)
  show bAt (UInt8.ofNat (n / 256 ^ k) :: beN n k) (i+1)=_
  rw [show k+1 - 1 - (i+1)=k - 1 - i by omega,<- this]
  unfold bAt
  simp
theorem zrDA {w:World} {ops:Array Oper} {rest:List Oper} {o:Oper} {a:Act} {Q:Exit->Act->World->Prop} (hgd:o.guard=none) (t:TypeId) (x y:Operand) (ho:o.op=.store t x y) (ht:((Tryz.prog).info? t).map (·.size)=some 1) (B g c:Nat) (l:Bytes) (i:Nat) (z:UInt8) (z':Int) (hx:a.eval x=.pointer (some ⟨g,i,none⟩)) (hy:a.eval y=.int .u8 z') (hz:z'=(z.toNat:Int)) (h:OwnB w B g c l) (hi:i < l.length)
  (k:∀ w',OwnB w' B g c (l.set i z)->Kept (fun x=>x=g) w w'->wpList Tryz.prog ops Q rest (a.put o.dst undef) w'):wpList Tryz.prog ops Q (o :: rest) a w:=by
 subst hz
 obtain ⟨cur,hB,hh,h1,h2,h3,ht'⟩:=h.form
 refine z2q7 hgd t x y ho g i (.int .u8 z.toNat) cur hx hy hh ht (by omega) rfl ?_
 intro w' hb' hk'
 refine k w' ⟨by rw [z6VZ,Nat.mul_one],.inr ⟨g,c,_,by rw [List.length_set],hB,hb',by rw [List.length_set];exact h1,h2,by simpa using h3,?_⟩⟩ hk'
 rw [List.length_set,Nat.mul_one,Array.toList_setIfInBounds,List.take_set,ht',<- zBUG]
 simp
theorem zsgD (a b:Nat) (ha:a < 18446744073709551616) (hb:b < 18446744073709551616):bits .xor .u64 (a:Int) (b:Int)=((a ^^^ b:Nat):Int)/\bits .or .u64 (a:Int) (b:Int)=((a ||| b:Nat):Int):=by
 have hx:a ^^^ b < 2 ^ 64:=Nat.xor_lt_two_pow (by omega) (by omega)
 have hy:a ||| b < 2 ^ 64:=Nat.or_lt_two_pow (by omega) (by omega)
 have h1:(BitVec.ofInt 64 (a:Int)).toNat=a:=by
  rw [BitVec.ofInt_natCast,BitVec.toNat_ofNat];exact Nat.mod_eq_of_lt (by omega)
 have h2:(BitVec.ofInt 64 (b:Int)).toNat=b:=by
  rw [BitVec.ofInt_natCast,BitVec.toNat_ofNat];exact Nat.mod_eq_of_lt (by omega)
 have wr:∀ n:Int,IntKind.u64.wrap n=n % 18446744073709551616:=fun n=>by simp [IntKind.wrap,IntKind.bits,IntKind.signed]
 refine ⟨?_,?_⟩
 ·show IntKind.u64.wrap ((BitVec.ofInt 64 (a:Int) ^^^ BitVec.ofInt 64 (b:Int)).toNat:Int)=_
  rw [BitVec.toNat_xor,h1,h2,wr]
  omega
 ·show IntKind.u64.wrap ((BitVec.ofInt 64 (a:Int) ||| BitVec.ofInt 64 (b:Int)).toNat:Int)=_
  rw [BitVec.toNat_or,h1,h2,wr]
  omega
theorem znxd (m:Nat) (h:m < 9223372036854775808):m ^^^ 9223372036854775808=9223372036854775808+m:=by
 apply Nat.eq_of_testBit_eq
 intro i
 have e:(9223372036854775808:Nat)=2 ^ 63:=rfl
 rw [Nat.testBit_xor,e,Nat.testBit_two_pow]
 rcases Nat.lt_trichotomy i 63 with hi | hi | hi
 ·rw [Nat.testBit_two_pow_add_gt hi]
  have:¬ 63=i:=by omega
  simp [this]
 ·subst hi
  rw [Nat.testBit_two_pow_add_eq]
  simp
 ·have h1:2 ^ 64<=2 ^ i:=Nat.pow_le_pow_right (by decide) (by omega)
  rw [Nat.testBit_lt_two_pow (x:=m) (by omega),Nat.testBit_lt_two_pow (x:=2 ^ 63+m) (by omega)]
  have:¬ 63=i:=by omega
  simp [this]
theorem wrapU (n:Int):IntKind.u64.wrap n=n % 18446744073709551616:=by simp [IntKind.wrap,IntKind.bits,IntKind.signed]
theorem zkxv (m:Nat) (h:m < 18446744073709551616):((m ^^^ 9223372036854775808:Nat):Int)=((m:Int)+9223372036854775808) % 18446744073709551616:=by
 by_cases c:m < 9223372036854775808
 ·rw [znxd m c];omega
 ·have e:m=9223372036854775808+(m - 9223372036854775808):=by omega
  have e2:m ^^^ 9223372036854775808=m - 9223372036854775808:=by
   have h1:=znxd (m - 9223372036854775808) (by omega)
   have h2:m=(m - 9223372036854775808) ^^^ 9223372036854775808:=by rw [h1];omega
   calc m ^^^ 9223372036854775808=((m - 9223372036854775808) ^^^ 9223372036854775808) ^^^ 9223372036854775808:=by rw [<- h2]
    _=m - 9223372036854775808:=by rw [Nat.xor_assoc,Nat.xor_self,Nat.xor_zero]
  rw [e2];omega
theorem xor63 (n:Int) (h0 : -9223372036854775808<=n) (h1:n<=9223372036854775807):bits .xor .u64 (IntKind.u64.wrap n) 9223372036854775808=n+9223372036854775808:=by
 obtain ⟨m,hm⟩:∃ m:Nat,(m:Int)=IntKind.u64.wrap n:=⟨(IntKind.u64.wrap n).toNat,by rw [wrapU];omega⟩
 have hm2:(m:Int)=n % 18446744073709551616:=by rw [hm,wrapU]
 have:=(zsgD m 9223372036854775808 (by omega) (by decide)).1
 rw [<- hm]
 show bits .xor .u64 (m:Int) ((9223372036854775808:Nat):Int)=_
 rw [this,zkxv m (by omega)]
 omega
theorem zDkJ (u k:Nat) (hk:k < 8):(((beN u 8).take k ++ zeros (8 - k)).set k (UInt8.ofNat (u / 256 ^ (7 - k))))=(beN u 8).take (k+1) ++ zeros (8 - (k+1)):=by
 have hl:=zmTu u 8
 have e1:((beN u 8).take k).length=k:=by rw [List.length_take,hl];omega
 have e2:zeros (8 - k)=0 :: zeros (8 - (k+1)):=by unfold zeros;rw [show 8 - k=(8 - (k+1))+1 by omega,List.replicate_succ]
 have e3:(beN u 8)[k]?=some (UInt8.ofNat (u / 256 ^ (7 - k))):=by
  have h1:=zkb9 u 8 k hk
  unfold bAt at h1
  rw [List.getD_eq_getElem?_getD,List.getElem?_eq_getElem (by omega)] at h1
  rw [List.getElem?_eq_getElem (by omega)]
  simp at h1
  rw [h1]
 rw [List.set_append_right _ _ (by omega),e1,Nat.sub_self,e2,List.set_cons_zero,List.take_succ_eq_append_getElem (by omega)]
 have e4:(beN u 8)[k]'(by omega)=UInt8.ofNat (u / 256 ^ (7 - k)):=by
  have:=e3;rw [List.getElem?_eq_getElem (by omega)] at this;exact Option.some.inj this
 rw [e4]
 simp
set_option maxRecDepth 20000 in
set_option maxHeartbeats 800000 in
theorem zu9j (n:Int) (h0 : -9223372036854775808<=n) (h1:n<=9223372036854775807) (w:World) :
  Calls Tryz.prog 126 #[.int .i64 n] w fun e w'=>∃ g,e=.returned (.slice (some ⟨g,0,none⟩) 8 8)/\OwnB w' w.heap.size g 8 (putI n)/\Kept (fun _=>False) w w':=by
 obtain ⟨u,hu⟩:∃ u,u=n+9223372036854775808:=⟨_,rfl⟩
 have hx:=xor63 n h0 h1
 rw [<- hu] at hx
 have hu0:0<=u:=by omega
 have hu1:u < 18446744073709551616:=by omega
 have HP:=qh (show putI n=beN u.toNat 8 by unfold putI;rw [hu])
 clear hu
 go_enter Tryz.func126,Tryz.ntmps126
 go_wp2_with (refine ztfv rfl _ _ rfl .i64 .i64 8 8 rfl rfl (Nat.le_refl 8) (by decide) ?_)
 intro g w1 l1 l2 hb1 hk1
 have HO:=qh (show OwnB w1 w.heap.size g 8 (zeros 8) from ⟨by simp [cellsOf,zeros],.inr ⟨g,8,_,rfl,l1,hb1,Nat.le_refl 8,by decide,by simp [cellsOf,zeros],by simp [cellsOf,zeros]⟩⟩)
 have HK1:=qh hk1
 clear hb1 hk1
 go_wp2_with fail
 go_loopw [10] (fun i wr=>∃ k:Nat,k<=8/\i=.int .i64 k/\OwnB wr w.heap.size g 8 ((beN u.toNat 8).take k ++ zeros (8 - k))/\Kept (fun _=>False) w wr) (fun i _=>8 - (intOf i).toNat)
 case atStart=>exact ⟨0,by omega,rfl,HO.out,HK1.out⟩
 case round=>
  obtain ⟨k,hk,rfl,ho,hkr⟩:=hrel
  have HO2:=qh ho
  have HK:=qh hkr
  clear ho hkr
  by_cases hlt:k < 8
  ·have i1:(k:Int) < 8:=by omega
   have x1:wrap64 (8*(k:Int))=8*(k:Int):=by unfold wrap64;omega
   have x2:wrap64 (56 - 8*(k:Int))=56 - 8*(k:Int):=by unfold wrap64;omega
   have x3:56 - 8*k=8*(7 - k):=by omega
   obtain ⟨B,hB⟩:∃ B:UInt8,B=UInt8.ofNat (u.toNat / 256 ^ (7 - k)):=⟨_,rfl⟩
   have x5:u / 2 ^ (8*(7 - k)) % 256=(B.toNat:Int):=by rw [hB];exact zHHx u hu0 (7 - k)
   have HB:=qh hB
   have hlen:((beN u.toNat 8).take k ++ zeros (8 - k)).length=8:=by simp [zmTu,zeros];omega
   have HLN:=qh hlen
   clear hB hlen
   go_wp2_with (refine zrDA rfl _ _ _ rfl (by kernel_rfl) w.heap.size g 8 _ k B _ rfl rfl (by exact x5) HO2.out (by rw [HLN.out];exact hlt) ?_)
   intro w3 ho3 hk3
   have HO3:=qh ho3
   have HK3:=qh (HK.out.new hk3 (fun z hz=>by subst hz;exact l1))
   clear ho3 hk3
   go_wp2
   go_roundw
   case rel=>exact ⟨k+1,by omega,by go_num,by rw [<- zDkJ _ _ hlt,<- HB.out];exact HO3.out,HK3.out⟩
   case measure=>simp [intOf];omega
  ·have ek:k=8:=by omega
   subst ek
   go_wp2
   go_ret
   refine ⟨g,rfl,?_,HK.out⟩
   have:=HO2.out
   rw [List.take_of_length_le (by rw [zmTu];exact Nat.le_refl 8)] at this
   rw [HP.out]
   simpa [zeros] using this
theorem zP6i (V x:Nat) (hx:x < 256) (hV:V < 72057594037927936):bits .or .u64 (((V:Int)*256) % 18446744073709551616) (x:Int)=((V*256+x:Nat):Int):=by
 have e:((V:Int)*256) % 18446744073709551616=((V*256:Nat):Int):=by omega
 rw [e,(zsgD (V*256) x (by omega) (by omega)).2,zKAk V x hx]
theorem xorT (u:Nat) (h:u < 18446744073709551616):wrap64 (bits .xor .u64 (u:Int) 9223372036854775808)=(u:Int) - 9223372036854775808:=by
 show wrap64 (bits .xor .u64 (u:Int) ((9223372036854775808:Nat):Int))=_
 rw [(zsgD u 9223372036854775808 h (by decide)).1,zkxv u h]
 unfold wrap64
 omega
set_option maxRecDepth 20000 in
set_option maxHeartbeats 800000 in
theorem zM8d (A:Option Addr) (n c:Nat) (l:Bytes) (w:World) (hn:l.length=n) (h:RdB w A l) (hl:8<=n) :
  Calls Tryz.prog 128 #[.slice A n c] w fun e w'=>e=.returned (.tuple #[.int .i64 (getI l),.int .i64 8,.bool true])/\w=w':=by
 subst hn
 have H:=qh h
 clear h
 have h8:¬ (l.length:Int) < 8:=by omega
 have HL:=qh hl
 clear hl
 go_enter Tryz.func128,Tryz.ntmps128
 go_wp2
 go_loopw [5,10] (fun n i wr=>∃ k V:Nat,k<=8/\i=.int .i64 k/\n=.int .u64 V/\V=valN (l.take k) 0/\w=wr) (fun n i wr=>8 - (intOf i).toNat)
 case atStart=>exact ⟨0,0,Nat.zero_le _,rfl,rfl,rfl,rfl⟩
 case round=>
  obtain ⟨k,V,hk,rfl,rfl,hV,rfl⟩:=hrel
  have hV64:V < 256 ^ k:=by
   have h1:=zEqO (l.take k)
   rw [List.length_take,Nat.min_eq_left (by have:=HL.out;omega)] at h1
   rw [hV];exact h1
  have HV:=qh hV
  clear hV
  by_cases hlt:k < 8
  ·have i1:(k:Int) < 8:=by omega
   have hkl:k < l.length:=by have:=HL.out;omega
   have hV56:V < 72057594037927936:=by
    have h2:256 ^ k<=256 ^ 7:=Nat.pow_le_pow_right (by decide) (by omega)
    exact Nat.lt_of_lt_of_le hV64 h2
   have hx:=(bAt l k).toNat_lt
   obtain ⟨x,hx'⟩:∃ x,x=bAt l k:=⟨_,rfl⟩
   rw [<- hx'] at hx
   have xo:=zP6i V x.toNat hx hV56
   obtain ⟨b,off,rfl,hcell⟩:=H.out.cell hkl
   rw [<- hx'] at hcell
   have HX:=qh hx'
   have hkl2:(k:Int) < (l.length:Int):=by omega
   have x8:(x.toNat:Int) % 18446744073709551616=x.toNat:=by omega
   have HVN:=qh (show V*256+x.toNat=valN (l.take (k+1)) 0 by rw [HV.out,<- zjFb,HX.out,List.take_succ_eq_append_getElem hkl,zWfp hkl])
   obtain ⟨V2,hV2⟩:∃ V2,V2=V*256+x.toNat:=⟨_,rfl⟩
   rw [<- hV2] at xo HVN
   clear hx' hV2 hV64 hV56
   go_wp2
   go_roundw
   case rel=>exact ⟨k+1,V2,by omega,by go_num,by rw [wrapU,xo],HVN.out,by trivial⟩
   case measure=>simp [intOf];omega
  ·have ek:k=8:=by omega
   subst ek
   have xt:=xorT V (by omega)
   have HG:=qh (show getI l=(V:Int) - 9223372036854775808 by unfold getI;rw [<- HV.out])
   go_wp2
   go_ret3
   refine ⟨?_,rfl⟩
   rw [HG.out,<- xt]
   rfl
set_option maxRecDepth 20000 in
set_option maxHeartbeats 800000 in
theorem z6WF (A:Option Addr) (n cap:Nat) (b:Bytes) (w:World) (hn:b.length=n) (h:RdB w A b) (hb:n<=1000000) :
  Calls Tryz.prog 127 #[.slice A n cap] w fun e w'=>e=.returned (.int .u32 (crcL b))/\w=w':=by
 subst hn
 have HR:=qh h
 clear h
 go_enter Tryz.func127,Tryz.ntmps127
 go_wp2
 go_loopw [3,8] (fun c i wr=>∃ (j C2:Nat),j<=b.length/\i=.int .i64 j/\c=.int .u32 C2/\C2 < 4294967296/\C2=(b.take j).foldl crcB 4294967295/\w=wr) (fun n i wr=>b.length - (intOf i).toNat)
 case atStart=>exact ⟨0,4294967295,Nat.zero_le _,rfl,rfl,by omega,rfl,rfl⟩
 case round=>
  obtain ⟨j,C2,hj,rfl,rfl,hC2,eC2,rfl⟩:=hrel
  have EC2:=Lib.hid eC2
  clear eC2
  by_cases hjt:j < b.length
  ·have i2:(j:Int) < (b.length:Int):=by omega
   obtain ⟨bb,boff,rfl,hcell2⟩:=HR.out.cell hjt
   have hx:=(bAt b j).toNat_lt
   obtain ⟨x,hx'⟩:∃ x,x=bAt b j:=⟨_,rfl⟩
   rw [<- hx'] at hcell2 hx
   have HX:=qh hx'
   clear hx'
   obtain ⟨C3,hC3⟩:∃ C3,C3=C2 ^^^ x.toNat:=⟨_,rfl⟩
   have hC3t:C3 < 4294967296:=by rw [hC3];exact Nat.xor_lt_two_pow (n:=32) hC2 (by omega)
   have xo:bits .xor .u32 (C2:Int) (x.toNat:Int)=(C3:Int):=by rw [hC3];exact (zGem _ _ hC2 (by omega)).1
   have HC3:=qh hC3
   clear hC3
   go_wp2_with fail
   go_loopw [3,16] (fun c i wr=>∃ (m C4:Nat),m<=8/\i=.int .i64 m/\c=.int .u32 C4/\C4 < 4294967296/\C4=crcN m C3/\w=wr) (fun n i wr=>8 - (intOf i).toNat)
   case atStart=>exact ⟨0,C3,Nat.zero_le _,rfl,rfl,hC3t,rfl,rfl⟩
   case round=>
    obtain ⟨m,C4,hm,rfl,rfl,hC4,eC4,rfl⟩:=hrel
    have EC4:=Lib.hid eC4
    clear eC4
    by_cases hmt:m < 8
    ·have i3:(m:Int) < 8:=by omega
     have xa:bits .and .u32 (C4:Int) 1=((C4 % 2:Nat):Int):=by
      have:=(zGem C4 1 hC4 (by omega)).2
      rw [Nat.and_one_is_mod] at this
      exact this
     have xm:(3988292384*((C4 % 2:Nat):Int)) % 4294967296=((3988292384*(C4 % 2):Nat):Int):=by omega
     have xx:bits .xor .u32 ((C4:Int) / 2) ((3988292384*(C4 % 2):Nat):Int)=((crcS C4:Nat):Int):=by
      have:=(zGem (C4 / 2) (3988292384*(C4 % 2)) (by omega) (by omega)).1
      exact this
     have hC5:=zKTR hC4
     have XA:=Lib.hid xa
     go_wp2_with fail
     refine ⟨⟨m+1,crcS C4,by omega,by go_num,?_,hC5,by rw [EC4.out];rfl,by trivial⟩,by simp [intOf];omega⟩
     rw [<- xx]
     rfl
    ·have em:m=8:=by omega
     subst em
     go_wp2_with fail
     go_roundw
     case rel=>exact ⟨j+1,C4,by omega,by go_num,rfl,hC4,by rw [EC4.out,HC3.out,z5au,HX.out,EC2.out,List.take_succ_eq_append_getElem hjt,List.foldl_append,zWfp hjt];rfl,by trivial⟩
     case measure=>simp [intOf];omega
  ·have ej:j=b.length:=by omega
   subst ej
   go_wp2
   go_ret
   refine ⟨?_,rfl⟩
   have e:=EC2.out
   rw [List.take_length] at e
   have x:=(zGem 4294967295 C2 (by omega) hC2).1
   show Ending.returned (.int .u32 (bits .xor .u32 4294967295 (C2:Int)))=_
   rw [show (4294967295:Int)=((4294967295:Nat):Int) from rfl,x,Nat.xor_comm]
   unfold crcL
   rw [<- e]
structure MasM where
 seq:Int
 turn:Int
 oldest:Int
deriving DecidableEq
def masC (m:MasM):Array Value:=#[.int .i64 m.seq,.int .i64 m.turn,.int .i64 m.oldest]
def MasM.may (m:MasM):Prop:=1<=m.seq/\m.seq<=2305843009213693952/\1<=m.turn/\m.turn<=2147483646/\1<=m.oldest/\m.oldest<=2305843009213693952
instance (m:MasM):Decidable m.may:=by unfold MasM.may;infer_instance
def mHead (m:MasM):Bytes:=[80,77,48,49] ++ putI m.seq ++ putI m.turn ++ putI m.oldest
def mCrc (m:MasM):Bytes:=beN (crcL (mHead m)) 4
def zR62 (m:MasM):Bytes:=mHead m ++ mCrc m ++ zeros 480
theorem zZJh (m:MasM):(mHead m).length=28:=by unfold mHead;simp [zOs4]
theorem zWy4 (m:MasM):(zR62 m).length=512:=by unfold zR62 mCrc;rw [List.length_append,List.length_append,zZJh,zmTu,zeRo]
set_option maxRecDepth 100000 in
set_option maxHeartbeats 800000 in
theorem ztr0 (m:MasM) (w:World):Calls Tryz.prog 104 #[.agg (masC m)] w fun e w'=>e=.returned (.bool (decide m.may))/\Kept (fun _=>False) w w':=by
 obtain ⟨POST,hPOST⟩:∃ POST:Bool->World->Prop,POST=(fun b w'=>b=decide m.may/\Kept (fun _=>False) w w'):=⟨_,rfl⟩
 have HT:=qh (show ∀ w',m.may->Kept (fun _=>False) w w'->POST true w' from fun w' h k=>by rw [hPOST];exact ⟨by rw [decide_eq_true h],k⟩)
 have HF:=qh (show ∀ w',¬ m.may->Kept (fun _=>False) w w'->POST false w' from fun w' h k=>by rw [hPOST];exact ⟨by rw [decide_eq_false h],k⟩)
 have HE:=qh (show ∀ b w',POST b w'->(Ending.returned (.bool b)=.returned (.bool (decide m.may))/\Kept (fun _=>False) w w') from fun b w' h=>by rw [hPOST] at h;exact ⟨by rw [h.1],h.2⟩)
 clear hPOST
 have HM:=qh (show m.may↔1<=m.seq/\m.seq<=2305843009213693952/\1<=m.turn/\m.turn<=2147483646/\1<=m.oldest/\m.oldest<=2305843009213693952 from Iff.rfl)
 obtain ⟨s,t,o⟩:=m
 dsimp only at HM
 go_enter Tryz.func104,Tryz.ntmps104
 go_wp2_with (refine znBH rfl 103 _ rfl (.agg (masC ⟨s,t,o⟩)) rfl ?_)
 intro g w1 l1 l2 hb1 hk1
 have HK1:=qh hk1
 have c0:w1.cell? ⟨g,0,none⟩=some (.int .i64 s):=zcjX hb1 rfl
 have c1:w1.cell? ⟨g,1,none⟩=some (.int .i64 t):=zcjX hb1 rfl
 have c2:w1.cell? ⟨g,2,none⟩=some (.int .i64 o):=zcjX hb1 rfl
 clear hb1 hk1
 by_cases a1:s>=1
 ·by_cases a2:s<=2305843009213693952
  ·by_cases a3:t>=1
   ·by_cases a4:t<=2147483646
    ·by_cases a5:o>=1
     ·by_cases a6:o<=2305843009213693952
      ·go_wp2
       go_ret
       exact HE.out true _ (HT.out _ (HM.out.2 ⟨a1,a2,a3,a4,a5,a6⟩) HK1.out)
      ·go_wp2
       go_ret
       exact HE.out false _ (HF.out _ (fun h=>by have:=HM.out.1 h;omega) HK1.out)
     ·go_wp2
      go_ret
      exact HE.out false _ (HF.out _ (fun h=>by have:=HM.out.1 h;omega) HK1.out)
    ·go_wp2
     go_ret
     exact HE.out false _ (HF.out _ (fun h=>by have:=HM.out.1 h;omega) HK1.out)
   ·go_wp2
    go_ret
    exact HE.out false _ (HF.out _ (fun h=>by have:=HM.out.1 h;omega) HK1.out)
  ·go_wp2
   go_ret
   exact HE.out false _ (HF.out _ (fun h=>by have:=HM.out.1 h;omega) HK1.out)
 ·go_wp2
  go_ret
  exact HE.out false _ (HF.out _ (fun h=>by have:=HM.out.1 h;omega) HK1.out)
theorem bArr3 (a b c:Int) (wz:World):(Instr.build 167 #[(0,.int .i64 a),(1,.int .i64 b),(2,.int .i64 c)]).run Tryz.prog wz=.ok (.agg #[.int .i64 a,.int .i64 b,.int .i64 c]) wz:=run_build wz _ _ _ (by kernel_rfl)
def mL (m:MasM):List Int:=[m.seq,m.turn,m.oldest]
def mTo (m:MasM) (k:Nat):Bytes:=[80,77,48,49] ++ ((mL m).take k).flatMap putI
theorem zC3t (m:MasM) (k:Nat):(mTo m k).length<=28:=by
 unfold mTo mL
 match k with
 | 0=>simp
 | 1=>simp [zOs4]
 | 2=>simp [zOs4]
 | k+3=>simp [zOs4]
theorem zFTI (m:MasM) {k:Nat} {x:Int} (h:(mL m)[k]?=some x):mTo m (k+1)=mTo m k ++ putI x:=by
 unfold mTo
 obtain ⟨hk,hx⟩:=List.getElem?_eq_some_iff.1 h
 rw [List.take_succ_eq_append_getElem hk,hx,List.flatMap_append]
 simp
theorem mTo_3 (m:MasM):mTo m 3=mHead m:=by unfold mTo mL mHead;simp
theorem zJz6 {w:World} {ops:Array Oper} {rest:List Oper} {o:Oper} {a:Act} {Q:Exit->Act->World->Prop} (hgd:o.guard=none) (s x:Operand)
  (ho:o.op=.call { callee:=.builtin .append,args:=#[s,x],argTypes:=#[47,47] }) (base g n:Nat) (l m:Bytes) (hn:l.length=n) (hs:a.eval s=.slice (some ⟨g,0,none⟩) n n) (hl:RdB w (some ⟨g,0,none⟩) l) (l0:l≠[])
  (A:Option Addr) (c p:Nat) (hp:m.length=p) (hx:a.eval x=.slice A p c) (hm:RdB w A m) (m0:m≠[]) (h63:n+p<=1000000) (hbase:base<=w.heap.size)
  (k:∀ g' cap' w',OwnB w' base g' cap' (l ++ m)->Kept (fun _=>False) w w'->w.heap.size<=g'->wpList Tryz.prog ops Q rest (a.put o.dst (.slice (some ⟨g',0,none⟩) (n+p) cap')) w'):wpList Tryz.prog ops Q (o :: rest) a w:=by
 subst hn
 subst hp
 obtain ⟨i,hi,hz,hsz,hby⟩:=info_parts info5
 have e63:maxLen=9223372036854775807:=rfl
 obtain ⟨b,off,rfl,hc⟩:=hm m0
 obtain ⟨g2,o2,e2,hc2⟩:=hl l0
 cases e2
 have hm0:0 < m.length:=List.length_pos_iff.2 m0
 have hr:=run_append_grow (P:=Tryz.prog) w 47 o.type 5 i (.int .u8 0) Tryz.underlying47 hi hz ⟨g,0,none⟩ l.length l.length (cellsOf l).toList (by rw [z6VZ,hsz,Nat.mul_one]) (fun j v hv=>by rw [Addr.add_mid];exact hc2 j v (by simpa using hv))
  ⟨b,off,none⟩ m.length c (cellsOf m).toList (by rw [z6VZ,hsz,Nat.mul_one]) (fun j v hv=>by rw [Addr.add_mid];exact hc j v (by simpa using hv)) (by omega) (by omega) (growslice_fits (by omega) (by rw [hby];omega))
 have hge:=grownCap_ge w (l.length+m.length) l.length 5
 have hcm:grownCap w (l.length+m.length) l.length 5<=maxLen:=grownCap_le_maxLen w (l.length+m.length) l.length 5 (by omega)
 have hk:=k w.heap.size (grownCap w (l.length+m.length) l.length 5) (w.drew.alloc (.cells ((cellsOf l).toList.toArray ++ (cellsOf m).toList.toArray ++ Builtin.zeroCells (Value.int .u8 0).cells (grownCap w (l.length+m.length) l.length 5 - (l.length+m.length))) 5)) (by
  unfold OwnB
  refine ⟨by rw [z6VZ,Nat.mul_one],.inr ⟨w.heap.size,_,_,by rw [List.length_append],hbase,heap_alloc_new w.drew _,by rw [List.length_append];exact hge,hcm,?_,?_⟩⟩
  ·simp only [Array.size_append,List.size_toArray,size_zeroCells,show (Value.int .u8 0).cells=#[Value.int .u8 0] from rfl,z6VZ]
   show l.length+m.length+(_ - _)*1=_*1
   omega
  ·rw [zdRz,List.length_append,Nat.mul_one]
   have e1:((cellsOf l).toList ++ (cellsOf m).toList).length=l.length+m.length:=by rw [List.length_append,z6VZ,z6VZ]
   rw [<- e1]
   simp only [Array.toList_append]
   exact List.take_left) (((Kept.refl (fun _=>False) w).drew).alloc _) (Nat.le_refl _)
 obtain ⟨W,hW⟩:∃ W,W=(w.drew.alloc (.cells ((cellsOf l).toList.toArray ++ (cellsOf m).toList.toArray ++ Builtin.zeroCells (Value.int .u8 0).cells (grownCap w (l.length+m.length) l.length 5 - (l.length+m.length))) 5)):=⟨_,rfl⟩
 rw [<- hW] at hr hk
 clear hW
 refine wpList_plain hgd fun K hK=>?_
 unfold Oper.wp
 simp [execOp,ho,resolve,invoke,builtin,hs,hx,hr,Result.andThen]
 exact hK _ _ hk
set_option maxRecDepth 100000 in
set_option maxHeartbeats 1600000 in
theorem zJco (m:MasM) (w:World) (h1:isI m.seq) (h2:isI m.turn) (h3:isI m.oldest) :
  Calls Tryz.prog 106 #[.agg (masC m)] w fun e w'=>∃ g cap,e=.returned (.slice (some ⟨g,0,none⟩) 512 cap)/\OwnB w' w.heap.size g cap (zR62 m)/\Kept (fun _=>False) w w':=by
 have HI:=qh (show ∀ x∈mL m,isI x from fun x h=>by
  have e:mL m=[m.seq,m.turn,m.oldest]:=rfl
  rw [e] at h
  simp only [List.mem_cons,List.not_mem_nil,or_false] at h
  rcases h with rfl | rfl | rfl
  ·exact h1
  ·exact h2
  ·exact h3)
 have HL:=qh (show mL m=[m.seq,m.turn,m.oldest] from rfl)
 clear h1 h2 h3
 have BA:=bArr3
 have KC:=fun (w:World) (C:Array Value) (n c:Nat)=>Lib.run_convert_bytes_const (P:=Tryz.prog) w 47 5 C n c Tryz.underlying47 Tryz.underlying5
 go_enter Tryz.func106,Tryz.ntmps106
 go_wp2_with (refine znBH rfl 103 _ rfl (.agg (masC m)) rfl ?_)
 intro gm w1 l1 l2 hb1 hk1
 have HK1:=qh hk1
 have c0:w1.cell? ⟨gm,0,none⟩=some (.int .i64 m.seq):=zcjX hb1 rfl
 have c1:w1.cell? ⟨gm,1,none⟩=some (.int .i64 m.turn):=zcjX hb1 rfl
 have c2:w1.cell? ⟨gm,2,none⟩=some (.int .i64 m.oldest):=zcjX hb1 rfl
 clear hb1 hk1
 go_wp2_with fail
 obtain ⟨C,hC⟩:∃ C:Array Value,C=#[Value.int IntKind.u8 80,Value.int IntKind.u8 77,Value.int IntKind.u8 48,Value.int IntKind.u8 49]:=⟨_,rfl⟩
 rw [<- hC]
 obtain ⟨w2,hw2⟩:∃ w2,w2=w1.alloc (.cells C 5 (4,5)):=⟨_,rfl⟩
 obtain ⟨nb,hnb⟩:∃ nb,nb=w1.heap.size:=⟨_,rfl⟩
 have HR:=qh (show RdB w2 (some ⟨nb,0,none⟩) [80,77,48,49] from by
  rw [hw2,hnb]
  exact RdB.of_blk (t:=5) (fr:=(4,5)) (by rw [hC];exact heap_alloc_new w1 _))
 have HK2:=qh (show Kept (fun _=>False) w w2 from by rw [hw2];exact HK1.out.alloc _)
 have hwz:w2=w1.alloc (.cells C 5 (4,5)):=hw2
 first | rw [<- hwz] | skip
 first | rw [<- hnb] | skip
 clear hC hwz hw2 hnb c0 c1 c2
 go_loopw [3,16] (fun b i wr=>∃ k:Nat,k<=3/\i=.int .i64 k/\Kept (fun _=>False) w wr/\(k=0/\b=.slice (some ⟨nb,0,none⟩) 4 4/\RdB wr (some ⟨nb,0,none⟩) [80,77,48,49]\/0 < k/\∃ g cap,b=.slice (some ⟨g,0,none⟩) (mTo m k).length cap/\OwnB wr w.heap.size g cap (mTo m k))) (fun b i wr=>3 - (intOf i).toNat)
 case atStart=>exact ⟨0,by omega,rfl,HK2.out,.inl ⟨rfl,rfl,HR.out⟩⟩
 case round=>
  obtain ⟨k,hk,rfl,hkr,hb⟩:=hrel
  have HK:=qh hkr
  have HB:=qh hb
  clear hkr hb HR HK2
  by_cases hlt:k < 3
  ·have i1:(k:Int) < 3:=by omega
   obtain ⟨x,hx⟩:∃ x,(mL m)[k]?=some x:=⟨_,List.getElem?_eq_getElem (show k < 3 from hlt)⟩
   have hxi:=HI.out x (List.mem_of_getElem? hx)
   have HX:=qh hx
   have HIX:=qh (show ∀ wz:World,(Instr.index 167 (.agg #[.int .i64 m.seq,.int .i64 m.turn,.int .i64 m.oldest]) (.int .i64 k)).run Tryz.prog wz=.ok (.int .i64 x) wz from by
    rcases (show k=0\/k=1\/k=2 by omega) with rfl | rfl | rfl
    ·cases hx;intro wz;kernel_rfl
    ·cases hx;intro wz;kernel_rfl
    ·cases hx;intro wz;kernel_rfl)
   have hix:=HIX.out
   clear hx
   go_wp2_with fail
   refine (zu9j x hxi.1 hxi.2 wr).mono ?_
   rintro e w3 ⟨g2,rfl,ho2,hk2⟩
   have HO2:=qh ho2
   have HK2:=qh hk2
   have HK3:=qh (HK.out.trans0 hk2)
   have HTS:=qh (zFTI m HX.out)
   have HPL:=qh (zOs4 x)
   have hml:=zC3t m k
   have hsz:=HK3.out.size
   have HB0:=HB.out
   clear ho2 hk2 hix HB
   rcases HB0 with ⟨rfl,rfl,hr⟩ | ⟨hk0,g,cap,rfl,ho⟩
   ·have HR:=qh (hr.kept HK2.out (fun _ _ _ _=>id))
    clear hr
    go_wp2_with (at_builtin;refine zJz6 rfl _ _ rfl w.heap.size nb 4 [80,77,48,49] (putI x) rfl rfl HR.out (by simp) (some ⟨g2,0,none⟩) 8 8 HPL.out rfl HO2.out.v.rd (by intro h;have:=HPL.out;rw [h] at this;simp at this) (by omega) hsz ?_)
    intro g' cap' w4 ho4 hk4 hg4
    have HO4:=qh (show OwnB w4 w.heap.size g' cap' (mTo m 1) from by rw [HTS.out];exact ho4)
    have HK4:=qh (HK3.out.trans0 hk4)
    clear ho4 hk4
    go_wp2
    go_roundw
    case rel=>exact ⟨1,by omega,by go_num,HK4.out,.inr ⟨by omega,g',cap',rfl,HO4.out⟩⟩
    case measure=>simp [intOf]
   ·have HO:=qh (ho.keep HK2.out id)
    have hgb:=ho.base_le
    clear ho
    obtain ⟨T,hT⟩:∃ T,T=mTo m k:=⟨_,rfl⟩
    rw [<- hT] at HO HTS hml ⊢
    obtain ⟨p,hp⟩:∃ p,p=putI x:=⟨_,rfl⟩
    rw [<- hp] at HO2 HTS HPL
    clear hT hp
    obtain ⟨q8,hq8⟩:∃ q8:Nat,q8=p.length:=⟨_,rfl⟩
    have HQ8:=qh hq8
    have HP8:=qh (show q8=8 by rw [hq8];exact HPL.out)
    clear hq8
    go_wp2_with (at_builtin;refine zlSl rfl _ _ rfl w.heap.size g cap T p rfl HO.out (some ⟨g2,0,none⟩) 8 (by rw [HPL.out];rfl) HO2.out.v.rd (by rw [HPL.out];omega) hsz ?_)
    intro g' cap' w4 ho4 hk4 hat4 hlt4
    have HO4:=qh (show OwnB w4 w.heap.size g' cap' (mTo m (k+1)) from by rw [HTS.out];exact ho4)
    have HK4:=qh (HK3.out.new hk4 (fun z hz=>by subst hz;exact hgb))
    have HL4:=qh (show T.length+p.length=(mTo m (k+1)).length from by rw [HTS.out,List.length_append])
    clear ho4 hk4
    go_wp2
    go_roundw
    case rel=>exact ⟨k+1,by omega,by go_num,HK4.out,.inr ⟨by omega,g',cap',by rw [HL4.out],HO4.out⟩⟩
    case measure=>simp [intOf];omega
  ·have ek:k=3:=by omega
   subst ek
   have HB0:=HB.out
   rcases HB0 with ⟨h0,_⟩ | ⟨_,g,cap,rfl,ho⟩
   ·exact absurd h0 (by decide)
   ·rw [mTo_3] at ho
    rw [mTo_3,zZJh]
    have HO:=qh ho
    have hgb:=ho.base_le
    have hsz:=HK.out.size
    clear ho HB
    obtain ⟨H,hH⟩:∃ H,H=mHead m:=⟨_,rfl⟩
    have HHL:=qh (show H.length=28 by rw [hH];exact zZJh m)
    have HBY:=qh (show zR62 m=H ++ beN (crcL H) 4 ++ zeros 480 by rw [hH];rfl)
    rw [<- hH] at HO
    clear hH
    have HCS:=qh (z6WF (some ⟨g,0,none⟩) 28 cap H wr HHL.out HO.out.v.rd (by decide))
    obtain ⟨C2,hC2⟩:∃ C2,C2=crcL H:=⟨_,rfl⟩
    have hC2l:C2 < 2 ^ 32:=by rw [hC2];exact z2X7 H
    rw [<- hC2] at HCS HBY
    clear hC2
    go_wp2_with fail
    refine HCS.out.mono ?_
    rintro e w3 ⟨rfl,rfl⟩
    clear HCS
    obtain ⟨B0,hB0⟩:∃ B:UInt8,B=UInt8.ofNat (C2 / 256 ^ 3):=⟨_,rfl⟩
    obtain ⟨B1,hB1⟩:∃ B:UInt8,B=UInt8.ofNat (C2 / 256 ^ 2):=⟨_,rfl⟩
    obtain ⟨B2,hB2⟩:∃ B:UInt8,B=UInt8.ofNat (C2 / 256 ^ 1):=⟨_,rfl⟩
    obtain ⟨B3,hB3⟩:∃ B:UInt8,B=UInt8.ofNat (C2 / 256 ^ 0):=⟨_,rfl⟩
    have HBE:=qh (show beN C2 4=[B0,B1,B2,B3] by rw [hB0,hB1,hB2,hB3];rfl)
    have e0:(C2:Int) / 16777216=(B0.toNat:Int):=by rw [hB0,UInt8.toNat_ofNat'];omega
    have e1:(C2:Int) / 65536 % 256=(B1.toNat:Int):=by rw [hB1,UInt8.toNat_ofNat'];omega
    have e2:(C2:Int) / 256 % 256=(B2.toNat:Int):=by rw [hB2,UInt8.toNat_ofNat'];omega
    have e3:(C2:Int) % 256=(B3.toNat:Int):=by rw [hB3,UInt8.toNat_ofNat'];omega
    clear hB0 hB1 hB2 hB3
    have HOA:=qh (HO.out.keep ((Kept.refl (fun _=>False) wr).alloc (.cells #[.int .u8 B0.toNat,.int .u8 B1.toNat,.int .u8 B2.toNat,.int .u8 B3.toNat] 5)) id)
    have HKA:=qh (HK.out.alloc (.cells #[.int .u8 B0.toNat,.int .u8 B1.toNat,.int .u8 B2.toNat,.int .u8 B3.toNat] 5))
    have HRD:=qh (RdB.of_blk (l:=[B0,B1,B2,B3]) (heap_alloc_new wr (.cells #[.int .u8 B0.toNat,.int .u8 B1.toNat,.int .u8 B2.toNat,.int .u8 B3.toNat] 5)))
    go_wp2_with (at_builtin;refine zlSl rfl _ _ rfl w.heap.size g cap H [B0,B1,B2,B3] (by rw [HHL.out];rfl) HOA.out (some ⟨wr.heap.size,0,none⟩) 4 rfl HRD.out (by rw [HHL.out];simp) HKA.out.size ?_)
    intro g5 cap5 w5 ho5 hk5 hat5 hlt5
    rw [<- HBE.out] at ho5
    obtain ⟨H2,hH2⟩:∃ H2,H2=H ++ beN C2 4:=⟨_,rfl⟩
    have HL2:=qh (show H2.length=32 by rw [hH2,List.length_append,HHL.out,zmTu])
    rw [<- hH2] at ho5 HBY
    have HO5:=qh ho5
    have HK5:=qh (HKA.out.new hk5 (fun z hz=>by subst hz;exact hgb))
    have hg5:=ho5.base_le
    have hsz5:=HK5.out.size
    have hle:=HHL.out
    have x480:wrap64 (512 - 32)=480:=by unfold wrap64;omega
    clear ho5 hk5 hat5 hlt5 hH2 HBE HOA HKA HRD e0 e1 e2 e3
    go_wp2_with (at_builtin;refine zzJJ rfl _ _ rfl w.heap.size g5 cap5 H2 (by rw [HL2.out];show Value.slice _ (H.length+4) _=_;rw [HHL.out]) HO5.out 480 (by first | rfl | simp) (by decide) (by rw [HL2.out];decide) hsz5 ?_)
    intro g6 cap6 w6 ho6 hk6 hat6
    rw [<- HBY.out] at ho6
    have HO6:=qh ho6
    have HK6:=qh (HK5.out.new hk6 (fun z hz=>by subst hz;exact hg5))
    have hle2:=HL2.out
    clear ho6 hk6 hat6
    go_wp2
    go_ret
    exact ⟨g6,cap6,by show Ending.returned (.slice _ (H2.length+480) cap6)=_;rw [HL2.out],HO6.out,HK6.out⟩
section
variable {P:Program} {ops:Array Oper} {Q:Exit->Act->World->Prop} {md:Region.Mode} {S:World->Prop} {last:Nat}
theorem forkB (i j:Nat) {l:List Oper} {oi oj:Oper} {fuel:Nat} {listed:Array Bool} {a:Act} {w:World} (hi:atL l i=some oi) (hj:atL l j=some oj) (hr:Region.ready md l.toArray listed=[i,j])
  (h1:∀ K':Act->World->Prop,RowKit.Hid (∀ a w,(i≠last->S w)->((i≠last->S w)->zzmR P md l.toArray Q S last fuel (listed.setIfInBounds i true) a w)->K' a w)->if Region.wanted oi (yielded l.toArray a.tmps)=true then Oper.wp P oi a w K' Q else K' (a.put oi.dst undef) w)
  (h2:∀ K':Act->World->Prop,RowKit.Hid (∀ a w,(j≠last->S w)->((j≠last->S w)->zzmR P md l.toArray Q S last fuel (listed.setIfInBounds j true) a w)->K' a w)->if Region.wanted oj (yielded l.toArray a.tmps)=true then Oper.wp P oj a w K' Q else K' (a.put oj.dst undef) w) :
  zzmR P md l.toArray Q S last (fuel+1) listed a w:=by
 have hi':l.toArray[i]?=some oi:=by rw [<- hi,zX7e];simp
 have hj':l.toArray[j]?=some oj:=by rw [<- hj,zX7e];simp
 refine ⟨fun h0=>(by rw [hr] at h0;cases h0),?_⟩
 rw [hr]
 intro x hx
 simp only [List.mem_cons,List.not_mem_nil,or_false] at hx
 rcases hx with rfl | rfl
 ·exact wpOp_step hi' (fun K' hK=>h1 K' (qh (fun a w hS hW=>hK a w ⟨hS,hW hS⟩)))
 ·exact wpOp_step hj' (fun K' hK=>h2 K' (qh (fun a w hS hW=>hK a w ⟨hS,hW hS⟩)))
end
theorem zvXq {P:Program} {fn:Func} {p u:Tmp} {ty:TypeId} (h:fn.results=#[.cell p ty,.tmp u]) (tmps:Array Value) (w:World) (g:Nat) (cs:Array Value) {t:TypeId} {fr:Nat×Nat} {d:TypeDesc} (hp:tmps.getD p undef=.pointer (some ⟨g,0,none⟩)) (hg:w.heap[g]?=some (.cells cs t fr))
  (hu:P.underlying ty=some d) (hd:(match d with | .struct _ | .array _ _=>true | _=>false)=true) (hi:(P.info? ty).map (·.size)=some cs.size):(results fn tmps).run P w=.ok (.tuple #[.agg cs,tmps.getD u undef]) w:=by
 rw [results_cell_tmp h,hp]
 simp [asAddr,Result.andThen,run_loadVar_row w g t ty cs fr d hg hu hd hi]
def zM:MasM:=⟨0,0,0⟩
def decM (l:Bytes):MasM:=⟨getI (l.drop 4),getI (l.drop 12),getI (l.drop 20)⟩
def zhQE (l:Bytes) (k:Int):MasM×Bool:=if ¬ (decM l).may\/(decM l).seq.tmod 2≠k then (zM,false) else (decM l,decide (zR62 (decM l)=l))
theorem zB5C (l:Bytes):isI (getI l):=by
 have h:=zEqO (l.take 8)
 have h2:(256:Nat) ^ (l.take 8).length<=256 ^ 8:=Nat.pow_le_pow_right (by decide) (by rw [List.length_take];omega)
 unfold getI isI
 have h3:valN (l.take 8) 0 < 256 ^ 8:=Nat.lt_of_lt_of_le h h2
 omega
theorem zrLu:(Tryz.prog.info? 103).map (fun i=>(i.zero,i.size))=some (some (.agg (masC zM)),3):=by kernel_rfl
theorem z1iB (w:World):(zeroValue 103).run Tryz.prog w=.ok (.agg (masC zM)) w:=(zero_of_info zrLu).1 w
theorem zapW:(Tryz.prog.info? 103).map (·.size)=some 3:=(zero_of_info zrLu).2
theorem z6IM (m:MasM):(masC m).all (·.oneCell')=true:=by simp [masC,Value.oneCell']
theorem bM0 (wz:World):(Instr.build 103 #[]).run Tryz.prog wz=.ok (.agg (masC zM)) wz:=run_build wz _ _ _ (by kernel_rfl)
theorem bM3 (a b c:Int) (wz:World):(Instr.build 103 #[(0,.int .i64 a),(1,.int .i64 b),(2,.int .i64 c)]).run Tryz.prog wz=.ok (.agg #[.int .i64 a,.int .i64 b,.int .i64 c]) wz:=run_build wz _ _ _ (by kernel_rfl)
theorem ztei (w:World):(zeroValue 167).run Tryz.prog w=.ok (.agg #[.int .i64 0,.int .i64 0,.int .i64 0]) w:=(zero_of_info (n:=3) (by kernel_rfl)).1 w
theorem zr6v {w:World} {A:Option Addr} {c n:Nat} {l:Bytes} (hn:l.length=n) (h:RdB w A l) (h0:0 < n):(convert 47 9 (.slice A n c)).run Tryz.prog w=.ok (.string ⟨l.toArray⟩) w:=by
 subst hn
 obtain ⟨b,off,rfl,-⟩:=h (by rintro rfl;simp at h0)
 have:=run_convert_bytes_arg (P:=Tryz.prog) w 47 5 Tryz.underlying47 Tryz.underlying5 b off l.length c (l.map fun x=>(x.toNat:Int)) (by simp) (fun i hi=>by
  obtain ⟨b',off',e,hc⟩:=h.cell hi
  cases e
  rw [hc,List.getD_eq_getElem?_getD,List.getElem?_map,List.getElem?_eq_getElem hi,zWfp hi]
  rfl) 9 Tryz.underlying9
 have e:(fun n:Int=>UInt8.ofNat n.toNat)∘(fun x:UInt8=>(x.toNat:Int))=id:=by
  funext x;simp
 have e2:strOfNums (l.map fun x=>(x.toNat:Int))=⟨l.toArray⟩:=by
  unfold strOfNums
  rw [List.map_map,e,List.map_id]
 rw [this,e2]
def mArr (l:Bytes) (k:Nat):Array Value:=#[.int .i64 (if 0 < k then getI (l.drop 4) else 0),.int .i64 (if 1 < k then getI (l.drop 12) else 0),.int .i64 (if 2 < k then getI (l.drop 20) else 0)]
theorem znsS (l:Bytes) {k:Nat} (hk:k < 3):(mArr l k).setIfInBounds k (.int .i64 (getI (l.drop (4+8*k))))=mArr l (k+1):=by
 rcases (show k=0\/k=1\/k=2 by omega) with rfl | rfl | rfl<;>rfl
set_option maxRecDepth 100000 in
set_option maxHeartbeats 1600000 in
theorem zRU8 (A:Option Addr) (c:Nat) (l:Bytes) (k:Int) (w:World) (h:RdB w A l) (hl:l.length=512) (hc:512<=c) (hc2:c<=9223372036854775807) :
  Calls Tryz.prog 107 #[.slice A 512 c,.int .i64 k] w fun e w'=>e=.returned (.tuple #[.agg (masC (zhQE l k).1),.bool (zhQE l k).2])/\Kept (fun _=>False) w w':=by
 obtain ⟨b,off,rfl,-⟩:=h (by rintro rfl;simp at hl)
 have H:=qh h
 have HL:=qh hl
 clear h hl
 have B0:=bM0
 have BA:=bM3
 go_enter Tryz.func107,Tryz.ntmps107
 go_wp2_with (refine zNko rfl 103 rfl (masC zM) z1iB ?_)
 intro pr w1 l1 m1 hb1 hk1
 have HP:=qh hb1
 have HK1:=qh hk1
 clear hb1 hk1
 go_wp2_with (refine zNko rfl 167 rfl #[.int .i64 0,.int .i64 0,.int .i64 0] ztei ?_)
 intro ga w2 l2 m2 hb2 hk2
 have HG:=qh (show w2.heap[ga]?=some (.cells (mArr l 0) 167 (0,0)) from hb2)
 have HP2:=qh (hk2.heap HP.out id)
 have HK2:=qh (HK1.out.trans0 hk2)
 have hne:pr≠ga:=by have:=zvKu HP.out;omega
 clear hb2 hk2 HP HK1
 go_wp2_with fail
 go_loopw [13] (fun i wr=>∃ j:Nat,j<=3/\i=.int .i64 j/\wr.heap[ga]?=some (.cells (mArr l j) 167 (0,0))/\wr.heap[pr]?=some (.cells (masC zM) 103 (0,0))/\Kept (fun _=>False) w wr) (fun i wr=>3 - (intOf i).toNat)
 case atStart=>exact ⟨0,by omega,rfl,HG.out,HP2.out,HK2.out⟩
 case round=>
  obtain ⟨j,hj,rfl,hg,hp,hkr⟩:=hrel
  have HG:=qh hg
  have HP:=qh hp
  have HK:=qh hkr
  clear hg hp hkr HP2 HK2
  by_cases hlt:j < 3
  ·have i1:(j:Int) < 3:=by omega
   have x1:wrap64 (8*(j:Int))=8*(j:Int):=by unfold wrap64;omega
   have x2:wrap64 (4+8*(j:Int))=((4+8*j:Nat):Int):=by unfold wrap64;omega
   have hA:slA (some ⟨b,off,none⟩) (4+8*j) c=some ⟨b,off+(4+8*j),none⟩:=by unfold slA;rw [if_neg (by omega)];simp [Addr.add_mid]
   have HGT:=qh (zM8d (slA (some ⟨b,off,none⟩) (4+8*j) c) (512 - (4+8*j)) (c - (4+8*j)) (l.drop (4+8*j)) wr (by rw [List.length_drop,HL.out]) ((H.out.kept HK.out (fun _ _ _ _=>id)).sl _ c (by rw [HL.out];exact hc)) (by omega))
   obtain ⟨x,hx⟩:∃ x,x=getI (l.drop (4+8*j)):=⟨_,rfl⟩
   rw [<- hx,hA] at HGT
   have HX:=qh hx
   clear hx hA
   go_wp2_with fail
   refine HGT.out.mono ?_
   rintro e wx ⟨rfl,rfl⟩
   clear HGT
   go_wp2_with (refine z2q7 rfl _ _ _ rfl ga j (.int .i64 x) (mArr l j) rfl rfl HG.out (by kernel_rfl) (by show j < 3;omega) rfl ?_)
   intro w4 hb4 hk4
   rw [HX.out,znsS l hlt] at hb4
   have HG4:=qh hb4
   have HP4:=qh (hk4.heap HP.out (fun e=>hne e))
   have HK4:=qh (HK.out.new hk4 (fun z hz=>by subst hz;have:=l2;have:=l1;omega))
   clear hb4 hk4
   go_wp2
   go_roundw
   case rel=>exact ⟨j+1,by omega,by go_num,HG4.out,HP4.out,HK4.out⟩
   case measure=>simp [intOf];omega
  ·have ej:j=3:=by omega
   subst ej
   have ea:mArr l 3=#[.int .i64 (getI (l.drop 4)),.int .i64 (getI (l.drop 12)),.int .i64 (getI (l.drop 20))]:=rfl
   obtain ⟨s,t,o,hd⟩:∃ s t o,decM l=⟨s,t,o⟩:=⟨_,_,_,rfl⟩
   have hg3:=HG.out
   rw [ea] at hg3
   have q0:getI (l.drop 4)=s:=congrArg MasM.seq hd
   have q1:getI (l.drop 12)=t:=congrArg MasM.turn hd
   have q2:getI (l.drop 20)=o:=congrArg MasM.oldest hd
   have HIS:=qh (show isI s/\isI t/\isI o from ⟨by rw [<- q0];exact zB5C _,by rw [<- q1];exact zB5C _,by rw [<- q2];exact zB5C _⟩)
   rw [q0,q1,q2] at hg3
   have HD:=qh hd
   have g0:wr.cell? ⟨ga,0,none⟩=some (.int .i64 s):=zcjX hg3 rfl
   have g1:wr.cell? ⟨ga,1,none⟩=some (.int .i64 t):=zcjX hg3 rfl
   have g2:wr.cell? ⟨ga,2,none⟩=some (.int .i64 o):=zcjX hg3 rfl
   clear hg3 q0 q1 q2 hd ea
   go_wp2_with (refine zNko rfl 103 rfl (masC zM) z1iB ?_)
   intro gm w4 l4 m4 hb4 hk4
   refine zxQF rfl 103 _ _ rfl gm (masC ⟨s,t,o⟩) (masC zM) rfl rfl hb4 zapW rfl (z6IM _) ?_
   intro w5 hb5 hk5
   have hk45:Kept (fun _=>False) wr w5:=hk4.new hk5 (fun z hz=>by subst hz;exact l4)
   have HM5:=qh hb5
   have HP5:=qh (hk45.heap HP.out id)
   have HK5:=qh (HK.out.trans0 hk45)
   have HMY:=qh (ztr0 ⟨s,t,o⟩ w5)
   have c0:w5.cell? ⟨gm,0,none⟩=some (.int .i64 s):=zcjX hb5 rfl
   have c1:w5.cell? ⟨gm,1,none⟩=some (.int .i64 t):=zcjX hb5 rfl
   have c2:w5.cell? ⟨gm,2,none⟩=some (.int .i64 o):=zcjX hb5 rfl
   have hprm:pr < gm:=by have:=zvKu HP.out;omega
   clear hb4 hk4 hb5 hk5 hk45 g0 g1 g2 HG HP HK
   go_wp2_with fail
   refine HMY.out.mono ?_
   rintro e w6 ⟨rfl,hk6⟩
   have HM6:=qh (hk6.heap HM5.out id)
   have HP6:=qh (hk6.heap HP5.out id)
   have HK6:=qh (HK5.out.trans0 hk6)
   have c0:w6.cell? ⟨gm,0,none⟩=some (.int .i64 s):=zcjX HM6.out rfl
   clear hk6 HMY HM5 HP5 HK5
   have HNO:=qh (show ¬ (MasM.may ⟨s,t,o⟩/\s.tmod 2=k)->zhQE l k=(zM,false) from fun h=>by
    unfold zhQE
    rw [HD.out]
    rw [if_pos]
    by_cases hm:MasM.may ⟨s,t,o⟩
    ·exact .inr (fun e=>h ⟨hm,e⟩)
    ·exact .inl hm)
   have HYES:=qh (show MasM.may ⟨s,t,o⟩->s.tmod 2=k->zhQE l k=(⟨s,t,o⟩,decide (zR62 ⟨s,t,o⟩=l)) from fun h1 h2=>by
    unfold zhQE
    rw [HD.out]
    rw [if_neg]
    rintro (h | h)
    ·exact h h1
    ·exact h h2)
   have REJ:∀ wz,Kept (fun _=>False) w wz->wz.heap[pr]?=some (.cells (masC zM) 103 (0,0))->True:=fun _ _ _=>trivial
   clear REJ
   by_cases hm:MasM.may ⟨s,t,o⟩
   ·rw [decide_eq_true hm]
    have HMM:=qh hm
    clear hm
    by_cases hs:s.tmod 2=k
    ·have hsb:(s.tmod 2 != k)=false:=by rw [bne_eq_false_iff_eq];exact hs
     have HS:=qh hs
     have HMB:=qh (fun wz=>zJco ⟨s,t,o⟩ wz HIS.out.1 HIS.out.2.1 HIS.out.2.2)
     have HS0:=qh (show (w6.drew).heap[gm]?=some (.cells (masC ⟨s,t,o⟩) 103 (0,0))/\(w6.drew).heap[pr]?=some (.cells (masC zM) 103 (0,0))/\RdB (w6.drew) (some ⟨b,off,none⟩) l from ⟨HM6.out,HP6.out,H.out.kept HK6.out.drew (fun _ _ _ _=>id)⟩)
     have HC:=qh (fun (w':World) (h:w'.heap[gm]?=some (.cells (masC ⟨s,t,o⟩) 103 (0,0)))=>show w'.cell? ⟨gm,0,none⟩=some (.int .i64 s)/\w'.cell? ⟨gm,1,none⟩=some (.int .i64 t)/\w'.cell? ⟨gm,2,none⟩=some (.int .i64 o) from ⟨zcjX h rfl,zcjX h rfl,zcjX h rfl⟩)
     have hpg:pr≠gm:=by omega
     go_wp2_with fail
     refine znCh 8 (fun w'=>w'.heap[gm]?=some (.cells (masC ⟨s,t,o⟩) 103 (0,0))/\(∃ n:MasM,w'.heap[pr]?=some (.cells (masC n) 103 (0,0)))/\RdB w' (some ⟨b,off,none⟩) l) (by kernel_rfl) ⟨HS0.out.1,⟨_,HS0.out.2.1⟩,HS0.out.2.2⟩ (fun hH=>?_)
     simp only [List.length_cons,List.length_nil,List.replicate]
     refine tK 0 ?_ (fun w' hw'=>?_) hH ?_
     rotate_left
     ·obtain ⟨c0,c1,c2⟩:=HC.out w' hw'.1
      go_simp<;>with_reducible rfl
     simp only [Act.put,oZa,oZb,oZc]
     refine tK 1 ?_ (fun w' hw'=>?_) hH ?_
     rotate_left
     ·obtain ⟨c0,c1,c2⟩:=HC.out w' hw'.1
      go_simp<;>with_reducible rfl
     simp only [Act.put,oZa,oZb,oZc]
     refine tK 4 ?_ (fun w' hw'=>?_) hH ?_
     rotate_left
     ·obtain ⟨c0,c1,c2⟩:=HC.out w' hw'.1
      go_simp<;>with_reducible rfl
     simp only [Act.put,oZa,oZb,oZc]
     refine tK 5 ?_ (fun w' hw'=>?_) hH ?_
     rotate_left
     ·have e:=zr6v (c:=c) HL.out hw'.2.2 (by decide)
      go_simp<;>with_reducible rfl
     simp only [Act.put,oZa,oZb,oZc]
     refine stepL 2 rfl (by kernel_rfl) (fun K hK=>?_)
     go_simp
     refine (HMB.out _).mono ?_
     rintro e w7 ⟨g7,cap7,rfl,ho7,hk7⟩
     have HS7:=qh (show w7.heap[gm]?=some (.cells (masC ⟨s,t,o⟩) 103 (0,0))/\w7.heap[pr]?=some (.cells (masC zM) 103 (0,0))/\RdB w7 (some ⟨b,off,none⟩) l from ⟨hk7.heap HS0.out.1 id,hk7.heap HS0.out.2.1 id,HS0.out.2.2.kept hk7 (fun _ _ _ _=>id)⟩)
     have HK7:=qh (HK6.out.drew.trans0 hk7)
     have HE7:=qh (fun (w':World) (hk:Kept (fun _=>False) w7 w')=>zr6v (c:=cap7) (zWy4 ⟨s,t,o⟩) (ho7.v.rd.kept hk (fun _ _ _ _=>id)) (by decide))
     have HE8:=qh (fun (w':World) (hk:Kept (fun x=>x=pr) w7 w')=>zr6v (c:=cap7) (zWy4 ⟨s,t,o⟩) (ho7.v.rd.kept hk (fun b' o' e _ h=>by cases e;have:=ho7.base_le;have:=zvKu HP6.out;have e2:w6.drew.heap.size=w6.heap.size:=rfl;omega)) (by decide))
     have HSX:=qh (show w7.heap[gm]?=some (.cells (masC ⟨s,t,o⟩) 103 (0,0))/\(∃ n:MasM,w7.heap[pr]?=some (.cells (masC n) 103 (0,0)))/\RdB w7 (some ⟨b,off,none⟩) l from ⟨HS7.out.1,⟨_,HS7.out.2.1⟩,HS7.out.2.2⟩)
     have HPB:=qh (show ∀ (b':Nat),b'=b->b < w.heap.size->b'≠pr from fun b' _ h e=>by have:=l1;omega)
     have HB0:=qh (show b < w.heap.size from by obtain ⟨b2,o2,e2,hc⟩:=H.out.cell (k:=0) (by rw [HL.out];decide);cases e2;exact block_lt_of_cell hc)
     obtain ⟨m,hm⟩:∃ m:MasM,m=⟨s,t,o⟩:=⟨_,rfl⟩
     have HM:=qh hm
     obtain ⟨X,hX⟩:∃ X,X=zR62 ⟨s,t,o⟩:=⟨_,rfl⟩
     rw [<- hX] at HE7 HE8 HYES
     have HY2:=qh (HYES.out HMM.out HS.out)
     clear ho7 hk7 hm hX
     have e7:=HE7.out w7 (Kept.refl _ _)
     go_simp
     refine hK.out _ _ (fun _=>HSX.out) (fun _=>?_)
     simp only [oZa,oZb,oZc]
     clear hK K hH
     refine forkB 3 7 rfl rfl (by kernel_rfl) (fun K hK=>?_) (fun K hK=>?_)
     ·go_simp
      refine hK.out _ _ (fun _=>HSX.out) (fun _=>?_)
      simp only [oZa,oZb,oZc]
      clear hK K e7
      refine tK 6 ?_ (fun w' hw'=>?_) HSX.out ?_
      rotate_left
      ·skip
       go_simp<;>with_reducible rfl
      simp only [Act.put,oZa,oZb,oZc]
      refine stepL 7 rfl (by kernel_rfl) (fun K hK=>?_)
      refine zSwC rfl 103 _ _ rfl pr (masC ⟨s,t,o⟩) (masC zM) rfl rfl HS7.out.2.1 zapW rfl (z6IM _) ?_
      intro w8 hb8 hk8
      have HP8:=qh hb8
      have HK8:=qh (HK7.out.new hk8 (fun z hz=>by subst hz;exact l1))
      have HS8:=qh (show w8.heap[gm]?=some (.cells (masC ⟨s,t,o⟩) 103 (0,0))/\(∃ n:MasM,w8.heap[pr]?=some (.cells (masC n) 103 (0,0)))/\RdB w8 (some ⟨b,off,none⟩) l from ⟨hk8.heap HS7.out.1 (fun e=>hpg e.symm),⟨_,hb8⟩,HS7.out.2.2.kept hk8 (fun b' o' e _ h=>by cases e;exact HPB.out b rfl HB0.out h)⟩)
      clear hb8 hk8
      refine hK.out _ _ (fun _=>HS8.out) (fun _=>?_)
      simp only [oZa,oZb,oZc]
      clear hK K
      refine stepL 8 rfl (by kernel_rfl) (fun K hK=>?_)
      go_simp
      refine hK.out _ _ (fun h=>absurd rfl h) (fun _=>?_)
      simp only [oZa,oZb,oZc]
      clear hK K
      refine doneL (by kernel_rfl) ?_ _
      go_wp2
      try simp only [Exit.inBlock,Exit.then]
      refine bodyPost_ret (zvXq rfl _ _ pr (masC ⟨s,t,o⟩) rfl HP8.out Tryz.underlying103 rfl zapW) rfl ?_
      refine ⟨?_,HK8.out⟩
      rw [HY2.out]
      show Ending.returned (.tuple #[.agg (masC ⟨s,t,o⟩),.bool (X == l)])=.returned (.tuple #[.agg (masC ⟨s,t,o⟩),.bool (decide (X=l))])
      have hbe:(X == l)=decide (X=l):=by rw [Bool.eq_iff_iff];simp
      rw [hbe]
     ·refine zSwC rfl 103 _ _ rfl pr (masC ⟨s,t,o⟩) (masC zM) rfl rfl HS7.out.2.1 zapW rfl (z6IM _) ?_
      intro w8 hb8 hk8
      have HP8:=qh hb8
      have HK8:=qh (HK7.out.new hk8 (fun z hz=>by subst hz;exact l1))
      have HS8:=qh (show w8.heap[gm]?=some (.cells (masC ⟨s,t,o⟩) 103 (0,0))/\(∃ n:MasM,w8.heap[pr]?=some (.cells (masC n) 103 (0,0)))/\RdB w8 (some ⟨b,off,none⟩) l from ⟨hk8.heap HS7.out.1 (fun e=>hpg e.symm),⟨_,hb8⟩,HS7.out.2.2.kept hk8 (fun b' o' e _ h=>by cases e;exact HPB.out b rfl HB0.out h)⟩)
      have e8:=HE8.out w8 hk8
      clear hb8 hk8 e7
      refine hK.out _ _ (fun _=>HS8.out) (fun _=>?_)
      simp only [oZa,oZb,oZc]
      clear hK K
      refine stepL 3 rfl (by kernel_rfl) (fun K hK=>?_)
      go_simp
      refine hK.out _ _ (fun _=>HS8.out) (fun _=>?_)
      simp only [oZa,oZb,oZc]
      clear hK K e8
      refine tK 6 ?_ (fun w' hw'=>?_) HS8.out ?_
      rotate_left
      ·skip
       go_simp<;>with_reducible rfl
      simp only [Act.put,oZa,oZb,oZc]
      refine stepL 8 rfl (by kernel_rfl) (fun K hK=>?_)
      go_simp
      refine hK.out _ _ (fun h=>absurd rfl h) (fun _=>?_)
      simp only [oZa,oZb,oZc]
      clear hK K
      refine doneL (by kernel_rfl) ?_ _
      go_wp2
      try simp only [Exit.inBlock,Exit.then]
      refine bodyPost_ret (zvXq rfl _ _ pr (masC ⟨s,t,o⟩) rfl HP8.out Tryz.underlying103 rfl zapW) rfl ?_
      refine ⟨?_,HK8.out⟩
      rw [HY2.out]
      show Ending.returned (.tuple #[.agg (masC ⟨s,t,o⟩),.bool (X == l)])=.returned (.tuple #[.agg (masC ⟨s,t,o⟩),.bool (decide (X=l))])
      have hbe:(X == l)=decide (X=l):=by rw [Bool.eq_iff_iff];simp
      rw [hbe]
    ·have hsb:(s.tmod 2 != k)=true:=by rw [bne_iff_ne];exact hs
     have HE:=qh (HNO.out (fun h=>hs h.2))
     clear hs
     go_wp2_with (refine zxQF rfl 103 _ _ rfl pr (masC zM) (masC zM) rfl rfl HP6.out zapW rfl (z6IM _) ?_)
     intro w8 hb8 hk8
     have HP8:=qh hb8
     have HK8:=qh (HK6.out.new hk8 (fun z hz=>by subst hz;exact l1))
     clear hb8 hk8
     go_wp2
     try simp only [Exit.inBlock,Exit.then]
     refine bodyPost_ret (zvXq rfl _ _ pr (masC zM) rfl HP8.out Tryz.underlying103 rfl zapW) rfl ?_
     exact ⟨by rw [HE.out];rfl,HK8.out⟩
   ·rw [decide_eq_false hm]
    have HE:=qh (HNO.out (fun h=>hm h.1))
    clear hm
    go_wp2_with (refine zxQF rfl 103 _ _ rfl pr (masC zM) (masC zM) rfl rfl HP6.out zapW rfl (z6IM _) ?_)
    intro w8 hb8 hk8
    have HP8:=qh hb8
    have HK8:=qh (HK6.out.new hk8 (fun z hz=>by subst hz;exact l1))
    clear hb8 hk8
    go_wp2
    try simp only [Exit.inBlock,Exit.then]
    refine bodyPost_ret (zvXq rfl _ _ pr (masC zM) rfl HP8.out Tryz.underlying103 rfl zapW) rfl ?_
    exact ⟨by rw [HE.out];rfl,HK8.out⟩
end Go.Proofs.YtfgagakepmigbaaGreat
