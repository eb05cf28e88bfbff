/-
  No statement is proved here.
-/
import Derived.Test.YtnbfhdgojmflhaaJGs
import Derived.Test.YtnbfhdgojmflhaaJReadr
import Derived.Deep.CutRange
import Derived.Deep.CutBlock
import Derived.Test.YtnbfhdgojmflhaaJOrd
import Derived.Deep.RegionHeld3
namespace Go.Proofs.Ytnbfhdgojmflhaa
open Go.RowKit
def outM (n:Int):Bool:=decide (n < 0\/4611686018427387904 < n)
theorem zjcb (n:Int) (w:World):Calls Try.prog 99 #[.int .i64 n] w fun e w'=>e=.returned (.bool (outM n))/\w=w':=by
 go_enter Try.func99,Try.ntmps99
 unfold outM
 by_cases h1:n < 0
 ·go_wp2
  go_ret
  exact ⟨by simp [h1],rfl⟩
 ·by_cases h2:4611686018427387904 < n
  ·go_wp2
   go_ret
   exact ⟨by simp,rfl⟩
  ·go_wp2
   go_ret
   exact ⟨by simp [h1,h2],rfl⟩
theorem zDpY (b off c:Nat) (l:List Int) (w:World) (hl:l.length<=1000) (hc:∀ (j:Nat) x,l[j]?=some x->w.cell? ⟨b,off+j,none⟩=some (.int .i64 x)) :
  Calls Try.prog 105 #[.slice (some ⟨b,off,none⟩) l.length c,.func (.func 99) #[] #[]] w fun e w'=>∃ r,e=.returned (.int .i64 r) /\ -1<=r/\(decide (0<=r)=l.any outM)/\Same w w':=by
 have HC:=qh hc
 clear hc
 go_enter Try.func105,Try.ntmps105
 go_wp2
 go_loopw [8] (fun i wr=>∃ k:Nat,k<=l.length/\i=.int .i64 k/\(l.take k).any outM=false/\Same w wr) (fun i wr=>l.length - (intOf i).toNat)
 case atStart=>exact ⟨0,Nat.zero_le _,rfl,rfl,Same.refl w⟩
 case round=>
  obtain ⟨k,hk,rfl,hn,hw⟩:=hrel
  have HN:=qh hn
  clear hn
  by_cases hlt:k < l.length
  ·have i1:(k:Int) < (l.length:Int):=by omega
   have hcell:wr.cell? ⟨b,off+k,none⟩=some (.int .i64 l[k]):=by
    obtain ⟨q,rfl⟩:=hw
    exact HC.out k _ (List.getElem?_eq_getElem hlt)
   obtain ⟨x,hx⟩:∃ x,x=l[k]:=⟨_,rfl⟩
   rw [<- hx] at hcell
   have HX:=qh hx
   clear hx
   cases ho:outM x with
   | true=>
    have HO:=qh (ho▸(fun wx=>zjcb x wx):∀ wx,Calls Try.prog 99 #[.int .i64 x] wx fun e w'=>e=.returned (.bool true)/\wx=w')
    have HOO:=qh ho
    clear ho
    go_wp2_with (refine (HO.out _).mono ?_;rintro e w3 ⟨rfl,rfl⟩)
    go_ret
    refine ⟨k,rfl,by omega,?_,hw⟩
    have:l.any outM=true:=List.any_eq_true.2 ⟨l[k],List.getElem_mem hlt,by rw [<- HX.out];exact HOO.out⟩
    rw [this]
    exact decide_eq_true (by omega)
   | false=>
    have HO:=qh (ho▸(fun wx=>zjcb x wx):∀ wx,Calls Try.prog 99 #[.int .i64 x] wx fun e w'=>e=.returned (.bool false)/\wx=w')
    have HOO:=qh ho
    clear ho
    go_wp2_with (refine (HO.out _).mono ?_;rintro e w3 ⟨rfl,rfl⟩)
    go_roundw
    case rel=>exact ⟨k+1,by omega,by go_num,by rw [List.take_succ_eq_append_getElem hlt,List.any_append,HN.out,<- HX.out];simp [HOO.out],hw⟩
    case measure=>simp [intOf];omega
  ·have ek:k=l.length:=by omega
   subst ek
   go_wp2
   go_ret
   have:=HN.out
   rw [List.take_length] at this
   exact ⟨-1,rfl,by omega,by rw [this];rfl,hw⟩
theorem zlE8 (n:Int):outM n = !decide (inM n):=by
 by_cases h:inM n
 ·have h':¬ (n < 0\/4611686018427387904 < n):=by unfold inM topM at h;omega
  simp [outM,h,h']
 ·have h':n < 0\/4611686018427387904 < n:=by unfold inM topM at h;omega
  simp [outM,h,h']
theorem zik8 (b c:Nat) (l:List Int) (w:World) (hl:l.length<=1000) (hc:∀ (j:Nat) x,l[j]?=some x->w.cell? ⟨b,j,none⟩=some (.int .i64 x)) :
  Calls Try.prog 85 #[.slice (some ⟨b,0,none⟩) l.length c] w fun e w'=>e=.returned (.bool (l.all fun x=>decide (inM x)))/\Same w w':=by
 have HI:=qh (zDpY b 0 c l w hl (fun j x h=>by rw [Nat.zero_add];exact hc j x h))
 clear hc
 have HC:Calls Try.prog 98 #[.slice (some ⟨b,0,none⟩) l.length c,.func (.func 99) #[] #[]] w fun e w'=>e=.returned (.bool (l.any outM))/\Same w w':=by
  go_enter Try.func98,Try.ntmps98
  go_wp2_with (refine HI.out.mono ?_;rintro e w3 ⟨r,rfl,hr1,hr,hw⟩)
  go_ret
  exact ⟨by rw [<- hr];rfl,hw⟩
 have HC2:=Lib.hid HC
 clear HC HI
 go_enter Try.func85,Try.ntmps85
 go_wp2_with (refine HC2.out.mono ?_;rintro e w3 ⟨rfl,hw⟩)
 go_ret
 refine ⟨?_,hw⟩
 have:(l.all fun x=>decide (inM x)) = !(l.any outM):=by
  rw [List.not_any_eq_all_not]
  congr 1
  funext x
  rw [zlE8]
  simp
 rw [this]
 rfl
def RecAt (w:World) (q:Nat) (r:RecM) (A1:Option Addr) (c1:Nat) (A2:Option Addr) (c2:Nat):Prop:=
 w.cell? ⟨q,0,none⟩=some (.int .i64 r.lsn)/\w.cell? ⟨q,1,none⟩=some (.int .i64 r.turn)/\w.cell? ⟨q,2,none⟩=some (.int .u8 r.kind.toNat)/\w.cell? ⟨q,3,none⟩=some (.int .i64 r.tx)/\w.cell? ⟨q,4,none⟩=some (.int .i64 r.prev) /\
 w.cell? ⟨q,5,none⟩=some (.int .i64 r.next)/\w.cell? ⟨q,6,none⟩=some (.int .i64 r.blk)/\w.cell? ⟨q,7,none⟩=some (.int .i64 r.off)/\w.cell? ⟨q,8,none⟩=some (.slice A1 r.old.length c1)/\w.cell? ⟨q,9,none⟩=some (.slice A2 r.new.length c2)
def recC (r:RecM) (A1:Option Addr) (c1:Nat) (A2:Option Addr) (c2:Nat):Array Value:=
 #[.int .i64 r.lsn,.int .i64 r.turn,.int .u8 r.kind.toNat,.int .i64 r.tx,.int .i64 r.prev,.int .i64 r.next,.int .i64 r.blk,.int .i64 r.off,.slice A1 r.old.length c1,.slice A2 r.new.length c2]
theorem z89M {w:World} {q:Nat} {r:RecM} {A1:Option Addr} {c1:Nat} {A2:Option Addr} {c2:Nat} {t:TypeId} {fr:Nat×Nat} (h:w.heap[q]?=some (.cells (recC r A1 c1 A2 c2) t fr)):RecAt w q r A1 c1 A2 c2:=
 ⟨zcjX h rfl,zcjX h rfl,zcjX h rfl,zcjX h rfl,zcjX h rfl,zcjX h rfl,zcjX h rfl,zcjX h rfl,zcjX h rfl,zcjX h rfl⟩
theorem zhHT {p:Prop} [Decidable p] (h:p):Value.bool true=.bool (decide p):=by rw [decide_eq_true h]
theorem zXIZ {p:Prop} [Decidable p] (h:¬ p):Value.bool false=.bool (decide p):=by rw [decide_eq_false h]
theorem ret_t {p:Prop} [Decidable p] (h:p):Ending.returned (.bool true)=.returned (.bool (decide p)):=by rw [decide_eq_true h]
theorem ret_f {p:Prop} [Decidable p] (h:¬ p):Ending.returned (.bool false)=.returned (.bool (decide p)):=by rw [decide_eq_false h]
def spanC (r:RecM) (A1:Option Addr) (c1:Nat) (A2:Option Addr) (c2:Nat):Array Value:=#[.int .i64 r.blk,.int .i64 r.off,.slice A1 r.old.length c1,.slice A2 r.new.length c2]
theorem zUYx:(Try.prog.info? 42).map (fun i=>(i.zero,i.size))=some (some (.agg #[.int .i64 0,.int .i64 0,.slice none 0 0,.slice none 0 0]),4):=by kernel_rfl
theorem zMOE (w:World):(zeroValue 42).run Try.prog w=.ok (.agg #[.int .i64 0,.int .i64 0,.slice none 0 0,.slice none 0 0]) w:=(zero_of_info zUYx).1 w
theorem zjQV {w:World} {q:Nat} {cs:Array Value} {t:TypeId} {fr:Nat×Nat} (h:w.heap[q]?=some (.cells cs t fr)) (o:Nat) (ds:Array Value) (hd:∀ j v,ds[j]?=some v->cs[o+j]?=some v):∀ j v,ds[j]?=some v->w.cell? ⟨q,o+j,none⟩=some v:=
 fun j v hv=>zcjX h (hd j v hv)
theorem zaBo (r:RecM) (A1:Option Addr) (c1:Nat) (A2:Option Addr) (c2:Nat):∀ (j:Nat) v,(spanC r A1 c1 A2 c2)[j]?=some v->(recC r A1 c1 A2 c2)[6+j]?=some v:=by
 intro j v hv
 match j,hv with
 | 0,hv=>exact hv
 | 1,hv=>exact hv
 | 2,hv=>exact hv
 | 3,hv=>exact hv
set_option maxRecDepth 20000 in
set_option maxHeartbeats 1600000 in
theorem zNDL (r:RecM) (A1:Option Addr) (c1:Nat) (A2:Option Addr) (c2:Nat) (w:World) (ho:RecOk r) (h1:r.old.length<=1000000) (h2:r.new.length<=1000000) :
  Calls Try.prog 73 #[zz52 r A1 c1 A2 c2] w fun e w'=>e=.returned (.bool (decide (zZer r)))/\Kept (fun _=>False) w w':=by
 have hv:zz52 r A1 c1 A2 c2=.agg (recC r A1 c1 A2 c2):=rfl
 rw [hv]
 clear hv
 go_enter Try.func73,Try.ntmps73
 go_wp2_with (refine znBH rfl 78 _ rfl (.agg (recC r A1 c1 A2 c2)) rfl ?_)
 intro q w1 q1 q2 hb1 hk1
 have HB1:=qh hb1
 have HK1:=qh hk1
 have HC1:=qh (zjQV hb1 6 (spanC r A1 c1 A2 c2) (zaBo r A1 c1 A2 c2))
 clear hb1 hk1
 go_wp2_with (first
  | refine zd61 rfl 42 _ rfl q 6 rfl (spanC r A1 c1 A2 c2) HC1.out Try.underlying42 rfl (zero_of_info zUYx).2 ?_
  | refine zNko rfl 42 rfl #[.int .i64 0,.int .i64 0,.slice none 0 0,.slice none 0 0] zMOE ?_)
 intro s w2 s1 s2 hb2 hk2
 have HB2:=qh hb2
 have HK2:=qh hk2
 clear hb2 hk2
 go_wp2_with (refine zxQF rfl 42 _ _ rfl s (spanC r A1 c1 A2 c2) _ rfl rfl HB2.out (zero_of_info zUYx).2 rfl (by simp [spanC,Value.oneCell']) ?_)
 intro w3 hb3 hk3
 have K13:Kept (fun _=>False) w1 w3:=HK2.out.new hk3 (by rintro x rfl;exact s1)
 have HK3:=qh (HK1.out.trans0 K13)
 obtain ⟨d0,d1,d2,d3,d4,d5,d6,d7,d8,d9⟩:=z89M (K13.heap HB1.out id)
 have e0:w3.cell? ⟨s,0,none⟩=some (.int .i64 r.blk):=zcjX hb3 rfl
 have e1:w3.cell? ⟨s,1,none⟩=some (.int .i64 r.off):=zcjX hb3 rfl
 have e2:w3.cell? ⟨s,2,none⟩=some (.slice A1 r.old.length c1):=zcjX hb3 rfl
 have e3:w3.cell? ⟨s,3,none⟩=some (.slice A2 r.new.length c2):=zcjX hb3 rfl
 clear hb3 hk3 HC1 K13
 have HW:=qh (zik8 w3.heap.size 4 [r.lsn,r.tx,r.prev,r.next] (w3.alloc (.cells #[.int .i64 r.lsn,.int .i64 r.tx,.int .i64 r.prev,.int .i64 r.next] 2)) (by simp) (fun j x h=>by
  refine zcjX (heap_alloc_new w3 _) ?_
  match j,h with
  | 0,h=>cases h;rfl
  | 1,h=>cases h;rfl
  | 2,h=>cases h;rfl
  | 3,h=>cases h;rfl))
 have HK4:=qh (HK3.out.alloc (.cells #[.int .i64 r.lsn,.int .i64 r.tx,.int .i64 r.prev,.int .i64 r.next] 2))
 obtain ⟨o0,o1,o2,o3,o4,o5,o6⟩:=ho
 unfold isI at o0 o1 o2 o3 o4 o5 o6
 go_upto_region 2 with fail
 go_cut [4] from 7 to 39 (fun v wx=>v=.bool (decide (fitsM r))/\w3=wx)
 case first=>
  by_cases f1:0<=r.blk
  ·by_cases f2:r.blk < 65536
   ·by_cases f3:0<=r.off
    ·by_cases f4:r.off < 512
     ·by_cases f5:1<=(r.new.length:Int)
      ·by_cases f6:(r.new.length:Int)<=512 - r.off
       ·go_wp2
        go_meet
        case rel=>exact ⟨zhHT ⟨f1,f2,f3,f4,by omega,f6⟩,rfl⟩
       ·go_wp2
        go_meet
        case rel=>exact ⟨zXIZ (fun h=>by have:=h.2.2.2.2.2;omega),rfl⟩
      ·go_wp2
       go_meet
       case rel=>exact ⟨zXIZ (fun h=>by have:=h.2.2.2.2.1;omega),rfl⟩
     ·go_wp2
      go_meet
      case rel=>exact ⟨zXIZ (fun h=>by have:=h.2.2.2.1;omega),rfl⟩
    ·go_wp2
     go_meet
     case rel=>exact ⟨zXIZ (fun h=>by have:=h.2.2.1;omega),rfl⟩
   ·go_wp2
    go_meet
    case rel=>exact ⟨zXIZ (fun h=>by have:=h.2.1;omega),rfl⟩
  ·go_wp2
   go_meet
   case rel=>exact ⟨zXIZ (fun h=>by have:=h.1;omega),rfl⟩
 case rest=>
  obtain ⟨rfl,rfl⟩:=hcut
  by_cases g1:r.lsn < 1
  ·go_wp2
   go_ret
   exact ⟨ret_f (fun h=>by have:=h.1;omega),HK3.out⟩
  by_cases g2:r.turn < 1
  ·go_wp2
   go_ret
   exact ⟨ret_f (fun h=>by have:=h.2.2.1;omega),HK3.out⟩
  by_cases g3:2147483648<=r.turn
  ·go_wp2
   go_ret
   exact ⟨ret_f (fun h=>by have:=h.2.2.2.1;omega),HK3.out⟩
  have eI:([r.lsn,r.tx,r.prev,r.next].all fun x=>decide (inM x))=decide (inM r.lsn/\inM r.tx/\inM r.prev/\inM r.next):=by
   simp [Bool.decide_and]
  by_cases g4:inM r.lsn/\inM r.tx/\inM r.prev/\inM r.next
  ·have eT:=qh (eI.trans (decide_eq_true g4))
   have hI:inM r.tx/\inM r.prev/\inM r.next/\r.lsn<=topM:=⟨g4.2.1,g4.2.2.1,g4.2.2.2,g4.1.2⟩
   have GI:=qh hI
   clear eI g4 hI
   go_wp2_with fail
   refine HW.out.mono ?_
   rw [eT.out]
   rintro e w5 ⟨rfl,hw5⟩
   have HK5:=qh (HK4.out.trans0 (hw5.kept (fun _=>False)))
   have KK:Kept (fun _=>False) w3 w5:=((Kept.refl _ w3).alloc _).trans0 (hw5.kept (fun _=>False))
   have key:∀ (p o:Nat) (v:Value),w3.cell? ⟨p,o,none⟩=some v->w5.cell? ⟨p,o,none⟩=some v:=fun p o v h=>by
    rw [<- h]
    exact World.cell?_of_block (KK.block p (World.block_lt_of_cell? w3 _ h) id)
   replace d2:=key _ _ _ d2
   replace d5:=key _ _ _ d5
   replace e0:=key _ _ _ e0
   replace e1:=key _ _ _ e1
   replace e2:=key _ _ _ e2
   replace e3:=key _ _ _ e3
   have done:∀ P:Prop,P->((r.kind=1/\r.next=0/\fitsM r/\r.old.length=r.new.length)\/(r.kind=2/\fitsM r/\r.old=[])\/((r.kind=3\/r.kind=4)/\r.next=0/\r.blk=0/\r.off=0/\r.old=[]/\r.new=[]))->zZer r:=fun _ _ h=>
    ⟨by omega,GI.out.2.2.2,by omega,by omega,GI.out.1,GI.out.2.1,GI.out.2.2.1,h⟩
   have DONE:=Lib.hid done
   clear key KK hw5 d0 d1 d3 d4 d6 d7 d8 d9 HW HK4 done eT
   by_cases k1:r.kind=1
   ·have d2':w5.cell? ⟨q,2,none⟩=some (.int .u8 1):=by rw [d2,k1];rfl
    have K1:=Lib.hid k1
    have K0:=qh (show ∀ P Q:Prop,((r.kind=2/\P)\/((r.kind=3\/r.kind=4)/\Q))->False from fun _ _ h=>by
     rcases h with h | h
     ·rw [k1] at h;exact absurd h.1 (by decide)
     ·rw [k1] at h;exact absurd h.1 (by decide))
    clear d2 k1
    by_cases n0:r.next=0
    ·by_cases hf:fitsM r
     ·by_cases hl:(r.old.length:Int)=r.new.length
      ·go_wp2
       go_ret
       exact ⟨ret_t (DONE.out True trivial (.inl ⟨K1.out,n0,hf,by omega⟩)),HK5.out⟩
      ·have hlb:((r.old.length:Int) == r.new.length)=false:=by simpa using hl
       go_wp2
       go_ret
       refine ⟨ret_f (fun h=>?_),HK5.out⟩
       rcases zlMr h with h | h
       ·have:=h.2.2.2;omega
       ·exact K0.out _ _ h
     ·go_wp2
      go_ret
      refine ⟨ret_f (fun h=>?_),HK5.out⟩
      rcases zlMr h with h | h
      ·exact hf h.2.2.1
      ·exact K0.out _ _ h
    ·go_wp2
     go_ret
     refine ⟨ret_f (fun h=>?_),HK5.out⟩
     rcases zlMr h with h | h
     ·exact n0 h.2.1
     ·exact K0.out _ _ h
   by_cases k2:r.kind=2
   ·have d2':w5.cell? ⟨q,2,none⟩=some (.int .u8 2):=by rw [d2,k2];rfl
    have K1:=Lib.hid k2
    have KN:=Lib.hid k1
    have K0:=qh (show ∀ Q:Prop,((r.kind=3\/r.kind=4)/\Q)->False from fun _ h=>by
     rw [k2] at h;exact absurd h.1 (by decide))
    clear d2 k2 k1
    by_cases hf:fitsM r
    ·by_cases hl:(r.old.length:Int)=0
     ·go_wp2
      go_ret
      exact ⟨ret_t (DONE.out True trivial (.inr (.inl ⟨K1.out,hf,List.length_eq_zero_iff.1 (by omega)⟩))),HK5.out⟩
     ·have hlb:((r.old.length:Int) == 0)=false:=by simpa using hl
      go_wp2
      go_ret
      refine ⟨ret_f (fun h=>?_),HK5.out⟩
      rcases zlMr h with h | h | h
      ·exact KN.out h.1
      ·have:=h.2.2;rw [this] at hl;exact hl rfl
      ·exact K0.out _ h
    ·go_wp2
     go_ret
     refine ⟨ret_f (fun h=>?_),HK5.out⟩
     rcases zlMr h with h | h | h
     ·exact KN.out h.1
     ·exact hf h.2.1
     ·exact K0.out _ h
   by_cases k3:r.kind=3\/r.kind=4
   ·obtain ⟨m,hm,d2'⟩:∃ m:Int,(m=3\/m=4)/\w5.cell? ⟨q,2,none⟩=some (.int .u8 m):=⟨_,by rcases k3 with h | h<;>rw [h]<;>decide,d2⟩
    have K3:=Lib.hid k3
    have KN:=qh (And.intro k1 k2)
    clear d2 k1 k2 k3
    by_cases n0:r.next=0
    ·by_cases n1:r.blk=0
     ·by_cases n2:r.off=0
      ·by_cases hl:(r.old.length:Int)+r.new.length=0
       ·rcases hm with rfl | rfl
        ·go_wp2
         go_ret
         exact ⟨ret_t (DONE.out True trivial (.inr (.inr ⟨K3.out,n0,n1,n2,List.length_eq_zero_iff.1 (by omega),List.length_eq_zero_iff.1 (by omega)⟩))),HK5.out⟩
        ·go_wp2
         go_ret
         exact ⟨ret_t (DONE.out True trivial (.inr (.inr ⟨K3.out,n0,n1,n2,List.length_eq_zero_iff.1 (by omega),List.length_eq_zero_iff.1 (by omega)⟩))),HK5.out⟩
       ·have no:¬ zZer r:=fun h=>by
         rcases zlMr h with h | h | h
         ·exact KN.out.1 h.1
         ·exact KN.out.2 h.1
         ·have a1:=h.2.2.2.2.1
          have a2:=h.2.2.2.2.2
          rw [a1,a2] at hl
          exact hl rfl
        have hlb:((r.old.length:Int)+r.new.length == 0)=false:=by
         rw [beq_eq_false_iff_ne];exact hl
        rcases hm with rfl | rfl<;>(go_wp2;go_ret;exact ⟨ret_f no,HK5.out⟩)
      ·have no:¬ zZer r:=fun h=>by
        rcases zlMr h with h | h | h
        ·exact KN.out.1 h.1
        ·exact KN.out.2 h.1
        ·exact n2 h.2.2.2.1
       rcases hm with rfl | rfl<;>(go_wp2;go_ret;exact ⟨ret_f no,HK5.out⟩)
     ·have no:¬ zZer r:=fun h=>by
       rcases zlMr h with h | h | h
       ·exact KN.out.1 h.1
       ·exact KN.out.2 h.1
       ·exact n1 h.2.2.1
      rcases hm with rfl | rfl<;>(go_wp2;go_ret;exact ⟨ret_f no,HK5.out⟩)
    ·have no:¬ zZer r:=fun h=>by
      rcases zlMr h with h | h | h
      ·exact KN.out.1 h.1
      ·exact KN.out.2 h.1
      ·exact n0 h.2.1
     rcases hm with rfl | rfl<;>(go_wp2;go_ret;exact ⟨ret_f no,HK5.out⟩)
   ·have no:¬ zZer r:=fun h=>by
     rcases zlMr h with h | h | h
     ·exact k1 h.1
     ·exact k2 h.1
     ·exact k3 h.1
    obtain ⟨m,hm,d2'⟩:∃ m:Int,(¬ m=1/\¬ m=2/\¬ m=3/\¬ m=4)/\w5.cell? ⟨q,2,none⟩=some (.int .u8 m):=⟨_,by
     have z:∀ c:UInt8,((r.kind.toNat:Int)=(c.toNat:Int))->r.kind=c:=fun c h=>UInt8.toNat_inj.1 (by omega)
     exact ⟨fun h=>k1 (z 1 h),fun h=>k2 (z 2 h),fun h=>k3 (.inl (z 3 h)),fun h=>k3 (.inr (z 4 h))⟩,d2⟩
    obtain ⟨m1,m2,m3,m4⟩:=hm
    clear d2 k1 k2 k3
    go_wp2
    go_ret
    exact ⟨ret_f no,HK5.out⟩
  ·have eT:=qh (eI.trans (decide_eq_false g4))
   have GI:=Lib.hid g4
   clear eI g4
   go_wp2_with (refine HW.out.mono ?_;rw [eT.out];rintro e w5 ⟨rfl,hw5⟩)
   go_ret
   exact ⟨ret_f (fun h=>GI.out ⟨⟨by have:=h.1;omega,h.2.1⟩,h.2.2.2.2.1,h.2.2.2.2.2.1,h.2.2.2.2.2.2.1⟩),HK4.out.trans0 (hw5.kept (fun _=>False))⟩
theorem zpLh {w:World} {ops:Array Oper} {o:Oper} {a:Act} {K:Act->World->Prop} {Q:Exit->Act->World->Prop} {E:Prop} (hgd:o.guard=none) (s x:Operand)
  (ho:o.op=.call { callee:=.builtin .append,args:=#[s,x],argTypes:=#[37,37] }) (base:Nat) (v:Value) (l m:Bytes) (hs:a.eval s=v) (hown:OwnV w base v l)
  (A:Option Addr) (c:Nat) (hx:a.eval x=.slice A m.length c) (hm:RdB w A m) (h63:l.length+m.length<=140737488355328) (hbase:base<=w.heap.size)
  (k:∀ v' w',OwnV w' base v' (l ++ m)->Kept (fun x=>base<=x) w w'->K (a.put o.dst v') w'):if Region.wanted o (yielded ops a.tmps)=true then Oper.wp Try.prog o a w K Q else E:=by
 rw [if_pos (by unfold Region.wanted;rw [hgd])]
 have key:∃ v' w',(Builtin.append_ #[37,37] o.type #[v,.slice A m.length c]).run Try.prog w=.ok v' w'/\OwnV w' base v' (l ++ m)/\Kept (fun x=>base<=x) w w':=by
  obtain ⟨i,hi,h2,h3,h4⟩:=info_parts info5
  by_cases h0:m=[]
  ·subst h0
   exact ⟨v,w,zkac (P:=Try.prog) (w:=w) base 37 o.type 5 i 1 Try.underlying37 hi v l.length _ hown A c,by simpa using hown,Kept.refl _ w⟩
  ·obtain ⟨b,off,rfl,hc⟩:=hm h0
   have:0 < m.length:=List.length_pos_iff.2 h0
   have e63:maxLen=9223372036854775807:=rfl
   obtain ⟨g',cap',w',hr,ho',_,hat,_⟩:=z0TN (P:=Try.prog) (w:=w) 37 o.type base 5 Try.underlying37 info5 rfl (by omega) v l.length _ hown ⟨b,off,none⟩ m.length c (cellsOf m).toList (by rw [z6VZ,Nat.mul_one]) (fun j u hu=>by rw [Addr.add_mid];exact hc j u (by simpa using hu)) (fun u hu=>(Array.all_eq_true_iff_forall_mem.1 (zZ84 m)) u (by simpa using hu)) this (by omega) (by omega) hbase
   refine ⟨_,w',hr,?_,?_⟩
   ·show World.ownsRow _ _ _ _ _ _ _
    rw [List.length_append,zdRz]
    exact ho'
   ·rcases hat with ⟨e,hk⟩ | ⟨e,hk⟩
    ·exact hk.mono (fun x _ hx=>by subst hx;exact (hown.base_le (by rw [e];rfl)).1)
    ·exact hk.mono (fun _ _ h=>h.elim)
 obtain ⟨v',w',hr,h1,h2⟩:=key
 unfold Oper.wp
 simp [execOp,ho,resolve,invoke,builtin,hs,hx,hr,Result.andThen]
 exact k v' w' h1 h2
end Go.Proofs.Ytnbfhdgojmflhaa
