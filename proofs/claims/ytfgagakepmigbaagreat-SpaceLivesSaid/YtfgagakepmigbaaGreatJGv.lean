/-
  No statement is proved here.
-/
import Derived.Test.YtfgagakepmigbaaGreatJGs
import Derived.Test.YtfgagakepmigbaaGreatJLra
import Derived.Deep.CutRange
import Derived.Deep.CutBlock
import Derived.Test.YtfgagakepmigbaaGreatJOrl
import Derived.Deep.RegionHeld3
import Derived.Test.YtfgagakepmigbaaGreatJGq
namespace Go.Proofs.YtfgagakepmigbaaGreat
open Go.RowKit
def outM (n:Int):Bool:=decide (n < 0\/4611686018427387904 < n)
theorem zjcb (n:Int) (w:World):Calls Tryz.prog 140 #[.int .i64 n] w fun e w'=>e=.returned (.bool (outM n))/\w=w':=by
 go_enter Tryz.func140,Tryz.ntmps140
 unfold outM
 by_cases h1:n < 0
 ·go_wp2
  go_ret
  exact ⟨by simp [h1],rfl⟩
 ·by_cases h2:4611686018427387904 < n
  ·go_wp2
   go_ret
   exact ⟨by simp,rfl⟩
  ·go_wp2
   go_ret
   exact ⟨by simp [h1,h2],rfl⟩
theorem zDpY (b off c:Nat) (l:List Int) (w:World) (hl:l.length<=1000) (hc:∀ (j:Nat) x,l[j]?=some x->w.cell? ⟨b,off+j,none⟩=some (.int .i64 x)) :
  Calls Tryz.prog 151 #[.slice (some ⟨b,off,none⟩) l.length c,.func (.func 140) #[] #[]] w fun e w'=>∃ r,e=.returned (.int .i64 r) /\ -1<=r/\(decide (0<=r)=l.any outM)/\Same w w':=by
 have HC:=qh hc
 clear hc
 go_enter Tryz.func151,Tryz.ntmps151
 go_wp2
 go_loopw [8] (fun i wr=>∃ k:Nat,k<=l.length/\i=.int .i64 k/\(l.take k).any outM=false/\Same w wr) (fun i wr=>l.length - (intOf i).toNat)
 case atStart=>exact ⟨0,Nat.zero_le _,rfl,rfl,Same.refl w⟩
 case round=>
  obtain ⟨k,hk,rfl,hn,hw⟩:=hrel
  have HN:=qh hn
  clear hn
  by_cases hlt:k < l.length
  ·have i1:(k:Int) < (l.length:Int):=by omega
   have hcell:wr.cell? ⟨b,off+k,none⟩=some (.int .i64 l[k]):=by
    obtain ⟨q,rfl⟩:=hw
    exact HC.out k _ (List.getElem?_eq_getElem hlt)
   obtain ⟨x,hx⟩:∃ x,x=l[k]:=⟨_,rfl⟩
   rw [<- hx] at hcell
   have HX:=qh hx
   clear hx
   cases ho:outM x with
   | true=>
    have HO:=qh (ho▸(fun wx=>zjcb x wx):∀ wx,Calls Tryz.prog 140 #[.int .i64 x] wx fun e w'=>e=.returned (.bool true)/\wx=w')
    have HOO:=qh ho
    clear ho
    go_wp2_with (refine (HO.out _).mono ?_;rintro e w3 ⟨rfl,rfl⟩)
    go_ret
    refine ⟨k,rfl,by omega,?_,hw⟩
    have:l.any outM=true:=List.any_eq_true.2 ⟨l[k],List.getElem_mem hlt,by rw [<- HX.out];exact HOO.out⟩
    rw [this]
    exact decide_eq_true (by omega)
   | false=>
    have HO:=qh (ho▸(fun wx=>zjcb x wx):∀ wx,Calls Tryz.prog 140 #[.int .i64 x] wx fun e w'=>e=.returned (.bool false)/\wx=w')
    have HOO:=qh ho
    clear ho
    go_wp2_with (refine (HO.out _).mono ?_;rintro e w3 ⟨rfl,rfl⟩)
    go_roundw
    case rel=>exact ⟨k+1,by omega,by go_num,by rw [List.take_succ_eq_append_getElem hlt,List.any_append,HN.out,<- HX.out];simp [HOO.out],hw⟩
    case measure=>simp [intOf];omega
  ·have ek:k=l.length:=by omega
   subst ek
   go_wp2
   go_ret
   have:=HN.out
   rw [List.take_length] at this
   exact ⟨-1,rfl,by omega,by rw [this];rfl,hw⟩
theorem zlE8 (n:Int):outM n = !decide (inM n):=by
 by_cases h:inM n
 ·have h':¬ (n < 0\/4611686018427387904 < n):=by unfold inM topM at h;omega
  simp [outM,h,h']
 ·have h':n < 0\/4611686018427387904 < n:=by unfold inM topM at h;omega
  simp [outM,h,h']
theorem zik8 (b c:Nat) (l:List Int) (w:World) (hl:l.length<=1000) (hc:∀ (j:Nat) x,l[j]?=some x->w.cell? ⟨b,j,none⟩=some (.int .i64 x)) :
  Calls Tryz.prog 135 #[.slice (some ⟨b,0,none⟩) l.length c] w fun e w'=>e=.returned (.bool (l.all fun x=>decide (inM x)))/\Same w w':=by
 have HI:=qh (zDpY b 0 c l w hl (fun j x h=>by rw [Nat.zero_add];exact hc j x h))
 clear hc
 have HC:Calls Tryz.prog 139 #[.slice (some ⟨b,0,none⟩) l.length c,.func (.func 140) #[] #[]] w fun e w'=>e=.returned (.bool (l.any outM))/\Same w w':=by
  go_enter Tryz.func139,Tryz.ntmps139
  go_wp2_with (refine HI.out.mono ?_;rintro e w3 ⟨r,rfl,hr1,hr,hw⟩)
  go_ret
  exact ⟨by rw [<- hr];rfl,hw⟩
 have HC2:=Lib.hid HC
 clear HC HI
 go_enter Tryz.func135,Tryz.ntmps135
 go_wp2_with (refine HC2.out.mono ?_;rintro e w3 ⟨rfl,hw⟩)
 go_ret
 refine ⟨?_,hw⟩
 have:(l.all fun x=>decide (inM x)) = !(l.any outM):=by
  rw [List.not_any_eq_all_not]
  congr 1
  funext x
  rw [zlE8]
  simp
 rw [this]
 rfl
def RecAt (w:World) (q:Nat) (r:RecM) (A1:Option Addr) (c1:Nat) (A2:Option Addr) (c2:Nat):Prop:=
 w.cell? ⟨q,0,none⟩=some (.int .i64 r.lsn)/\w.cell? ⟨q,1,none⟩=some (.int .i64 r.turn)/\w.cell? ⟨q,2,none⟩=some (.int .u8 r.kind.toNat)/\w.cell? ⟨q,3,none⟩=some (.int .i64 r.tx)/\w.cell? ⟨q,4,none⟩=some (.int .i64 r.prev) /\
 w.cell? ⟨q,5,none⟩=some (.int .i64 r.next)/\w.cell? ⟨q,6,none⟩=some (.int .i64 r.blk)/\w.cell? ⟨q,7,none⟩=some (.int .i64 r.off)/\w.cell? ⟨q,8,none⟩=some (.slice A1 r.old.length c1)/\w.cell? ⟨q,9,none⟩=some (.slice A2 r.new.length c2)
def recC (r:RecM) (A1:Option Addr) (c1:Nat) (A2:Option Addr) (c2:Nat):Array Value:=
 #[.int .i64 r.lsn,.int .i64 r.turn,.int .u8 r.kind.toNat,.int .i64 r.tx,.int .i64 r.prev,.int .i64 r.next,.int .i64 r.blk,.int .i64 r.off,.slice A1 r.old.length c1,.slice A2 r.new.length c2]
theorem z89M {w:World} {q:Nat} {r:RecM} {A1:Option Addr} {c1:Nat} {A2:Option Addr} {c2:Nat} {t:TypeId} {fr:Nat×Nat} (h:w.heap[q]?=some (.cells (recC r A1 c1 A2 c2) t fr)):RecAt w q r A1 c1 A2 c2:=
 ⟨zcjX h rfl,zcjX h rfl,zcjX h rfl,zcjX h rfl,zcjX h rfl,zcjX h rfl,zcjX h rfl,zcjX h rfl,zcjX h rfl,zcjX h rfl⟩
theorem zhHT {p:Prop} [Decidable p] (h:p):Value.bool true=.bool (decide p):=by rw [decide_eq_true h]
theorem zXIZ {p:Prop} [Decidable p] (h:¬ p):Value.bool false=.bool (decide p):=by rw [decide_eq_false h]
theorem ret_t {p:Prop} [Decidable p] (h:p):Ending.returned (.bool true)=.returned (.bool (decide p)):=by rw [decide_eq_true h]
theorem ret_f {p:Prop} [Decidable p] (h:¬ p):Ending.returned (.bool false)=.returned (.bool (decide p)):=by rw [decide_eq_false h]
def spanC (r:RecM) (A1:Option Addr) (c1:Nat) (A2:Option Addr) (c2:Nat):Array Value:=#[.int .i64 r.blk,.int .i64 r.off,.slice A1 r.old.length c1,.slice A2 r.new.length c2]
theorem zUYx:(Tryz.prog.info? 84).map (fun i=>(i.zero,i.size))=some (some (.agg #[.int .i64 0,.int .i64 0,.slice none 0 0,.slice none 0 0]),4):=by kernel_rfl
theorem zMOE (w:World):(zeroValue 84).run Tryz.prog w=.ok (.agg #[.int .i64 0,.int .i64 0,.slice none 0 0,.slice none 0 0]) w:=(zero_of_info zUYx).1 w
theorem zjQV {w:World} {q:Nat} {cs:Array Value} {t:TypeId} {fr:Nat×Nat} (h:w.heap[q]?=some (.cells cs t fr)) (o:Nat) (ds:Array Value) (hd:∀ j v,ds[j]?=some v->cs[o+j]?=some v):∀ j v,ds[j]?=some v->w.cell? ⟨q,o+j,none⟩=some v:=
 fun j v hv=>zcjX h (hd j v hv)
theorem zaBo (r:RecM) (A1:Option Addr) (c1:Nat) (A2:Option Addr) (c2:Nat):∀ (j:Nat) v,(spanC r A1 c1 A2 c2)[j]?=some v->(recC r A1 c1 A2 c2)[6+j]?=some v:=by
 intro j v hv
 match j,hv with
 | 0,hv=>exact hv
 | 1,hv=>exact hv
 | 2,hv=>exact hv
 | 3,hv=>exact hv
set_option maxRecDepth 20000 in
set_option maxHeartbeats 1600000 in
theorem zNDL (r:RecM) (A1:Option Addr) (c1:Nat) (A2:Option Addr) (c2:Nat) (w:World) (ho:RecOk r) (h1:r.old.length<=1000000) (h2:r.new.length<=1000000) :
  Calls Tryz.prog 123 #[zz52 r A1 c1 A2 c2] w fun e w'=>e=.returned (.bool (decide (zZer r)))/\Kept (fun _=>False) w w':=by
 have hv:zz52 r A1 c1 A2 c2=.agg (recC r A1 c1 A2 c2):=rfl
 rw [hv]
 clear hv
 go_enter Tryz.func123,Tryz.ntmps123
 go_wp2_with (refine znBH rfl 86 _ rfl (.agg (recC r A1 c1 A2 c2)) rfl ?_)
 intro q w1 q1 q2 hb1 hk1
 have HB1:=qh hb1
 have HK1:=qh hk1
 have HC1:=qh (zjQV hb1 6 (spanC r A1 c1 A2 c2) (zaBo r A1 c1 A2 c2))
 clear hb1 hk1
 go_wp2_with (first
  | refine zd61 rfl 84 _ rfl q 6 rfl (spanC r A1 c1 A2 c2) HC1.out Tryz.underlying84 rfl (zero_of_info zUYx).2 ?_
  | refine zNko rfl 84 rfl #[.int .i64 0,.int .i64 0,.slice none 0 0,.slice none 0 0] zMOE ?_)
 intro s w2 s1 s2 hb2 hk2
 have HB2:=qh hb2
 have HK2:=qh hk2
 clear hb2 hk2
 go_wp2_with (refine zxQF rfl 84 _ _ rfl s (spanC r A1 c1 A2 c2) _ rfl rfl HB2.out (zero_of_info zUYx).2 rfl (by simp [spanC,Value.oneCell']) ?_)
 intro w3 hb3 hk3
 have K13:Kept (fun _=>False) w1 w3:=HK2.out.new hk3 (by rintro x rfl;exact s1)
 have HK3:=qh (HK1.out.trans0 K13)
 obtain ⟨d0,d1,d2,d3,d4,d5,d6,d7,d8,d9⟩:=z89M (K13.heap HB1.out id)
 have e0:w3.cell? ⟨s,0,none⟩=some (.int .i64 r.blk):=zcjX hb3 rfl
 have e1:w3.cell? ⟨s,1,none⟩=some (.int .i64 r.off):=zcjX hb3 rfl
 have e2:w3.cell? ⟨s,2,none⟩=some (.slice A1 r.old.length c1):=zcjX hb3 rfl
 have e3:w3.cell? ⟨s,3,none⟩=some (.slice A2 r.new.length c2):=zcjX hb3 rfl
 clear hb3 hk3 HC1 K13
 have HW:=qh (zik8 w3.heap.size 4 [r.lsn,r.tx,r.prev,r.next] (w3.alloc (.cells #[.int .i64 r.lsn,.int .i64 r.tx,.int .i64 r.prev,.int .i64 r.next] 2)) (by simp) (fun j x h=>by
  refine zcjX (heap_alloc_new w3 _) ?_
  match j,h with
  | 0,h=>cases h;rfl
  | 1,h=>cases h;rfl
  | 2,h=>cases h;rfl
  | 3,h=>cases h;rfl))
 have HK4:=qh (HK3.out.alloc (.cells #[.int .i64 r.lsn,.int .i64 r.tx,.int .i64 r.prev,.int .i64 r.next] 2))
 obtain ⟨o0,o1,o2,o3,o4,o5,o6⟩:=ho
 unfold isI at o0 o1 o2 o3 o4 o5 o6
 go_upto_region 2 with fail
 go_cut [4] from 7 to 39 (fun v wx=>v=.bool (decide (fitsM r))/\w3=wx)
 case first=>
  by_cases f1:0<=r.blk
  ·by_cases f2:r.blk < 65536
   ·by_cases f3:0<=r.off
    ·by_cases f4:r.off < 512
     ·by_cases f5:1<=(r.new.length:Int)
      ·by_cases f6:(r.new.length:Int)<=512 - r.off
       ·go_wp2
        go_meet
        case rel=>exact ⟨zhHT ⟨f1,f2,f3,f4,by omega,f6⟩,rfl⟩
       ·go_wp2
        go_meet
        case rel=>exact ⟨zXIZ (fun h=>by have:=h.2.2.2.2.2;omega),rfl⟩
      ·go_wp2
       go_meet
       case rel=>exact ⟨zXIZ (fun h=>by have:=h.2.2.2.2.1;omega),rfl⟩
     ·go_wp2
      go_meet
      case rel=>exact ⟨zXIZ (fun h=>by have:=h.2.2.2.1;omega),rfl⟩
    ·go_wp2
     go_meet
     case rel=>exact ⟨zXIZ (fun h=>by have:=h.2.2.1;omega),rfl⟩
   ·go_wp2
    go_meet
    case rel=>exact ⟨zXIZ (fun h=>by have:=h.2.1;omega),rfl⟩
  ·go_wp2
   go_meet
   case rel=>exact ⟨zXIZ (fun h=>by have:=h.1;omega),rfl⟩
 case rest=>
  obtain ⟨rfl,rfl⟩:=hcut
  by_cases g1:r.lsn < 1
  ·go_wp2
   go_ret
   exact ⟨ret_f (fun h=>by have:=h.1;omega),HK3.out⟩
  by_cases g2:r.turn < 1
  ·go_wp2
   go_ret
   exact ⟨ret_f (fun h=>by have:=h.2.2.1;omega),HK3.out⟩
  by_cases g3:2147483648<=r.turn
  ·go_wp2
   go_ret
   exact ⟨ret_f (fun h=>by have:=h.2.2.2.1;omega),HK3.out⟩
  have eI:([r.lsn,r.tx,r.prev,r.next].all fun x=>decide (inM x))=decide (inM r.lsn/\inM r.tx/\inM r.prev/\inM r.next):=by
   simp [Bool.decide_and]
  by_cases g4:inM r.lsn/\inM r.tx/\inM r.prev/\inM r.next
  ·have eT:=qh (eI.trans (decide_eq_true g4))
   have hI:inM r.tx/\inM r.prev/\inM r.next/\r.lsn<=topM:=⟨g4.2.1,g4.2.2.1,g4.2.2.2,g4.1.2⟩
   have GI:=qh hI
   clear eI g4 hI
   go_wp2_with fail
   refine HW.out.mono ?_
   rw [eT.out]
   rintro e w5 ⟨rfl,hw5⟩
   have HK5:=qh (HK4.out.trans0 (hw5.kept (fun _=>False)))
   have KK:Kept (fun _=>False) w3 w5:=((Kept.refl _ w3).alloc _).trans0 (hw5.kept (fun _=>False))
   have key:∀ (p o:Nat) (v:Value),w3.cell? ⟨p,o,none⟩=some v->w5.cell? ⟨p,o,none⟩=some v:=fun p o v h=>by
    rw [<- h]
    exact World.cell?_of_block (KK.block p (World.block_lt_of_cell? w3 _ h) id)
   replace d2:=key _ _ _ d2
   replace d5:=key _ _ _ d5
   replace e0:=key _ _ _ e0
   replace e1:=key _ _ _ e1
   replace e2:=key _ _ _ e2
   replace e3:=key _ _ _ e3
   have done:∀ P:Prop,P->((r.kind=1/\r.next=0/\fitsM r/\r.old.length=r.new.length)\/(r.kind=2/\fitsM r/\r.old=[])\/((r.kind=3\/r.kind=4)/\r.next=0/\r.blk=0/\r.off=0/\r.old=[]/\r.new=[]))->zZer r:=fun _ _ h=>
    ⟨by omega,GI.out.2.2.2,by omega,by omega,GI.out.1,GI.out.2.1,GI.out.2.2.1,h⟩
   have DONE:=Lib.hid done
   clear key KK hw5 d0 d1 d3 d4 d6 d7 d8 d9 HW HK4 done eT
   by_cases k1:r.kind=1
   ·have d2':w5.cell? ⟨q,2,none⟩=some (.int .u8 1):=by rw [d2,k1];rfl
    have K1:=Lib.hid k1
    have K0:=qh (show ∀ P Q:Prop,((r.kind=2/\P)\/((r.kind=3\/r.kind=4)/\Q))->False from fun _ _ h=>by
     rcases h with h | h
     ·rw [k1] at h;exact absurd h.1 (by decide)
     ·rw [k1] at h;exact absurd h.1 (by decide))
    clear d2 k1
    by_cases n0:r.next=0
    ·by_cases hf:fitsM r
     ·by_cases hl:(r.old.length:Int)=r.new.length
      ·go_wp2
       go_ret
       exact ⟨ret_t (DONE.out True trivial (.inl ⟨K1.out,n0,hf,by omega⟩)),HK5.out⟩
      ·have hlb:((r.old.length:Int) == r.new.length)=false:=by simpa using hl
       go_wp2
       go_ret
       refine ⟨ret_f (fun h=>?_),HK5.out⟩
       rcases zlMr h with h | h
       ·have:=h.2.2.2;omega
       ·exact K0.out _ _ h
     ·go_wp2
      go_ret
      refine ⟨ret_f (fun h=>?_),HK5.out⟩
      rcases zlMr h with h | h
      ·exact hf h.2.2.1
      ·exact K0.out _ _ h
    ·go_wp2
     go_ret
     refine ⟨ret_f (fun h=>?_),HK5.out⟩
     rcases zlMr h with h | h
     ·exact n0 h.2.1
     ·exact K0.out _ _ h
   by_cases k2:r.kind=2
   ·have d2':w5.cell? ⟨q,2,none⟩=some (.int .u8 2):=by rw [d2,k2];rfl
    have K1:=Lib.hid k2
    have KN:=Lib.hid k1
    have K0:=qh (show ∀ Q:Prop,((r.kind=3\/r.kind=4)/\Q)->False from fun _ h=>by
     rw [k2] at h;exact absurd h.1 (by decide))
    clear d2 k2 k1
    by_cases hf:fitsM r
    ·by_cases hl:(r.old.length:Int)=0
     ·go_wp2
      go_ret
      exact ⟨ret_t (DONE.out True trivial (.inr (.inl ⟨K1.out,hf,List.length_eq_zero_iff.1 (by omega)⟩))),HK5.out⟩
     ·have hlb:((r.old.length:Int) == 0)=false:=by simpa using hl
      go_wp2
      go_ret
      refine ⟨ret_f (fun h=>?_),HK5.out⟩
      rcases zlMr h with h | h | h
      ·exact KN.out h.1
      ·have:=h.2.2;rw [this] at hl;exact hl rfl
      ·exact K0.out _ h
    ·go_wp2
     go_ret
     refine ⟨ret_f (fun h=>?_),HK5.out⟩
     rcases zlMr h with h | h | h
     ·exact KN.out h.1
     ·exact hf h.2.1
     ·exact K0.out _ h
   by_cases k3:r.kind=3\/r.kind=4
   ·obtain ⟨m,hm,d2'⟩:∃ m:Int,(m=3\/m=4)/\w5.cell? ⟨q,2,none⟩=some (.int .u8 m):=⟨_,by rcases k3 with h | h<;>rw [h]<;>decide,d2⟩
    have K3:=Lib.hid k3
    have KN:=qh (And.intro k1 k2)
    clear d2 k1 k2 k3
    by_cases n0:r.next=0
    ·by_cases n1:r.blk=0
     ·by_cases n2:r.off=0
      ·by_cases hl:(r.old.length:Int)+r.new.length=0
       ·rcases hm with rfl | rfl
        ·go_wp2
         go_ret
         exact ⟨ret_t (DONE.out True trivial (.inr (.inr ⟨K3.out,n0,n1,n2,List.length_eq_zero_iff.1 (by omega),List.length_eq_zero_iff.1 (by omega)⟩))),HK5.out⟩
        ·go_wp2
         go_ret
         exact ⟨ret_t (DONE.out True trivial (.inr (.inr ⟨K3.out,n0,n1,n2,List.length_eq_zero_iff.1 (by omega),List.length_eq_zero_iff.1 (by omega)⟩))),HK5.out⟩
       ·have no:¬ zZer r:=fun h=>by
         rcases zlMr h with h | h | h
         ·exact KN.out.1 h.1
         ·exact KN.out.2 h.1
         ·have a1:=h.2.2.2.2.1
          have a2:=h.2.2.2.2.2
          rw [a1,a2] at hl
          exact hl rfl
        have hlb:((r.old.length:Int)+r.new.length == 0)=false:=by
         rw [beq_eq_false_iff_ne];exact hl
        rcases hm with rfl | rfl<;>(go_wp2;go_ret;exact ⟨ret_f no,HK5.out⟩)
      ·have no:¬ zZer r:=fun h=>by
        rcases zlMr h with h | h | h
        ·exact KN.out.1 h.1
        ·exact KN.out.2 h.1
        ·exact n2 h.2.2.2.1
       rcases hm with rfl | rfl<;>(go_wp2;go_ret;exact ⟨ret_f no,HK5.out⟩)
     ·have no:¬ zZer r:=fun h=>by
       rcases zlMr h with h | h | h
       ·exact KN.out.1 h.1
       ·exact KN.out.2 h.1
       ·exact n1 h.2.2.1
      rcases hm with rfl | rfl<;>(go_wp2;go_ret;exact ⟨ret_f no,HK5.out⟩)
    ·have no:¬ zZer r:=fun h=>by
      rcases zlMr h with h | h | h
      ·exact KN.out.1 h.1
      ·exact KN.out.2 h.1
      ·exact n0 h.2.1
     rcases hm with rfl | rfl<;>(go_wp2;go_ret;exact ⟨ret_f no,HK5.out⟩)
   ·have no:¬ zZer r:=fun h=>by
     rcases zlMr h with h | h | h
     ·exact k1 h.1
     ·exact k2 h.1
     ·exact k3 h.1
    obtain ⟨m,hm,d2'⟩:∃ m:Int,(¬ m=1/\¬ m=2/\¬ m=3/\¬ m=4)/\w5.cell? ⟨q,2,none⟩=some (.int .u8 m):=⟨_,by
     have z:∀ c:UInt8,((r.kind.toNat:Int)=(c.toNat:Int))->r.kind=c:=fun c h=>UInt8.toNat_inj.1 (by omega)
     exact ⟨fun h=>k1 (z 1 h),fun h=>k2 (z 2 h),fun h=>k3 (.inl (z 3 h)),fun h=>k3 (.inr (z 4 h))⟩,d2⟩
    obtain ⟨m1,m2,m3,m4⟩:=hm
    clear d2 k1 k2 k3
    go_wp2
    go_ret
    exact ⟨ret_f no,HK5.out⟩
  ·have eT:=qh (eI.trans (decide_eq_false g4))
   have GI:=Lib.hid g4
   clear eI g4
   go_wp2_with (refine HW.out.mono ?_;rw [eT.out];rintro e w5 ⟨rfl,hw5⟩)
   go_ret
   exact ⟨ret_f (fun h=>GI.out ⟨⟨by have:=h.1;omega,h.2.1⟩,h.2.2.2.2.1,h.2.2.2.2.2.1,h.2.2.2.2.2.2.1⟩),HK4.out.trans0 (hw5.kept (fun _=>False))⟩
theorem zpLh {w:World} {ops:Array Oper} {o:Oper} {a:Act} {K:Act->World->Prop} {Q:Exit->Act->World->Prop} {E:Prop} (hgd:o.guard=none) (s x:Operand)
  (ho:o.op=.call { callee:=.builtin .append,args:=#[s,x],argTypes:=#[47,47] }) (base:Nat) (v:Value) (l m:Bytes) (hs:a.eval s=v) (hown:OwnV w base v l)
  (A:Option Addr) (c:Nat) (hx:a.eval x=.slice A m.length c) (hm:RdB w A m) (h63:l.length+m.length<=140737488355328) (hbase:base<=w.heap.size)
  (k:∀ v' w',OwnV w' base v' (l ++ m)->Kept (fun x=>base<=x) w w'->K (a.put o.dst v') w'):if Region.wanted o (yielded ops a.tmps)=true then Oper.wp Tryz.prog o a w K Q else E:=by
 rw [if_pos (by unfold Region.wanted;rw [hgd])]
 have key:∃ v' w',(Builtin.append_ #[47,47] o.type #[v,.slice A m.length c]).run Tryz.prog w=.ok v' w'/\OwnV w' base v' (l ++ m)/\Kept (fun x=>base<=x) w w':=by
  obtain ⟨i,hi,h2,h3,h4⟩:=info_parts info5
  by_cases h0:m=[]
  ·subst h0
   exact ⟨v,w,zkac (P:=Tryz.prog) (w:=w) base 47 o.type 5 i 1 Tryz.underlying47 hi v l.length _ hown A c,by simpa using hown,Kept.refl _ w⟩
  ·obtain ⟨b,off,rfl,hc⟩:=hm h0
   have:0 < m.length:=List.length_pos_iff.2 h0
   have e63:maxLen=9223372036854775807:=rfl
   obtain ⟨g',cap',w',hr,ho',_,hat,_⟩:=z0TN (P:=Tryz.prog) (w:=w) 47 o.type base 5 Tryz.underlying47 info5 rfl (by omega) v l.length _ hown ⟨b,off,none⟩ m.length c (cellsOf m).toList (by rw [z6VZ,Nat.mul_one]) (fun j u hu=>by rw [Addr.add_mid];exact hc j u (by simpa using hu)) (fun u hu=>(Array.all_eq_true_iff_forall_mem.1 (zZ84 m)) u (by simpa using hu)) this (by omega) (by omega) hbase
   refine ⟨_,w',hr,?_,?_⟩
   ·show World.ownsRow _ _ _ _ _ _ _
    rw [List.length_append,zdRz]
    exact ho'
   ·rcases hat with ⟨e,hk⟩ | ⟨e,hk⟩
    ·exact hk.mono (fun x _ hx=>by subst hx;exact (hown.base_le (by rw [e];rfl)).1)
    ·exact hk.mono (fun _ _ h=>h.elim)
 obtain ⟨v',w',hr,h1,h2⟩:=key
 unfold Oper.wp
 simp [execOp,ho,resolve,invoke,builtin,hs,hx,hr,Result.andThen]
 exact k v' w' h1 h2
def zlcb (r:RecM) (w:World) (e:Ending) (w':World):Prop:=Kept (fun _=>False) w w' /\
 (zZer r->∃ g cap,e=.returned (.tuple #[.slice (some ⟨g,0,none⟩) (encM r).length cap,.int .i64 0])/\OwnB w' w.heap.size g cap (encM r)) /\
 (¬ zZer r->e=.returned (.tuple #[.slice none 0 0,.int .i64 4]))
def bodU (r:RecM):Bytes:=if r.kind=2 then beN r.next.toNat 8 else []
theorem zEEo (r:RecM):bodyM r=([r.kind] ++ beN r.tx.toNat 8 ++ beN r.prev.toNat 8 ++ bodU r) ++ (if r.new=[] then [] else beN r.blk.toNat 4 ++ (beN r.off.toNat 2 ++ (beN r.new.length 2 ++ (r.old ++ r.new)))):=by
 unfold bodyM bodU
 simp
def bod3 (r:RecM):Bytes:=[r.kind] ++ beN r.tx.toNat 8 ++ beN r.prev.toNat 8
theorem zN2j (r:RecM):(bod3 r).length=17:=by simp [bod3,zmTu]
theorem zRqo (r:RecM):(bodU r).length<=8:=by unfold bodU;split<;>simp [zmTu]
theorem OwnV.of_new {w:World} {base:Nat} (l:Bytes) (hb:base<=w.heap.size) (hl:l.length<=1000000:=by simp):OwnV (w.alloc (.cells (cellsOf l) 5)) base (.slice (some ⟨w.heap.size,0,none⟩) l.length l.length) l:=by
 have e63:maxLen=9223372036854775807:=rfl
 refine ⟨by rw [z6VZ,Nat.mul_one],.inr ⟨w.heap.size,l.length,cellsOf l,rfl,hb,heap_alloc_new w _,Nat.le_refl _,by omega,by rw [z54R,Nat.mul_one],?_⟩⟩
 rw [Nat.mul_one,<- z6VZ l]
 exact List.take_length
theorem OwnV.low {w:World} {base base':Nat} {v:Value} {l:Bytes} (h:OwnV w base v l) (hb:base'<=base):OwnV w base' v l:=by
 refine ⟨h.1,?_⟩
 rcases h.2 with h | ⟨g,cap,cur,h1,h2,h3⟩
 ·exact .inl h
 ·exact .inr ⟨g,cap,cur,h1,by omega,h3⟩
theorem OwnV.rd {w:World} {base:Nat} {A:Option Addr} {n c:Nat} {l:Bytes} (h:OwnV w base (.slice A n c) l):RdB w A l:=by
 intro hl
 rcases h.2 with ⟨_,h2⟩ | ⟨g,cap,cur,hv,hb,hg,h1,h2,h3,h4⟩
 ·exact absurd (List.length_eq_zero_iff.1 h2) hl
 ·injection hv with e1 e2 e3
  subst e1
  refine ⟨g,0,rfl,fun j u hu=>?_⟩
  have:=World.ownsRow.cells h (g:=g) rfl j u (by rw [<- Array.getElem?_toList] at hu;exact hu)
  rwa [Addr.add_mid] at this
set_option maxRecDepth 100000 in
set_option maxHeartbeats 1600000 in
theorem zaP4 (r:RecM) (A1:Option Addr) (c1:Nat) (A2:Option Addr) (c2:Nat) (w:World) (ho:RecOk r) (h1:r.old.length<=1000000) (h2:r.new.length<=1000000) (hr1:RdB w A1 r.old) (hr2:RdB w A2 r.new) :
  Calls Tryz.prog 115 #[zz52 r A1 c1 A2 c2] w (zlcb r w):=by
 have hv:zz52 r A1 c1 A2 c2=.agg (recC r A1 c1 A2 c2):=rfl
 have HRT:=qh (fun wx=>zNDL r A1 c1 A2 c2 wx ho h1 h2)
 rw [hv] at HRT ⊢
 clear hv
 have HR1:=qh hr1
 have HR2:=qh hr2
 clear hr1 hr2
 go_enter Tryz.func115,Tryz.ntmps115
 go_wp2_with (refine znBH rfl 86 _ rfl (.agg (recC r A1 c1 A2 c2)) rfl ?_)
 intro q w1 q1 q2 hb1 hk1
 have HB1:=qh hb1
 have HK1:=qh hk1
 clear hb1 hk1
 go_wp2_with (refine zFcC rfl 86 _ rfl q rfl (recC r A1 c1 A2 c2) HB1.out Tryz.underlying86 rfl (by kernel_rfl) ?_)
 by_cases hR:zZer r
 ·have HRT2:=qh (show Calls Tryz.prog 123 #[.agg (recC r A1 c1 A2 c2)] w1 fun e w'=>e=.returned (.bool true)/\Kept (fun _=>False) w1 w' from by
   refine (HRT.out w1).mono ?_
   rintro e w' ⟨rfl,hk⟩
   exact ⟨by rw [decide_eq_true hR],hk⟩)
  have HR:=qh hR
  clear hR
  go_wp2_with fail
  refine HRT2.out.mono ?_
  rintro e w2 ⟨rfl,hk2⟩
  have HB2:=qh (hk2.heap HB1.out id)
  have n2:=hk2.size
  have HK2:=qh (HK1.out.trans0 hk2)
  clear hk2 HRT HRT2
  go_wp2_with fail
  have hRR:=HR.out
  have i1:0<=r.tx/\r.tx<=9223372036854775807:=by have:=hRR.2.2.2.2.1;unfold inM topM at this;omega
  have i2:0<=r.prev/\r.prev<=9223372036854775807:=by have:=hRR.2.2.2.2.2.1;unfold inM topM at this;omega
  have i3:0<=r.next/\r.next<=9223372036854775807:=by have:=hRR.2.2.2.2.2.2.1;unfold inM topM at this;omega
  have I1:=Lib.hid i1
  have I2:=Lib.hid i2
  have I3:=Lib.hid i3
  clear hRR i1 i2 i3
  have ka:Kept (fun x=>w2.heap.size<=x) w2 (w2.drew.alloc (.cells #[.int .u8 r.kind.toNat] 5)):=((Kept.refl _ w2).drew).alloc _
  have HO0:=qh (OwnV.of_new (w:=w2.drew) (base:=w2.heap.size) [r.kind] (Nat.le_refl _))
  have KA:=Lib.hid ka
  have SA:=ka.heap HB2.out (by omega)
  clear ka
  refine znCh 9 (fun w'=>w'.heap[q]?=some (.cells (recC r A1 c1 A2 c2) 86 (0,0))) (by kernel_rfl) HB2.out (fun hH=>?_)
  simp only [List.length_cons,List.length_nil,List.replicate]
  refine tK 0 ?_ (fun w' hw'=>?_) hH ?_
  rotate_left
  ·obtain ⟨r0,r1,r2,r3,r4,r5,r6,r7,r8,r9⟩:=z89M hw'
   go_simp<;>with_reducible rfl
  simp only [Act.put,oZa,oZb,oZc]
  refine tK 1 ?_ (fun w' hw'=>?_) hH ?_
  rotate_left
  ·obtain ⟨r0,r1,r2,r3,r4,r5,r6,r7,r8,r9⟩:=z89M hw'
   go_simp<;>with_reducible rfl
  simp only [Act.put,oZa,oZb,oZc]
  refine tK 3 ?_ (fun w' hw'=>?_) hH ?_
  rotate_left
  ·obtain ⟨r0,r1,r2,r3,r4,r5,r6,r7,r8,r9⟩:=z89M hw'
   go_simp<;>with_reducible rfl
  simp only [Act.put,oZa,oZb,oZc]
  refine tK 4 ?_ (fun w' hw'=>?_) hH ?_
  rotate_left
  ·obtain ⟨r0,r1,r2,r3,r4,r5,r6,r7,r8,r9⟩:=z89M hw'
   go_simp<;>with_reducible rfl
  simp only [Act.put,oZa,oZb,oZc]
  refine tK 6 ?_ (fun w' hw'=>?_) hH ?_
  rotate_left
  ·obtain ⟨r0,r1,r2,r3,r4,r5,r6,r7,r8,r9⟩:=z89M hw'
   go_simp<;>with_reducible rfl
  simp only [Act.put,oZa,oZb,oZc]
  refine tK 7 ?_ (fun w' hw'=>?_) hH ?_
  rotate_left
  ·obtain ⟨r0,r1,r2,r3,r4,r5,r6,r7,r8,r9⟩:=z89M hw'
   go_simp<;>with_reducible rfl
  simp only [Act.put,oZa,oZb,oZc]
  refine stepL 2 rfl (by kernel_rfl) (fun K hK=>?_)
  go_simp
  refine hK.out _ _ (fun _=>SA) (fun _=>?_)
  simp only [oZa,oZb,oZc]
  clear hK K hH
  refine stepL 5 rfl (by kernel_rfl) (fun K hK=>?_)
  go_simp
  go_at_call 117
  refine (zziy _ [r.kind] r.tx 8 w2.heap.size _ HO0.out (by have:=KA.out.size;exact this) I1.out.1 I1.out.2 (by decide) (by simp)).mono ?_
  rintro e w3 ⟨v3,rfl,ho3,hk3⟩
  have HO3:=qh ho3
  have K3:=qh (KA.out.trans' hk3)
  have S3:=K3.out.heap HB2.out (by omega)
  clear ho3 hk3 HO0 KA SA
  go_simp
  refine hK.out _ _ (fun _=>S3) (fun _=>?_)
  simp only [oZa,oZb,oZc]
  clear hK K
  refine stepL 8 rfl (by kernel_rfl) (fun K hK=>?_)
  go_simp
  go_at_call 117
  refine (zziy v3 _ r.prev 8 w2.heap.size _ HO3.out (by have:=K3.out.size;exact this) I2.out.1 I2.out.2 (by decide) (by simp [zmTu])).mono ?_
  rintro e w4 ⟨v4,rfl,ho4,hk4⟩
  have HO4:=qh ho4
  have K4:=qh (K3.out.trans' hk4)
  have S4:=K4.out.heap HB2.out (by omega)
  clear ho4 hk4 HO3 K3 S3
  go_simp
  refine hK.out _ _ (fun _=>S4) (fun _=>?_)
  simp only [oZa,oZb,oZc]
  clear hK K
  refine stepL 9 rfl (by kernel_rfl) (fun K hK=>?_)
  go_simp
  refine hK.out _ _ (fun _=>S4) (fun _=>?_)
  simp only [oZa,oZb,oZc]
  clear hK K
  have hO4':OwnV w4 w2.heap.size v4 (bod3 r):=HO4.out
  have HO5:=qh hO4'
  obtain ⟨z0,z1,z2,z3,z4,z5,z6,z7,z8,z9⟩:=z89M S4
  clear hO4' HO4
  refine doneL (by kernel_rfl) ?_ _
  go_upto_if 20 with fail
  go_cut [4] from 19 to 24 (fun v wx=>OwnV wx w2.heap.size v (bod3 r ++ bodU r)/\Kept (fun x=>w2.heap.size<=x) w2 wx)
  case first=>
   by_cases k2:r.kind=2
   ·have hkb:((r.kind.toNat:Int) == 2)=true:=by rw [k2];rfl
    have K2:=Lib.hid k2
    clear k2
    go_wp2_with (go_at_call 117;refine (zziy v4 _ r.next 8 w2.heap.size _ HO5.out (by have:=K4.out.size;exact this) I3.out.1 I3.out.2 (by decide) (by rw [zN2j];decide)).mono ?_;rintro e w5 ⟨v5,rfl,ho5,hk5⟩)
    go_meet
    case rel=>exact ⟨by unfold bodU;rw [if_pos K2.out];exact ho5,K4.out.trans' hk5⟩
   ·have hkb:((r.kind.toNat:Int) == 2)=false:=by
     rw [beq_eq_false_iff_ne]
     exact fun h=>k2 (UInt8.toNat_inj.1 (by have:(2:UInt8).toNat=2:=rfl;omega))
    have K2:=Lib.hid k2
    clear k2
    go_wp2
    go_meet
    case rel=>exact ⟨by unfold bodU;rw [if_neg K2.out,List.append_nil];exact HO5.out,K4.out⟩
  case rest=>
   obtain ⟨ho6,hk6⟩:=hcut
   have HO6:=qh ho6
   have K6:=qh hk6
   have S6:=hk6.heap HB2.out (by omega)
   obtain ⟨y0,y1,y2,y3,y4,y5,y6,y7,y8,y9⟩:=z89M S6
   have BL:(bod3 r ++ bodU r).length<=25:=by rw [List.length_append,zN2j];have:=zRqo r;omega
   have BL2:=Lib.hid BL
   clear ho6 hk6 HO5 K4 S4 z0 z1 z2 z3 z4 z5 z6 z7 z8 z9 BL
   go_upto_if 29 with fail
   go_cut [4] from 25 to 52 (fun v wx=>OwnV wx w2.heap.size v (bodyM r)/\Kept (fun x=>w2.heap.size<=x) w2 wx)
   case first=>
    by_cases hn:r.new=[]
    ·have HN:=qh hn
     have hz:¬ 0 < r.new.length:=by rw [hn];decide
     clear hn
     go_wp2
     go_meet
     case rel=>exact ⟨by rw [zEEo,if_pos HN.out,List.append_nil];exact HO6.out,K6.out⟩
    ·have hpos:0 < r.new.length:=List.length_pos_iff.2 hn
     have HN:=qh hn
     have hf:0<=r.blk/\r.blk<=9223372036854775807/\0<=r.off/\r.off<=9223372036854775807:=by
      have h:=zlMr HR.out
      rcases h with h | h | h
      ·have:=h.2.2.1;unfold fitsM at this;omega
      ·have:=h.2.1;unfold fitsM at this;omega
      ·exact absurd h.2.2.2.2.2 hn
     have HF:=qh hf
     clear hn hf
     go_wp2_with fail
     refine znCh 14 (fun w'=>w'.heap[q]?=some (.cells (recC r A1 c1 A2 c2) 86 (0,0))) (by kernel_rfl) S6 (fun hH=>?_)
     simp only [List.length_cons,List.length_nil,List.replicate]
     refine tK 0 ?_ (fun w' hw'=>?_) hH ?_
     rotate_left
     ·obtain ⟨r0,r1,r2,r3,r4,r5,r6,r7,r8,r9⟩:=z89M hw'
      go_simp<;>with_reducible rfl
     simp only [Act.put,oZa,oZb,oZc]
     refine tK 1 ?_ (fun w' hw'=>?_) hH ?_
     rotate_left
     ·obtain ⟨r0,r1,r2,r3,r4,r5,r6,r7,r8,r9⟩:=z89M hw'
      go_simp<;>with_reducible rfl
     simp only [Act.put,oZa,oZb,oZc]
     refine tK 2 ?_ (fun w' hw'=>?_) hH ?_
     rotate_left
     ·obtain ⟨r0,r1,r2,r3,r4,r5,r6,r7,r8,r9⟩:=z89M hw'
      go_simp<;>with_reducible rfl
     simp only [Act.put,oZa,oZb,oZc]
     refine tK 3 ?_ (fun w' hw'=>?_) hH ?_
     rotate_left
     ·obtain ⟨r0,r1,r2,r3,r4,r5,r6,r7,r8,r9⟩:=z89M hw'
      go_simp<;>with_reducible rfl
     simp only [Act.put,oZa,oZb,oZc]
     refine tK 5 ?_ (fun w' hw'=>?_) hH ?_
     rotate_left
     ·obtain ⟨r0,r1,r2,r3,r4,r5,r6,r7,r8,r9⟩:=z89M hw'
      go_simp<;>with_reducible rfl
     simp only [Act.put,oZa,oZb,oZc]
     refine tK 6 ?_ (fun w' hw'=>?_) hH ?_
     rotate_left
     ·obtain ⟨r0,r1,r2,r3,r4,r5,r6,r7,r8,r9⟩:=z89M hw'
      go_simp<;>with_reducible rfl
     simp only [Act.put,oZa,oZb,oZc]
     refine tK 7 ?_ (fun w' hw'=>?_) hH ?_
     rotate_left
     ·obtain ⟨r0,r1,r2,r3,r4,r5,r6,r7,r8,r9⟩:=z89M hw'
      go_simp<;>with_reducible rfl
     simp only [Act.put,oZa,oZb,oZc]
     refine tK 9 ?_ (fun w' hw'=>?_) hH ?_
     rotate_left
     ·obtain ⟨r0,r1,r2,r3,r4,r5,r6,r7,r8,r9⟩:=z89M hw'
      go_simp<;>with_reducible rfl
     simp only [Act.put,oZa,oZb,oZc]
     refine tK 10 ?_ (fun w' hw'=>?_) hH ?_
     rotate_left
     ·obtain ⟨r0,r1,r2,r3,r4,r5,r6,r7,r8,r9⟩:=z89M hw'
      go_simp<;>with_reducible rfl
     simp only [Act.put,oZa,oZb,oZc]
     refine tK 11 ?_ (fun w' hw'=>?_) hH ?_
     rotate_left
     ·obtain ⟨r0,r1,r2,r3,r4,r5,r6,r7,r8,r9⟩:=z89M hw'
      go_simp<;>with_reducible rfl
     simp only [Act.put,oZa,oZb,oZc]
     refine tK 12 ?_ (fun w' hw'=>?_) hH ?_
     rotate_left
     ·obtain ⟨r0,r1,r2,r3,r4,r5,r6,r7,r8,r9⟩:=z89M hw'
      go_simp<;>with_reducible rfl
     simp only [Act.put,oZa,oZb,oZc]
     refine stepL 4 rfl (by kernel_rfl) (fun K hK=>?_)
     go_simp
     go_at_call 132
     refine (zbpk u4 _ r.blk 4 w2.heap.size _ (HO6.out.keep ((Kept.refl (fun _=>False) wc).drew) (fun _ _=>id)) (by have:=K6.out.size;exact this) HF.out.1 HF.out.2.1 (by decide) (by have:=BL2.out;omega)).mono ?_
     rintro e w7 ⟨v7,rfl,ho7,hk7⟩
     have HO7:=qh ho7
     have K7:=qh (K6.out.drew.trans' hk7)
     have S7:=K7.out.heap HB2.out (by omega)
     clear ho7 hk7
     go_simp
     refine hK.out _ _ (fun _=>S7) (fun _=>?_)
     simp only [oZa,oZb,oZc]
     clear hK K
     refine stepL 8 rfl (by kernel_rfl) (fun K hK=>?_)
     go_simp
     go_at_call 132
     refine (zbpk v7 _ r.off 2 w2.heap.size _ HO7.out (by have:=K7.out.size;exact this) HF.out.2.2.1 HF.out.2.2.2 (by decide) (by rw [List.length_append,zmTu];have:=BL2.out;omega)).mono ?_
     rintro e w8 ⟨v8,rfl,ho8,hk8⟩
     have HO8:=qh ho8
     have K8:=qh (K7.out.trans' hk8)
     have S8:=K8.out.heap HB2.out (by omega)
     clear ho8 hk8 HO7 K7 S7
     go_simp
     refine hK.out _ _ (fun _=>S8) (fun _=>?_)
     simp only [oZa,oZb,oZc]
     clear hK K
     refine stepL 13 rfl (by kernel_rfl) (fun K hK=>?_)
     go_simp
     go_at_call 132
     refine (zbpk v8 _ (r.new.length:Int) 2 w2.heap.size _ HO8.out (by have:=K8.out.size;exact this) (by omega) (by omega) (by decide) (by rw [List.length_append,List.length_append,zmTu,zmTu];have:=BL2.out;omega)).mono ?_
     rintro e w9 ⟨v9,rfl,ho9,hk9⟩
     have HO9:=qh ho9
     have K9:=qh (K8.out.trans' hk9)
     have S9:=K9.out.heap HB2.out (by omega)
     clear ho9 hk9 HO8 K8 S8
     go_simp
     refine hK.out _ _ (fun _=>S9) (fun _=>?_)
     simp only [oZa,oZb,oZc]
     clear hK K
     refine stepL 14 rfl (by kernel_rfl) (fun K hK=>?_)
     go_simp
     refine hK.out _ _ (fun _=>S9) (fun _=>?_)
     simp only [oZa,oZb,oZc]
     clear hK K
     refine doneL (by kernel_rfl) ?_ _
     go_wp2_with fail
     have kw9:Kept (fun _=>False) w w9:=HK2.out.new K9.out (fun x hx=>by have:=HK2.out.size;omega)
     have R1:=qh (HR1.out.kept (kw9.drew) (fun _ _ _ _=>id))
     have R2:=qh (HR2.out.kept (kw9.drew) (fun _ _ _ _=>id))
     clear kw9
     refine znCh 9 (fun w'=>w'.heap[q]?=some (.cells (recC r A1 c1 A2 c2) 86 (0,0))) (by kernel_rfl) S9 (fun hH=>?_)
     simp only [List.length_cons,List.length_nil,List.replicate]
     refine tK 0 ?_ (fun w' hw'=>?_) hH ?_
     rotate_left
     ·obtain ⟨r0,r1,r2,r3,r4,r5,r6,r7,r8,r9⟩:=z89M hw'
      go_simp<;>with_reducible rfl
     simp only [Act.put,oZa,oZb,oZc]
     refine tK 1 ?_ (fun w' hw'=>?_) hH ?_
     rotate_left
     ·obtain ⟨r0,r1,r2,r3,r4,r5,r6,r7,r8,r9⟩:=z89M hw'
      go_simp<;>with_reducible rfl
     simp only [Act.put,oZa,oZb,oZc]
     refine tK 2 ?_ (fun w' hw'=>?_) hH ?_
     rotate_left
     ·obtain ⟨r0,r1,r2,r3,r4,r5,r6,r7,r8,r9⟩:=z89M hw'
      go_simp<;>with_reducible rfl
     simp only [Act.put,oZa,oZb,oZc]
     refine tK 3 ?_ (fun w' hw'=>?_) hH ?_
     rotate_left
     ·obtain ⟨r0,r1,r2,r3,r4,r5,r6,r7,r8,r9⟩:=z89M hw'
      go_simp<;>with_reducible rfl
     simp only [Act.put,oZa,oZb,oZc]
     refine tK 5 ?_ (fun w' hw'=>?_) hH ?_
     rotate_left
     ·obtain ⟨r0,r1,r2,r3,r4,r5,r6,r7,r8,r9⟩:=z89M hw'
      go_simp<;>with_reducible rfl
     simp only [Act.put,oZa,oZb,oZc]
     refine tK 6 ?_ (fun w' hw'=>?_) hH ?_
     rotate_left
     ·obtain ⟨r0,r1,r2,r3,r4,r5,r6,r7,r8,r9⟩:=z89M hw'
      go_simp<;>with_reducible rfl
     simp only [Act.put,oZa,oZb,oZc]
     refine tK 7 ?_ (fun w' hw'=>?_) hH ?_
     rotate_left
     ·obtain ⟨r0,r1,r2,r3,r4,r5,r6,r7,r8,r9⟩:=z89M hw'
      go_simp<;>with_reducible rfl
     simp only [Act.put,oZa,oZb,oZc]
     refine stepL 4 rfl (by kernel_rfl) (fun K hK=>?_)
     have L9:(bod3 r ++ bodU r ++ beN r.blk.toNat 4 ++ beN r.off.toNat 2 ++ beN (r.new.length:Int).toNat 2).length<=33:=by
      simp only [List.length_append,zmTu] at BL2 ⊢
      have:=BL2.out;omega
     refine zpLh rfl _ _ (by rfl) w2.heap.size v9 _ r.old (by rfl) (HO9.out.keep ((Kept.refl (fun _=>False) w9).drew) (fun _ _=>id)) A1 c1 (by rfl) R1.out (by omega) (by have:=K9.out.size;exact this) ?_
     intro v10 w10 ho10 hk10
     have HO10:=qh ho10
     have K10:=qh (K9.out.drew.trans' hk10)
     have S10:=K10.out.heap HB2.out (by omega)
     have R3:=qh (HR2.out.kept (HK2.out.new K10.out (fun x hx=>by have:=HK2.out.size;omega)) (fun _ _ _ _=>id))
     clear ho10 hk10 HO9 K9 S9 R1 R2
     refine hK.out _ _ (fun _=>S10) (fun _=>?_)
     simp only [oZa,oZb,oZc]
     clear hK K
     refine stepL 8 rfl (by kernel_rfl) (fun K hK=>?_)
     refine zpLh rfl _ _ (by rfl) w2.heap.size v10 _ r.new (by rfl) HO10.out A2 c2 (by rfl) R3.out (by rw [List.length_append];omega) (by have:=K10.out.size;exact this) ?_
     intro v11 w11 ho11 hk11
     have HO11:=qh ho11
     have K11:=qh (K10.out.trans' hk11)
     have S11:=K11.out.heap HB2.out (by omega)
     clear ho11 hk11 HO10 K10 S10 R3
     refine hK.out _ _ (fun _=>S11) (fun _=>?_)
     simp only [oZa,oZb,oZc]
     clear hK K
     refine stepL 9 rfl (by kernel_rfl) (fun K hK=>?_)
     go_simp
     refine hK.out _ _ (fun _=>S11) (fun _=>?_)
     simp only [oZa,oZb,oZc]
     clear hK K
     refine doneL (by kernel_rfl) ?_ _
     go_wp2
     go_meet
     case rel=>
      refine ⟨?_,K11.out⟩
      have e:=HO11.out
      rw [Int.toNat_natCast] at e
      rw [zEEo,if_neg HN.out]
      simpa [bod3] using e
   case rest=>
    obtain ⟨hb,hk⟩:=hcut
    have HO7:=qh hb
    have K7:=qh hk
    have S7:=hk.heap HB2.out (by omega)
    obtain ⟨g4,k4,rfl⟩:∃ g4 k4,u4=.slice (some ⟨g4,0,none⟩) (bodyM r).length k4:=by
     rcases hb.form with ⟨_,h⟩ | ⟨g,cap,h,_⟩
     ·have:=zacl HR.out;rw [h] at this;simp at this
     ·exact ⟨g,cap,h⟩
    have G4:=(hb.base_le (x:=g4) rfl)
    have L7:=(zacl HR.out).2
    have I4:=qh (show 0<=r.lsn/\r.lsn<=9223372036854775807/\0<=r.turn/\r.turn<=9223372036854775807 from by have:=HR.out;unfold zZer topM at this;omega)
    clear hb hk HO6 K6 S6 y0 y1 y2 y3 y4 y5 y6 y7 y8 y9
    go_wp2_with fail
    refine znCh 9 (fun w'=>w'.heap[q]?=some (.cells (recC r A1 c1 A2 c2) 86 (0,0))) (by kernel_rfl) S7 (fun hH=>?_)
    simp only [List.length_cons,List.length_nil,List.replicate]
    refine tK 0 ?_ (fun w' hw'=>?_) hH ?_
    rotate_left
    ·obtain ⟨r0,r1,r2,r3,r4,r5,r6,r7,r8,r9⟩:=z89M hw'
     go_simp<;>with_reducible rfl
    simp only [Act.put,oZa,oZb,oZc]
    refine tK 1 ?_ (fun w' hw'=>?_) hH ?_
    rotate_left
    ·obtain ⟨r0,r1,r2,r3,r4,r5,r6,r7,r8,r9⟩:=z89M hw'
     go_simp<;>with_reducible rfl
    simp only [Act.put,oZa,oZb,oZc]
    refine tK 3 ?_ (fun w' hw'=>?_) hH ?_
    rotate_left
    ·obtain ⟨r0,r1,r2,r3,r4,r5,r6,r7,r8,r9⟩:=z89M hw'
     go_simp<;>with_reducible rfl
    simp only [Act.put,oZa,oZb,oZc]
    refine tK 4 ?_ (fun w' hw'=>?_) hH ?_
    rotate_left
    ·obtain ⟨r0,r1,r2,r3,r4,r5,r6,r7,r8,r9⟩:=z89M hw'
     go_simp<;>with_reducible rfl
    simp only [Act.put,oZa,oZb,oZc]
    refine tK 6 ?_ (fun w' hw'=>?_) hH ?_
    rotate_left
    ·obtain ⟨r0,r1,r2,r3,r4,r5,r6,r7,r8,r9⟩:=z89M hw'
     go_simp<;>with_reducible rfl
    simp only [Act.put,oZa,oZb,oZc]
    refine tK 7 ?_ (fun w' hw'=>?_) hH ?_
    rotate_left
    ·obtain ⟨r0,r1,r2,r3,r4,r5,r6,r7,r8,r9⟩:=z89M hw'
     go_simp<;>with_reducible rfl
    simp only [Act.put,oZa,oZb,oZc]
    refine stepL 2 rfl (by kernel_rfl) (fun K hK=>?_)
    go_simp
    go_at_call 117
    refine (zziy _ [] r.lsn 8 wc.heap.size wc.drew (OwnV.nil _ _) (Nat.le_refl wc.heap.size) I4.out.1 I4.out.2.1 (by decide) (by decide)).mono ?_
    rintro e w8 ⟨v8,rfl,ho8,hk8⟩
    have HO8:=qh ho8
    have K8:=qh (((Kept.refl (fun x=>wc.heap.size<=x) wc).drew).trans' hk8)
    have S8:=K8.out.heap S7 (by have:=zvKu S7;omega)
    clear ho8 hk8
    go_simp
    refine hK.out _ _ (fun _=>S8) (fun _=>?_)
    simp only [oZa,oZb,oZc]
    clear hK K
    refine stepL 5 rfl (by kernel_rfl) (fun K hK=>?_)
    go_simp
    go_at_call 117
    refine (zziy v8 _ r.turn 4 wc.heap.size _ HO8.out (by have:=K8.out.size;exact this) I4.out.2.2.1 I4.out.2.2.2 (by decide) (by simp [zmTu])).mono ?_
    rintro e w9 ⟨v9,rfl,ho9,hk9⟩
    have HO9:=qh ho9
    have K9:=qh (K8.out.trans' hk9)
    have S9:=K9.out.heap S7 (by have:=zvKu S7;omega)
    clear ho9 hk9 HO8 K8 S8
    go_simp
    refine hK.out _ _ (fun _=>S9) (fun _=>?_)
    simp only [oZa,oZb,oZc]
    clear hK K
    refine stepL 8 rfl (by kernel_rfl) (fun K hK=>?_)
    go_simp
    go_at_call 132
    refine (zbpk v9 _ ((bodyM r).length:Int) 2 wc.heap.size _ HO9.out (by have:=K9.out.size;exact this) (by omega) (by omega) (by decide) (by simp [zmTu])).mono ?_
    rintro e w10 ⟨v10,rfl,ho10,hk10⟩
    have HO10:=qh (show OwnV w10 wc.heap.size v10 (headM r) from by
     have e:=ho10
     rw [Int.toNat_natCast] at e
     unfold headM
     simpa using e)
    have K10:=qh (K9.out.trans' hk10)
    have S10:=K10.out.heap S7 (by have:=zvKu S7;omega)
    clear ho10 hk10 HO9 K9 S9
    go_simp
    refine hK.out _ _ (fun _=>S10) (fun _=>?_)
    simp only [oZa,oZb,oZc]
    clear hK K
    refine stepL 9 rfl (by kernel_rfl) (fun K hK=>?_)
    go_simp
    refine hK.out _ _ (fun _=>S10) (fun _=>?_)
    simp only [oZa,oZb,oZc]
    clear hK K
    refine doneL (by kernel_rfl) ?_ _
    obtain ⟨g10,k10,rfl⟩:∃ g k,v10=.slice (some ⟨g,0,none⟩) (headM r).length k:=by
     rcases HO10.out.form with ⟨_,h⟩ | ⟨g,cap,h,_⟩
     ·have:=zM7A r;rw [h] at this;simp at this
     ·exact ⟨g,cap,h⟩
    have ka:Kept (fun x=>wc.heap.size<=x) wc (w10.alloc (.cells #[.slice (some ⟨g10,0,none⟩) (headM r).length k10,.slice (some ⟨g4,0,none⟩) (bodyM r).length k4] 47)):=K10.out.alloc _
    have RB:=HO7.out.keep ka (fun x hx=>by have e:g4=x:=Option.some.inj hx;omega)
    have RH:=HO10.out.keep ((Kept.refl (fun _=>False) w10).alloc (.cells #[.slice (some ⟨g10,0,none⟩) (headM r).length k10,.slice (some ⟨g4,0,none⟩) (bodyM r).length k4] 47)) (fun _ _=>id)
    have HSM:=qh (zkf7 (some ⟨w10.heap.size,0,none⟩) 2 [⟨some ⟨g10,0,none⟩,headM r,k10⟩,⟨some ⟨g4,0,none⟩,bodyM r,k4⟩] (w10.alloc (.cells #[.slice (some ⟨g10,0,none⟩) (headM r).length k10,.slice (some ⟨g4,0,none⟩) (bodyM r).length k4] 47))
     (fun k s hs=>by
      match k,hs with
      | 0,hs=>cases hs;exact ⟨w10.heap.size,0,rfl,zcjX (heap_alloc_new w10 _) rfl,RH.rd⟩
      | 1,hs=>cases hs;exact ⟨w10.heap.size,0,rfl,zcjX (heap_alloc_new w10 _) rfl,RB.rd⟩) (by simp) (fun s hs=>by
       simp only [List.mem_cons,List.not_mem_nil,or_false] at hs
       rcases hs with rfl | rfl
       ·show (headM r).length<=_;rw [zM7A];decide
       ·show (bodyM r).length<=_;omega))
    have KA:=Lib.hid ka
    have RB2:=Lib.hid RB
    have RH2:=Lib.hid RH
    clear ka RB RH
    have EF:flatP [⟨some ⟨g10,0,none⟩,headM r,k10⟩,⟨some ⟨g4,0,none⟩,bodyM r,k4⟩]=headM r ++ bodyM r:=by simp [flatP]
    rw [EF] at HSM
    have HC:=qh (z2X7 (headM r ++ bodyM r))
    obtain ⟨C,eC⟩:∃ C,C=crcL (headM r ++ bodyM r):=⟨_,rfl⟩
    rw [<- eC] at HSM HC
    have EC:=Lib.hid eC
    clear EF eC
    go_wp2_with fail
    refine HSM.out.mono ?_
    rintro e w11 ⟨rfl,hw11⟩
    have K11:=qh (KA.out.trans0 (hw11.kept (fun _=>False)))
    have RB3:=qh (RB2.out.keep (hw11.kept (fun _=>False)) (fun _ _=>id))
    have RH3:=qh (RH2.out.keep (hw11.kept (fun _=>False)) (fun _ _=>id))
    clear hw11 HSM KA RB2 RH2
    go_wp2_with fail
    refine (z82E _ (headM r) (C:Int) 4 wc.heap.size _ RH3.out (by have:=K11.out.size;exact this) (by omega) (by have:=HC.out;omega) (by decide) (by rw [zM7A];decide)).mono ?_
    rintro e w12 ⟨v12,rfl,ho12,hk12⟩
    have HO12:=qh ho12
    have K12:=qh (K11.out.trans' hk12)
    have RB4:=qh (RB3.out.keep hk12 (fun x hx=>by have e:g4=x:=Option.some.inj hx;omega))
    clear ho12 hk12 RB3 RH3 K11
    go_wp2_with (at_builtin;refine z7Vm rfl _ _ rfl wc.heap.size v12 _ (bodyM r) rfl HO12.out (some ⟨g4,0,none⟩) k4 rfl RB4.out.rd (by rw [List.length_append,zM7A,zmTu];omega) (by have:=K12.out.size;exact this) ?_)
    intro v13 w13 ho13 hk13 _
    have K13:=K12.out.trans' (hk13.mono (fun x _ hx=>(HO12.out.base_le hx).1))
    have e13:headM r ++ (beN C 4 ++ bodyM r)=encM r:=by
     rw [EC.out]
     rfl
    rw [e13] at ho13
    have HO13:=qh ho13
    have KW:=qh (HK2.out.new (K7.out.trans K13 (fun x hx h=>by omega)) (fun x hx=>by have:=HK2.out.size;omega))
    clear ho13 hk13 K13 e13
    go_wp2
    go_ret2
    refine ⟨KW.out,fun _=>?_,fun h=>absurd HR.out h⟩
    rcases HO13.out.form with ⟨_,h⟩ | ⟨g,cap,rfl,h⟩
    ·have:=congrArg List.length h
     rw [z34p] at this
     simp at this
    ·have z1:=HK2.out.size
     have z2:=K7.out.size
     exact ⟨g,cap,rfl,OwnV.low (v:=.slice (some ⟨g,0,none⟩) (encM r).length cap) h (by omega)⟩
 ·have HRT2:=qh (show Calls Tryz.prog 123 #[.agg (recC r A1 c1 A2 c2)] w1 fun e w'=>e=.returned (.bool false)/\Kept (fun _=>False) w1 w' from by
   refine (HRT.out w1).mono ?_
   rintro e w' ⟨rfl,hk⟩
   exact ⟨by rw [decide_eq_false hR],hk⟩)
  have HR:=qh hR
  clear hR
  go_wp2_with (refine HRT2.out.mono ?_;rintro e w2 ⟨rfl,hk2⟩)
  go_ret2
  exact ⟨HK1.out.trans0 hk2,fun h=>absurd h HR.out,fun _=>rfl⟩
end Go.Proofs.YtfgagakepmigbaaGreat
