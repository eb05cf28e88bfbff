/-
  No statement is proved here.
-/
import Derived.Test.YtnbfhdgojmflhaaJGu
import Derived.Test.YtnbfhdgojmflhaaJGl
namespace Go.Proofs.Ytnbfhdgojmflhaa
open Go.RowKit
def zlcb (r:RecM) (w:World) (e:Ending) (w':World):Prop:=Kept (fun _=>False) w w' /\
 (zZer r->∃ g cap,e=.returned (.tuple #[.slice (some ⟨g,0,none⟩) (encM r).length cap,.int .i64 0])/\OwnB w' w.heap.size g cap (encM r)) /\
 (¬ zZer r->e=.returned (.tuple #[.slice none 0 0,.int .i64 4]))
def bodU (r:RecM):Bytes:=if r.kind=2 then beN r.next.toNat 8 else []
theorem zEEo (r:RecM):bodyM r=([r.kind] ++ beN r.tx.toNat 8 ++ beN r.prev.toNat 8 ++ bodU r) ++ (if r.new=[] then [] else beN r.blk.toNat 4 ++ (beN r.off.toNat 2 ++ (beN r.new.length 2 ++ (r.old ++ r.new)))):=by
 unfold bodyM bodU
 simp
def bod3 (r:RecM):Bytes:=[r.kind] ++ beN r.tx.toNat 8 ++ beN r.prev.toNat 8
theorem zN2j (r:RecM):(bod3 r).length=17:=by simp [bod3,zmTu]
theorem zRqo (r:RecM):(bodU r).length<=8:=by unfold bodU;split<;>simp [zmTu]
theorem OwnV.of_new {w:World} {base:Nat} (l:Bytes) (hb:base<=w.heap.size) (hl:l.length<=1000000:=by simp):OwnV (w.alloc (.cells (cellsOf l) 5)) base (.slice (some ⟨w.heap.size,0,none⟩) l.length l.length) l:=by
 have e63:maxLen=9223372036854775807:=rfl
 refine ⟨by rw [z6VZ,Nat.mul_one],.inr ⟨w.heap.size,l.length,cellsOf l,rfl,hb,heap_alloc_new w _,Nat.le_refl _,by omega,by rw [z54R,Nat.mul_one],?_⟩⟩
 rw [Nat.mul_one,<- z6VZ l]
 exact List.take_length
theorem OwnV.low {w:World} {base base':Nat} {v:Value} {l:Bytes} (h:OwnV w base v l) (hb:base'<=base):OwnV w base' v l:=by
 refine ⟨h.1,?_⟩
 rcases h.2 with h | ⟨g,cap,cur,h1,h2,h3⟩
 ·exact .inl h
 ·exact .inr ⟨g,cap,cur,h1,by omega,h3⟩
theorem OwnV.rd {w:World} {base:Nat} {A:Option Addr} {n c:Nat} {l:Bytes} (h:OwnV w base (.slice A n c) l):RdB w A l:=by
 intro hl
 rcases h.2 with ⟨_,h2⟩ | ⟨g,cap,cur,hv,hb,hg,h1,h2,h3,h4⟩
 ·exact absurd (List.length_eq_zero_iff.1 h2) hl
 ·injection hv with e1 e2 e3
  subst e1
  refine ⟨g,0,rfl,fun j u hu=>?_⟩
  have:=World.ownsRow.cells h (g:=g) rfl j u (by rw [<- Array.getElem?_toList] at hu;exact hu)
  rwa [Addr.add_mid] at this
set_option maxRecDepth 100000 in
set_option maxHeartbeats 1600000 in
theorem zaP4 (r:RecM) (A1:Option Addr) (c1:Nat) (A2:Option Addr) (c2:Nat) (w:World) (ho:RecOk r) (h1:r.old.length<=1000000) (h2:r.new.length<=1000000) (hr1:RdB w A1 r.old) (hr2:RdB w A2 r.new) :
  Calls Try.prog 52 #[zz52 r A1 c1 A2 c2] w (zlcb r w):=by
 have hv:zz52 r A1 c1 A2 c2=.agg (recC r A1 c1 A2 c2):=rfl
 have HRT:=qh (fun wx=>zNDL r A1 c1 A2 c2 wx ho h1 h2)
 rw [hv] at HRT ⊢
 clear hv
 have HR1:=qh hr1
 have HR2:=qh hr2
 clear hr1 hr2
 go_enter Try.func52,Try.ntmps52
 go_wp2_with (refine znBH rfl 78 _ rfl (.agg (recC r A1 c1 A2 c2)) rfl ?_)
 intro q w1 q1 q2 hb1 hk1
 have HB1:=qh hb1
 have HK1:=qh hk1
 clear hb1 hk1
 go_wp2_with (refine zFcC rfl 78 _ rfl q rfl (recC r A1 c1 A2 c2) HB1.out Try.underlying78 rfl (by kernel_rfl) ?_)
 by_cases hR:zZer r
 ·have HRT2:=qh (show Calls Try.prog 73 #[.agg (recC r A1 c1 A2 c2)] w1 fun e w'=>e=.returned (.bool true)/\Kept (fun _=>False) w1 w' from by
   refine (HRT.out w1).mono ?_
   rintro e w' ⟨rfl,hk⟩
   exact ⟨by rw [decide_eq_true hR],hk⟩)
  have HR:=qh hR
  clear hR
  go_wp2_with fail
  refine HRT2.out.mono ?_
  rintro e w2 ⟨rfl,hk2⟩
  have HB2:=qh (hk2.heap HB1.out id)
  have n2:=hk2.size
  have HK2:=qh (HK1.out.trans0 hk2)
  clear hk2 HRT HRT2
  go_wp2_with fail
  have hRR:=HR.out
  have i1:0<=r.tx/\r.tx<=9223372036854775807:=by have:=hRR.2.2.2.2.1;unfold inM topM at this;omega
  have i2:0<=r.prev/\r.prev<=9223372036854775807:=by have:=hRR.2.2.2.2.2.1;unfold inM topM at this;omega
  have i3:0<=r.next/\r.next<=9223372036854775807:=by have:=hRR.2.2.2.2.2.2.1;unfold inM topM at this;omega
  have I1:=Lib.hid i1
  have I2:=Lib.hid i2
  have I3:=Lib.hid i3
  clear hRR i1 i2 i3
  have ka:Kept (fun x=>w2.heap.size<=x) w2 (w2.drew.alloc (.cells #[.int .u8 r.kind.toNat] 5)):=((Kept.refl _ w2).drew).alloc _
  have HO0:=qh (OwnV.of_new (w:=w2.drew) (base:=w2.heap.size) [r.kind] (Nat.le_refl _))
  have KA:=Lib.hid ka
  have SA:=ka.heap HB2.out (by omega)
  clear ka
  refine znCh 9 (fun w'=>w'.heap[q]?=some (.cells (recC r A1 c1 A2 c2) 78 (0,0))) (by kernel_rfl) HB2.out (fun hH=>?_)
  simp only [List.length_cons,List.length_nil,List.replicate]
  refine tK 0 ?_ (fun w' hw'=>?_) hH ?_
  rotate_left
  ·obtain ⟨r0,r1,r2,r3,r4,r5,r6,r7,r8,r9⟩:=z89M hw'
   go_simp<;>with_reducible rfl
  simp only [Act.put,oZa,oZb,oZc]
  refine tK 1 ?_ (fun w' hw'=>?_) hH ?_
  rotate_left
  ·obtain ⟨r0,r1,r2,r3,r4,r5,r6,r7,r8,r9⟩:=z89M hw'
   go_simp<;>with_reducible rfl
  simp only [Act.put,oZa,oZb,oZc]
  refine tK 3 ?_ (fun w' hw'=>?_) hH ?_
  rotate_left
  ·obtain ⟨r0,r1,r2,r3,r4,r5,r6,r7,r8,r9⟩:=z89M hw'
   go_simp<;>with_reducible rfl
  simp only [Act.put,oZa,oZb,oZc]
  refine tK 4 ?_ (fun w' hw'=>?_) hH ?_
  rotate_left
  ·obtain ⟨r0,r1,r2,r3,r4,r5,r6,r7,r8,r9⟩:=z89M hw'
   go_simp<;>with_reducible rfl
  simp only [Act.put,oZa,oZb,oZc]
  refine tK 6 ?_ (fun w' hw'=>?_) hH ?_
  rotate_left
  ·obtain ⟨r0,r1,r2,r3,r4,r5,r6,r7,r8,r9⟩:=z89M hw'
   go_simp<;>with_reducible rfl
  simp only [Act.put,oZa,oZb,oZc]
  refine tK 7 ?_ (fun w' hw'=>?_) hH ?_
  rotate_left
  ·obtain ⟨r0,r1,r2,r3,r4,r5,r6,r7,r8,r9⟩:=z89M hw'
   go_simp<;>with_reducible rfl
  simp only [Act.put,oZa,oZb,oZc]
  refine stepL 2 rfl (by kernel_rfl) (fun K hK=>?_)
  go_simp
  refine hK.out _ _ (fun _=>SA) (fun _=>?_)
  simp only [oZa,oZb,oZc]
  clear hK K hH
  refine stepL 5 rfl (by kernel_rfl) (fun K hK=>?_)
  go_simp
  go_at_call 75
  refine (zziy _ [r.kind] r.tx 8 w2.heap.size _ HO0.out (by have:=KA.out.size;exact this) I1.out.1 I1.out.2 (by decide) (by simp)).mono ?_
  rintro e w3 ⟨v3,rfl,ho3,hk3⟩
  have HO3:=qh ho3
  have K3:=qh (KA.out.trans' hk3)
  have S3:=K3.out.heap HB2.out (by omega)
  clear ho3 hk3 HO0 KA SA
  go_simp
  refine hK.out _ _ (fun _=>S3) (fun _=>?_)
  simp only [oZa,oZb,oZc]
  clear hK K
  refine stepL 8 rfl (by kernel_rfl) (fun K hK=>?_)
  go_simp
  go_at_call 75
  refine (zziy v3 _ r.prev 8 w2.heap.size _ HO3.out (by have:=K3.out.size;exact this) I2.out.1 I2.out.2 (by decide) (by simp [zmTu])).mono ?_
  rintro e w4 ⟨v4,rfl,ho4,hk4⟩
  have HO4:=qh ho4
  have K4:=qh (K3.out.trans' hk4)
  have S4:=K4.out.heap HB2.out (by omega)
  clear ho4 hk4 HO3 K3 S3
  go_simp
  refine hK.out _ _ (fun _=>S4) (fun _=>?_)
  simp only [oZa,oZb,oZc]
  clear hK K
  refine stepL 9 rfl (by kernel_rfl) (fun K hK=>?_)
  go_simp
  refine hK.out _ _ (fun _=>S4) (fun _=>?_)
  simp only [oZa,oZb,oZc]
  clear hK K
  have hO4':OwnV w4 w2.heap.size v4 (bod3 r):=HO4.out
  have HO5:=qh hO4'
  obtain ⟨z0,z1,z2,z3,z4,z5,z6,z7,z8,z9⟩:=z89M S4
  clear hO4' HO4
  refine doneL (by kernel_rfl) ?_ _
  go_upto_if 20 with fail
  go_cut [4] from 19 to 24 (fun v wx=>OwnV wx w2.heap.size v (bod3 r ++ bodU r)/\Kept (fun x=>w2.heap.size<=x) w2 wx)
  case first=>
   by_cases k2:r.kind=2
   ·have hkb:((r.kind.toNat:Int) == 2)=true:=by rw [k2];rfl
    have K2:=Lib.hid k2
    clear k2
    go_wp2_with (go_at_call 75;refine (zziy v4 _ r.next 8 w2.heap.size _ HO5.out (by have:=K4.out.size;exact this) I3.out.1 I3.out.2 (by decide) (by rw [zN2j];decide)).mono ?_;rintro e w5 ⟨v5,rfl,ho5,hk5⟩)
    go_meet
    case rel=>exact ⟨by unfold bodU;rw [if_pos K2.out];exact ho5,K4.out.trans' hk5⟩
   ·have hkb:((r.kind.toNat:Int) == 2)=false:=by
     rw [beq_eq_false_iff_ne]
     exact fun h=>k2 (UInt8.toNat_inj.1 (by have:(2:UInt8).toNat=2:=rfl;omega))
    have K2:=Lib.hid k2
    clear k2
    go_wp2
    go_meet
    case rel=>exact ⟨by unfold bodU;rw [if_neg K2.out,List.append_nil];exact HO5.out,K4.out⟩
  case rest=>
   obtain ⟨ho6,hk6⟩:=hcut
   have HO6:=qh ho6
   have K6:=qh hk6
   have S6:=hk6.heap HB2.out (by omega)
   obtain ⟨y0,y1,y2,y3,y4,y5,y6,y7,y8,y9⟩:=z89M S6
   have BL:(bod3 r ++ bodU r).length<=25:=by rw [List.length_append,zN2j];have:=zRqo r;omega
   have BL2:=Lib.hid BL
   clear ho6 hk6 HO5 K4 S4 z0 z1 z2 z3 z4 z5 z6 z7 z8 z9 BL
   go_upto_if 29 with fail
   go_cut [4] from 25 to 52 (fun v wx=>OwnV wx w2.heap.size v (bodyM r)/\Kept (fun x=>w2.heap.size<=x) w2 wx)
   case first=>
    by_cases hn:r.new=[]
    ·have HN:=qh hn
     have hz:¬ 0 < r.new.length:=by rw [hn];decide
     clear hn
     go_wp2
     go_meet
     case rel=>exact ⟨by rw [zEEo,if_pos HN.out,List.append_nil];exact HO6.out,K6.out⟩
    ·have hpos:0 < r.new.length:=List.length_pos_iff.2 hn
     have HN:=qh hn
     have hf:0<=r.blk/\r.blk<=9223372036854775807/\0<=r.off/\r.off<=9223372036854775807:=by
      have h:=zlMr HR.out
      rcases h with h | h | h
      ·have:=h.2.2.1;unfold fitsM at this;omega
      ·have:=h.2.1;unfold fitsM at this;omega
      ·exact absurd h.2.2.2.2.2 hn
     have HF:=qh hf
     clear hn hf
     go_wp2_with fail
     refine znCh 14 (fun w'=>w'.heap[q]?=some (.cells (recC r A1 c1 A2 c2) 78 (0,0))) (by kernel_rfl) S6 (fun hH=>?_)
     simp only [List.length_cons,List.length_nil,List.replicate]
     refine tK 0 ?_ (fun w' hw'=>?_) hH ?_
     rotate_left
     ·obtain ⟨r0,r1,r2,r3,r4,r5,r6,r7,r8,r9⟩:=z89M hw'
      go_simp<;>with_reducible rfl
     simp only [Act.put,oZa,oZb,oZc]
     refine tK 1 ?_ (fun w' hw'=>?_) hH ?_
     rotate_left
     ·obtain ⟨r0,r1,r2,r3,r4,r5,r6,r7,r8,r9⟩:=z89M hw'
      go_simp<;>with_reducible rfl
     simp only [Act.put,oZa,oZb,oZc]
     refine tK 2 ?_ (fun w' hw'=>?_) hH ?_
     rotate_left
     ·obtain ⟨r0,r1,r2,r3,r4,r5,r6,r7,r8,r9⟩:=z89M hw'
      go_simp<;>with_reducible rfl
     simp only [Act.put,oZa,oZb,oZc]
     refine tK 3 ?_ (fun w' hw'=>?_) hH ?_
     rotate_left
     ·obtain ⟨r0,r1,r2,r3,r4,r5,r6,r7,r8,r9⟩:=z89M hw'
      go_simp<;>with_reducible rfl
     simp only [Act.put,oZa,oZb,oZc]
     refine tK 5 ?_ (fun w' hw'=>?_) hH ?_
     rotate_left
     ·obtain ⟨r0,r1,r2,r3,r4,r5,r6,r7,r8,r9⟩:=z89M hw'
      go_simp<;>with_reducible rfl
     simp only [Act.put,oZa,oZb,oZc]
     refine tK 6 ?_ (fun w' hw'=>?_) hH ?_
     rotate_left
     ·obtain ⟨r0,r1,r2,r3,r4,r5,r6,r7,r8,r9⟩:=z89M hw'
      go_simp<;>with_reducible rfl
     simp only [Act.put,oZa,oZb,oZc]
     refine tK 7 ?_ (fun w' hw'=>?_) hH ?_
     rotate_left
     ·obtain ⟨r0,r1,r2,r3,r4,r5,r6,r7,r8,r9⟩:=z89M hw'
      go_simp<;>with_reducible rfl
     simp only [Act.put,oZa,oZb,oZc]
     refine tK 9 ?_ (fun w' hw'=>?_) hH ?_
     rotate_left
     ·obtain ⟨r0,r1,r2,r3,r4,r5,r6,r7,r8,r9⟩:=z89M hw'
      go_simp<;>with_reducible rfl
     simp only [Act.put,oZa,oZb,oZc]
     refine tK 10 ?_ (fun w' hw'=>?_) hH ?_
     rotate_left
     ·obtain ⟨r0,r1,r2,r3,r4,r5,r6,r7,r8,r9⟩:=z89M hw'
      go_simp<;>with_reducible rfl
     simp only [Act.put,oZa,oZb,oZc]
     refine tK 11 ?_ (fun w' hw'=>?_) hH ?_
     rotate_left
     ·obtain ⟨r0,r1,r2,r3,r4,r5,r6,r7,r8,r9⟩:=z89M hw'
      go_simp<;>with_reducible rfl
     simp only [Act.put,oZa,oZb,oZc]
     refine tK 12 ?_ (fun w' hw'=>?_) hH ?_
     rotate_left
     ·obtain ⟨r0,r1,r2,r3,r4,r5,r6,r7,r8,r9⟩:=z89M hw'
      go_simp<;>with_reducible rfl
     simp only [Act.put,oZa,oZb,oZc]
     refine stepL 4 rfl (by kernel_rfl) (fun K hK=>?_)
     go_simp
     go_at_call 76
     refine (zbpk u4 _ r.blk 4 w2.heap.size _ (HO6.out.keep ((Kept.refl (fun _=>False) wc).drew) (fun _ _=>id)) (by have:=K6.out.size;exact this) HF.out.1 HF.out.2.1 (by decide) (by have:=BL2.out;omega)).mono ?_
     rintro e w7 ⟨v7,rfl,ho7,hk7⟩
     have HO7:=qh ho7
     have K7:=qh (K6.out.drew.trans' hk7)
     have S7:=K7.out.heap HB2.out (by omega)
     clear ho7 hk7
     go_simp
     refine hK.out _ _ (fun _=>S7) (fun _=>?_)
     simp only [oZa,oZb,oZc]
     clear hK K
     refine stepL 8 rfl (by kernel_rfl) (fun K hK=>?_)
     go_simp
     go_at_call 76
     refine (zbpk v7 _ r.off 2 w2.heap.size _ HO7.out (by have:=K7.out.size;exact this) HF.out.2.2.1 HF.out.2.2.2 (by decide) (by rw [List.length_append,zmTu];have:=BL2.out;omega)).mono ?_
     rintro e w8 ⟨v8,rfl,ho8,hk8⟩
     have HO8:=qh ho8
     have K8:=qh (K7.out.trans' hk8)
     have S8:=K8.out.heap HB2.out (by omega)
     clear ho8 hk8 HO7 K7 S7
     go_simp
     refine hK.out _ _ (fun _=>S8) (fun _=>?_)
     simp only [oZa,oZb,oZc]
     clear hK K
     refine stepL 13 rfl (by kernel_rfl) (fun K hK=>?_)
     go_simp
     go_at_call 76
     refine (zbpk v8 _ (r.new.length:Int) 2 w2.heap.size _ HO8.out (by have:=K8.out.size;exact this) (by omega) (by omega) (by decide) (by rw [List.length_append,List.length_append,zmTu,zmTu];have:=BL2.out;omega)).mono ?_
     rintro e w9 ⟨v9,rfl,ho9,hk9⟩
     have HO9:=qh ho9
     have K9:=qh (K8.out.trans' hk9)
     have S9:=K9.out.heap HB2.out (by omega)
     clear ho9 hk9 HO8 K8 S8
     go_simp
     refine hK.out _ _ (fun _=>S9) (fun _=>?_)
     simp only [oZa,oZb,oZc]
     clear hK K
     refine stepL 14 rfl (by kernel_rfl) (fun K hK=>?_)
     go_simp
     refine hK.out _ _ (fun _=>S9) (fun _=>?_)
     simp only [oZa,oZb,oZc]
     clear hK K
     refine doneL (by kernel_rfl) ?_ _
     go_wp2_with fail
     have kw9:Kept (fun _=>False) w w9:=HK2.out.new K9.out (fun x hx=>by have:=HK2.out.size;omega)
     have R1:=qh (HR1.out.kept (kw9.drew) (fun _ _ _ _=>id))
     have R2:=qh (HR2.out.kept (kw9.drew) (fun _ _ _ _=>id))
     clear kw9
     refine znCh 9 (fun w'=>w'.heap[q]?=some (.cells (recC r A1 c1 A2 c2) 78 (0,0))) (by kernel_rfl) S9 (fun hH=>?_)
     simp only [List.length_cons,List.length_nil,List.replicate]
     refine tK 0 ?_ (fun w' hw'=>?_) hH ?_
     rotate_left
     ·obtain ⟨r0,r1,r2,r3,r4,r5,r6,r7,r8,r9⟩:=z89M hw'
      go_simp<;>with_reducible rfl
     simp only [Act.put,oZa,oZb,oZc]
     refine tK 1 ?_ (fun w' hw'=>?_) hH ?_
     rotate_left
     ·obtain ⟨r0,r1,r2,r3,r4,r5,r6,r7,r8,r9⟩:=z89M hw'
      go_simp<;>with_reducible rfl
     simp only [Act.put,oZa,oZb,oZc]
     refine tK 2 ?_ (fun w' hw'=>?_) hH ?_
     rotate_left
     ·obtain ⟨r0,r1,r2,r3,r4,r5,r6,r7,r8,r9⟩:=z89M hw'
      go_simp<;>with_reducible rfl
     simp only [Act.put,oZa,oZb,oZc]
     refine tK 3 ?_ (fun w' hw'=>?_) hH ?_
     rotate_left
     ·obtain ⟨r0,r1,r2,r3,r4,r5,r6,r7,r8,r9⟩:=z89M hw'
      go_simp<;>with_reducible rfl
     simp only [Act.put,oZa,oZb,oZc]
     refine tK 5 ?_ (fun w' hw'=>?_) hH ?_
     rotate_left
     ·obtain ⟨r0,r1,r2,r3,r4,r5,r6,r7,r8,r9⟩:=z89M hw'
      go_simp<;>with_reducible rfl
     simp only [Act.put,oZa,oZb,oZc]
     refine tK 6 ?_ (fun w' hw'=>?_) hH ?_
     rotate_left
     ·obtain ⟨r0,r1,r2,r3,r4,r5,r6,r7,r8,r9⟩:=z89M hw'
      go_simp<;>with_reducible rfl
     simp only [Act.put,oZa,oZb,oZc]
     refine tK 7 ?_ (fun w' hw'=>?_) hH ?_
     rotate_left
     ·obtain ⟨r0,r1,r2,r3,r4,r5,r6,r7,r8,r9⟩:=z89M hw'
      go_simp<;>with_reducible rfl
     simp only [Act.put,oZa,oZb,oZc]
     refine stepL 4 rfl (by kernel_rfl) (fun K hK=>?_)
     have L9:(bod3 r ++ bodU r ++ beN r.blk.toNat 4 ++ beN r.off.toNat 2 ++ beN (r.new.length:Int).toNat 2).length<=33:=by
      simp only [List.length_append,zmTu] at BL2 ⊢
      have:=BL2.out;omega
     refine zpLh rfl _ _ (by rfl) w2.heap.size v9 _ r.old (by rfl) (HO9.out.keep ((Kept.refl (fun _=>False) w9).drew) (fun _ _=>id)) A1 c1 (by rfl) R1.out (by omega) (by have:=K9.out.size;exact this) ?_
     intro v10 w10 ho10 hk10
     have HO10:=qh ho10
     have K10:=qh (K9.out.drew.trans' hk10)
     have S10:=K10.out.heap HB2.out (by omega)
     have R3:=qh (HR2.out.kept (HK2.out.new K10.out (fun x hx=>by have:=HK2.out.size;omega)) (fun _ _ _ _=>id))
     clear ho10 hk10 HO9 K9 S9 R1 R2
     refine hK.out _ _ (fun _=>S10) (fun _=>?_)
     simp only [oZa,oZb,oZc]
     clear hK K
     refine stepL 8 rfl (by kernel_rfl) (fun K hK=>?_)
     refine zpLh rfl _ _ (by rfl) w2.heap.size v10 _ r.new (by rfl) HO10.out A2 c2 (by rfl) R3.out (by rw [List.length_append];omega) (by have:=K10.out.size;exact this) ?_
     intro v11 w11 ho11 hk11
     have HO11:=qh ho11
     have K11:=qh (K10.out.trans' hk11)
     have S11:=K11.out.heap HB2.out (by omega)
     clear ho11 hk11 HO10 K10 S10 R3
     refine hK.out _ _ (fun _=>S11) (fun _=>?_)
     simp only [oZa,oZb,oZc]
     clear hK K
     refine stepL 9 rfl (by kernel_rfl) (fun K hK=>?_)
     go_simp
     refine hK.out _ _ (fun _=>S11) (fun _=>?_)
     simp only [oZa,oZb,oZc]
     clear hK K
     refine doneL (by kernel_rfl) ?_ _
     go_wp2
     go_meet
     case rel=>
      refine ⟨?_,K11.out⟩
      have e:=HO11.out
      rw [Int.toNat_natCast] at e
      rw [zEEo,if_neg HN.out]
      simpa [bod3] using e
   case rest=>
    obtain ⟨hb,hk⟩:=hcut
    have HO7:=qh hb
    have K7:=qh hk
    have S7:=hk.heap HB2.out (by omega)
    obtain ⟨g4,k4,rfl⟩:∃ g4 k4,u4=.slice (some ⟨g4,0,none⟩) (bodyM r).length k4:=by
     rcases hb.form with ⟨_,h⟩ | ⟨g,cap,h,_⟩
     ·have:=zacl HR.out;rw [h] at this;simp at this
     ·exact ⟨g,cap,h⟩
    have G4:=(hb.base_le (x:=g4) rfl)
    have L7:=(zacl HR.out).2
    have I4:=qh (show 0<=r.lsn/\r.lsn<=9223372036854775807/\0<=r.turn/\r.turn<=9223372036854775807 from by have:=HR.out;unfold zZer topM at this;omega)
    clear hb hk HO6 K6 S6 y0 y1 y2 y3 y4 y5 y6 y7 y8 y9
    go_wp2_with fail
    refine znCh 9 (fun w'=>w'.heap[q]?=some (.cells (recC r A1 c1 A2 c2) 78 (0,0))) (by kernel_rfl) S7 (fun hH=>?_)
    simp only [List.length_cons,List.length_nil,List.replicate]
    refine tK 0 ?_ (fun w' hw'=>?_) hH ?_
    rotate_left
    ·obtain ⟨r0,r1,r2,r3,r4,r5,r6,r7,r8,r9⟩:=z89M hw'
     go_simp<;>with_reducible rfl
    simp only [Act.put,oZa,oZb,oZc]
    refine tK 1 ?_ (fun w' hw'=>?_) hH ?_
    rotate_left
    ·obtain ⟨r0,r1,r2,r3,r4,r5,r6,r7,r8,r9⟩:=z89M hw'
     go_simp<;>with_reducible rfl
    simp only [Act.put,oZa,oZb,oZc]
    refine tK 3 ?_ (fun w' hw'=>?_) hH ?_
    rotate_left
    ·obtain ⟨r0,r1,r2,r3,r4,r5,r6,r7,r8,r9⟩:=z89M hw'
     go_simp<;>with_reducible rfl
    simp only [Act.put,oZa,oZb,oZc]
    refine tK 4 ?_ (fun w' hw'=>?_) hH ?_
    rotate_left
    ·obtain ⟨r0,r1,r2,r3,r4,r5,r6,r7,r8,r9⟩:=z89M hw'
     go_simp<;>with_reducible rfl
    simp only [Act.put,oZa,oZb,oZc]
    refine tK 6 ?_ (fun w' hw'=>?_) hH ?_
    rotate_left
    ·obtain ⟨r0,r1,r2,r3,r4,r5,r6,r7,r8,r9⟩:=z89M hw'
     go_simp<;>with_reducible rfl
    simp only [Act.put,oZa,oZb,oZc]
    refine tK 7 ?_ (fun w' hw'=>?_) hH ?_
    rotate_left
    ·obtain ⟨r0,r1,r2,r3,r4,r5,r6,r7,r8,r9⟩:=z89M hw'
     go_simp<;>with_reducible rfl
    simp only [Act.put,oZa,oZb,oZc]
    refine stepL 2 rfl (by kernel_rfl) (fun K hK=>?_)
    go_simp
    go_at_call 75
    refine (zziy _ [] r.lsn 8 wc.heap.size wc.drew (OwnV.nil _ _) (Nat.le_refl wc.heap.size) I4.out.1 I4.out.2.1 (by decide) (by decide)).mono ?_
    rintro e w8 ⟨v8,rfl,ho8,hk8⟩
    have HO8:=qh ho8
    have K8:=qh (((Kept.refl (fun x=>wc.heap.size<=x) wc).drew).trans' hk8)
    have S8:=K8.out.heap S7 (by have:=zvKu S7;omega)
    clear ho8 hk8
    go_simp
    refine hK.out _ _ (fun _=>S8) (fun _=>?_)
    simp only [oZa,oZb,oZc]
    clear hK K
    refine stepL 5 rfl (by kernel_rfl) (fun K hK=>?_)
    go_simp
    go_at_call 75
    refine (zziy v8 _ r.turn 4 wc.heap.size _ HO8.out (by have:=K8.out.size;exact this) I4.out.2.2.1 I4.out.2.2.2 (by decide) (by simp [zmTu])).mono ?_
    rintro e w9 ⟨v9,rfl,ho9,hk9⟩
    have HO9:=qh ho9
    have K9:=qh (K8.out.trans' hk9)
    have S9:=K9.out.heap S7 (by have:=zvKu S7;omega)
    clear ho9 hk9 HO8 K8 S8
    go_simp
    refine hK.out _ _ (fun _=>S9) (fun _=>?_)
    simp only [oZa,oZb,oZc]
    clear hK K
    refine stepL 8 rfl (by kernel_rfl) (fun K hK=>?_)
    go_simp
    go_at_call 76
    refine (zbpk v9 _ ((bodyM r).length:Int) 2 wc.heap.size _ HO9.out (by have:=K9.out.size;exact this) (by omega) (by omega) (by decide) (by simp [zmTu])).mono ?_
    rintro e w10 ⟨v10,rfl,ho10,hk10⟩
    have HO10:=qh (show OwnV w10 wc.heap.size v10 (headM r) from by
     have e:=ho10
     rw [Int.toNat_natCast] at e
     unfold headM
     simpa using e)
    have K10:=qh (K9.out.trans' hk10)
    have S10:=K10.out.heap S7 (by have:=zvKu S7;omega)
    clear ho10 hk10 HO9 K9 S9
    go_simp
    refine hK.out _ _ (fun _=>S10) (fun _=>?_)
    simp only [oZa,oZb,oZc]
    clear hK K
    refine stepL 9 rfl (by kernel_rfl) (fun K hK=>?_)
    go_simp
    refine hK.out _ _ (fun _=>S10) (fun _=>?_)
    simp only [oZa,oZb,oZc]
    clear hK K
    refine doneL (by kernel_rfl) ?_ _
    obtain ⟨g10,k10,rfl⟩:∃ g k,v10=.slice (some ⟨g,0,none⟩) (headM r).length k:=by
     rcases HO10.out.form with ⟨_,h⟩ | ⟨g,cap,h,_⟩
     ·have:=zM7A r;rw [h] at this;simp at this
     ·exact ⟨g,cap,h⟩
    have ka:Kept (fun x=>wc.heap.size<=x) wc (w10.alloc (.cells #[.slice (some ⟨g10,0,none⟩) (headM r).length k10,.slice (some ⟨g4,0,none⟩) (bodyM r).length k4] 37)):=K10.out.alloc _
    have RB:=HO7.out.keep ka (fun x hx=>by have e:g4=x:=Option.some.inj hx;omega)
    have RH:=HO10.out.keep ((Kept.refl (fun _=>False) w10).alloc (.cells #[.slice (some ⟨g10,0,none⟩) (headM r).length k10,.slice (some ⟨g4,0,none⟩) (bodyM r).length k4] 37)) (fun _ _=>id)
    have HSM:=qh (zkf7 (some ⟨w10.heap.size,0,none⟩) 2 [⟨some ⟨g10,0,none⟩,headM r,k10⟩,⟨some ⟨g4,0,none⟩,bodyM r,k4⟩] (w10.alloc (.cells #[.slice (some ⟨g10,0,none⟩) (headM r).length k10,.slice (some ⟨g4,0,none⟩) (bodyM r).length k4] 37))
     (fun k s hs=>by
      match k,hs with
      | 0,hs=>cases hs;exact ⟨w10.heap.size,0,rfl,zcjX (heap_alloc_new w10 _) rfl,RH.rd⟩
      | 1,hs=>cases hs;exact ⟨w10.heap.size,0,rfl,zcjX (heap_alloc_new w10 _) rfl,RB.rd⟩) (by simp) (fun s hs=>by
       simp only [List.mem_cons,List.not_mem_nil,or_false] at hs
       rcases hs with rfl | rfl
       ·show (headM r).length<=_;rw [zM7A];decide
       ·show (bodyM r).length<=_;omega))
    have KA:=Lib.hid ka
    have RB2:=Lib.hid RB
    have RH2:=Lib.hid RH
    clear ka RB RH
    have EF:flatP [⟨some ⟨g10,0,none⟩,headM r,k10⟩,⟨some ⟨g4,0,none⟩,bodyM r,k4⟩]=headM r ++ bodyM r:=by simp [flatP]
    rw [EF] at HSM
    have HC:=qh (z2X7 (headM r ++ bodyM r))
    obtain ⟨C,eC⟩:∃ C,C=crcL (headM r ++ bodyM r):=⟨_,rfl⟩
    rw [<- eC] at HSM HC
    have EC:=Lib.hid eC
    clear EF eC
    go_wp2_with fail
    refine HSM.out.mono ?_
    rintro e w11 ⟨rfl,hw11⟩
    have K11:=qh (KA.out.trans0 (hw11.kept (fun _=>False)))
    have RB3:=qh (RB2.out.keep (hw11.kept (fun _=>False)) (fun _ _=>id))
    have RH3:=qh (RH2.out.keep (hw11.kept (fun _=>False)) (fun _ _=>id))
    clear hw11 HSM KA RB2 RH2
    go_wp2_with fail
    refine (z82E _ (headM r) (C:Int) 4 wc.heap.size _ RH3.out (by have:=K11.out.size;exact this) (by omega) (by have:=HC.out;omega) (by decide) (by rw [zM7A];decide)).mono ?_
    rintro e w12 ⟨v12,rfl,ho12,hk12⟩
    have HO12:=qh ho12
    have K12:=qh (K11.out.trans' hk12)
    have RB4:=qh (RB3.out.keep hk12 (fun x hx=>by have e:g4=x:=Option.some.inj hx;omega))
    clear ho12 hk12 RB3 RH3 K11
    go_wp2_with (at_builtin;refine z7Vm rfl _ _ rfl wc.heap.size v12 _ (bodyM r) rfl HO12.out (some ⟨g4,0,none⟩) k4 rfl RB4.out.rd (by rw [List.length_append,zM7A,zmTu];omega) (by have:=K12.out.size;exact this) ?_)
    intro v13 w13 ho13 hk13 _
    have K13:=K12.out.trans' (hk13.mono (fun x _ hx=>(HO12.out.base_le hx).1))
    have e13:headM r ++ (beN C 4 ++ bodyM r)=encM r:=by
     rw [EC.out]
     rfl
    rw [e13] at ho13
    have HO13:=qh ho13
    have KW:=qh (HK2.out.new (K7.out.trans K13 (fun x hx h=>by omega)) (fun x hx=>by have:=HK2.out.size;omega))
    clear ho13 hk13 K13 e13
    go_wp2
    go_ret2
    refine ⟨KW.out,fun _=>?_,fun h=>absurd HR.out h⟩
    rcases HO13.out.form with ⟨_,h⟩ | ⟨g,cap,rfl,h⟩
    ·have:=congrArg List.length h
     rw [z34p] at this
     simp at this
    ·have z1:=HK2.out.size
     have z2:=K7.out.size
     exact ⟨g,cap,rfl,OwnV.low (v:=.slice (some ⟨g,0,none⟩) (encM r).length cap) h (by omega)⟩
 ·have HRT2:=qh (show Calls Try.prog 73 #[.agg (recC r A1 c1 A2 c2)] w1 fun e w'=>e=.returned (.bool false)/\Kept (fun _=>False) w1 w' from by
   refine (HRT.out w1).mono ?_
   rintro e w' ⟨rfl,hk⟩
   exact ⟨by rw [decide_eq_false hR],hk⟩)
  have HR:=qh hR
  clear hR
  go_wp2_with (refine HRT2.out.mono ?_;rintro e w2 ⟨rfl,hk2⟩)
  go_ret2
  exact ⟨HK1.out.trans0 hk2,fun h=>absurd h HR.out,fun _=>rfl⟩
end Go.Proofs.Ytnbfhdgojmflhaa
