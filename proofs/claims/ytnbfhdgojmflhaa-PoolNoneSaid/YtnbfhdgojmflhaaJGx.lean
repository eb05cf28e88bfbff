/-
  No statement is proved here.
-/
import Derived.Test.YtnbfhdgojmflhaaJGw
import Derived.Deep.CutRange
namespace Go.Proofs.Ytnbfhdgojmflhaa
open Go.RowKit
set_option maxRecDepth 100000 in
set_option maxHeartbeats 4000000 in
theorem zkOY (A:Option Addr) (c:Nat) (b:Bytes) (w:World) (h:RdB w A b) (hc:b.length<=c) (hc2:c<=9223372036854775807) (hl:b.length<=1000000) :
  Calls Try.prog 47 #[.slice A b.length c] w (zLSY b w):=by
 have H:=qh h
 clear h
 have B0:=bR0'
 go_enter Try.func47,Try.ntmps47
 go_wp2_with (refine zNko rfl 78 rfl zRecC zzWm ?_)
 intro z w1 z1 z2 hb1 hk1
 have HZ1:=qh hb1
 have HK1:=qh hk1
 have HR1:=qh (H.out.kept hk1 (fun _ _ _ _=>id))
 clear hb1 hk1
 by_cases hs:b.length < 18
 ·go_wp2_with (refine zxQF rfl 78 _ _ rfl z zRecC _ rfl rfl HZ1.out zWmC rfl (zh6u _ _ _ _ _) ?_)
  intro w2 hb2 hk2
  have HK2:=qh (HK1.out.new hk2 (by rintro x rfl;exact z1))
  have HZ2:=qh hb2
  clear hb2 hk2
  go_wp2
  try simp only [Exit.inBlock,Exit.then]
  refine bodyPost_ret (z4H8 rfl _ _ z _ rfl HZ2.out Try.underlying78 rfl zWmC) rfl ?_
  exact zLSY.no HK2.out (zBRN hs)
 ·have hA:∃ a,A=some a:=by
   obtain ⟨bb,off,h,_⟩:=H.out (fun e=>by rw [e] at hs;exact hs (by decide))
   exact ⟨_,h⟩
  obtain ⟨a,rfl⟩:=hA
  have h18:18<=b.length:=by omega
  have HS:=qh hs
  have eN:sgn (valN ((b.drop 12).take 2) 0)=((gN b:Nat):Int):=zPu5 (by decide)
  have EN:=Lib.hid eN
  have hN:gN b < 65536:=by
   have h1:=zEqO (cut b 12 2)
   rw [z08T b 12 2 (by omega)] at h1
   exact h1
  clear hs eN
  obtain ⟨n,hn⟩:∃ n,n=gN b:=⟨_,rfl⟩
  rw [<- hn] at hN EN
  have HN:=qh hn
  clear hn
  go_wp2_with (first
   | (refine z3Ho rfl (z6mH _ 12 rfl (some a) b.length c rfl rfl (by omega) _) ?_)
   | (go_at_call 71;refine (ze6V _ _ _ (b.drop 12) 2 _ (by rw [List.length_drop]) (HR1.out.sl 12 c hc) (by decide) (by omega) (by omega)).mono ?_;rw [EN.out];rintro e wx ⟨rfl,rfl⟩))
  go_cut [39] from 16 to 39 (fun v wx=>v=.bool (decide (gBad b))/\Kept (fun _=>False) w1 wx)
  case first=>
   have e18:IntKind.i64.wrap ((b.length:Int) - 18)=(b.length:Int) - 18:=by rw [IntKind.wrap_i64];omega
   by_cases c1:(b.length:Int) - 18 < (n:Int)
   ·refine znCh 23 (fun w'=>Kept (fun _=>False) w1 w') (by kernel_rfl) (Kept.refl _ w1).drew (fun hH=>?_)
    simp only [List.length_cons,List.length_nil,List.replicate]
    refine tK 0 ?_ (fun w' hw'=>?_) hH ?_
    rotate_left
    ·skip
     go_simp<;>with_reducible rfl
    simp only [Act.put,oZa,oZb,oZc]
    refine tK 1 ?_ (fun w' hw'=>?_) hH ?_
    rotate_left
    ·skip
     go_simp<;>with_reducible rfl
    simp only [Act.put,oZa,oZb,oZc]
    refine tK 2 ?_ (fun w' hw'=>?_) hH ?_
    rotate_left
    ·skip
     go_simp<;>with_reducible rfl
    simp only [Act.put,oZa,oZb,oZc]
    refine tK 3 ?_ (fun w' hw'=>?_) hH ?_
    rotate_left
    ·skip
     go_simp<;>with_reducible rfl
    simp only [Act.put,oZa,oZb,oZc]
    refine tK 4 ?_ (fun w' hw'=>?_) hH ?_
    rotate_left
    ·skip
     go_simp<;>with_reducible rfl
    simp only [Act.put,oZa,oZb,oZc]
    refine tK 5 ?_ (fun w' hw'=>?_) hH ?_
    rotate_left
    ·skip
     go_simp<;>with_reducible rfl
    simp only [Act.put,oZa,oZb,oZc]
    refine skipL 6 rfl (by kernel_rfl) (fun _ _ _ h=>h) (by rfl) hH ?_
    simp only [Act.put,oZa,oZb,oZc]
    refine skipL 7 rfl (by kernel_rfl) (fun _ _ _ h=>h) (by rfl) hH ?_
    simp only [Act.put,oZa,oZb,oZc]
    refine tK 8 ?_ (fun w' hw'=>?_) hH ?_
    rotate_left
    ·skip
     go_simp<;>with_reducible rfl
    simp only [Act.put,oZa,oZb,oZc]
    refine tK 9 ?_ (fun w' hw'=>?_) hH ?_
    rotate_left
    ·skip
     go_simp<;>with_reducible rfl
    simp only [Act.put,oZa,oZb,oZc]
    refine skipL 10 rfl (by kernel_rfl) (fun _ _ _ h=>h) (by rfl) hH ?_
    simp only [Act.put,oZa,oZb,oZc]
    refine skipL 11 rfl (by kernel_rfl) (fun _ _ _ h=>h) (by rfl) hH ?_
    simp only [Act.put,oZa,oZb,oZc]
    refine skipL 12 rfl (by kernel_rfl) (fun _ _ _ h=>h) (by rfl) hH ?_
    simp only [Act.put,oZa,oZb,oZc]
    refine skipL 13 rfl (by kernel_rfl) (fun _ _ _ h=>h) (by rfl) hH ?_
    simp only [Act.put,oZa,oZb,oZc]
    refine skipL 14 rfl (by kernel_rfl) (fun _ _ _ h=>h) (by rfl) hH ?_
    simp only [Act.put,oZa,oZb,oZc]
    refine skipL 15 rfl (by kernel_rfl) (fun _ _ _ h=>h) (by rfl) hH ?_
    simp only [Act.put,oZa,oZb,oZc]
    refine skipL 16 rfl (by kernel_rfl) (fun _ _ _ h=>h) (by rfl) hH ?_
    simp only [Act.put,oZa,oZb,oZc]
    refine skipL 17 rfl (by kernel_rfl) (fun _ _ _ h=>h) (by rfl) hH ?_
    simp only [Act.put,oZa,oZb,oZc]
    refine skipL 18 rfl (by kernel_rfl) (fun _ _ _ h=>h) (by rfl) hH ?_
    simp only [Act.put,oZa,oZb,oZc]
    refine skipL 19 rfl (by kernel_rfl) (fun _ _ _ h=>h) (by rfl) hH ?_
    simp only [Act.put,oZa,oZb,oZc]
    refine skipL 20 rfl (by kernel_rfl) (fun _ _ _ h=>h) (by rfl) hH ?_
    simp only [Act.put,oZa,oZb,oZc]
    refine skipL 21 rfl (by kernel_rfl) (fun _ _ _ h=>h) (by rfl) hH ?_
    simp only [Act.put,oZa,oZb,oZc]
    refine skipL 22 rfl (by kernel_rfl) (fun _ _ _ h=>h) (by rfl) hH ?_
    simp only [Act.put,oZa,oZb,oZc]
    refine stepL 23 rfl (by kernel_rfl) (fun K hK=>?_)
    go_simp
    refine hK.out _ _ (fun _=>hH) (fun _=>?_)
    simp only [oZa,oZb,oZc]
    clear hK K
    refine doneL (by kernel_rfl) ?_ _
    go_wp2
    go_meet
    case rel=>exact ⟨zhHT (.inl (by rw [<- HN.out];omega)),hH⟩
   ·by_cases c2:(n:Int) < 17
    ·refine znCh 23 (fun w'=>Kept (fun _=>False) w1 w') (by kernel_rfl) (Kept.refl _ w1).drew (fun hH=>?_)
     simp only [List.length_cons,List.length_nil,List.replicate]
     refine tK 0 ?_ (fun w' hw'=>?_) hH ?_
     rotate_left
     ·skip
      go_simp<;>with_reducible rfl
     simp only [Act.put,oZa,oZb,oZc]
     refine tK 1 ?_ (fun w' hw'=>?_) hH ?_
     rotate_left
     ·skip
      go_simp<;>with_reducible rfl
     simp only [Act.put,oZa,oZb,oZc]
     refine tK 2 ?_ (fun w' hw'=>?_) hH ?_
     rotate_left
     ·skip
      go_simp<;>with_reducible rfl
     simp only [Act.put,oZa,oZb,oZc]
     refine tK 3 ?_ (fun w' hw'=>?_) hH ?_
     rotate_left
     ·skip
      go_simp<;>with_reducible rfl
     simp only [Act.put,oZa,oZb,oZc]
     refine tK 4 ?_ (fun w' hw'=>?_) hH ?_
     rotate_left
     ·skip
      go_simp<;>with_reducible rfl
     simp only [Act.put,oZa,oZb,oZc]
     refine tK 5 ?_ (fun w' hw'=>?_) hH ?_
     rotate_left
     ·skip
      go_simp<;>with_reducible rfl
     simp only [Act.put,oZa,oZb,oZc]
     refine tK 6 ?_ (fun w' hw'=>?_) hH ?_
     rotate_left
     ·skip
      go_simp<;>with_reducible rfl
     simp only [Act.put,oZa,oZb,oZc]
     refine tK 7 ?_ (fun w' hw'=>?_) hH ?_
     rotate_left
     ·skip
      go_simp<;>with_reducible rfl
     simp only [Act.put,oZa,oZb,oZc]
     refine tK 8 ?_ (fun w' hw'=>?_) hH ?_
     rotate_left
     ·skip
      go_simp<;>with_reducible rfl
     simp only [Act.put,oZa,oZb,oZc]
     refine tK 9 ?_ (fun w' hw'=>?_) hH ?_
     rotate_left
     ·skip
      go_simp<;>with_reducible rfl
     simp only [Act.put,oZa,oZb,oZc]
     refine skipL 10 rfl (by kernel_rfl) (fun _ _ _ h=>h) (by rfl) hH ?_
     simp only [Act.put,oZa,oZb,oZc]
     refine skipL 11 rfl (by kernel_rfl) (fun _ _ _ h=>h) (by rfl) hH ?_
     simp only [Act.put,oZa,oZb,oZc]
     refine skipL 12 rfl (by kernel_rfl) (fun _ _ _ h=>h) (by rfl) hH ?_
     simp only [Act.put,oZa,oZb,oZc]
     refine skipL 13 rfl (by kernel_rfl) (fun _ _ _ h=>h) (by rfl) hH ?_
     simp only [Act.put,oZa,oZb,oZc]
     refine skipL 14 rfl (by kernel_rfl) (fun _ _ _ h=>h) (by rfl) hH ?_
     simp only [Act.put,oZa,oZb,oZc]
     refine skipL 15 rfl (by kernel_rfl) (fun _ _ _ h=>h) (by rfl) hH ?_
     simp only [Act.put,oZa,oZb,oZc]
     refine skipL 16 rfl (by kernel_rfl) (fun _ _ _ h=>h) (by rfl) hH ?_
     simp only [Act.put,oZa,oZb,oZc]
     refine skipL 17 rfl (by kernel_rfl) (fun _ _ _ h=>h) (by rfl) hH ?_
     simp only [Act.put,oZa,oZb,oZc]
     refine skipL 18 rfl (by kernel_rfl) (fun _ _ _ h=>h) (by rfl) hH ?_
     simp only [Act.put,oZa,oZb,oZc]
     refine skipL 19 rfl (by kernel_rfl) (fun _ _ _ h=>h) (by rfl) hH ?_
     simp only [Act.put,oZa,oZb,oZc]
     refine skipL 20 rfl (by kernel_rfl) (fun _ _ _ h=>h) (by rfl) hH ?_
     simp only [Act.put,oZa,oZb,oZc]
     refine skipL 21 rfl (by kernel_rfl) (fun _ _ _ h=>h) (by rfl) hH ?_
     simp only [Act.put,oZa,oZb,oZc]
     refine skipL 22 rfl (by kernel_rfl) (fun _ _ _ h=>h) (by rfl) hH ?_
     simp only [Act.put,oZa,oZb,oZc]
     refine stepL 23 rfl (by kernel_rfl) (fun K hK=>?_)
     go_simp
     refine hK.out _ _ (fun _=>hH) (fun _=>?_)
     simp only [oZa,oZb,oZc]
     clear hK K
     refine doneL (by kernel_rfl) ?_ _
     go_wp2
     go_meet
     case rel=>exact ⟨zhHT (.inr (.inl (by rw [<- HN.out];omega))),hH⟩
    ·have h1:18+n<=b.length:=by omega
     have h2:18+n<=c:=by omega
     have h17:17<=n:=by omega
     have e18n:IntKind.i64.wrap (18+(n:Int))=18+(n:Int):=by rw [IntKind.wrap_i64];omega
     have hV:valN ((b.drop 14).take 4) 0 < 4294967296:=by
      have h1:=zEqO (cut b 14 4)
      rw [z08T b 14 4 (by omega)] at h1
      exact h1
     obtain ⟨V,hVV⟩:∃ V,V=valN ((b.drop 14).take 4) 0:=⟨_,rfl⟩
     rw [<- hVV] at hV
     have EV:=qh (show sgn (valN ((b.drop 14).take 4) 0)=(V:Int) from by rw [hVV];exact zPu5 (by decide))
     have HVV:=qh hVV
     clear hVV
     have eW:(V:Int) % 4294967296=(V:Int):=by omega
     have HRW:=qh (fun (w':World) (hk:Kept (fun _=>False) w1 w')=>HR1.out.kept hk (fun _ _ _ _=>id))
     refine znCh 23 (fun w'=>Kept (fun _=>False) w1 w') (by kernel_rfl) (Kept.refl _ w1).drew (fun hH=>?_)
     simp only [List.length_cons,List.length_nil,List.replicate]
     refine tK 0 ?_ (fun w' hw'=>?_) hH ?_
     rotate_left
     ·skip
      go_simp<;>with_reducible rfl
     simp only [Act.put,oZa,oZb,oZc]
     refine tK 1 ?_ (fun w' hw'=>?_) hH ?_
     rotate_left
     ·skip
      go_simp<;>with_reducible rfl
     simp only [Act.put,oZa,oZb,oZc]
     refine tK 2 ?_ (fun w' hw'=>?_) hH ?_
     rotate_left
     ·skip
      go_simp<;>with_reducible rfl
     simp only [Act.put,oZa,oZb,oZc]
     refine tK 3 ?_ (fun w' hw'=>?_) hH ?_
     rotate_left
     ·skip
      go_simp<;>with_reducible rfl
     simp only [Act.put,oZa,oZb,oZc]
     refine tK 4 ?_ (fun w' hw'=>?_) hH ?_
     rotate_left
     ·skip
      go_simp<;>with_reducible rfl
     simp only [Act.put,oZa,oZb,oZc]
     refine tK 5 ?_ (fun w' hw'=>?_) hH ?_
     rotate_left
     ·skip
      go_simp<;>with_reducible rfl
     simp only [Act.put,oZa,oZb,oZc]
     refine tK 6 ?_ (fun w' hw'=>?_) hH ?_
     rotate_left
     ·skip
      go_simp<;>with_reducible rfl
     simp only [Act.put,oZa,oZb,oZc]
     refine tK 7 ?_ (fun w' hw'=>?_) hH ?_
     rotate_left
     ·skip
      go_simp<;>with_reducible rfl
     simp only [Act.put,oZa,oZb,oZc]
     refine tK 8 ?_ (fun w' hw'=>?_) hH ?_
     rotate_left
     ·skip
      go_simp<;>with_reducible rfl
     simp only [Act.put,oZa,oZb,oZc]
     refine tK 9 ?_ (fun w' hw'=>?_) hH ?_
     rotate_left
     ·skip
      go_simp<;>with_reducible rfl
     simp only [Act.put,oZa,oZb,oZc]
     refine tK 10 ?_ (fun w' hw'=>?_) hH ?_
     rotate_left
     ·skip
      go_simp<;>with_reducible rfl
     simp only [Act.put,oZa,oZb,oZc]
     refine tK 14 ?_ (fun w' hw'=>?_) hH ?_
     rotate_left
     ·skip
      go_simp<;>with_reducible rfl
     simp only [Act.put,oZa,oZb,oZc]
     refine tK 16 ?_ (fun w' hw'=>?_) hH ?_
     rotate_left
     ·skip
      go_simp<;>with_reducible rfl
     simp only [Act.put,oZa,oZb,oZc]
     refine tK 17 ?_ (fun w' hw'=>?_) hH ?_
     rotate_left
     ·skip
      go_simp<;>with_reducible rfl
     simp only [Act.put,oZa,oZb,oZc]
     refine tK 18 ?_ (fun w' hw'=>?_) hH ?_
     rotate_left
     ·skip
      go_simp<;>with_reducible rfl
     simp only [Act.put,oZa,oZb,oZc]
     refine takeL 11 (.slice (slA (some a) 14 c) (b.length - 14) (c - 14)) rfl (by kernel_rfl) (fun _ _ _ h=>h) (by rfl) (fun w' _=>z6mH _ 14 rfl (some a) b.length c rfl rfl (by omega) w') hH ?_
     simp only [Act.put,oZa,oZb,oZc]
     refine takeL 15 (.slice (slA (some a) 0 c) 14 c) rfl (by kernel_rfl) (fun _ _ _ h=>h) (by rfl) (fun w' _=>zdzR _ _ 14 rfl (some a) b.length c 14 rfl rfl rfl (by omega) w') hH ?_
     simp only [Act.put,oZa,oZb,oZc]
     refine takeL 19 (.slice (slA (some a) 18 c) n (c - 18)) rfl (by kernel_rfl) (fun _ _ _ h=>h) (by rfl) (fun w' _=>z7md _ _ _ 18 (18+n) n rfl (some a) b.length c (18+(n:Int)) rfl rfl rfl (by omega) (by omega) (by omega) (by omega) rfl w') hH ?_
     simp only [Act.put,oZa,oZb,oZc]
     refine takeC 12 (.int .i64 (V:Int)) rfl (by kernel_rfl) (fun _ _ _ h=>h) (by rfl) (by intro h;cases h) 71 #[.slice (slA (some a) 14 c) (b.length - 14) (c - 14),.int .i64 4] (fun w' _=>by go_simp) (fun w' hw'=>by
      have:=ze6V (slA (some a) 14 c) (b.length - 14) (c - 14) (b.drop 14) 4 w' (by rw [List.length_drop]) ((HRW.out w' hw').sl 14 c hc) (by decide) (by omega) (by omega)
      rwa [EV.out] at this) hH ?_
     simp only [Act.put,oZa,oZb,oZc]
     have eW2:IntKind.u32.wrap (V:Int)=(V:Int):=by
      have wr:∀ n:Int,IntKind.u32.wrap n=n % 4294967296:=fun n=>by simp [IntKind.wrap,IntKind.bits,IntKind.signed]
      rw [wr];omega
     refine tK 13 ?_ (fun w' hw'=>?_) hH ?_
     rotate_left
     ·skip
      go_simp<;>with_reducible rfl
     simp only [Act.put,oZa,oZb,oZc]
     have ka:Kept (fun _=>False) w1 (w1.drew.alloc (.cells #[.slice (slA (some a) 0 c) 14 c,.slice (slA (some a) 18 c) n (c - 18)] 37)):=hH.alloc _
     have l1:(b.take 14).length=14:=by rw [List.length_take];omega
     have l2:(gBody b).length=n:=by unfold gBody;rw [z08T _ _ _ (by rw [<- HN.out];omega),<- HN.out]
     have r1:RdB (w1.drew.alloc (.cells #[.slice (slA (some a) 0 c) 14 c,.slice (slA (some a) 18 c) n (c - 18)] 37)) (slA (some a) 0 c) (b.take 14):=((HRW.out _ ka).sl 0 c hc).takeG 14
     have r2:RdB (w1.drew.alloc (.cells #[.slice (slA (some a) 0 c) 14 c,.slice (slA (some a) 18 c) n (c - 18)] 37)) (slA (some a) 18 c) (gBody b):=((HRW.out _ ka).sl 18 c hc).takeG (gN b)
     have HSM:=qh (zUcy (some ⟨w1.heap.size,0,none⟩) 2 [⟨slA (some a) 0 c,b.take 14,c⟩,⟨slA (some a) 18 c,gBody b,c - 18⟩] (w1.drew.alloc (.cells #[.slice (slA (some a) 0 c) 14 c,.slice (slA (some a) 18 c) n (c - 18)] 37))
      (fun k s hs=>by
       match k,hs with
       | 0,hs=>cases hs;exact ⟨w1.heap.size,0,rfl,(zcjX (heap_alloc_new w1.drew _) rfl:_=some (.slice (slA (some a) 0 c) 14 c)).trans (by unfold ptVal;rw [l1]),r1⟩
       | 1,hs=>cases hs;exact ⟨w1.heap.size,0,rfl,(zcjX (heap_alloc_new w1.drew _) rfl:_=some (.slice (slA (some a) 18 c) n (c - 18))).trans (by unfold ptVal;rw [l2]),r2⟩) (by simp) (fun s hs=>by
        simp only [List.mem_cons,List.not_mem_nil,or_false] at hs
        rcases hs with rfl | rfl
        ·show (b.take 14).length<=_;omega
        ·show (gBody b).length<=_;omega))
     have EF:flatP [⟨slA (some a) 0 c,b.take 14,c⟩,⟨slA (some a) 18 c,gBody b,c - 18⟩]=b.take 14 ++ gBody b:=by simp [flatP]
     rw [EF] at HSM
     obtain ⟨C,eC⟩:∃ C,C=crcL (b.take 14 ++ gBody b):=⟨_,rfl⟩
     rw [<- eC] at HSM
     have EC:=Lib.hid eC
     have KA:=Lib.hid ka
     clear EF eC l1 l2 r1 r2
     have hne:(((V:Int) != (C:Int))=decide (gBad b)):=by
      have e1:gBad b↔V≠C:=by
       rw [EC.out,HVV.out]
       refine ⟨fun h=>?_,fun h=>.inr (.inr h)⟩
       rcases h with h | h | h
       ·rw [<- HN.out] at h;omega
       ·rw [<- HN.out] at h;omega
       ·exact h
      rw [Bool.eq_iff_iff,bne_iff_ne,decide_eq_true_iff,e1]
      omega
     have HNE:=qh hne
     clear hne
     refine stepL 20 rfl (by kernel_rfl) (fun K hK=>?_)
     go_simp
     refine hK.out _ _ (fun _=>ka) (fun _=>?_)
     simp only [oZa,oZb,oZc]
     clear hK K
     refine stepL 21 rfl (by kernel_rfl) (fun K hK=>?_)
     go_simp
     go_at_call 72
     refine HSM.out.mono ?_
     rintro e wx ⟨rfl,rfl⟩
     go_simp
     refine hK.out _ _ (fun _=>ka) (fun _=>?_)
     simp only [oZa,oZb,oZc]
     clear hK K
     refine tK 22 ?_ (fun w' hw'=>?_) ka ?_
     rotate_left
     ·skip
      go_simp<;>with_reducible rfl
     simp only [Act.put,oZa,oZb,oZc]
     refine stepL 23 rfl (by kernel_rfl) (fun K hK=>?_)
     go_simp
     refine hK.out _ _ (fun _=>ka) (fun _=>?_)
     simp only [oZa,oZb,oZc]
     clear hK K
     refine doneL (by kernel_rfl) ?_ _
     go_wp2
     go_meet
     case rel=>exact ⟨by rw [HNE.out],KA.out⟩
  case rest=>
   obtain ⟨rfl,hkc⟩:=hcut
   have HKc:=qh (HK1.out.trans0 hkc)
   have HZc:=qh (hkc.heap HZ1.out id)
   clear hkc HZ1 HK1 HR1
   by_cases hg:gBad b
   ·go_wp2_with (refine zxQF rfl 78 _ _ rfl z zRecC _ rfl rfl HZc.out zWmC rfl (zh6u _ _ _ _ _) ?_)
    intro w2 hb2 hk2
    have HK2:=qh (HKc.out.new hk2 (by rintro x rfl;exact z1))
    have HZ2:=qh hb2
    clear hb2 hk2
    go_wp2
    try simp only [Exit.inBlock,Exit.then]
    refine bodyPost_ret (z4H8 rfl _ _ z _ rfl HZ2.out Try.underlying78 rfl zWmC) rfl ?_
    exact zLSY.no HK2.out (zEbe hg)
   ·obtain ⟨bb,off,hA,hcells⟩:=H.out (fun e=>by rw [e] at h18;exact absurd h18 (by decide))
    obtain rfl:=Option.some.inj hA
    clear hA hcells
    have g1:18+n<=b.length:=by
     have:¬ (b.length - 18 < gN b):=fun h=>hg (.inl h)
     rw [<- HN.out] at this;omega
    have g2:17<=n:=by
     have:¬ (gN b < 17):=fun h=>hg (.inr (.inl h))
     rw [<- HN.out] at this;omega
    have ET:=qh (zsCd HS.out hg)
    have h2:18+n<=c:=by omega
    have e18n:IntKind.i64.wrap (18+(n:Int))=18+(n:Int):=by rw [IntKind.wrap_i64];omega
    have eA:slA (some ⟨bb,off,none⟩) 18 c=some ⟨bb,off+18,none⟩:=by
     unfold slA
     rw [if_neg (by omega)]
     show some ((⟨bb,off,none⟩:Addr).add (18*1))=_
     rw [Addr.add_mid]
    have lB:(gBody b).length=n:=by unfold gBody;rw [z08T _ _ _ (by rw [<- HN.out];omega),<- HN.out]
    have HRB:=qh (fun (w':World) (hk:Kept (fun _=>False) w w')=>show RdB w' (some ⟨bb,off+18,none⟩) (gBody b) from by
     rw [<- eA]
     exact ((H.out.kept hk (fun _ _ _ _=>id)).sl 18 c hc).takeG (gN b))
    have HRW:=qh (fun (w':World) (hk:Kept (fun _=>False) w w')=>H.out.kept hk (fun _ _ _ _=>id))
    have LB:=Lib.hid lB
    have EA:=Lib.hid eA
    have HG:=qh hg
    clear eA hg lB
    go_wp2_with (refine z3Ho rfl (z7md _ _ _ 18 (18+n) n rfl (some ⟨bb,off,none⟩) b.length c (18+(n:Int)) rfl rfl rfl (by omega) (by omega) (by omega) (by omega) EA.out _) ?_)
    obtain ⟨R0,hR0⟩:∃ R,R=gR0 b:=⟨_,rfl⟩
    have v1:sgn (valN (b.take 8) 0)=R0.lsn:=by rw [hR0];rfl
    have v2:sgn (valN ((b.drop 8).take 4) 0)=R0.turn:=by rw [hR0,zPu5 (by decide)];rfl
    have v3:sgn (valN (((gBody b).drop 1).take 8) 0)=R0.tx:=by rw [hR0];rfl
    have v4:sgn (valN (((gBody b).drop 9).take 8) 0)=R0.prev:=by rw [hR0];rfl
    have vk:bAt (gBody b) 0=R0.kind:=by rw [hR0];rfl
    have vc:(#[.int .i64 R0.lsn,.int .i64 R0.turn,.int .u8 R0.kind.toNat,.int .i64 R0.tx,.int .i64 R0.prev,.int .i64 0,.int .i64 0,.int .i64 0,.slice none 0 0,.slice none 0 0]:Array Value)=recC R0 none 0 none 0:=by rw [hR0];rfl
    have hcellk:∀ w',Kept (fun _=>False) w w'->w'.cell? ⟨bb,off+18,none⟩=some (.int .u8 R0.kind.toNat):=fun w' hk=>by
     obtain ⟨b2,o2,e2,h2⟩:=(HRB.out w' hk).cell (k:=0) (by rw [LB.out];omega)
     cases e2
     rw [vk] at h2
     exact h2
    have HCK:=qh hcellk
    have V1:=Lib.hid v1
    have V2:=Lib.hid v2
    have V3:=Lib.hid v3
    have V4:=Lib.hid v4
    have VC:=Lib.hid vc
    have HR0:=qh hR0
    clear hcellk v1 v2 v3 v4 vk vc hR0
    refine znCh 16 (fun w'=>Kept (fun _=>False) w w') (by kernel_rfl) HKc.out.drew (fun hH=>?_)
    simp only [List.length_cons,List.length_nil,List.replicate]
    refine tK 0 ?_ (fun w' hw'=>?_) hH ?_
    rotate_left
    ·skip
     go_simp<;>with_reducible rfl
    simp only [Act.put,oZa,oZb,oZc]
    refine tK 2 ?_ (fun w' hw'=>?_) hH ?_
    rotate_left
    ·skip
     go_simp<;>with_reducible rfl
    simp only [Act.put,oZa,oZb,oZc]
    refine tK 5 ?_ (fun w' hw'=>?_) hH ?_
    rotate_left
    ·skip
     go_simp<;>with_reducible rfl
    simp only [Act.put,oZa,oZb,oZc]
    refine tK 8 ?_ (fun w' hw'=>?_) hH ?_
    rotate_left
    ·skip
     go_simp<;>with_reducible rfl
    simp only [Act.put,oZa,oZb,oZc]
    refine tK 11 ?_ (fun w' hw'=>?_) hH ?_
    rotate_left
    ·skip
     go_simp<;>with_reducible rfl
    simp only [Act.put,oZa,oZb,oZc]
    refine takeL 3 (.slice (slA (some ⟨bb,off,none⟩) 8 c) (b.length - 8) (c - 8)) rfl (by kernel_rfl) (fun _ _ _ h=>h) (by rfl) (fun w' _=>z6mH _ 8 rfl (some ⟨bb,off,none⟩) b.length c rfl rfl (by omega) w') hH ?_
    simp only [Act.put,oZa,oZb,oZc]
    refine takeL 9 (.slice (slA (some ⟨bb,off+18,none⟩) 1 (c - 18)) (n - 1) (c - 18 - 1)) rfl (by kernel_rfl) (fun _ _ _ h=>h) (by rfl) (fun w' _=>z6mH _ 1 rfl (some ⟨bb,off+18,none⟩) n (c - 18) rfl rfl (by omega) w') hH ?_
    simp only [Act.put,oZa,oZb,oZc]
    refine takeL 12 (.slice (slA (some ⟨bb,off+18,none⟩) 9 (c - 18)) (n - 9) (c - 18 - 9)) rfl (by kernel_rfl) (fun _ _ _ h=>h) (by rfl) (fun w' _=>z6mH _ 9 rfl (some ⟨bb,off+18,none⟩) n (c - 18) rfl rfl (by omega) w') hH ?_
    simp only [Act.put,oZa,oZb,oZc]
    refine takeC 1 (.int .i64 R0.lsn) rfl (by kernel_rfl) (fun _ _ _ h=>h) (by rfl) (by intro h;cases h) 71 #[.slice (some ⟨bb,off,none⟩) b.length c,.int .i64 8] (fun w' _=>by go_simp) (fun w' hw'=>by
     have:=ze6V (some ⟨bb,off,none⟩) b.length c b 8 w' rfl (HRW.out w' hw') (by decide) (by omega) (by omega)
     rwa [V1.out] at this) hH ?_
    simp only [Act.put,oZa,oZb,oZc]
    refine takeC 4 (.int .i64 R0.turn) rfl (by kernel_rfl) (fun _ _ _ h=>h) (by rfl) (by intro h;cases h) 71 #[.slice (slA (some ⟨bb,off,none⟩) 8 c) (b.length - 8) (c - 8),.int .i64 4] (fun w' _=>by go_simp) (fun w' hw'=>by
     have:=ze6V _ (b.length - 8) (c - 8) (b.drop 8) 4 w' (by rw [List.length_drop]) ((HRW.out w' hw').sl 8 c hc) (by decide) (by omega) (by omega)
     rwa [V2.out] at this) hH ?_
    simp only [Act.put,oZa,oZb,oZc]
    refine takeC 10 (.int .i64 R0.tx) rfl (by kernel_rfl) (fun _ _ _ h=>h) (by rfl) (by intro h;cases h) 71 #[.slice (slA (some ⟨bb,off+18,none⟩) 1 (c - 18)) (n - 1) (c - 18 - 1),.int .i64 8] (fun w' _=>by go_simp) (fun w' hw'=>by
     have:=ze6V _ (n - 1) (c - 18 - 1) ((gBody b).drop 1) 8 w' (by rw [List.length_drop,LB.out]) ((HRB.out w' hw').sl 1 (c - 18) (by rw [LB.out];omega)) (by decide) (by omega) (by omega)
     rwa [V3.out] at this) hH ?_
    simp only [Act.put,oZa,oZb,oZc]
    refine takeC 13 (.int .i64 R0.prev) rfl (by kernel_rfl) (fun _ _ _ h=>h) (by rfl) (by intro h;cases h) 71 #[.slice (slA (some ⟨bb,off+18,none⟩) 9 (c - 18)) (n - 9) (c - 18 - 9),.int .i64 8] (fun w' _=>by go_simp) (fun w' hw'=>by
     have:=ze6V _ (n - 9) (c - 18 - 9) ((gBody b).drop 9) 8 w' (by rw [List.length_drop,LB.out]) ((HRB.out w' hw').sl 9 (c - 18) (by rw [LB.out];omega)) (by decide) (by omega) (by omega)
     rwa [V4.out] at this) hH ?_
    simp only [Act.put,oZa,oZb,oZc]
    have n0:0 < n:=by omega
    refine tK 6 ?_ (fun w' hw'=>?_) hH ?_
    rotate_left
    ·skip
     go_simp<;>with_reducible rfl
    simp only [Act.put,oZa,oZb,oZc]
    refine takeL 7 (.int .u8 R0.kind.toNat) rfl (by kernel_rfl) (fun _ _ _ h=>h) (by rfl) (fun w' hw'=>?_) hH ?_
    ·have:=HCK.out w' hw'
     go_simp
    simp only [Act.put,oZa,oZb,oZc]
    refine takeL 14 (.agg (recC R0 none 0 none 0)) rfl (by kernel_rfl) (fun _ _ _ h=>h) (by rfl) (fun w' _=>?_) hH ?_
    ·rw [<- VC.out]
     have B5:=bR5 R0.lsn R0.turn R0.kind.toNat R0.tx R0.prev w'
     clear B0
     go_simp
    simp only [Act.put,oZa,oZb,oZc]
    have Z0:=zzWm
    have ka:Kept (fun _=>False) w (wc.drew.alloc (.cells zRecC 78)):=hH.alloc _
    have wcs:=HKc.out.size
    refine stepL 15 rfl (by kernel_rfl) (fun K hK=>?_)
    go_simp
    refine hK.out _ _ (fun _=>ka) (fun _=>?_)
    simp only [oZa,oZb,oZc]
    clear hK K Z0
    refine stepL 16 rfl (by kernel_rfl) (fun K hK=>?_)
    refine zSwC rfl 78 _ _ (by rfl) wc.heap.size (recC R0 none 0 none 0) zRecC (by rfl) (by rfl) (heap_alloc_new wc.drew _) zWmC rfl (zh6u _ _ _ _ _) ?_
    intro w8 hb8 hk8
    have HY8:=qh hb8
    have HZ8:=qh (hk8.heap (((Kept.refl (fun _=>False) wc).drew.alloc (.cells zRecC 78)).heap HZc.out id) (by have:=zvKu HZc.out;omega))
    have HK8:=qh (ka.new hk8 (by rintro x rfl;exact wcs))
    clear hb8 hk8 ka
    refine hK.out _ _ (fun _=>HK8.out) (fun _=>?_)
    simp only [Act.put,oZa,oZb,oZc]
    clear hK K
    refine doneL (by kernel_rfl) ?_ _
    obtain ⟨y,hy⟩:∃ y,y=wc.heap.size:=⟨_,rfl⟩
    rw [<- hy] at HY8 ⊢
    have zy:w.heap.size<=y/\z < y:=by have:=zvKu HZc.out;omega
    clear hy HKc HZc
    have ck:w8.cell? ⟨y,2,none⟩=some (.int .u8 R0.kind.toNat):=zcjX HY8.out rfl
    have hkk:R0.kind=gKind b:=by rw [HR0.out];rfl
    have lR:(gRest b).length=n - 17:=by unfold gRest;rw [List.length_drop,LB.out]
    have HRR:=qh (fun (w':World) (hk:Kept (fun _=>False) w w')=>(HRB.out w' hk).sl 17 (c - 18) (by rw [LB.out];omega))
    have LR:=Lib.hid lR
    have HKK:=qh hkk
    clear hkk lR B0 V1 V2 V3 V4 VC HCK EA
    go_upto_region 9 with (refine z3Ho rfl (z6mH _ 17 rfl (some ⟨bb,off+18,none⟩) n (c - 18) rfl rfl (by omega) _) ?_)
    go_cut [69] from 62 to 69 (fun v wx=>v=.bool (decide (gUn b))/\w8=wx)
    case first=>
     by_cases k2:(R0.kind.toNat:Int)=2
     ·have hk2:((R0.kind.toNat:Int) == 2)=true:=by rw [k2];rfl
      have e2:gKind b=2:=by rw [<- HKK.out];exact UInt8.toNat_inj.1 (by have:(2:UInt8).toNat=2:=rfl;omega)
      have E2:=Lib.hid e2
      clear e2 k2
      by_cases h8:((n - 17:Nat):Int) < 8
      ·have h8':¬ (8:Int)<=((n - 17:Nat):Int):=by omega
       have h8d:decide ((8:Int)<=((n - 17:Nat):Int))=false:=decide_eq_false h8'
       go_wp2
       go_meet
       case rel=>exact ⟨zXIZ (fun h=>by have:=h.2;rw [LR.out] at this;omega),rfl⟩
      ·have h8':(8:Int)<=((n - 17:Nat):Int):=by omega
       have h8d:decide ((8:Int)<=((n - 17:Nat):Int))=true:=decide_eq_true h8'
       go_wp2
       go_meet
       case rel=>exact ⟨zhHT ⟨E2.out,by rw [LR.out];omega⟩,rfl⟩
     ·have hk2:((R0.kind.toNat:Int) == 2)=false:=by rw [beq_eq_false_iff_ne];exact k2
      have E2:=qh (show ¬ gUn b from fun h=>k2 (by rw [HKK.out,h.1];rfl))
      clear k2
      go_wp2
      go_meet
      case rel=>exact ⟨zXIZ E2.out,rfl⟩
    case rest=>
     obtain ⟨rfl,rfl⟩:=hcut
     go_upto_if 69 with fail
     go_cut [6] from 60 to 74 (fun v wx=>∃ A6 c6,v=.slice A6 (zZTg b).length c6/\A6≠none/\(zZTg b).length<=c6/\(∀ w',Kept (fun _=>False) w w'->RdB w' A6 (zZTg b))/\RecS wx y (gR1 b) none 0 none 0/\wx.heap[z]?=some (.cells zRecC 78 (0,0))/\Kept (fun _=>False) w wx)
     case first=>
      by_cases hu:gUn b
      ·have hl8:8<=n - 17:=by have:=hu.2;rw [LR.out] at this;exact this
       have hd:decide (gUn b)=true:=decide_eq_true hu
       have HU:=qh hu
       clear hu
       obtain ⟨A7,hA7⟩:∃ A7,A7=slA (some ⟨bb,off+18,none⟩) 17 (c - 18):=⟨_,rfl⟩
       obtain ⟨c7,hc7⟩:∃ c7,c7=c - 18 - 17:=⟨_,rfl⟩
       obtain ⟨N,hN0⟩:∃ N,N=sgn (valN (cut (gRest b) 0 8) 0):=⟨_,rfl⟩
       rw [<- hA7] at HRR ⊢
       rw [<- hc7]
       have h7:n - 17<=c7:=by omega
       have HA7:=qh hA7
       have VN:=qh (show sgn (valN ((gRest b).take 8) 0)=N from hN0.symm)
       have HN0:=qh hN0
       clear hA7 hc7 hN0
       go_wp2_with fail
       refine znCh 6 (fun w'=>Kept (fun _=>False) w w') (by kernel_rfl) HK8.out.drew (fun hH=>?_)
       simp only [List.length_cons,List.length_nil,List.replicate]
       refine tK 0 ?_ (fun w' hw'=>?_) hH ?_
       rotate_left
       ·skip
        go_simp<;>with_reducible rfl
       simp only [Act.put,oZa,oZb,oZc]
       refine tK 2 ?_ (fun w' hw'=>?_) hH ?_
       rotate_left
       ·skip
        go_simp<;>with_reducible rfl
       simp only [Act.put,oZa,oZb,oZc]
       refine takeL 3 (.slice (slA A7 8 c7) (n - 17 - 8) (c7 - 8)) rfl (by kernel_rfl) (fun _ _ _ h=>h) (by rfl) (fun w' _=>z6mH _ 8 rfl A7 (n - 17) c7 rfl rfl (by omega) w') hH ?_
       simp only [Act.put,oZa,oZb,oZc]
       refine takeC 1 (.int .i64 N) rfl (by kernel_rfl) (fun _ _ _ h=>h) (by rfl) (by intro h;cases h) 71 #[.slice A7 (n - 17) c7,.int .i64 8] (fun w' _=>by go_simp) (fun w' hw'=>by
        have:=ze6V A7 (n - 17) c7 (gRest b) 8 w' LR.out (HRR.out w' hw') (by decide) (by omega) (by omega)
        rwa [VN.out] at this) hH ?_
       simp only [Act.put,oZa,oZb,oZc]
       refine tK 4 ?_ (fun w' hw'=>?_) hH ?_
       rotate_left
       ·skip
        go_simp<;>with_reducible rfl
       simp only [Act.put,oZa,oZb,oZc]
       refine stepL 5 rfl (by kernel_rfl) (fun K hK=>?_)
       refine zRRc rfl 2 _ _ (by rfl) y 5 (.int .i64 N) (recC R0 none 0 none 0) (by rfl) (by rfl) HY8.out (by kernel_rfl) (by show 5 < 10;decide) rfl ?_
       intro w9 hb9 hk9
       have HY9:=qh hb9
       have HZ9:=qh (hk9.heap HZ8.out (by omega))
       have HK9:=qh (HK8.out.drew.new hk9 (by rintro x rfl;exact zy.1))
       clear hb9 hk9
       refine hK.out _ _ (fun _=>HK9.out) (fun _=>?_)
       simp only [Act.put,oZa,oZb,oZc]
       clear hK K
       refine stepL 6 rfl (by kernel_rfl) (fun K hK=>?_)
       go_simp
       refine hK.out _ _ (fun _=>HK9.out) (fun _=>?_)
       simp only [oZa,oZb,oZc]
       clear hK K
       refine doneL (by kernel_rfl) ?_ _
       go_wp2
       go_meet
       case rel=>
        have e1:zZTg b=(gRest b).drop 8:=if_pos HU.out
        have e2:gR1 b={ gR0 b with next:=sgn (valN (cut (gRest b) 0 8) 0) }:=if_pos HU.out
        refine ⟨slA A7 8 c7,c7 - 8,by rw [e1,List.length_drop,LR.out],?_,by rw [e1,List.length_drop,LR.out];omega,fun w' hw'=>?_,?_,HZ9.out,HK9.out⟩
        ·rw [HA7.out];unfold slA;split<;>split<;>simp
        ·rw [e1];exact (HRR.out w' hw').sl 8 c7 (by show (gRest b).length<=c7;rw [LR.out];exact h7)
        ·rw [e2,<- HN0.out,<- HR0.out];exact HY9.out
      ·have hd:decide (gUn b)=false:=decide_eq_false hu
       have HU:=qh hu
       clear hu
       go_wp2
       go_meet
       case rel=>
        have e1:zZTg b=gRest b:=if_neg HU.out
        have e2:gR1 b=gR0 b:=if_neg HU.out
        refine ⟨slA (some ⟨bb,off+18,none⟩) 17 (c - 18),c - 18 - 17,by rw [e1,LR.out],?_,by rw [e1,LR.out];omega,by rw [e1];exact HRR.out,?_,HZ8.out,HK8.out⟩
        ·unfold slA;split<;>simp
        ·rw [e2,<- HR0.out];exact HY8.out
     case rest=>
      obtain ⟨A6,c6,rfl,hA6,hc6,hr6,hy6,hz6,hk6⟩:=hcut
      obtain ⟨R1,hR1⟩:∃ R,R=gR1 b:=⟨_,rfl⟩
      have hkk:R1.kind=gKind b:=by rw [hR1];unfold gR1;split<;>rfl
      have hon:R1.old=[]/\R1.new=[]:=by rw [hR1];unfold gR1;split<;>exact ⟨rfl,rfl⟩
      have hok:RecOk R1:=by rw [hR1];exact ok_R1 b
      rw [<- hR1] at hy6
      have HR1:=qh hR1
      have HK1':=qh hkk
      have HON:=qh hon
      have HOK:=qh hok
      have HA6:=qh hA6
      have HR6:=qh hr6
      have HY6:=qh (show wc.heap[y]?=some (.cells (recC R1 none 0 none 0) 78 (0,0)) from hy6)
      have HZ6:=qh hz6
      have HK6:=qh hk6
      have ck6:wc.cell? ⟨y,2,none⟩=some (.int .u8 R1.kind.toNat):=zcjX hy6 rfl
      obtain ⟨n6,hn6⟩:∃ n6,n6=(zZTg b).length:=⟨_,rfl⟩
      rw [<- hn6] at hc6 ⊢
      have HN6:=qh hn6
      have ck:=ck6
      clear hR1 hkk hon hok hA6 hr6 hy6 hz6 hk6 hn6 ck6
      go_upto_region 11 with fail
      go_cut [82] from 75 to 82 (fun v wx=>v=.bool (decide (gKind b=2\/gKind b=1))/\wc=wx)
      case first=>
       by_cases k2:gKind b=2
       ·have hk2:((R1.kind.toNat:Int) == 2)=true:=by rw [HK1'.out,k2];rfl
        have K2:=Lib.hid k2
        clear k2
        go_wp2
        go_meet
        case rel=>exact ⟨zhHT (.inl K2.out),rfl⟩
       ·have hk2:((R1.kind.toNat:Int) == 2)=false:=by
         rw [beq_eq_false_iff_ne]
         exact fun h=>k2 (by rw [<- HK1'.out];exact UInt8.toNat_inj.1 (by have:(2:UInt8).toNat=2:=rfl;omega))
        have K2:=Lib.hid k2
        clear k2
        by_cases k1:gKind b=1
        ·have hk1:((R1.kind.toNat:Int) == 1)=true:=by rw [HK1'.out,k1];rfl
         have K1:=Lib.hid k1
         clear k1
         go_wp2
         go_meet
         case rel=>exact ⟨zhHT (.inr K1.out),rfl⟩
        ·have hk1:((R1.kind.toNat:Int) == 1)=false:=by
          rw [beq_eq_false_iff_ne]
          exact fun h=>k1 (by rw [<- HK1'.out];exact UInt8.toNat_inj.1 (by have:(1:UInt8).toNat=1:=rfl;omega))
         have K1:=Lib.hid k1
         clear k1
         go_wp2
         go_meet
         case rel=>exact ⟨zXIZ (fun h=>h.elim K2.out K1.out),rfl⟩
      case rest=>
       obtain ⟨rfl,rfl⟩:=hcut
       go_upto_if 82 with fail
       go_cut [6,8] from 75 to 127 (fun v _ wx=>zIPy b w y z v wx)
       case first=>
        by_cases hk:gKind b=2\/gKind b=1
        ·have hd:decide (gKind b=2\/gKind b=1)=true:=decide_eq_true hk
         have HKD:=qh hk
         clear hk
         by_cases h8:n6 < 8
         ·have h8i:(n6:Int) < 8:=by omega
          have B0:=bR0'
          go_wp2_with (refine zxQF rfl 78 _ _ rfl z zRecC _ rfl rfl HZ6.out zWmC rfl (zh6u _ _ _ _ _) ?_)
          intro wz hbz hkz
          have HKz:=qh (HK6.out.new hkz (by rintro x rfl;exact z1))
          have HZz:=qh hbz
          clear hbz hkz
          go_wp2
          try simp only [Exit.inBlock,Exit.then]
          refine bodyPost_ret (z4H8 rfl _ _ z _ rfl HZz.out Try.underlying78 rfl zWmC) rfl ?_
          exact zLSY.no HKz.out (by rw [ET.out];unfold getT;rw [if_pos HKD.out,if_pos (by rw [<- HN6.out];exact h8)])
         ·have h8i:¬ (n6:Int) < 8:=by omega
          have h8n:8<=n6:=by omega
          have H8:=qh h8
          clear h8
          obtain ⟨M,hM⟩:∃ M,M=gM b:=⟨_,rfl⟩
          have VM:=qh (show sgn (valN (((zZTg b).drop 6).take 2) 0)=(M:Int) from by rw [hM];exact zPu5 (by decide))
          have hMs:M < 65536:=by
           have h1:=zEqO (cut (zZTg b) 6 2)
           rw [z08T _ 6 2 (by rw [<- HN6.out];omega)] at h1
           rw [hM];exact h1
          obtain ⟨BB,hBB⟩:∃ BB,BB=valN (cut (zZTg b) 0 4) 0:=⟨_,rfl⟩
          obtain ⟨OO,hOO⟩:∃ OO,OO=valN (cut (zZTg b) 4 2) 0:=⟨_,rfl⟩
          have VB:=qh (show sgn (valN ((zZTg b).take 4) 0)=(BB:Int) from by rw [hBB];exact zPu5 (by decide))
          have VO:=qh (show sgn (valN (((zZTg b).drop 4).take 2) 0)=(OO:Int) from by rw [hOO];exact zPu5 (by decide))
          obtain ⟨R2,hR2⟩:∃ R2:RecM,R2={ R1 with blk:=(BB:Int),off:=(OO:Int) }:=⟨_,rfl⟩
          have HR2:=qh (show R2=gR2 b from by rw [hR2,HR1.out,hBB,hOO];rfl)
          have hk2':R2.kind=R1.kind:=by rw [hR2]
          have hon2:R2.old=[]/\R2.new=[]:=by rw [hR2];exact HON.out
          have hset:(recC { R1 with blk:=(BB:Int) } none 0 none 0).setIfInBounds 7 (.int .i64 (OO:Int))=recC R2 none 0 none 0:=by rw [hR2];rfl
          have HM:=qh hM
          have HK2':=qh hk2'
          have HON2:=qh hon2
          have HSET:=qh hset
          clear hM hBB hOO hR2 hk2' hon2 hset
          go_upto_region 15 with (first
           | (refine z3Ho rfl (z6mH _ 6 rfl A6 n6 c6 rfl rfl (by omega) _) ?_)
           | (go_at_call 71;refine (ze6V (slA A6 6 c6) (n6 - 6) (c6 - 6) ((zZTg b).drop 6) 2 _ (by rw [List.length_drop,<- HN6.out]) ((HR6.out _ HK6.out).sl 6 c6 (by rw [<- HN6.out];exact hc6)) (by decide) (by omega) (by omega)).mono ?_;rw [VM.out];rintro e wx ⟨rfl,rfl⟩))
          refine znCh 13 (fun w'=>Kept (fun _=>False) w w') (by kernel_rfl) HK6.out.drew (fun hH=>?_)
          simp only [List.length_cons,List.length_nil,List.replicate]
          refine tK 0 ?_ (fun w' hw'=>?_) hH ?_
          rotate_left
          ·skip
           go_simp<;>with_reducible rfl
          simp only [Act.put,oZa,oZb,oZc]
          refine tK 2 ?_ (fun w' hw'=>?_) hH ?_
          rotate_left
          ·skip
           go_simp<;>with_reducible rfl
          simp only [Act.put,oZa,oZb,oZc]
          refine tK 5 ?_ (fun w' hw'=>?_) hH ?_
          rotate_left
          ·skip
           go_simp<;>with_reducible rfl
          simp only [Act.put,oZa,oZb,oZc]
          refine takeL 3 (.slice (slA A6 4 c6) (n6 - 4) (c6 - 4)) rfl (by kernel_rfl) (fun _ _ _ h=>h) (by rfl) (fun w' _=>z6mH _ 4 rfl A6 n6 c6 rfl rfl (by omega) w') hH ?_
          simp only [Act.put,oZa,oZb,oZc]
          refine takeL 6 (.slice (slA A6 8 c6) (n6 - 8) (c6 - 8)) rfl (by kernel_rfl) (fun _ _ _ h=>h) (by rfl) (fun w' _=>z6mH _ 8 rfl A6 n6 c6 rfl rfl (by omega) w') hH ?_
          simp only [Act.put,oZa,oZb,oZc]
          refine takeC 1 (.int .i64 (BB:Int)) rfl (by kernel_rfl) (fun _ _ _ h=>h) (by rfl) (by intro h;cases h) 71 #[.slice A6 n6 c6,.int .i64 4] (fun w' _=>by go_simp) (fun w' hw'=>by
           have:=ze6V A6 n6 c6 (zZTg b) 4 w' HN6.out.symm (HR6.out w' hw') (by decide) (by omega) (by omega)
           rwa [VB.out] at this) hH ?_
          simp only [Act.put,oZa,oZb,oZc]
          refine takeC 4 (.int .i64 (OO:Int)) rfl (by kernel_rfl) (fun _ _ _ h=>h) (by rfl) (by intro h;cases h) 71 #[.slice (slA A6 4 c6) (n6 - 4) (c6 - 4),.int .i64 2] (fun w' _=>by go_simp) (fun w' hw'=>by
           have:=ze6V (slA A6 4 c6) (n6 - 4) (c6 - 4) ((zZTg b).drop 4) 2 w' (by rw [List.length_drop,<- HN6.out]) ((HR6.out w' hw').sl 4 c6 (by rw [<- HN6.out];exact hc6)) (by decide) (by omega) (by omega)
           rwa [VO.out] at this) hH ?_
          simp only [Act.put,oZa,oZb,oZc]
          refine tK 7 ?_ (fun w' hw'=>?_) hH ?_
          rotate_left
          ·skip
           go_simp<;>with_reducible rfl
          simp only [Act.put,oZa,oZb,oZc]
          refine tK 8 ?_ (fun w' hw'=>?_) hH ?_
          rotate_left
          ·skip
           go_simp<;>with_reducible rfl
          simp only [Act.put,oZa,oZb,oZc]
          refine stepL 9 rfl (by kernel_rfl) (fun K hK=>?_)
          refine zRRc rfl 3 _ _ (by rfl) y 6 (.int .i64 (BB:Int)) (recC R1 none 0 none 0) (by rfl) (by rfl) HY6.out (by kernel_rfl) (by show 6 < 10;decide) rfl ?_
          intro wf hbf hkf
          have HYf:=qh hbf
          have HZf:=qh (hkf.heap HZ6.out (by omega))
          have kf:=HK6.out.drew.new hkf (by rintro x rfl;exact zy.1)
          clear hbf hkf
          refine hK.out _ _ (fun _=>kf) (fun _=>?_)
          simp only [Act.put,oZa,oZb,oZc]
          clear hK K
          refine tK 10 ?_ (fun w' hw'=>?_) kf ?_
          rotate_left
          ·skip
           go_simp<;>with_reducible rfl
          simp only [Act.put,oZa,oZb,oZc]
          refine tK 11 ?_ (fun w' hw'=>?_) kf ?_
          rotate_left
          ·skip
           go_simp<;>with_reducible rfl
          simp only [Act.put,oZa,oZb,oZc]
          refine stepL 12 rfl (by kernel_rfl) (fun K hK=>?_)
          refine zRRc rfl 3 _ _ (by rfl) y 7 (.int .i64 (OO:Int)) (recC { R1 with blk:=(BB:Int) } none 0 none 0) (by rfl) (by rfl) HYf.out (by kernel_rfl) (by show 7 < 10;decide) rfl ?_
          rw [HSET.out]
          intro wg hbg hkg
          have HYg:=qh hbg
          have HZg:=qh (hkg.heap HZf.out (by omega))
          have kg:=kf.new hkg (by rintro x rfl;exact zy.1)
          have KG:=Lib.hid kg
          clear hbg hkg kf
          refine hK.out _ _ (fun _=>kg) (fun _=>?_)
          simp only [Act.put,oZa,oZb,oZc]
          clear hK K
          refine stepL 13 rfl (by kernel_rfl) (fun K hK=>?_)
          go_simp
          refine hK.out _ _ (fun _=>kg) (fun _=>?_)
          simp only [oZa,oZb,oZc]
          clear hK K kg
          refine doneL (by kernel_rfl) ?_ _
          have ckg:wg.cell? ⟨y,2,none⟩=some (.int .u8 R2.kind.toNat):=zcjX HYg.out rfl
          obtain ⟨A8,hA8⟩:∃ A8,A8=slA A6 8 c6:=⟨_,rfl⟩
          obtain ⟨c8,hc8⟩:∃ c8,c8=c6 - 8:=⟨_,rfl⟩
          obtain ⟨n8,hn8⟩:∃ n8,n8=n6 - 8:=⟨_,rfl⟩
          have hr8:∀ w',Kept (fun _=>False) w w'->RdB w' A8 (zdWe b):=fun w' hw'=>by
           rw [hA8];exact (HR6.out w' hw').sl 8 c6 (by rw [<- HN6.out];exact hc6)
          have hne8:A8≠none:=by rw [hA8];exact ztrL HA6.out 8 c6
          have hl8:n8<=c8:=by omega
          have hL8:(zdWe b).length=n8:=by unfold zdWe;rw [List.length_drop,<- HN6.out,hn8]
          have HL8:=qh hL8
          have HR8:=qh hr8
          have HNE8:=qh hne8
          have n8b:n8<=1000000:=by
           have:n6<=b.length:=by
            rw [HN6.out];unfold zZTg
            split<;>(try rw [List.length_drop])<;>rw [LR.out]<;>omega
           omega
          rw [<- hA8,<- hc8,<- hn8]
          clear hA8 hc8 hn8 hr8 hne8 hL8 ck
          go_upto_region 16 with fail
          go_cut [109] from 101 to 109 (fun v wx=>v=.bool (decide (gOl b))/\wg=wx)
          case first=>
           by_cases k1:gKind b=1
           ·have hk1:((R2.kind.toNat:Int) == 1)=true:=by rw [HK2'.out,HK1'.out,k1];rfl
            have K1:=Lib.hid k1
            clear k1
            by_cases hm:M<=n8
            ·have hmi:(M:Int)<=(n8:Int):=by omega
             have hmd:decide ((M:Int)<=(n8:Int))=true:=decide_eq_true hmi
             go_wp2
             go_meet
             case rel=>exact ⟨zhHT ⟨K1.out,by rw [HL8.out,<- HM.out];exact hm⟩,rfl⟩
            ·have hmi:¬ (M:Int)<=(n8:Int):=by omega
             have hmd:decide ((M:Int)<=(n8:Int))=false:=decide_eq_false hmi
             go_wp2
             go_meet
             case rel=>exact ⟨zXIZ (fun h=>hm (by have:=h.2;rw [HL8.out,<- HM.out] at this;exact this)),rfl⟩
           ·have hk1:((R2.kind.toNat:Int) == 1)=false:=by
             rw [beq_eq_false_iff_ne]
             exact fun h=>k1 (by rw [<- HK1'.out,<- HK2'.out];exact UInt8.toNat_inj.1 (by have:(1:UInt8).toNat=1:=rfl;omega))
            have K1:=Lib.hid k1
            clear k1
            go_wp2
            go_meet
            case rel=>exact ⟨zXIZ (fun h=>K1.out h.1),rfl⟩
          case rest=>
           obtain ⟨rfl,rfl⟩:=hcut
           go_upto_if 109 with fail
           go_cut [6] from 101 to 118 (fun v wx=>∃ A9 c9 A1 c1,v=.slice A9 (z3N4 b).length c9/\A9≠none/\(z3N4 b).length<=c9/\(∀ w',Kept (fun _=>False) w w'->RdB w' A9 (z3N4 b)) /\
            RecS wx y (gR3 b) A1 c1 none 0/\OwnV wx (y+1) (.slice A1 (gR3 b).old.length c1) (gR3 b).old/\(gR3 b).old.length<=1000000/\wx.heap[z]?=some (.cells zRecC 78 (0,0))/\Kept (fun _=>False) w wx)
           case first=>
            by_cases ho:gOl b
            ·have hd:decide (gOl b)=true:=decide_eq_true ho
             have hm:M<=n8:=by have:=ho.2;rw [HL8.out,<- HM.out] at this;exact this
             have HO:=qh ho
             clear ho
             have ylt:y < wg.heap.size:=zvKu HYg.out
             go_wp2_with fail
             refine znCh 10 (fun w'=>Kept (fun _=>False) w w') (by kernel_rfl) KG.out.drew (fun hH=>?_)
             simp only [List.length_cons,List.length_nil,List.replicate]
             refine tK 0 ?_ (fun w' hw'=>?_) hH ?_
             rotate_left
             ·skip
              go_simp<;>with_reducible rfl
             simp only [Act.put,oZa,oZb,oZc]
             refine tK 1 ?_ (fun w' hw'=>?_) hH ?_
             rotate_left
             ·skip
              go_simp<;>with_reducible rfl
             simp only [Act.put,oZa,oZb,oZc]
             refine tK 4 ?_ (fun w' hw'=>?_) hH ?_
             rotate_left
             ·skip
              go_simp<;>with_reducible rfl
             simp only [Act.put,oZa,oZb,oZc]
             refine tK 5 ?_ (fun w' hw'=>?_) hH ?_
             rotate_left
             ·skip
              go_simp<;>with_reducible rfl
             simp only [Act.put,oZa,oZb,oZc]
             refine takeL 2 (.slice (slA A8 0 c8) M c8) rfl (by kernel_rfl) (fun _ _ _ h=>h) (by rfl) (fun w' _=>zdzR _ _ M rfl A8 n8 c8 (M:Int) rfl rfl rfl (by omega) w') hH ?_
             simp only [Act.put,oZa,oZb,oZc]
             refine takeL 6 (.slice (slA A8 M c8) (n8 - M) (c8 - M)) rfl (by kernel_rfl) (fun _ _ _ h=>h) (by rfl) (fun w' _=>zjw2 _ _ M rfl A8 n8 c8 (M:Int) rfl rfl rfl (by omega) w') hH ?_
             simp only [Act.put,oZa,oZb,oZc]
             refine stepL 3 rfl (by kernel_rfl) (fun K hK=>?_)
             go_simp
             go_at_call 41
             refine (z12v (slA A8 0 c8) M c8 ((zdWe b).take M) wg.drew (by rw [List.length_take,HL8.out];omega) (((HR8.out _ hH).sl 0 c8 (by rw [HL8.out];exact hl8)).takeG M) (ztrL HNE8.out 0 c8) (by omega)).mono ?_
             rintro e wh ⟨A1,c1,rfl,hvh,hkh⟩
             have HYh:=qh (hkh.heap HYg.out id)
             have HZh:=qh (hkh.heap HZg.out id)
             have KH:=qh (hH.trans0 hkh)
             have HVh:=qh (hvh.low (show y+1<=wg.drew.heap.size from ylt))
             clear hvh hkh
             go_simp
             refine hK.out _ _ (fun _=>KH.out) (fun _=>?_)
             simp only [oZa,oZb,oZc]
             clear hK K
             refine tK 7 ?_ (fun w' hw'=>?_) KH.out ?_
             rotate_left
             ·skip
              go_simp<;>with_reducible rfl
             simp only [Act.put,oZa,oZb,oZc]
             refine tK 8 ?_ (fun w' hw'=>?_) KH.out ?_
             rotate_left
             ·skip
              go_simp<;>with_reducible rfl
             simp only [Act.put,oZa,oZb,oZc]
             refine stepL 9 rfl (by kernel_rfl) (fun K hK=>?_)
             refine zRRc rfl 37 _ _ (by rfl) y 8 (.slice A1 M c1) (recC R2 none 0 none 0) (by rfl) (by rfl) HYh.out (by kernel_rfl) (by show 8 < 10;decide) rfl ?_
             intro wi hbi hki
             have HYi:=qh hbi
             have HZi:=qh (hki.heap HZh.out (by omega))
             have KI:=qh (KH.out.new hki (by rintro x rfl;exact zy.1))
             have HVi:=qh (HVh.out.keep hki (fun x hx e=>by have:=(HVh.out.base_le hx).1;omega))
             clear hbi hki
             refine hK.out _ _ (fun _=>KI.out) (fun _=>?_)
             simp only [Act.put,oZa,oZb,oZc]
             clear hK K
             refine stepL 10 rfl (by kernel_rfl) (fun K hK=>?_)
             go_simp
             refine hK.out _ _ (fun _=>KI.out) (fun _=>?_)
             simp only [oZa,oZb,oZc]
             clear hK K
             refine doneL (by kernel_rfl) ?_ _
             go_wp2
             go_meet
             case rel=>
              have e3:z3N4 b=(zdWe b).drop (gM b):=if_pos HO.out
              have e4:gR3 b={ gR2 b with old:=(zdWe b).take (gM b) }:=if_pos HO.out
              have el:((zdWe b).take M).length=M:=by rw [List.length_take,HL8.out];omega
              rw [e3,e4,<- HM.out]
              refine ⟨slA A8 M c8,c8 - M,A1,c1,by rw [List.length_drop,HL8.out],ztrL HNE8.out M c8,by rw [List.length_drop,HL8.out];omega,fun w' hw'=>(HR8.out w' hw').sl M c8 (by rw [HL8.out];exact hl8),?_,?_,?_,HZi.out,KI.out⟩
              ·show wi.heap[y]?=some (.cells (recC { gR2 b with old:=(zdWe b).take M } A1 c1 none 0) 78 (0,0))
               have:=HYi.out
               rw [HR2.out] at this
               rw [this]
               unfold recC
               rw [show ({ gR2 b with old:=(zdWe b).take M }:RecM).old.length=M from el]
               rfl
              ·show OwnV wi (y+1) (.slice A1 ((zdWe b).take M).length c1) ((zdWe b).take M)
               rw [el]
               exact HVi.out
              ·show ((zdWe b).take M).length<=_
               rw [el];omega
            ·have hd:decide (gOl b)=false:=decide_eq_false ho
             have HO:=qh ho
             clear ho
             go_wp2
             go_meet
             case rel=>
              have e3:z3N4 b=zdWe b:=if_neg HO.out
              have e4:gR3 b=gR2 b:=if_neg HO.out
              have e5:=HON2.out.1
              rw [HR2.out] at e5
              rw [e3,e4]
              refine ⟨A8,c8,none,0,by rw [HL8.out],HNE8.out,by rw [HL8.out];exact hl8,HR8.out,?_,?_,?_,HZg.out,KG.out⟩
              ·rw [<- HR2.out];exact HYg.out
              ·rw [e5];exact OwnV.nil _ _
              ·rw [e5];decide
           case rest=>
            obtain ⟨A9,c9,A1,c1,rfl,hA9,hc9,hr9,hy9,hv9,ho9,hz9,hk9⟩:=hcut
            obtain ⟨n9,hn9⟩:∃ n9,n9=(z3N4 b).length:=⟨_,rfl⟩
            obtain ⟨R3,hR3⟩:∃ R,R=gR3 b:=⟨_,rfl⟩
            rw [<- hR3] at hy9 hv9 ho9
            rw [<- hn9] at hc9 ⊢
            have HY9:=qh (show wc.heap[y]?=some (.cells (recC R3 A1 c1 none 0) 78 (0,0)) from hy9)
            have HZ9:=qh hz9
            have HK9:=qh hk9
            have HV9:=qh hv9
            have HR9:=qh hr9
            have HN9:=qh hn9
            have HR3:=qh hR3
            have HA9:=qh hA9
            have n9b:n9<=1000000:=by
             have:n9<=n8:=by
              rw [hn9,<- HL8.out];unfold z3N4
              split
              ·rw [List.length_drop];omega
              ·exact Nat.le_refl _
             omega
            have hnew:R3.new=[]:=by
             rw [hR3];unfold gR3
             have:=HON2.out.2
             rw [HR2.out] at this
             split<;>exact this
            have HNW:=qh hnew
            have ylt:y < wc.heap.size:=zvKu hy9
            clear hy9 hz9 hk9 hv9 hr9 hn9 hR3 hA9 hnew
            by_cases hm:n9=M
            ·subst hm
             have hne:((n9:Int) != (n9:Int))=false:=by simp
             go_wp2_with fail
             refine (z12v A9 n9 c9 (z3N4 b) wc HN9.out.symm (HR9.out _ HK9.out) HA9.out n9b).mono ?_
             rintro e wh ⟨A2,c2,rfl,hvh,hkh⟩
             have HYh:=qh (hkh.heap HY9.out id)
             have HZh:=qh (hkh.heap HZ9.out id)
             have KH:=qh (HK9.out.trans0 hkh)
             have HVh:=qh hvh
             have HOh:=qh (HV9.out.keep hkh (fun _ _=>id))
             have HDh:=qh (show ∀ x,(Value.slice A1 R3.old.length c1).ownBlock=some x->(Value.slice A2 n9 c2).ownBlock=some x->False from fun x hx hx2=>by
              have h1:=(HV9.out.base_le hx).2
              have h2:=(hvh.base_le hx2).1
              omega)
             clear hvh hkh
             go_wp2_with (refine z2q7 rfl 37 _ _ rfl y 9 (.slice A2 n9 c2) (recC R3 A1 c1 none 0) rfl rfl HYh.out (by kernel_rfl) (by show 9 < 10;decide) rfl ?_)
             intro wi hbi hki
             have HYi:=qh hbi
             have HZi:=qh (hki.heap HZh.out (by omega))
             have KI:=qh (KH.out.new hki (by rintro x rfl;exact zy.1))
             have HVi:=qh ((HVh.out.keep hki (fun x hx e=>by have:=(HVh.out.base_le hx).1;omega)).low (show y+1<=wc.heap.size from ylt))
             have HOi:=qh (HOh.out.keep hki (fun x hx e=>by have:=(HOh.out.base_le hx).1;omega))
             clear hbi hki
             go_wp2
             go_meet
             case rel=>
              have el:(z3N4 b).length=n9:=HN9.out.symm
              have eR:gR4 b={ R3 with new:=z3N4 b }:=by rw [HR3.out];rfl
              refine ⟨none,0,0,gR4 b,A1,c1,A2,c2,rfl,?_,ok_R4 b,?_,?_,?_,?_,?_,?_,HZi.out,KI.out⟩
              ·rw [ET.out]
               unfold getT
               rw [if_pos HKD.out,if_neg (by rw [<- HN6.out];exact H8.out),if_neg (by rw [<- HN9.out,<- HM.out];exact fun h=>h rfl)]
               by_cases hr:zZer (gR4 b)
               ·rw [if_pos hr,if_neg (fun h=>h.elim (fun h=>absurd h (by decide)) (fun h=>h hr))]
               ·rw [if_neg hr,if_pos (.inr hr)]
              ·rw [eR];exact ho9
              ·rw [eR];show (z3N4 b).length<=_;rw [el];exact n9b
              ·show wi.heap[y]?=some (.cells (recC (gR4 b) A1 c1 A2 c2) 78 (0,0))
               rw [HYi.out,eR]
               unfold recC
               rw [show ({ R3 with new:=z3N4 b }:RecM).new.length=n9 from el]
               rfl
              ·rw [eR];exact HOi.out
              ·rw [eR]
               show OwnV wi (y+1) (.slice A2 (z3N4 b).length c2) (z3N4 b)
               rw [el];exact HVi.out
              ·rw [eR]
               show ∀ x,(Value.slice A1 R3.old.length c1).ownBlock=some x->(Value.slice A2 (z3N4 b).length c2).ownBlock=some x->False
               rw [el];exact HDh.out
            ·have hne:((n9:Int) != (M:Int))=true:=by rw [bne_iff_ne];omega
             have B0:=bR0'
             have HNE:=qh hm
             clear hm
             go_wp2_with (refine zxQF rfl 78 _ _ rfl z zRecC _ rfl rfl HZ9.out zWmC rfl (zh6u _ _ _ _ _) ?_)
             intro wz hbz hkz
             have HKz:=qh (HK9.out.new hkz (by rintro x rfl;exact z1))
             have HZz:=qh hbz
             clear hbz hkz
             go_wp2
             try simp only [Exit.inBlock,Exit.then]
             refine bodyPost_ret (z4H8 rfl _ _ z _ rfl HZz.out Try.underlying78 rfl zWmC) rfl ?_
             exact zLSY.no HKz.out (by rw [ET.out];unfold getT;rw [if_pos HKD.out,if_neg (by rw [<- HN6.out];exact H8.out),if_pos (by rw [<- HN9.out,<- HM.out];exact HNE.out)])
        ·have hd:decide (gKind b=2\/gKind b=1)=false:=decide_eq_false hk
         have HKN:=qh hk
         clear hk
         go_wp2
         go_meet
         case rel=>
          have h1:=HON.out.1
          have h2:=HON.out.2
          refine ⟨A6,c6,n6,R1,none,0,none,0,rfl,?_,HOK.out,by rw [h1];decide,by rw [h2];decide,HY6.out,?_,?_,?_,HZ6.out,HK6.out⟩
          ·rw [ET.out];unfold getT;rw [if_neg HKN.out,HN6.out,HR1.out]
          ·rw [h1];exact OwnV.nil _ _
          ·rw [h2];exact OwnV.nil _ _
          ·intro x hx;cases hx
       case rest=>
        obtain ⟨B6,d6,l6,R,A1,c1,A2,c2,rfl,hG,hok,ho,hn,hy,hv1,hv2,hdis,hz,hk⟩:=hcut
        have HYf:=qh (show wc.heap[y]?=some (.cells (recC R A1 c1 A2 c2) 78 (0,0)) from hy)
        have HZf:=qh hz
        have HKf:=qh hk
        have HG2:=qh hG
        have HV1:=qh hv1
        have HV2:=qh hv2
        have HD:=qh hdis
        have HOKf:=qh hok
        clear hG hy hz hk hv1 hv2 hdis hok
        have B0:=bR0'
        by_cases p:0 < l6
        ·have hp:(0:Int) < (l6:Int):=by omega
         go_wp2_with (refine zxQF rfl 78 _ _ rfl z zRecC _ rfl rfl HZf.out zWmC rfl (zh6u _ _ _ _ _) ?_)
         intro wz hbz hkz
         have HKz:=qh (HKf.out.new hkz (by rintro x rfl;exact z1))
         have HZz:=qh hbz
         clear hbz hkz
         go_wp2
         try simp only [Exit.inBlock,Exit.then]
         refine bodyPost_ret (z4H8 rfl _ _ z _ rfl HZz.out Try.underlying78 rfl zWmC) rfl ?_
         exact zLSY.no HKz.out (by rw [HG2.out,if_pos (.inl p)])
        ·obtain rfl:l6=0:=by omega
         clear p
         obtain ⟨f0,f1,f2,f3,f4,f5,f6,f7,f8,f9⟩:=z89M HYf.out
         by_cases hr:zZer R
         ·have HRT:=qh (show Calls Try.prog 73 #[.agg (recC R A1 c1 A2 c2)] wc fun e w'=>e=.returned (.bool true)/\Kept (fun _=>False) wc w' from by
           refine (zNDL R A1 c1 A2 c2 wc HOKf.out ho hn).mono ?_
           rintro e w' ⟨rfl,hk⟩
           exact ⟨by rw [decide_eq_true hr],hk⟩)
          have HRI:=qh hr
          clear hr
          go_wp2_with fail
          refine HRT.out.mono ?_
          rintro e wr ⟨rfl,hkr⟩
          have HYr:=qh (hkr.heap HYf.out id)
          have HZr:=qh (hkr.heap HZf.out id)
          have HKr:=qh (HKf.out.trans0 hkr)
          have HV1r:=qh (HV1.out.keep hkr (fun _ _=>id))
          have HV2r:=qh (HV2.out.keep hkr (fun _ _=>id))
          clear hkr f0 f1 f2 f3 f4 f5 f6 f7 f8 f9 HRT HYf HZf HKf HV1 HV2
          go_wp2_with (first
           | refine zFcC rfl 78 _ rfl y rfl (recC R A1 c1 A2 c2) HYr.out Try.underlying78 rfl (by kernel_rfl) ?_
           | refine zxQF rfl 78 _ _ rfl z (recC R A1 c1 A2 c2) _ rfl rfl HZr.out zWmC rfl (zh6u _ _ _ _ _) ?_)
          intro wz hbz hkz
          have HKz:=qh (HKr.out.new hkz (by rintro x rfl;exact z1))
          have HZz:=qh hbz
          have HV1z:=qh ((HV1r.out.keep hkz (fun x hx e=>by have:=(HV1r.out.base_le hx).1;omega)).low (show w.heap.size<=y+1 by omega))
          have HV2z:=qh ((HV2r.out.keep hkz (fun x hx e=>by have:=(HV2r.out.base_le hx).1;omega)).low (show w.heap.size<=y+1 by omega))
          clear hbz hkz
          go_wp2
          try simp only [Exit.inBlock,Exit.then]
          refine bodyPost_ret (z4H8 rfl _ _ z _ rfl HZz.out Try.underlying78 rfl zWmC) rfl ?_
          have hsome:getL b=some (R,18+gN b):=by rw [HG2.out,if_neg (fun h=>h.elim (fun h=>absurd h (by decide)) (fun h=>h HRI.out))]
          refine zLSY.yes HKz.out hsome ?_ HV1z.out HV2z.out HD.out
          have e18:((18+gN b:Nat):Int)=18+(n:Int):=by rw [<- HN.out];omega
          rw [e18]
          rfl
         ·have HRT:=qh (show Calls Try.prog 73 #[.agg (recC R A1 c1 A2 c2)] wc fun e w'=>e=.returned (.bool false)/\Kept (fun _=>False) wc w' from by
           refine (zNDL R A1 c1 A2 c2 wc HOKf.out ho hn).mono ?_
           rintro e w' ⟨rfl,hk⟩
           exact ⟨by rw [decide_eq_false hr],hk⟩)
          have HRI:=qh hr
          clear hr
          go_wp2_with fail
          refine HRT.out.mono ?_
          rintro e wr ⟨rfl,hkr⟩
          have HZr:=qh (hkr.heap HZf.out id)
          have HKr:=qh (HKf.out.trans0 hkr)
          clear hkr f0 f1 f2 f3 f4 f5 f6 f7 f8 f9 HRT HYf HZf HKf
          go_wp2_with (refine zxQF rfl 78 _ _ rfl z zRecC _ rfl rfl HZr.out zWmC rfl (zh6u _ _ _ _ _) ?_)
          intro wz hbz hkz
          have HKz:=qh (HKr.out.new hkz (by rintro x rfl;exact z1))
          have HZz:=qh hbz
          clear hbz hkz
          go_wp2
          try simp only [Exit.inBlock,Exit.then]
          refine bodyPost_ret (z4H8 rfl _ _ z _ rfl HZz.out Try.underlying78 rfl zWmC) rfl ?_
          exact zLSY.no HKz.out (by rw [HG2.out,if_pos (.inr HRI.out)])
end Go.Proofs.Ytnbfhdgojmflhaa
