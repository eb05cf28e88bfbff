/-
  No statement is proved here.
-/
import Derived.Test.YtnbfhdgojmflhaaJGn
import Derived.Test.YtnbfhdgojmflhaaJGp
import Derived.Test.YtnbfhdgojmflhaaJKept
namespace Go.Proofs.Ytnbfhdgojmflhaa
open Go.RowKit
theorem zKAk (a b:Nat) (hb:b < 256):a*256 ||| b=a*256+b:=by
 have:=Nat.two_pow_add_eq_or_of_lt (i:=8) (b:=b) hb a
 rw [show (2:Nat) ^ 8*a=a*256 by omega] at this
 exact this.symm
theorem zqxi (v:Nat) (hv:v < 2 ^ 56) (b:Nat) (hb:b < 256):bits .or .i64 (wrap64 ((v:Int)*256)) (b:Int)=sgn (v*256+b):=by
 have h1:(BitVec.ofInt 64 (wrap64 ((v:Int)*256))).toNat=v*256:=by
  rw [BitVec.toNat_ofInt]
  unfold wrap64
  omega
 have h2:(BitVec.ofInt 64 (b:Int)).toNat=b:=by
  rw [BitVec.toNat_ofInt]
  omega
 show IntKind.i64.wrap ((BitVec.ofInt 64 (wrap64 ((v:Int)*256)) ||| BitVec.ofInt 64 (b:Int)).toNat:Int)=_
 rw [BitVec.toNat_or,h1,h2,zKAk _ _ hb,IntKind.wrap_i64]
 unfold sgn
 split<;>omega
theorem zE8O (x:UInt8):wrap64 (x.toNat:Int)=(x.toNat:Int):=by
 have:=x.toNat_lt
 unfold wrap64
 omega
theorem zjFb (l:Bytes) (x:UInt8) (a:Nat):valN (l ++ [x]) a=valN l a*256+x.toNat:=by
 induction l generalizing a with
 | nil=>rfl
 | cons y l ih=>exact ih _
set_option maxRecDepth 20000 in
set_option maxHeartbeats 800000 in
theorem zy7D (A:Option Addr) (c:Nat) (l:Bytes) (size:Nat) (w:World) (h:RdB w A l) (hs:size<=8) (hl:size<=l.length) (hc:l.length<=c) :
  Calls Try.prog 71 #[.slice A l.length c,.int .i64 size] w fun e w'=>e=.returned (.int .i64 (sgn (valN (l.take size) 0)))/\w=w':=by
 have H:=qh h
 have hsc:size<=c:=by omega
 have HL:=qh hl
 clear h hl
 go_enter Try.func71,Try.ntmps71
 go_wp2
 go_loopw [5,12] (fun n i wr=>∃ k:Nat,k<=size/\i=.int .i64 k/\n=.int .i64 (sgn (valN (l.take k) 0))/\w=wr) (fun n i wr=>size - (intOf i).toNat)
 case atStart=>exact ⟨0,Nat.zero_le _,rfl,rfl,rfl⟩
 case round=>
  obtain ⟨k,hk,rfl,rfl,rfl⟩:=hrel
  by_cases hlt:k < size
  ·have i1:(k:Int) < (size:Int):=by omega
   have hkl:k < l.length:=by have:=HL.out;omega
   obtain ⟨V,hV⟩:∃ V,V=valN (l.take k) 0:=⟨_,rfl⟩
   have hV56:V < 2 ^ 56:=by
    have h1:=zEqO (l.take k)
    rw [List.length_take,Nat.min_eq_left (by omega)] at h1
    have h2:256 ^ k<=256 ^ 7:=Nat.pow_le_pow_right (by decide) (by omega)
    rw [hV]
    exact Nat.lt_of_lt_of_le h1 h2
   have hn:sgn (valN (l.take (k+1)) 0)=sgn (V*256+(bAt l k).toNat):=by
    rw [hV,<- zjFb,List.take_succ_eq_append_getElem hkl,zWfp hkl]
   have hx:=(bAt l k).toNat_lt
   have xo:=zqxi V hV56 (bAt l k).toNat hx
   have e1:sgn (valN (l.take k) 0)=(V:Int):=by rw [<- hV];exact zfEu (by omega)
   rw [e1]
   have HN:=qh hn
   clear hn e1 hV hV56 hx
   obtain ⟨b,off,rfl,hcell⟩:=H.out.cell hkl
   go_wp2
   go_roundw
   case rel=>exact ⟨k+1,by omega,by go_num,by rw [HN.out,<- xo,zE8O],by trivial⟩
   case measure=>simp [intOf];omega
  ·have ek:k=size:=by omega
   subst ek
   go_wp2
   go_ret
   exact ⟨rfl,rfl⟩
structure PtD where
 A:Option Addr
 b:Bytes
 c:Nat
def ptVal (s:PtD):Value:=.slice s.A s.b.length s.c
def RdPs (w:World) (G:Option Addr) (L:List PtD):Prop:=∀ k s,L[k]?=some s->∃ g off,G=some ⟨g,off,none⟩/\w.cell? ⟨g,off+k,none⟩=some (ptVal s)/\RdB w s.A s.b
theorem zGem (a b:Nat) (ha:a < 4294967296) (hb:b < 4294967296):bits .xor .u32 (a:Int) (b:Int)=((a ^^^ b:Nat):Int)/\bits .and .u32 (a:Int) (b:Int)=((a &&& b:Nat):Int):=by
 have hx:a ^^^ b < 2 ^ 32:=Nat.xor_lt_two_pow (by omega) (by omega)
 have hy:a &&& b < 2 ^ 32:=Nat.and_lt_two_pow _ (by omega)
 have h1:(BitVec.ofInt 32 (a:Int)).toNat=a:=by
  rw [BitVec.ofInt_natCast,BitVec.toNat_ofNat];exact Nat.mod_eq_of_lt (by omega)
 have h2:(BitVec.ofInt 32 (b:Int)).toNat=b:=by
  rw [BitVec.ofInt_natCast,BitVec.toNat_ofNat];exact Nat.mod_eq_of_lt (by omega)
 have wr:∀ n:Int,IntKind.u32.wrap n=n % 4294967296:=fun n=>by simp [IntKind.wrap,IntKind.bits,IntKind.signed]
 refine ⟨?_,?_⟩
 ·show IntKind.u32.wrap ((BitVec.ofInt 32 (a:Int) ^^^ BitVec.ofInt 32 (b:Int)).toNat:Int)=_
  rw [BitVec.toNat_xor,h1,h2,wr]
  omega
 ·show IntKind.u32.wrap ((BitVec.ofInt 32 (a:Int) &&& BitVec.ofInt 32 (b:Int)).toNat:Int)=_
  rw [BitVec.toNat_and,h1,h2,wr]
  omega
def crcN:Nat->Nat->Nat
 | 0,c=>c
 | k+1,c=>crcS (crcN k c)
theorem z5au (c:Nat) (x:UInt8):crcN 8 (c ^^^ x.toNat)=crcB c x:=rfl
def flatP (L:List PtD):Bytes:=(L.map (fun s=>s.b)).flatten
theorem z1VH {L:List PtD} {k:Nat} (h:k < L.length):flatP (L.take (k+1))=flatP (L.take k) ++ L[k].b:=by
 unfold flatP
 rw [List.take_succ_eq_append_getElem h,List.map_append,List.flatten_append]
 simp
set_option maxRecDepth 20000 in
set_option maxHeartbeats 800000 in
theorem zUcy (G:Option Addr) (cap:Nat) (L:List PtD) (w:World) (h:RdPs w G L) (hL:L.length<=1000) (hb:∀ s∈L,s.b.length<=1000000) :
  Calls Try.prog 72 #[.slice G L.length cap] w fun e w'=>e=.returned (.int .u32 (crcL (flatP L)))/\w=w':=by
 have H:=qh h
 have HB:=qh hb
 clear h hb
 go_enter Try.func72,Try.ntmps72
 go_wp2
 go_loopw [3,10] (fun c i wr=>∃ (k C:Nat),k<=L.length/\i=.int .i64 k/\c=.int .u32 C/\C < 4294967296/\C=(flatP (L.take k)).foldl crcB 4294967295/\w=wr) (fun n i wr=>L.length - (intOf i).toNat)
 case atStart=>exact ⟨0,4294967295,Nat.zero_le _,rfl,rfl,by omega,rfl,rfl⟩
 case round=>
  obtain ⟨k,C,hk,rfl,rfl,hC,eC,rfl⟩:=hrel
  have EC:=Lib.hid eC
  clear eC
  by_cases hlt:k < L.length
  ·have i1:(k:Int) < (L.length:Int):=by omega
   obtain ⟨g,off,rfl,hcell,hrd⟩:=H.out k L[k] (List.getElem?_eq_getElem hlt)
   have hbl:=HB.out L[k] (List.getElem_mem hlt)
   obtain ⟨s,hs⟩:∃ s,s=L[k]:=⟨_,rfl⟩
   rw [<- hs] at hcell hrd hbl
   have HS:=qh hs
   have HR:=qh hrd
   clear hs hrd
   have hcell':w.cell? ⟨g,off+k,none⟩=some (.slice s.A s.b.length s.c):=hcell
   clear hcell
   obtain ⟨A,b,c⟩:=s
   go_wp2_with fail
   go_loopw [3,16] (fun c i wr=>∃ (j C2:Nat),j<=b.length/\i=.int .i64 j/\c=.int .u32 C2/\C2 < 4294967296/\C2=(b.take j).foldl crcB C/\w=wr) (fun n i wr=>b.length - (intOf i).toNat)
   case atStart=>exact ⟨0,C,Nat.zero_le _,rfl,rfl,hC,rfl,rfl⟩
   case round=>
    obtain ⟨j,C2,hj,rfl,rfl,hC2,eC2,rfl⟩:=hrel
    have EC2:=Lib.hid eC2
    clear eC2
    by_cases hjt:j < b.length
    ·have i2:(j:Int) < (b.length:Int):=by omega
     obtain ⟨bb,boff,rfl,hcell2⟩:=HR.out.cell hjt
     have hx:=(bAt b j).toNat_lt
     obtain ⟨x,hx'⟩:∃ x,x=bAt b j:=⟨_,rfl⟩
     rw [<- hx'] at hcell2 hx
     have HX:=qh hx'
     clear hx'
     obtain ⟨C3,hC3⟩:∃ C3,C3=C2 ^^^ x.toNat:=⟨_,rfl⟩
     have hC3t:C3 < 4294967296:=by rw [hC3];exact Nat.xor_lt_two_pow (n:=32) hC2 (by omega)
     have xo:bits .xor .u32 (C2:Int) (x.toNat:Int)=(C3:Int):=by rw [hC3];exact (zGem _ _ hC2 (by omega)).1
     have HC3:=qh hC3
     clear hC3
     go_wp2_with fail
     go_loopw [3,24] (fun c i wr=>∃ (m C4:Nat),m<=8/\i=.int .i64 m/\c=.int .u32 C4/\C4 < 4294967296/\C4=crcN m C3/\w=wr) (fun n i wr=>8 - (intOf i).toNat)
     case atStart=>exact ⟨0,C3,Nat.zero_le _,rfl,rfl,hC3t,rfl,rfl⟩
     case round=>
      obtain ⟨m,C4,hm,rfl,rfl,hC4,eC4,rfl⟩:=hrel
      have EC4:=Lib.hid eC4
      clear eC4
      by_cases hmt:m < 8
      ·have i3:(m:Int) < 8:=by omega
       have xa:bits .and .u32 (C4:Int) 1=((C4 % 2:Nat):Int):=by
        have:=(zGem C4 1 hC4 (by omega)).2
        rw [Nat.and_one_is_mod] at this
        exact this
       have xm:(3988292384*((C4 % 2:Nat):Int)) % 4294967296=((3988292384*(C4 % 2):Nat):Int):=by omega
       have xx:bits .xor .u32 ((C4:Int) / 2) ((3988292384*(C4 % 2):Nat):Int)=((crcS C4:Nat):Int):=by
        have:=(zGem (C4 / 2) (3988292384*(C4 % 2)) (by omega) (by omega)).1
        exact this
       have hC5:=zKTR hC4
       have XA:=Lib.hid xa
       go_wp2_with fail
       refine ⟨⟨m+1,crcS C4,by omega,by go_num,?_,hC5,by rw [EC4.out];rfl,by trivial⟩,by simp [intOf];omega⟩
       rw [<- xx]
       rfl
      ·have em:m=8:=by omega
       subst em
       go_wp2_with fail
       go_roundw
       case rel=>exact ⟨j+1,C4,by omega,by go_num,rfl,hC4,by rw [EC4.out,HC3.out,z5au,HX.out,EC2.out,List.take_succ_eq_append_getElem hjt,List.foldl_append,zWfp hjt];rfl,by trivial⟩
       case measure=>simp [intOf];omega
    ·have ej:j=b.length:=by omega
     subst ej
     go_wp2_with fail
     go_roundw
     case rel=>exact ⟨k+1,C2,by omega,by go_num,rfl,hC2,by rw [EC2.out,List.take_length,EC.out,z1VH hlt,List.foldl_append,<- HS.out],by trivial⟩
     case measure=>simp [intOf];omega
  ·have ek:k=L.length:=by omega
   subst ek
   go_wp2
   go_ret
   refine ⟨?_,rfl⟩
   have e:=EC.out
   rw [List.take_length] at e
   have x:=(zGem 4294967295 C (by omega) hC).1
   show Ending.returned (.int .u32 (bits .xor .u32 4294967295 (C:Int)))=_
   rw [show (4294967295:Int)=((4294967295:Nat):Int) from rfl,x,Nat.xor_comm]
   unfold crcL
   rw [<- e]
theorem zkf7 (G:Option Addr) (cap:Nat) (L:List PtD) (w:World) (h:RdPs w G L) (hL:L.length<=1000) (hb:∀ s∈L,s.b.length<=1000000) :
  Calls Try.prog 72 #[.slice G L.length cap] w fun e w'=>e=.returned (.int .u32 (crcL (flatP L)))/\Same w w':=by
 refine (zUcy G cap L w h hL hb).mono ?_
 rintro e w' ⟨rfl,rfl⟩
 exact ⟨rfl,Same.refl _⟩
end Go.Proofs.Ytnbfhdgojmflhaa
