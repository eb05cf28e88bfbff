/-
  No statement is proved here.
-/
import Derived.Test.YtnbfhdgojmflhaaJKept
import Derived.ProofKit
import Derived.OpenShut
import Derived.Deep.Slices
import Derived.Test.YtnbfhdgojmflhaaJGm
namespace Go.Proofs.Ytnbfhdgojmflhaa
open Go.RowKit
section
variable {H:Type} {enc:TypeId×Value->H} {w:World} {base:Nat} {spare:Nat->Bool} {held:Bool}
theorem zI6s {α:Type} [Inhabited α] {t e:TypeId} {size:Nat} (ht:(Try.prog).underlying t=some (.slice e)) (hc:(Try.prog).cellsOf e=size) (hs:0 < size) (E:α->List Value->Prop)
  (elem:∀ fuel cs x,DataW.trod enc Try.prog w base spare held fuel e cs=some x->∃ y:α,E y cs) {fuel:Nat} {cs:List Value} {x:DataW H×List MemPlace} (h:DataW.trod enc Try.prog w base spare held fuel t cs=some x) :
  ∃ (A:Option Addr) (len c:Nat) (l:List α),cs=[.slice A len c]/\l.length=len/\len<=maxLen /\
   (l≠[]->∃ b off,A=some ⟨b,off,none⟩/\∀ i y,l[i]?=some y->∃ cs',cs'.length=size/\(∀ j,j < size->w.cell? ⟨b,off+i*size+j,none⟩=cs'[j]?)/\E y cs'):=by
 rcases Deep.open_slice ht h with ⟨rfl,_⟩ | ⟨a,len,cap,m,n,D,Pl,rfl,_,hl,hm,hmm,_,hx⟩
 ·exact ⟨none,0,0,[],rfl,rfl,Nat.zero_le _,fun h=>absurd rfl h⟩
 have hlm:len<=m:=by rw [hmm];split<;>omega
 obtain ⟨Y,hY⟩:=Deep.choose_lt (α:=α) (n:=len) (p:=fun i y=>∃ cs',w.cells? base (a.add (i*(Try.prog).cellsOf e)) ((Try.prog).cellsOf e)=some cs'/\E y cs') (fun i hi=>by
  obtain ⟨cs',h1,h2⟩:=hx i (by omega)
  obtain ⟨y,hy⟩:=elem _ _ _ h2
  exact ⟨y,cs',h1,hy⟩)
 refine ⟨some a,len,cap,(List.range len).map Y,rfl,by simp,by omega,fun hne=>?_⟩
 have hlen:0 < len:=by
  rcases Nat.eq_zero_or_pos len with h0 | h0
  ·subst h0;simp at hne
  ·exact h0
 have hspot:a.spot=none:=by
  obtain ⟨cs',h1,_⟩:=hY 0 hlen
  obtain ⟨_,h2,h3⟩:=World.cells?_some h1
  have h4:=h3 0 (by rw [hc];exact hs)
  simp only [Nat.zero_mul,Addr.add_zero'] at h4
  rw [List.getElem?_eq_getElem (by rw [h2,hc];exact hs)] at h4
  exact World.cell?_spot h4
 obtain ⟨b,off,spot⟩:=a
 simp only at hspot
 subst hspot
 refine ⟨b,off,rfl,fun i y hy=>?_⟩
 have hi:i < len:=by
  have:=(List.getElem?_eq_some_iff.1 hy).1
  simpa using this
 rw [List.getElem?_map,List.getElem?_range hi] at hy
 cases hy
 obtain ⟨cs',h1,h2⟩:=hY i hi
 obtain ⟨_,h3,h4⟩:=World.cells?_some h1
 refine ⟨cs',by rw [h3,hc],fun j hj=>?_,h2⟩
 have:=h4 j (by rw [hc];exact hj)
 rw [hc,Addr.add_lit,Addr.add_lit] at this
 exact this
theorem fld {fs:Array Field} {cs:List Value} {n:Nat} {xs:List (DataW H×List MemPlace)}
  (hf:∀ (i:Nat) (f:Field),fs[i]?=some f->DataW.trod enc Try.prog w base spare held n f.type ((cs.drop f.offset).take ((Try.prog).cellsOf f.type))=xs[i]?)
  (i:Nat) (f:Field) (h:fs[i]?=some f) (hx:i < xs.length) (t:TypeId) (ht:f.type=t) (o:Nat) (ho:f.offset=o) (k:Nat) (hc:(Try.prog).cellsOf t=k):∃ x,DataW.trod enc Try.prog w base spare held n t ((cs.drop o).take k)=some x:=by
 subst ht;subst ho;subst hc
 exact ⟨xs[i],(hf i f h).trans (List.getElem?_eq_getElem hx)⟩
theorem wf_u8 {n:Int} (h:(Lit.int .u8 n).wf=true):∃ b:UInt8,n=(b.toNat:Int):=by
 have hb:=bounds_u8 h
 refine ⟨UInt8.ofNat n.toNat,?_⟩
 rw [UInt8.toNat_ofNat']
 omega
theorem zpF0:(Try.prog).cellsOf 3=1:=by kernel_rfl
theorem zUHV:(Try.prog).cellsOf 5=1:=by kernel_rfl
theorem zVhp:(Try.prog).cellsOf 37=1:=by kernel_rfl
theorem zmt1 {fuel:Nat} {cs:List Value} {x:DataW H×List MemPlace} (h:DataW.trod enc Try.prog w base spare held fuel 37 cs=some x) :
  ∃ (A:Option Addr) (c:Nat) (l:Bytes),cs=[.slice A l.length c]/\l.length<=maxLen/\RdB w A l:=by
 obtain ⟨A,len,c,l,rfl,rfl,hm,hx⟩:=zI6s (α:=UInt8) Try.underlying37 zUHV (by omega) (fun b cs=>cs=[.int .u8 b.toNat]) (fun fuel cs x h=>by
  obtain ⟨n,rfl,_,hw⟩:=DataW.trod_int Try.underlying5 h
  obtain ⟨b,rfl⟩:=wf_u8 hw
  exact ⟨b,rfl⟩) h
 refine ⟨A,c,l,rfl,hm,fun hne=>?_⟩
 obtain ⟨b,off,hA,hc⟩:=hx hne
 refine ⟨b,off,hA,fun j v hv=>?_⟩
 rw [z2D0] at hv
 obtain ⟨y,hy,rfl⟩:=Option.map_eq_some_iff.1 hv
 obtain ⟨cs',_,h1,rfl⟩:=hc j y hy
 have:=h1 0 (by omega)
 simpa using this
end
def zz52 (r:RecM) (A1:Option Addr) (c1:Nat) (A2:Option Addr) (c2:Nat):Value:=
 .agg #[.int .i64 r.lsn,.int .i64 r.turn,.int .u8 r.kind.toNat,.int .i64 r.tx,.int .i64 r.prev,.int .i64 r.next,.int .i64 r.blk,.int .i64 r.off,.slice A1 r.old.length c1,.slice A2 r.new.length c2]
def isI (n:Int):Prop:=-9223372036854775808<=n/\n<=9223372036854775807
structure RecOk (r:RecM):Prop where
 lsn:isI r.lsn
 turn:isI r.turn
 tx:isI r.tx
 prev:isI r.prev
 next:isI r.next
 blk:isI r.blk
 off:isI r.off
section
variable {H:Type} {enc:TypeId×Value->H} {w:World} {base:Nat} {spare:Nat->Bool} {held:Bool}
theorem z9qb:(Try.prog).cellsOf 42=4:=by kernel_rfl
theorem list4 {l:List Value} (h:l.length=4):∃ a b c d,l=[a,b,c,d]:=by
 match l,h with | [a,b,c,d],_=>exact ⟨a,b,c,d,rfl⟩
end
end Go.Proofs.Ytnbfhdgojmflhaa
