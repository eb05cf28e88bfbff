/-
  No statement is proved here.
-/
import Derived.Test.YtnbfhdgojmflhaaJGl
import Derived.Test.YtnbfhdgojmflhaaJGx
namespace Go.Proofs.Ytnbfhdgojmflhaa
open Go.RowKit
def logC (p:Nat) (lv tv:Value) (L:LogM):Array Value:=
 #[.pointer (some ⟨p,0,none⟩),.int .i64 L.first,.int .i64 L.count,.int .i64 L.turn,.int .i64 L.oldest,.int .i64 L.fin,.int .i64 L.safe,lv,tv,.int .i64 L.beg]
def LogQ (w:World) (q p:Nat) (lv tv:Value) (L:LogM):Prop:=w.heap[q]?=some (.cells (logC p lv tv L) 104 (0,0))
structure LogOk (L:LogM):Prop where
 f0:0<=L.first
 f1:L.first<=65536
 c0:4<=L.count
 c1:L.count<=65536
 o0:1<=L.oldest
 o1:L.oldest<=L.fin
 e1:L.fin<=3000000000000000000
 s0:1<=L.safe
 s1:L.safe<=3000000000000000000
theorem zATj (w:World) (q p:Nat) (lv tv:Value) (L:LogM) (h:LogQ w q p lv tv L) :
  Calls Try.prog 51 #[.pointer (some ⟨q,0,none⟩)] w fun e w'=>e=.returned (.bool true)/\w=w':=by
 have c0:w.cell? ⟨q,0,none⟩=some (.pointer (some ⟨p,0,none⟩)):=zcjX h rfl
 clear h
 go_enter Try.func51,Try.ntmps51
 go_wp2
 go_ret
 exact ⟨rfl,rfl⟩
theorem znpN (w:World) (q p:Nat) (lv tv:Value) (L:LogM) (h:LogQ w q p lv tv L) (hok:LogOk L) :
  Calls Try.prog 46 #[.pointer (some ⟨q,0,none⟩)] w fun e w'=>e=.returned (.int .i64 (L.count*408))/\w=w':=by
 have c2:w.cell? ⟨q,2,none⟩=some (.int .i64 L.count):=zcjX h rfl
 have h1:=hok.c0
 have h2:=hok.c1
 clear h hok
 generalize L.count=C at *
 go_enter Try.func46,Try.ntmps46
 go_wp2
 go_ret
 exact ⟨rfl,rfl⟩
theorem z4JP (w:World) (q p:Nat) (lv tv:Value) (L:LogM) (h:LogQ w q p lv tv L) :
  Calls Try.prog 33 #[.pointer (some ⟨q,0,none⟩)] w fun e w'=>e=.returned (.int .i64 L.fin)/\w=w':=by
 have HT:=qh (zATj w q p lv tv L h)
 have c5:w.cell? ⟨q,5,none⟩=some (.int .i64 L.fin):=zcjX h rfl
 clear h
 go_enter Try.func33,Try.ntmps33
 go_wp2_with (go_at_call 51;refine HT.out.mono ?_;rintro e w' ⟨rfl,rfl⟩)
 go_ret
 exact ⟨rfl,rfl⟩
theorem zOWC (w:World) (q p:Nat) (lv tv:Value) (L:LogM) (h:LogQ w q p lv tv L) :
  Calls Try.prog 38 #[.pointer (some ⟨q,0,none⟩)] w fun e w'=>e=.returned (.int .i64 L.safe)/\w=w':=by
 have HT:=qh (zATj w q p lv tv L h)
 have c6:w.cell? ⟨q,6,none⟩=some (.int .i64 L.safe):=zcjX h rfl
 clear h
 go_enter Try.func38,Try.ntmps38
 go_wp2_with (go_at_call 51;refine HT.out.mono ?_;rintro e w' ⟨rfl,rfl⟩)
 go_ret
 exact ⟨rfl,rfl⟩
theorem zdrd (w:World) (q p:Nat) (lv tv:Value) (L:LogM) (h:LogQ w q p lv tv L) (hok:LogOk L) (a:Int) (h1:1<=a) (h2:a<=4000000000000000000) :
  Calls Try.prog 54 #[.pointer (some ⟨q,0,none⟩),.int .i64 a] w fun e w'=>e=.returned (.tuple #[.int .i64 (secB L.first L.count a),.int .i64 (secO L.count a),.int .i64 (secF a)])/\w=w':=by
 have c1:w.cell? ⟨q,1,none⟩=some (.int .i64 L.first):=zcjX h rfl
 have c2:w.cell? ⟨q,2,none⟩=some (.int .i64 L.count):=zcjX h rfl
 have k1:=hok.c0
 have k2:=hok.c1
 have k3:=hok.f0
 have k4:=hok.f1
 clear h hok
 unfold secB secO secF
 generalize L.count=C at *
 generalize L.first=F at *
 go_enter Try.func54,Try.ntmps54
 go_wp2
 have n0:0<=(a - 1) / 51 % (C*8):=Int.emod_nonneg _ (by omega)
 have n1:(a - 1) / 51 % (C*8) < C*8:=Int.emod_lt_of_pos _ (by omega)
 generalize (a - 1) / 51 % (C*8)=N at *
 have e1:N.tdiv 8=N / 8:=Int.tdiv_eq_ediv_of_nonneg n0
 have e2:N.tmod 8=N % 8:=Int.tmod_eq_emod_of_nonneg n0
 have e3:wrap64 (F+wrap64 (N.tdiv 8))=F+N / 8:=by rw [e1];unfold wrap64;omega
 have e4:wrap64 (N.tmod 8*64)=N % 8*64:=by rw [e2];unfold wrap64;omega
 rw [e3,e4]
 go_ret3
 exact ⟨rfl,rfl⟩
theorem zSEi {C a:Int} (h0:4<=C):0<=secO C a/\secO C a<=448:=by
 have n0:0<=(a - 1) / 51 % (C*8):=Int.emod_nonneg _ (by omega)
 unfold secO
 omega
theorem zjuj {a:Int}:secF a<=a/\a<=secF a+50:=by
 unfold secF
 omega
end Go.Proofs.Ytnbfhdgojmflhaa
