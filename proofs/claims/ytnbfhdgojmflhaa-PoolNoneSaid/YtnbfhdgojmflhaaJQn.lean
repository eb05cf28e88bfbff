/-
  No statement is proved here.
-/
import Derived.Shelf.SlSortCmp.Whole1
import Derived.Shelf.SlSortCmp.NoneTotal
import Derived.Test.YtnbfhdgojmflhaaJQk
namespace Go.Proofs.Ytnbfhdgojmflhaa
open Go.Shelf
def zNL7:Go.Shelf.Ren:=⟨fun | 6=>66 | 15=>83 | 14=>82 | 28=>96 | 29=>97 | 20=>88 | 21=>89 | 22=>90 | 23=>91 | 24=>92 | 25=>93 | 26=>94 | 27=>95 | 46=>100 | 47=>101 | 48=>102 | 49=>103 | 50=>104 | 57=>106 | n=>n,fun | 22=>52 | 24=>92 | 25=>128 | 3=>3 | 39=>139 | 0=>0 | 53=>133 | 55=>150 | 4=>4 | 46=>153 | 45=>152 | 50=>120 | 5=>5 | 9=>9 | 66=>162 | 70=>166 | 76=>169 | 77=>170 | n=>n,fun | n=>n⟩
theorem sortF:Go.Proofs.SlLaysF.n6 Try.prog zNL7:={
 mixed:=by kernel_rfl
 f6:=⟨Try.f66.name,by decide,Try.func66.trans (congrArg some (by kernel_rfl))⟩
 f14:=⟨Try.f82.name,by decide,Try.func82.trans (congrArg some (by kernel_rfl))⟩
 f15:=Try.func83.trans (congrArg some (by kernel_rfl))
 f20:=⟨Try.f88.name,by decide,Try.func88.trans (congrArg some (by kernel_rfl))⟩
 f21:=⟨Try.f89.name,by decide,Try.func89.trans (congrArg some (by kernel_rfl))⟩
 f22:=⟨Try.f90.name,by decide,Try.func90.trans (congrArg some (by kernel_rfl))⟩
 f23:=⟨Try.f91.name,by decide,Try.func91.trans (congrArg some (by kernel_rfl))⟩
 f24:=⟨Try.f92.name,by decide,Try.func92.trans (congrArg some (by kernel_rfl))⟩
 f25:=⟨Try.f93.name,by decide,Try.func93.trans (congrArg some (by kernel_rfl))⟩
 f26:=⟨Try.f94.name,by decide,Try.func94.trans (congrArg some (by kernel_rfl))⟩
 f27:=⟨Try.f95.name,by decide,Try.func95.trans (congrArg some (by kernel_rfl))⟩
 f28:=Try.func96.trans (congrArg some (by kernel_rfl))
 f29:=Try.func97.trans (congrArg some (by kernel_rfl))
 f46:=⟨Try.f100.name,by decide,Try.func100.trans (congrArg some (by kernel_rfl))⟩
 f47:=Try.func101.trans (congrArg some (by kernel_rfl))
 f48:=Try.func102.trans (congrArg some (by kernel_rfl))
 f49:=⟨Try.f103.name,by decide,Try.func103.trans (congrArg some (by kernel_rfl))⟩
 f50:=⟨Try.f104.name,by decide,Try.func104.trans (congrArg some (by kernel_rfl))⟩
 f57:=⟨Try.f106.name,by decide,Try.func106.trans (congrArg some (by kernel_rfl))⟩
 t0:=Try.underlying0
 a0:=Try.isAgg0
 z0:=Try.sizeOf0
 v0:=Try.zeroValue0
 t3:=Try.underlying3
 a3:=Try.isAgg3
 z3:=Try.sizeOf3
 v3:=Try.zeroValue3
 t4:=Try.underlying4
 a4:=Try.isAgg4
 z4:=Try.sizeOf4
 v4:=Try.zeroValue4
 t5:=Try.underlying5
 a5:=Try.isAgg5
 z5:=Try.sizeOf5
 v5:=Try.zeroValue5
 t9:=Try.underlying9
 a9:=Try.isAgg9
 z9:=Try.sizeOf9
 v9:=Try.zeroValue9
 t22:=Try.underlying52
 a22:=Try.isAgg52
 z22:=Try.sizeOf52
 v22:=Try.zeroValue52
 a24:=Try.isAgg92
 z24:=Try.sizeOf92
 t25:=Try.underlying128
 a25:=Try.isAgg128
 z25:=Try.sizeOf128
 v25:=Try.zeroValue128
 t39:=Try.underlying139
 a39:=Try.isAgg139
 z39:=Try.sizeOf139
 v39:=Try.zeroValue139
 t45:=Try.underlying152
 a45:=Try.isAgg152
 z45:=Try.sizeOf152
 v45:=Try.zeroValue152
 t46:=Try.underlying153
 a46:=Try.isAgg153
 z46:=Try.sizeOf153
 v46:=Try.zeroValue153
 t50:=Try.underlying120
 a50:=Try.isAgg120
 z50:=Try.sizeOf120
 v50:=Try.zeroValue120
 t53:=Try.underlying133
 a53:=Try.isAgg133
 z53:=Try.sizeOf133
 v53:=Try.zeroValue133
 t55:=Try.underlying150
 a55:=Try.isAgg150
 z55:=Try.sizeOf150
 v55:=Try.zeroValue150
 t66:=Try.underlying162
 a66:=Try.isAgg162
 z66:=Try.sizeOf162
 v66:=Try.zeroValue162
 t70:=Try.underlying166
 a70:=Try.isAgg166
 z70:=Try.sizeOf166
 v70:=Try.zeroValue166
 t76:=Try.underlying169
 a76:=Try.isAgg169
 z76:=Try.sizeOf169
 v76:=Try.zeroValue169
 t77:=Try.underlying170
 a77:=Try.isAgg170
 z77:=Try.sizeOf170
 v77:=Try.zeroValue170 }
end Go.Proofs.Ytnbfhdgojmflhaa
namespace Go.Proofs.Ytnbfhdgojmflhaa
open Go.RowKit Go.Sort Go.Shelf Go.Lib
section
variable {α:Type} [Inhabited α] {enc:α->Value}
theorem zxJx {w:World} {g n:Nat} {os:Array Obj} {cur:Array Value} {e:TypeId} {fr:Nat×Nat} (d:Array α) (hb:w.heap[g]?=some (.cells cur e fr)) :
  (grow (putRow enc (Sort.ahead w n) g 0 d) os).heap[g]?=some (.cells (putCells enc 0 d cur) e fr):=by
 have hg:g < w.heap.size:=(Array.getElem?_eq_some_iff.1 hb).1
 rw [heap_grow_old _ _ (by simpa using hg)]
 simp [putRow,mapBlock,Sort.ahead,Array.getElem?_modify,hb,onCells]
theorem zQzR {w:World} {g n:Nat} {os:Array Obj} (d:Array α) {k:Nat} (hk:k < w.heap.size) (hne:g≠k):(grow (putRow enc (Sort.ahead w n) g 0 d) os).heap[k]?=w.heap[k]?:=by
 rw [heap_grow_old _ _ (by simpa using hk)]
 simp [putRow,mapBlock,Sort.ahead,Array.getElem?_modify,hne]
theorem zVhN {w:World} {g n:Nat} {os:Array Obj} (d:Array α):Kept (fun z=>z=g) w (grow (putRow enc (Sort.ahead w n) g 0 d) os):=
 ⟨rfl,rfl,rfl,by simp,fun k hk hne=>zQzR d hk (fun e=>hne e.symm)⟩
theorem z0NJ (cur:Array Value) (ts:List α) (h:ts.length<=cur.size):(putCells enc 0 ts.toArray cur).toList.take ts.length=ts.map enc:=by
 apply List.ext_getElem?
 intro j
 by_cases hj:j < ts.length
 ·rw [List.getElem?_take_of_lt hj,Array.getElem?_toList]
  simp [putCells,hj,show j < cur.size by omega]
 ·rw [List.getElem?_take_eq_none (by omega),List.getElem?_eq_none (by simp;omega)]
end
section
variable {w w' w1:World} {a:Adr} {P:PoolM} {L:LogM} {D:DevM}
set_option maxRecDepth 100000 in
theorem z34J (W:World) {k1 k2:Nat} {p1 p2:Int} (h1:W.cell? ⟨k1,0,none⟩=some (.int .i64 p1)) (h2:W.cell? ⟨k2,0,none⟩=some (.int .i64 p2)) (b1:0<=p1) (b2:p1<=65536) (b3:0<=p2) (b4:p2<=65536) :
  Calls Try.prog 67 #[.pointer (some ⟨k1,0,none⟩),.pointer (some ⟨k2,0,none⟩)] W fun e w'=>e=.returned (.int .i64 (p1 - p2))/\∃ q,w'=W.drewN q:=by
 have e2:IntKind.i64.wrap (p1 - p2)=p1 - p2:=by rw [IntKind.wrap_i64];omega
 go_enter Try.func67,Try.ntmps67
 go_wp2_with fail
 go_quiet (fail)
 go_wp2
 go_ret
 exact ⟨rfl,_,rfl⟩
theorem PoolM.pageAt_eq (P:PoolM) {i:Nat} (h:i < P.ring.length):P.pageAt i=P.ring[i].page:=by
 unfold PoolM.pageAt
 rw [List.getD_eq_getElem?_getD,List.getElem?_eq_getElem h]
 rfl
def ptrAt (xs:List FrD) (i:Nat):Value:=ptrV ((xs.map (·.k)).getD i 0)
theorem zGWN {xs:List FrD} {i:Nat} {x:FrD} (h:xs[i]?=some x):ptrAt xs i=ptrV x.k:=by
 unfold ptrAt
 rw [List.getD_eq_getElem?_getD,List.getElem?_map,h]
 rfl
set_option maxRecDepth 100000 in
theorem zICf (h:PoolS w a P L D) (hn:PoolN P) (is:List Nat) (his:∀ i∈is,i < a.xs.length) {base g cap m:Nat} (hg:¬ a.K g) (hm:m=is.length) (hm2:m<=1024)
  (ho:w.ownsRow base 92 1 (.slice (some ⟨g,0,none⟩) m cap) m (is.map (ptrAt a.xs))) :
  Calls Try.prog 66 #[.slice (some ⟨g,0,none⟩) m cap,.func (.func 67) #[] #[]] w fun e w'=>e=.returned (.tuple #[])/\Kept (fun z=>z=g) w w' /\
   w'.ownsRow base 92 1 (.slice (some ⟨g,0,none⟩) m cap) m ((is.mergeSort (fun i j=>decide (P.pageAt i<=P.pageAt j))).map (ptrAt a.xs)):=by
 obtain ⟨hlen,ho⟩:=ho
 rcases ho with ⟨e0,_⟩ | ⟨g',cap',cur,e0,hb,hh,h1,h2,h3,h4⟩
 ·cases e0
 cases e0
 have hfin:=h.len
 by_cases hz:a.xs.length=0
 ·have hm0:m=0:=by
   rw [hm]
   cases is with
   | nil=>rfl
   | cons i _=>have:=his i (by simp);omega
  have his0:is=[]:=List.length_eq_zero_iff.1 (by omega)
  subst hm0;subst his0
  refine (AnyF.slices_SortFunc_none (P:=Try.prog) { sortF with } (some ⟨g,0,none⟩) cap _ w).mono ?_
  rintro e w' ⟨he,rfl⟩
  exact ⟨he,Kept.refl _ _,⟨by simp,.inr ⟨g,cap,cur,rfl,hb,hh,h1,h2,h3,by simp⟩⟩⟩
 ·obtain ⟨n,hnn⟩:∃ n,n=a.xs.length:=⟨_,rfl⟩
  have n0:0 < n:=by omega
  haveI:Inhabited (Fin n):=⟨⟨0,n0⟩⟩
  have toF:∀ i,i % n < n:=fun i=>Nat.mod_lt _ n0
  obtain ⟨F,hF⟩:∃ F:Nat->Fin n,F=fun i=>⟨i % n,toF i⟩:=⟨_,rfl⟩
  obtain ⟨enc,henc⟩:∃ enc:Fin n->Value,enc=fun i=>ptrAt a.xs i.val:=⟨_,rfl⟩
  obtain ⟨cf,hcf⟩:∃ cf:Fin n->Fin n->Int,cf=fun i j=>P.pageAt i.val - P.pageAt j.val:=⟨_,rfl⟩
  have hlt:∀ x y:Fin n,ltOf cf x y=decide (P.pageAt x.val < P.pageAt y.val):=fun x y=>by
   unfold ltOf;rw [hcf];dsimp only;congr 1;exact propext ⟨fun h=>by omega,fun h=>by omega⟩
  have hO:SWO (ltOf cf):=⟨fun x=>by rw [hlt];simp,fun x y z h1 h2=>by rw [hlt] at *;simp at *;omega,fun x y z h1 h2=>by rw [hlt] at *;simp at *;omega⟩
  have hpg:∀ x:Fin n,∃ y,a.xs[x.val]?=some y/\y.m.page=P.pageAt x.val/\0<=y.m.page/\y.m.page<=65536/\enc x=.pointer (some ⟨y.k,0,none⟩):=fun x=>by
   have hx:x.val < a.xs.length:=by have:=x.isLt;omega
   have hy:a.xs[x.val]?=some a.xs[x.val]:=List.getElem?_eq_getElem hx
   have hr:=h.ringAt hy
   have hl:x.val < P.ring.length:=(List.getElem?_eq_some_iff.1 hr).1
   have hp:=hn.pg _ (List.mem_of_getElem? hr)
   have:=hn.fb;have:=hn.f0
   refine ⟨_,hy,?_,hp.1,by omega,by rw [henc];exact zGWN hy⟩
   rw [PoolM.pageAt_eq P hl]
   exact congrArg FrM.page (List.getElem?_eq_some_iff.1 hr).2.symm
  have hT:∀ x y:Fin n,ltOf cf x y=false->ltOf cf y x=false->x=y:=fun x y e1 e2=>by
   rw [hlt] at e1 e2
   simp at e1 e2
   obtain ⟨u,hu,hu2,_⟩:=hpg x
   obtain ⟨v,hv,hv2,_⟩:=hpg y
   have hnd:(a.xs.map (fun x=>x.m.page)).Nodup:=by rw [h.pagesX];exact hn.nd
   have e3:v.m.page=u.m.page:=by omega
   refine Fin.ext (zdvz hnd (x:=u.m.page) (by rw [List.getElem?_map,hu];rfl) (by rw [List.getElem?_map,hv];exact congrArg some e3))
  have hmod:∀ i∈is,(F i).val=i:=fun i hi=>by rw [hF];exact Nat.mod_eq_of_lt (by have:=his i hi;omega)
  have henc2:(is.map F).map enc=is.map (ptrAt a.xs):=by
   rw [List.map_map]
   refine List.map_congr_left (fun i hi=>?_)
   show enc (F i)=_
   rw [henc];dsimp only;rw [hmod i hi]
  have h1c:OneCell enc:=fun x=>by obtain ⟨_,_,_,_,_,e⟩:=hpg x;rw [e];rfl
  have hd:(is.map F).toArray.size=m:=by simp [hm]
  have hH:Holds enc w g 0 (is.map F).toArray:=by
   intro j hj
   have hj':j < is.length:=by simpa using hj
   refine ⟨?_,by simp [World.frozen?,hh]⟩
   have e5:(cur.toList.take (m*1))[j]?=(is.map (ptrAt a.xs))[j]?:=by rw [h4]
   rw [List.getElem?_take_of_lt (by omega),<- henc2] at e5
   simp only [World.cell?,hh,Nat.zero_add]
   simp only [Option.isSome_none,Bool.false_eq_true,if_false]
   rw [<- Array.getElem?_toList,e5]
   simp [hj']
  have eg:∀ args w,(callFunc 67 args).run Try.prog w=.ok (.enter 67 args) w:=enters_of Try.func67 (by kernel_rfl) rfl
  have hcmp:CmpReads Try.prog 67 #[] enc cf g 0 (is.map F).toArray.size w:=fun m0 os dk _ x y=>by
   obtain ⟨u,hu,hu2,hu3,hu4,hu5⟩:=hpg x
   obtain ⟨v,hv,hv2,hv3,hv4,hv5⟩:=hpg y
   have hum:=List.mem_of_getElem? hu
   have hvm:=List.mem_of_getElem? hv
   have cu:(sortWorld enc w g 0 m0 dk os).heap[u.k]?=some (.cells (frC u) 94 (0,0)):=by
    unfold sortWorld
    rw [zQzR dk (h.tk hum).lt (fun e=>hg (.inr (.inr (.inr (.inr ⟨u,hum,.inl e⟩)))))]
    exact (h.fr u hum).1
   have cv:(sortWorld enc w g 0 m0 dk os).heap[v.k]?=some (.cells (frC v) 94 (0,0)):=by
    unfold sortWorld
    rw [zQzR dk (h.tk hvm).lt (fun e=>hg (.inr (.inr (.inr (.inr ⟨v,hvm,.inl e⟩)))))]
    exact (h.fr v hvm).1
   have:=z34J (sortWorld enc w g 0 m0 dk os) (p1:=u.m.page) (p2:=v.m.page) (zcjX cu rfl) (zcjX cv rfl) hu3 hu4 hv3 hv4
   rw [hu5,hv5,hcf]
   dsimp only
   rw [<- hu2,<- hv2]
   exact this
  have hcon:=Any.slices_SortFunc_total sortF enc h1c cf hO 67 #[] g 0 cap (is.map F).toArray w eg hcmp.lays hH (zvKu hh) (by rw [hd];omega) hT
  rw [hd] at hcon
  refine hcon.mono ?_
  rintro e w' ⟨he,n1,os,rfl⟩
  have hms:(is.map F).toArray.toList.mergeSort (fun x y=>!(ltOf cf) y x)=(is.mergeSort (fun i j=>decide (P.pageAt i<=P.pageAt j))).map F:=by
   rw [List.toList_toArray]
   refine (List.map_mergeSort (fun i hi j hj=>?_)).symm
   rw [hlt,hmod i hi,hmod j hj]
   by_cases c:P.pageAt j < P.pageAt i
   ·simp [c]
   ·simp [c];omega
  have hperm:(is.mergeSort (fun i j=>decide (P.pageAt i<=P.pageAt j))).Perm is:=List.mergeSort_perm ..
  have hmod2:∀ i∈is.mergeSort (fun i j=>decide (P.pageAt i<=P.pageAt j)),enc (F i)=ptrAt a.xs i:=fun i hi=>by
   rw [henc];dsimp only;rw [hmod i (hperm.mem_iff.1 hi)]
  rw [hms]
  refine ⟨he,zVhN _,⟨by rw [List.length_map,hperm.length_eq];omega,.inr ⟨g,cap,_,rfl,hb,zxJx _ hh,h1,h2,by simp [putCells,h3],?_⟩⟩⟩
  have hl2:m*1=((is.mergeSort (fun i j=>decide (P.pageAt i<=P.pageAt j))).map F).length:=by rw [List.length_map,hperm.length_eq];omega
  rw [hl2,z0NJ cur _ (by omega),List.map_map]
  exact List.map_congr_left (fun i hi=>hmod2 i hi)
end
end Go.Proofs.Ytnbfhdgojmflhaa
