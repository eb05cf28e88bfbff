/-
  No statement is proved here.
-/
import Derived.Test.YtfgagakepmigbaaGreatJLgo
import Derived.Great.BuildSlice
namespace Go.Proofs.YtfgagakepmigbaaGreat
open Go.RowKit
structure RowR where
 r:RecM
 A1:Option Addr
 c1:Nat
 A2:Option Addr
 c2:Nat
def rowC (x:RowR):List Value:=(recC x.r x.A1 x.c1 x.A2 x.c2).toList
def rowsC (l:List RowR):List Value:=(l.map rowC).flatten
theorem z5Qc (l:List RowR) (x:RowR):rowsC (l ++ [x])=rowsC l ++ rowC x:=by simp [rowsC]
structure RecsV (w:World) (base:Nat) (v:Value) (l:List RowR):Prop where
 row:w.ownsRow base 86 10 v l.length (rowsC l)
 own:∀ x∈l,OwnV w base (.slice x.A1 x.r.old.length x.c1) x.r.old/\OwnV w base (.slice x.A2 x.r.new.length x.c2) x.r.new
theorem RecsV.nil (w:World) (base:Nat):RecsV w base (.slice none 0 0) []:=⟨⟨rfl,.inl ⟨rfl,rfl⟩⟩,fun x h=>by cases h⟩
theorem RecsV.keep {S:Nat->Prop} {w w':World} {base:Nat} {v:Value} {l:List RowR} (h:RecsV w base v l) (hk:Kept S w w') (hn:∀ x,v.ownBlock=some x->¬ S x) (hb:∀ g cur,base<=g->w.heap[g]?=some (.cells cur 5 (0,0))->¬ S g):RecsV w' base v l:=by
 have aux:∀ (A:Option Addr) (n c:Nat) (b:Bytes),OwnV w base (.slice A n c) b->OwnV w' base (.slice A n c) b:=fun A n c b h=>by
  refine h.keep hk (fun x hx=>?_)
  rcases h.form with ⟨h1,_⟩ | ⟨g,cap,h1,h2⟩
  ·cases h1;cases hx
  ·cases h1;cases hx
   obtain ⟨cur,h3,h4,_⟩:=h2.form
   exact hb _ cur h3 h4
 exact ⟨zh0U h.row hk hn,fun x hx=>⟨aux _ _ _ _ (h.own x hx).1,aux _ _ _ _ (h.own x hx).2⟩⟩
theorem RecsV.keep0 {w w':World} {base:Nat} {v:Value} {l:List RowR} (h:RecsV w base v l) (hk:Kept (fun _=>False) w w'):RecsV w' base v l:=h.keep hk (fun _ _=>id) (fun _ _ _ _=>id)
theorem zWkH:((Tryz.prog).info? 86).map (fun i=>(i.zero,i.size,i.bytes))=some (some (.agg zRecC),10,112):=by kernel_rfl
theorem bRec (r:RecM) (A1:Option Addr) (c1:Nat) (A2:Option Addr) (c2:Nat) (wz:World):(Instr.buildSlice 111 1 #[(0,.agg (recC r A1 c1 A2 c2))]).run Tryz.prog wz =
  .ok (.slice (some ⟨wz.heap.size,0,none⟩) 1 1) (wz.alloc (.cells (recC r A1 c1 A2 c2) 86)):=by
 obtain ⟨i,hi,h2,h3,h4⟩:=info_parts zWkH
 exact run_buildSlice wz _ 86 1 _ _ i _ Tryz.underlying111 hi h2 (by rw [h3];decide) (by rw [h3];decide) (by rw [h3];kernel_rfl)
theorem zcDi {w:World} {ops:Array Oper} {rest:List Oper} {o:Oper} {a:Act} {Q:Exit->Act->World->Prop} (hgd:o.guard=none) (x:Operand) (ho:o.op=.buildSlice 111 1 #[(0,x)]) (r:RecM) (A1:Option Addr) (c1:Nat) (A2:Option Addr) (c2:Nat)
  (hx:a.eval x=.agg (recC r A1 c1 A2 c2))
  (k:∀ g w',w.heap.size<=g->w'.heap[g]?=some (.cells (recC r A1 c1 A2 c2) 86 (0,0))->Kept (fun _=>False) w w'->wpList Tryz.prog ops Q rest (a.put o.dst (.slice (some ⟨g,0,none⟩) 1 1)) w'):wpList Tryz.prog ops Q (o :: rest) a w:=by
 refine z3Ho hgd ?_ (k w.heap.size _ (Nat.le_refl _) (heap_alloc_new w _) ((Kept.refl _ w).alloc _))
 have h:=bRec r A1 c1 A2 c2 w
 simp only [execOp,ho,List.map_toArray,List.map_cons,List.map_nil,hx,Sem.run_bind,h,Result.andThen_ok]
 rfl
theorem RecsV.append {w:World} {base:Nat} {v:Value} {l:List RowR} (h:RecsV w base v l) (x:RowR) (h1:OwnV w base (.slice x.A1 x.r.old.length x.c1) x.r.old) (h2:OwnV w base (.slice x.A2 x.r.new.length x.c2) x.r.new)
  {w':World} {v':Value} (hr:w'.ownsRow base 86 10 v' (l.length+1) (rowsC l ++ rowC x)) (hk:Kept (fun x=>v.ownBlock=some x) w w'):RecsV w' base v' (l ++ [x]):=by
 have nb:∀ g cur,base<=g->w.heap[g]?=some (.cells cur 5 (0,0))->¬ v.ownBlock=some g:=fun g cur _ hg e=>by
  rcases h.row.2 with ⟨rfl,_⟩ | ⟨g',cap,cur',rfl,_,hg',_⟩
  ·cases e
  ·cases e
   rw [hg] at hg'
   cases hg'
 have aux:∀ (A:Option Addr) (n c:Nat) (b:Bytes),OwnV w base (.slice A n c) b->OwnV w' base (.slice A n c) b:=fun A n c b h=>by
  refine h.keep hk (fun x hx=>?_)
  rcases h.form with ⟨h1,_⟩ | ⟨g,cap,h1,h2⟩
  ·cases h1;cases hx
  ·cases h1;cases hx
   obtain ⟨cur,h3,h4,_⟩:=h2.form
   exact nb _ cur h3 h4
 refine ⟨by rw [List.length_append,List.length_singleton,z5Qc];exact hr,fun y hy=>?_⟩
 rcases List.mem_append.1 hy with hy | hy
 ·exact ⟨aux _ _ _ _ (h.own y hy).1,aux _ _ _ _ (h.own y hy).2⟩
 ·rw [List.mem_singleton] at hy
  subst hy
  exact ⟨aux _ _ _ _ h1,aux _ _ _ _ h2⟩
theorem zL8C:(Value.agg zRecC).cells.size=10:=rfl
theorem zDxY {w:World} {b:Nat} {x:RowR} {t:TypeId} {fr:Nat×Nat} (h:w.heap[b]?=some (.cells (recC x.r x.A1 x.c1 x.A2 x.c2) t fr)) (j:Nat) (u:Value) (hu:(rowC x)[j]?=some u):w.cell? ⟨b,0+j,none⟩=some u:=by
 rw [Nat.zero_add]
 exact zcjX h (by unfold rowC at hu;rwa [Array.getElem?_toList] at hu)
theorem zwve {w:World} {ops:Array Oper} {rest:List Oper} {o:Oper} {a:Act} {Q:Exit->Act->World->Prop} (hgd:o.guard=none) (s xo:Operand)
  (ho:o.op=.call { callee:=.builtin .append,args:=#[s,xo],argTypes:=#[111,111] }) (base:Nat) (v:Value) (l:List RowR) (hs:a.eval s=v) (h:RecsV w base v l) (x:RowR)
  (h1:OwnV w base (.slice x.A1 x.r.old.length x.c1) x.r.old) (h2:OwnV w base (.slice x.A2 x.r.new.length x.c2) x.r.new)
  (b c:Nat) (hx:a.eval xo=.slice (some ⟨b,0,none⟩) 1 c) (hb:w.heap[b]?=some (.cells (recC x.r x.A1 x.c1 x.A2 x.c2) 86 (0,0))) (h63:l.length<=1000000000) (hbase:base<=w.heap.size)
  (k:∀ v' w',RecsV w' base v' (l ++ [x])->Kept (fun x=>v.ownBlock=some x) w w'->(v'.ownBlock=v.ownBlock\/∀ x,v'.ownBlock=some x->w.heap.size<=x)->wpList Tryz.prog ops Q rest (a.put o.dst v') w'):wpList Tryz.prog ops Q (o :: rest) a w:=by
 have e63:maxLen=9223372036854775807:=rfl
 refine wl_append (P:=Tryz.prog) hgd s xo 111 ho base 86 (z:=.agg zRecC) (size:=10) (bytes:=112) Tryz.underlying111 zWkH zL8C (by decide) v l.length (rowsC l) hs h.row b 0 1 c (rowC x) hx rfl (zDxY hb)
  (fun u hu=>(Array.all_eq_true_iff_forall_mem.1 (zh6u x.r x.A1 x.c1 x.A2 x.c2)) u (by unfold rowC at hu;simpa using hu)) (by decide) (by omega) (by omega) hbase ?_
 intro g cap w' hr hk hat hlt
 refine k _ w' (h.append x h1 h2 hr hk) hk ?_
 rcases hat with h | h
 ·exact .inl (by rw [h];rfl)
 ·exact .inr (fun x hx=>by have:g=x:=Option.some.inj hx;omega)
def LogM.fromL (L:LogM) (D:DevM) (l:List Int):List RecM:=l.filterMap fun a=>(L.read D a).1
def LogM.fromM (L:LogM) (D:DevM) (lsn:Int):List RecM:=if zVUo L.lsns lsn then L.fromL D (L.lsns.drop (findM L.lsns lsn)) else []
theorem zui1 (c1:Prop) [Decidable c1] (b:Bytes×Int):(if c1 then ((none:Option RecM),(6:Int)) else if b.2≠0 then (none,b.2) else match getL b.1 with | some (r,_)=>(some r,0) | none=>(none,4)).1=none ↔
  (if c1 then ((none:Option RecM),(6:Int)) else if b.2≠0 then (none,b.2) else match getL b.1 with | some (r,_)=>(some r,0) | none=>(none,4)).2≠0:=by
 by_cases h1:c1
 ·simp only [if_pos h1];simp
 ·simp only [if_neg h1]
  by_cases h2:b.2≠0
  ·simp only [if_pos h2];simpa using h2
  ·simp only [if_neg h2]
   cases getL b.1 with
   | none=>simp
   | some x=>obtain ⟨r,k⟩:=x;simp
theorem zCZS (L:LogM) (D:DevM) (lsn:Int):(L.read D lsn).1=none↔(L.read D lsn).2≠0:=zui1 _ _
theorem zqXl {ev:Operand->Value} {o:Oper} (x z:Operand) (k m c':Nat) {A':Option Addr} (ho:o.op=.slice 28 x (some z) none none) (A:Option Addr) (n c:Nat) (hI:Int) (hx:ev x=.slice A n c) (hz:ev z=.int .i64 hI) (e:hI=(k:Int)) (hk:k<=n) (hA:slA A k c=A') (hm:n - k=m) (hc:c - k=c') (w:World) :
  (execOp ev o).run Tryz.prog w=.ok (.value (.slice A' m c')) w:=by
 subst hA;subst hm;subst hc
 exact zJ3p x z k ho A n c hI hx hz e hk w
def z70W (w:World) (l:List RecM) (e:Ending) (w':World):Prop:=Kept (fun _=>False) w w'/\∃ v rows,e=.returned v/\RecsV w' w.heap.size v rows/\rows.map (fun x=>x.r)=l
set_option maxRecDepth 100000 in
set_option maxHeartbeats 1600000 in
theorem zpaU (w:World) (q p ms mo:Nat) (lv tv:Value) (L:LogM) (D:DevM) (h:LogS w q p ms mo lv tv L D) (hok:LogOk L) (hb:LogB L) (hr:LogR L) (lsn:Int) :
  Calls Tryz.prog 75 #[.pointer (some ⟨q,0,none⟩),.int .i64 lsn] w (z70W w (L.fromM D lsn)):=by
 obtain ⟨Al,nl,cl,hlv,hnl⟩:=h.hl.form3
 subst hlv
 obtain ⟨k,hk⟩:∃ k,k=findM L.lsns lsn:=⟨_,rfl⟩
 have HBS:=qh (show Calls Tryz.prog 90 #[.slice Al nl cl,.int .i64 lsn] w fun e w'=>e=.returned (.tuple #[.int .i64 (k:Nat),.bool (zVUo L.lsns lsn)])/\w=w' from by
  obtain ⟨A,c,h1,h2,h3,h4⟩:=h.hl.slice
  cases h1
  rw [hk]
  exact zpf1 _ _ _ _ _ hr.ri hr.ll h4)
 have hkl:k<=nl:=by
  rw [hk,hnl]
  unfold findM
  exact (List.takeWhile_sublist _).length_le
 have HTH:=qh (zATj w q p _ tv L h.hq)
 have HRD:=qh (fun wx (hx:LogS wx q p ms mo (.slice Al nl cl) tv L D) a=>zT6Z wx q p ms mo _ tv L D hx hok hb hr a)
 have c7:w.cell? ⟨q,7,none⟩=some (.slice Al nl cl):=zcjX h.hq rfl
 have H:=qh h
 have HNL:=qh hnl
 have ll:nl<=1000000000:=by rw [hnl];exact hr.ll
 obtain ⟨X,hX⟩:∃ X,X=L.fromM D lsn:=⟨_,rfl⟩
 have hv:X=if zVUo L.lsns lsn then L.fromL D (L.lsns.drop k) else []:=by rw [hX,hk];rfl
 rw [<- hX]
 have HV:=qh hv
 obtain ⟨FO,hFO⟩:∃ FO,FO=zVUo L.lsns lsn:=⟨_,rfl⟩
 rw [<- hFO] at HBS HV
 clear h hok hb hr hk hnl hX hv hFO
 go_enter Tryz.func75,Tryz.ntmps75
 go_wp2_with fail
 refine HTH.out.mono ?_
 rintro e wx ⟨rfl,rfl⟩
 go_wp2_with fail
 refine HBS.out.mono ?_
 rintro e wx ⟨rfl,rfl⟩
 cases FO
 ·have HX:=qh (show X=[] from by rw [HV.out];rfl)
  go_wp2
  go_ret
  rw [HX.out]
  exact ⟨Kept.refl _ _,_,[],rfl,RecsV.nil _ _,rfl⟩
 ·have HX:=qh (show X=L.fromL D (L.lsns.drop k) from by rw [HV.out];rfl)
  clear HV
  obtain ⟨A2,hA2⟩:∃ A2,A2=slA Al k cl:=⟨_,rfl⟩
  obtain ⟨n2,hn2⟩:∃ n2,n2=nl - k:=⟨_,rfl⟩
  have HCE:=qh (show ∀ (j:Nat) x,(L.lsns.drop k)[j]?=some x->∃ g off,A2=some ⟨g,off,none⟩/\w.cell? ⟨g,off+j,none⟩=some (.int .i64 x) from by
   obtain ⟨A,c,h1,h2,h3,h4⟩:=(H.out.hl.drop k hkl).slice
   injection h1 with e1 e2 e3
   rw [hA2,e1]
   exact h4)
  have HLN:=qh (show (L.lsns.drop k).length=n2 from by rw [List.length_drop,hn2,HNL.out])
  have hn3:n2<=1000000000:=by omega
  obtain ⟨LS,hLS⟩:∃ LS,LS=L.lsns.drop k:=⟨_,rfl⟩
  rw [<- hLS] at HCE HLN HX
  have HA2:=qh hA2
  have HN2:=qh hn2
  clear hA2 hn2 hLS
  obtain ⟨cc2,hcc2⟩:∃ cc2,cl - k=cc2:=⟨_,rfl⟩
  have HCC:=qh hcc2
  clear hcc2
  go_wp2_with (refine z3Ho rfl (zqXl _ _ k n2 cc2 rfl Al nl cl _ rfl rfl rfl hkl HA2.out.symm HN2.out.symm HCC.out _) ?_)
  go_loopw [7,33] (fun v x wr=>∃ (j:Nat) (rows:List RowR),j<=n2/\x=.int .i64 j/\RecsV wr w.heap.size v rows/\rows.map (fun x=>x.r)=L.fromL D (LS.take j)/\rows.length<=j/\Kept (fun _=>False) w wr) (fun v x wr=>n2 - (intOf x).toNat)
  case atStart=>exact ⟨0,[],Nat.zero_le _,rfl,RecsV.nil _ _,rfl,Nat.le_refl _,Kept.refl _ _⟩
  case round=>
   obtain ⟨j,rows,hj,rfl,hrv,hrm,hrl,hk⟩:=hrel
   have HRV:=qh hrv
   have HRM:=qh hrm
   have HK:=qh hk
   have HSr:=qh (H.out.keep hk (fun _ _=>id))
   clear hrv hrm hk
   by_cases hlt:j < n2
   ·have i1:(j:Int) < (n2:Int):=by omega
    obtain ⟨a,ha⟩:∃ a,LS[j]?=some a:=⟨_,List.getElem?_eq_getElem (by rw [HLN.out];exact hlt)⟩
    obtain ⟨g0,o0,hA,cm⟩:=HCE.out j a ha
    have ht:L.fromL D (LS.take (j+1))=L.fromL D (LS.take j) ++ (match (L.read D a).1 with | some r=>[r] | none=>[]):=by
     unfold LogM.fromL
     rw [List.take_add_one,ha,List.filterMap_append]
     congr 1
     cases hq:(L.read D a).1<;>simp [hq]
    have HT:=qh ht
    have HA:=qh hA
    have cm2:=(World.cell?_of_block (HK.out.block g0 (block_lt_of_cell cm) id)).trans cm
    have HRDa:=qh (HRD.out wr HSr.out a)
    obtain ⟨Y,hY⟩:∃ Y,Y=L.read D a:=⟨_,rfl⟩
    rw [<- hY] at HRDa HT
    have HCO:=qh (show Y.1=none↔Y.2≠0 from by rw [hY];exact zCZS L D a)
    subst hA
    clear ht ha cm hY
    go_wp2_with fail
    refine HRDa.out.mono ?_
    intro e w3 hp
    obtain ⟨hk3,hp1,hp2⟩:=hp
    have HK3:=qh (HK.out.trans0 hk3)
    have HRV3:=qh (HRV.out.keep0 hk3)
    have SZ3:=Lib.hid HK.out.size
    clear hk3
    cases hy:Y.1 with
    | none=>
     have he:=hp1 hy
     have hne:=HCO.out.1 hy
     obtain ⟨E,hE⟩:∃ E,E=Y.2:=⟨_,rfl⟩
     rw [<- hE] at he hne
     subst he
     have hEb:(E == 0)=false:=by simpa using hne
     rw [hy] at HT
     clear hp1 hp2 hy hne hE
     go_wp2_with (refine zNko rfl 86 rfl zRecC zzWm ?_)
     intro y w4 y1 y2 hb4 hk4
     refine zxQF rfl 86 _ _ rfl y zRecC _ rfl rfl hb4 zWmC rfl (zh6u _ _ _ _ _) ?_
     intro w5 hb5 hk5
     have hk45:Kept (fun _=>False) w3 w5:=hk4.new hk5 (by rintro x rfl;exact y1)
     have HK5:=qh (HK3.out.trans0 hk45)
     have HRV5:=qh (HRV3.out.keep0 hk45)
     clear hb4 hk4 hb5 hk5 hk45
     go_wp2
     go_roundw
     case rel=>exact ⟨j+1,rows,by omega,by go_num,HRV5.out,by rw [HT.out,HRM.out];simp,by omega,HK5.out⟩
     case measure=>simp [intOf];omega
    | some r=>
     obtain ⟨A1,c1,A2',c2,he,ho1,ho2,_⟩:=hp2 r hy
     have hz:Y.2=0:=Decidable.byContradiction (fun h=>by have:=HCO.out.2 h;rw [hy] at this;cases this)
     rw [hz] at he
     subst he
     rw [hy] at HT
     have HO1:=qh (ho1.low SZ3.out)
     have HO2:=qh (ho2.low SZ3.out)
     clear hp1 hp2 hy ho1 ho2 hz
     go_wp2_with (refine zNko rfl 86 rfl zRecC zzWm ?_)
     intro y w4 y1 y2 hb4 hk4
     refine zxQF rfl 86 _ _ rfl y (recC r A1 c1 A2' c2) _ rfl rfl hb4 zWmC rfl (zh6u _ _ _ _ _) ?_
     intro w5 hb5 hk5
     have HY5:=qh hb5
     have hk45:Kept (fun _=>False) w3 w5:=hk4.new hk5 (by rintro x rfl;exact y1)
     have HK5:=qh (HK3.out.trans0 hk45)
     have HRV5:=qh (HRV3.out.keep0 hk45)
     have HO15:=qh (HO1.out.keep hk45 (fun _ _=>id))
     have HO25:=qh (HO2.out.keep hk45 (fun _ _=>id))
     clear hb4 hk4 hb5 hk5 hk45
     go_wp2_with (first
      | (refine zFcC rfl 86 _ rfl y rfl (recC r A1 c1 A2' c2) HY5.out Tryz.underlying86 rfl zWmC ?_)
      | (refine zcDi rfl _ rfl r A1 c1 A2' c2 rfl ?_))
     intro gb wb gb1 hgb kb
     have HGB:=qh hgb
     have HK6:=qh (HK5.out.trans0 kb)
     have HRV6:=qh (HRV5.out.keep0 kb)
     have HO16:=qh (HO15.out.keep kb (fun _ _=>id))
     have HO26:=qh (HO25.out.keep kb (fun _ _=>id))
     clear kb hgb
     refine zwve rfl _ _ rfl w.heap.size _ rows rfl HRV6.out ⟨r,A1,c1,A2',c2⟩ HO16.out HO26.out gb 1 rfl HGB.out (by omega) HK6.out.size ?_
     intro v6 w6 hv6 hk6 _
     have HV6:=qh hv6
     have HK7:=qh (HK6.out.new hk6 (fun x hx=>(HRV6.out.row.lt x hx).1))
     clear hv6 hk6
     go_wp2
     go_roundw
     case rel=>exact ⟨j+1,rows ++ [⟨r,A1,c1,A2',c2⟩],by omega,by go_num,HV6.out,by rw [HT.out,<- HRM.out];simp,by rw [List.length_append,List.length_singleton];omega,HK7.out⟩
     case measure=>simp [intOf];omega
   ·have i1:¬ (j:Int) < (n2:Int):=by omega
    have hje:j=n2:=by omega
    have HM:=qh (show rows.map (fun x=>x.r)=X from by rw [HRM.out,HX.out,hje,<- HLN.out,List.take_length])
    clear hje
    go_wp2
    go_ret
    exact ⟨HK.out,_,rows,rfl,HRV.out,HM.out⟩
end Go.Proofs.YtfgagakepmigbaaGreat
