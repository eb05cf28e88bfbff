/-
  No statement is proved here.
-/
import Derived.Test.YtfgagakepmigbaaGreatJLgh
import Derived.Laws.ResultCell
import Derived.Test.YtfgagakepmigbaaGreatJCpz
namespace Go.Proofs.YtfgagakepmigbaaGreat
open Go.RowKit
theorem zQL4 {P:Program} {fn:Func} {p u:Tmp} {ty:TypeId} (h:fn.results=#[.cell p ty,.tmp u]) (tmps:Array Value) (w:World) (g:Nat) (cs:Array Value) {t:TypeId} {fr:Nat×Nat} {d:TypeDesc} (hp:tmps.getD p undef=.pointer (some ⟨g,0,none⟩)) (hg:w.heap[g]?=some (.cells cs t fr))
  (hu:P.underlying ty=some d) (hd:(match d with | .struct _ | .array _ _=>true | _=>false)=true) (hi:(P.info? ty).map (·.size)=some cs.size):(results fn tmps).run P w=.ok (.tuple #[.agg cs,tmps.getD u undef]) w:=by
 rw [results_cell_tmp h,hp]
 simp [asAddr,Result.andThen,run_loadVar_row w g t ty cs fr d hg hu hd hi]
structure LogR (L:LogM):Prop where
 ri:Rises L.lsns
 n1:∀ k,k < L.lsns.length->1<=L.lsns.getD k 0
 nx:∀ k,k+1 < L.lsns.length->L.lsns.getD (k+1) 0 - L.lsns.getD k 0<=10000/\L.lsns.getD (k+1) 0<=L.fin
 nl:∀ k,k+1=L.lsns.length->L.lsns.getD k 0<=L.fin/\L.fin - L.lsns.getD k 0<=10000
 ll:L.lsns.length<=1000000000
def zkMh (w:World) (x:Option RecM×Int) (e:Ending) (w':World):Prop:=Kept (fun _=>False) w w' /\
 (x.1=none->e=.returned (.tuple #[.agg zRecC,.int .i64 x.2])) /\
 (∀ r,x.1=some r->∃ A1 c1 A2 c2,e=.returned (.tuple #[.agg (recC r A1 c1 A2 c2),.int .i64 x.2]) /\
  OwnV w' w.heap.size (.slice A1 r.old.length c1) r.old/\OwnV w' w.heap.size (.slice A2 r.new.length c2) r.new/\(∀ x,(Value.slice A1 r.old.length c1).ownBlock=some x->(Value.slice A2 r.new.length c2).ownBlock=some x->False))
theorem zkMh.no {w w':World} {x:Option RecM×Int} {e:Ending} (hk:Kept (fun _=>False) w w') (h:x.1=none) (he:e=.returned (.tuple #[.agg zRecC,.int .i64 x.2])):zkMh w x e w':=
 ⟨hk,fun _=>he,fun r hr=>by rw [h] at hr;cases hr⟩
theorem OwnV.capM {w:World} {base:Nat} {A:Option Addr} {n c:Nat} {l:Bytes} (h:OwnV w base (.slice A n c) l):c<=9223372036854775807:=by
 rcases h.form with ⟨h1,rfl⟩ | ⟨g,cap,h1,h2⟩
 ·cases h1;decide
 ·cases h1
  obtain ⟨cur,_,_,_,h6,_⟩:=h2.form
  exact h6
theorem zI5M (L:LogM) (D:DevM) (a:Int) (n:Nat) (hc:4<=L.count) (hl:∀ k,(D.latest k).length=512):(L.bytes D a n).1.length<=n:=by
 obtain ⟨s,hs⟩:∃ s:Bytes×Int,s=if a < L.beg then zXvy D L.first L.count (min n (L.beg - a).toNat) (min n (L.beg - a).toNat+1) a [] else ([],0):=⟨_,rfl⟩
 have hv:L.bytes D a n=if s.2≠0 then ([],s.2) else (s.1 ++ (L.tail.drop (a+s.1.length - L.beg).toNat).take (n - s.1.length),0):=by rw [hs];rfl
 rw [hv]
 by_cases h0:s.2=0
 ·rw [if_neg (by simp [h0])]
  have h1:s.1.length<=n:=by
   rw [hs] at h0 ⊢
   by_cases hlt:a < L.beg
   ·rw [if_pos hlt] at h0 ⊢
    rw [zvCL D L.first L.count _ hc hl _ _ _ (by simp) h0]
    omega
   ·rw [if_neg hlt];simp
  show (s.1 ++ _).length<=n
  rw [List.length_append,List.length_take]
  omega
 ·rw [if_pos h0];simp
set_option maxRecDepth 100000 in
set_option maxHeartbeats 1600000 in
theorem zT6Z (w:World) (q p ms mo:Nat) (lv tv:Value) (L:LogM) (D:DevM) (h:LogS w q p ms mo lv tv L D) (hok:LogOk L) (hb:LogB L) (hr:LogR L) (lsn:Int) :
  Calls Tryz.prog 48 #[.pointer (some ⟨q,0,none⟩),.int .i64 lsn] w (zkMh w (L.read D lsn)):=by
 have H:=qh h
 have HOK:=qh hok
 have HBB:=qh hb
 have HR:=qh hr
 have ll:=hr.ll
 obtain ⟨k,hk⟩:∃ k,k=findM L.lsns lsn:=⟨_,rfl⟩
 have hv:L.read D lsn=if L.lsns.getD k 0≠lsn\/L.lsns.length<=k then (none,6) else
   if (L.bytes D lsn ((if k+1 < L.lsns.length then L.lsns.getD (k+1) 0 else L.fin) - lsn).toNat).2≠0 then (none,(L.bytes D lsn ((if k+1 < L.lsns.length then L.lsns.getD (k+1) 0 else L.fin) - lsn).toNat).2) else
   match getL (L.bytes D lsn ((if k+1 < L.lsns.length then L.lsns.getD (k+1) 0 else L.fin) - lsn).toNat).1 with
   | some (r,_)=>(some r,0)
   | none=>(none,4):=by rw [hk];rfl
 obtain ⟨X,hX⟩:∃ X,X=L.read D lsn:=⟨_,rfl⟩
 rw [<- hX] at hv ⊢
 have HV:=qh hv
 have HF:=qh (show zVUo L.lsns lsn=decide (k < L.lsns.length/\L.lsns.getD k 0=lsn) from by rw [hk];rfl)
 have HK:=qh hk
 have B0:=bR0'
 clear h hok hb hr hk hv hX
 go_enter Tryz.func48,Tryz.ntmps48
 go_wp2_with (refine zNko rfl 86 rfl zRecC zzWm ?_)
 intro y w1 y1 y2 hb1 hk1
 have HY1:=qh hb1
 have HK1:=qh hk1
 have HS1:=qh (H.out.keep hk1 (fun _ _=>id))
 clear hb1 hk1
 have HTH:=qh (zATj w1 q p lv tv L HS1.out.hq)
 obtain ⟨Al,nl,cl,rfl,hnl⟩:=HS1.out.hl.form3
 have HBS:=qh (show Calls Tryz.prog 90 #[.slice Al nl cl,.int .i64 lsn] w1 fun e w'=>e=.returned (.tuple #[.int .i64 (k:Nat),.bool (zVUo L.lsns lsn)])/\w1=w' from by
  obtain ⟨A,c,h1,h2,h3,h4⟩:=HS1.out.hl.slice
  cases h1
  rw [HK.out]
  exact zpf1 _ _ _ _ _ HR.out.ri HR.out.ll h4)
 have c7:w1.cell? ⟨q,7,none⟩=some (.slice Al nl cl):=zcjX HS1.out.hq rfl
 have c5:w1.cell? ⟨q,5,none⟩=some (.int .i64 L.fin):=zcjX HS1.out.hq rfl
 have HNL:=qh hnl
 clear hnl
 by_cases hf:k < L.lsns.length/\L.lsns.getD k 0=lsn
 ·rw [HF.out,decide_eq_true hf] at HBS
  obtain ⟨hf1,hf2⟩:=hf
  obtain ⟨EN,hEN⟩:∃ EN,EN=if k+1 < L.lsns.length then L.lsns.getD (k+1) 0 else L.fin:=⟨_,rfl⟩
  have hlsn:1<=lsn:=by rw [<- hf2];exact HR.out.n1 k hf1
  have e1:=HOK.out.e1
  have hen:EN - lsn<=10000/\lsn<=EN/\EN<=L.fin:=by
   rw [hEN]
   by_cases hk2:k+1 < L.lsns.length
   ·rw [if_pos hk2]
    have h1:=HR.out.nx k hk2
    have h2:=HR.out.ri k (k+1) (by omega) hk2
    omega
   ·rw [if_neg hk2]
    have h1:=HR.out.nl k (by omega)
    omega
  obtain ⟨n,hn⟩:∃ n:Nat,EN - lsn=(n:Int):=⟨(EN - lsn).toNat,by omega⟩
  obtain ⟨Y,hY⟩:∃ Y,Y=L.bytes D lsn n:=⟨_,rfl⟩
  have hv2:X=if Y.2≠0 then (none,Y.2) else match getL Y.1 with | some (r,_)=>(some r,0) | none=>(none,4):=by
   rw [HV.out,if_neg (by rintro (h | h);exact h hf2;omega),<- hEN,hn,Int.toNat_natCast,<- hY]
  have HV2:=qh hv2
  have HBY:=qh (zeA1 w1 q p ms mo _ tv L D HS1.out HOK.out HBB.out lsn n hlsn (by omega) (by omega))
  rw [<- hY] at HBY
  have HEN:=qh hEN
  have HN:=qh hn
  have HYL:=qh (show Y.1.length<=n from by rw [hY];exact zI5M L D lsn n HOK.out.c0 HS1.out.dev.len)
  have HNB:n<=10000:=by omega
  clear hv2 hY hEN hn HV HF hf2 hen
  go_wp2_with fail
  refine HTH.out.mono ?_
  rintro e wx ⟨rfl,rfl⟩
  go_wp2_with fail
  refine HBS.out.mono ?_
  rintro e wx ⟨rfl,rfl⟩
  have hkb:(k:Int)<=1000000000:=by omega
  go_upto_if 40 with fail
  go_cut [8,40] from 41 to 48 (fun v _ wx=>v=.int .i64 EN/\w1=wx)
  case first=>
   by_cases hk2:k+1 < nl
   ·have hki:(k:Int)+1 < (nl:Int):=by omega
    have HEN2:=qh (show EN=L.lsns.getD (k+1) 0 from by rw [HEN.out,if_pos (by rw [<- HNL.out];exact hk2)])
    obtain ⟨g0,o0,hA,cm⟩:∃ g off,Al=some ⟨g,off,none⟩/\w1.cell? ⟨g,off+(k+1),none⟩=some (.int .i64 EN):=by
     obtain ⟨A,c,h1,h2,h3,h4⟩:=HS1.out.hl.slice
     cases h1
     refine h4 (k+1) EN ?_
     rw [HEN2.out,List.getD_eq_getElem?_getD,List.getElem?_eq_getElem (by rw [<- HNL.out];exact hk2)]
     rfl
    subst hA
    clear HBS HTH
    go_wp2
    go_meet
    case rel=>exact ⟨rfl,rfl⟩
   ·have hki:¬ (k:Int)+1 < (nl:Int):=by omega
    have HEN2:=qh (show EN=L.fin from by rw [HEN.out,if_neg (by rw [<- HNL.out];exact hk2)])
    clear HBS HTH
    go_wp2
    go_meet
    case rel=>exact ⟨by rw [HEN2.out],rfl⟩
  case rest=>
   obtain ⟨rfl,rfl⟩:=hcut
   have HBY2:=qh (show Calls Tryz.prog 91 #[.pointer (some ⟨q,0,none⟩),.int .i64 lsn,.int .i64 (EN - lsn)] w1 (zUIb w1 Y) from by rw [HN.out];exact HBY.out)
   clear HBY
   have e2:=HOK.out.e1
   have hen1:EN - lsn<=10000/\0<=EN - lsn:=by have:=HN.out;omega
   have hen2:EN<=4000000000000000000:=by
    rw [HEN.out]
    split
    ·have:=(HR.out.nx k (by assumption)).2;omega
    ·omega
   go_wp2_with fail
   refine HBY2.out.mono ?_
   rintro e w2 ⟨hk2,Ab,nb,cb,rfl,hob⟩
   have HK2:=qh (HK1.out.trans0 hk2)
   have HY2:=qh (hk2.heap HY1.out id)
   have HOB:=qh hob
   have hnb:nb=Y.1.length:=by
    rcases hob.form with ⟨h1,h2⟩ | ⟨g,cap,h1,h2⟩
    ·cases h1;rw [h2];rfl
    ·cases h1;rfl
   have HNB2:=qh hnb
   have hcap:=hob.capM
   have hlen1:=(hob.len).2
   clear hob hk2
   obtain ⟨E,hE⟩:∃ E,E=Y.2:=⟨_,rfl⟩
   rw [<- hE] at HV2 ⊢
   by_cases h0:E=0
   ·subst h0
    have HX:=qh (show X=match getL Y.1 with | some (r,_)=>(some r,0) | none=>(none,4) from by rw [HV2.out,if_neg (by simp)])
    have HGT:=qh (show Calls Tryz.prog 92 #[.slice Ab nb cb] w2 (zLSY Y.1 w2) from by
     rw [HNB2.out]
     exact zkOY Ab cb Y.1 w2 HOB.out.rd hlen1 hcap (by have:=HYL.out;omega))
    clear hE hnb HV2 HBY2 hcap hlen1
    go_wp2_with fail
    refine HGT.out.mono ?_
    intro e w3 hg
    obtain ⟨hk3,hg1,hg2⟩:=hg
    have HK3:=qh (HK2.out.trans0 hk3)
    have HY3:=qh (hk3.heap HY2.out id)
    have SZ3:=qh (Nat.le_trans HK2.out.size (Nat.le_refl _))
    clear hk3
    cases hgl:getL Y.1 with
    | none=>
     have he:=hg1 hgl
     subst he
     rw [hgl] at HX
     clear hg1 hg2 hgl HGT
     have hx:X=(none,4):=HX.out
     clear HX
     have HX:=qh hx
     clear hx
     go_wp2_with (refine zNko rfl 86 rfl zRecC zzWm ?_)
     intro z w4 z1 z2 hb4 hk4
     have HY4:=qh (hk4.heap HY3.out id)
     have HK4:=qh (HK3.out.trans0 hk4)
     have zy:=zvKu HY3.out
     refine zxQF rfl 86 _ _ rfl z zRecC _ rfl rfl hb4 zWmC rfl (zh6u _ _ _ _ _) ?_
     intro w5 hb5 hk5
     have HZ5:=qh hb5
     have HY5:=qh (hk5.heap HY4.out (by omega))
     have HK5:=qh (HK4.out.new hk5 (by rintro x rfl;have:=HK3.out.size;omega))
     clear hb4 hk4 hb5 hk5
     go_wp2_with (first | (refine zFcC rfl 86 _ rfl z rfl zRecC HZ5.out Tryz.underlying86 rfl zWmC ?_) | (refine zxQF rfl 86 _ _ rfl y zRecC _ rfl rfl HY5.out zWmC rfl (zh6u _ _ _ _ _) ?_))
     intro w6 hb6 hk6
     have HK6:=qh (HK5.out.new hk6 (by rintro x rfl;exact y1))
     have HY6:=qh hb6
     clear hb6 hk6
     go_wp2
     try simp only [Exit.inBlock,Exit.then]
     refine bodyPost_ret (zQL4 rfl _ _ y _ rfl HY6.out Tryz.underlying86 rfl zWmC) rfl ?_
     exact zkMh.no HK6.out (by rw [HX.out]) (by rw [HX.out];rfl)
    | some x=>
     obtain ⟨r,kk⟩:=x
     obtain ⟨A1,c1,A2,c2,he,h1,h2,h3⟩:=hg2 r kk hgl
     subst he
     rw [hgl] at HX
     have hx:X=(some r,0):=HX.out
     clear HX
     have HX:=qh hx
     have SZ:=Lib.hid HK2.out.size
     have H1:=qh h1
     have H2:=qh h2
     have H3:=qh h3
     clear hg1 hg2 hgl HGT hx h1 h2 h3
     go_wp2_with (refine zNko rfl 86 rfl zRecC zzWm ?_)
     intro z w4 z1 z2 hb4 hk4
     have HY4:=qh (hk4.heap HY3.out id)
     have HK4:=qh (HK3.out.trans0 hk4)
     have zy:=zvKu HY3.out
     refine zxQF rfl 86 _ _ rfl z (recC r A1 c1 A2 c2) _ rfl rfl hb4 zWmC rfl (zh6u _ _ _ _ _) ?_
     intro w5 hb5 hk5
     have HZ5:=qh hb5
     have HY5:=qh (hk5.heap HY4.out (by omega))
     have HK5:=qh (HK4.out.new hk5 (by rintro x rfl;have:=HK3.out.size;omega))
     have HA5:=qh ((H1.out.keep hk4 (fun _ _=>id)).keep hk5 (fun x hx e=>by have:=(H1.out.base_le hx).2;omega))
     have HB5:=qh ((H2.out.keep hk4 (fun _ _=>id)).keep hk5 (fun x hx e=>by have:=(H2.out.base_le hx).2;omega))
     clear hb4 hk4 hb5 hk5
     go_wp2_with (first | (refine zFcC rfl 86 _ rfl z rfl (recC r A1 c1 A2 c2) HZ5.out Tryz.underlying86 rfl zWmC ?_) | (refine zxQF rfl 86 _ _ rfl y (recC r A1 c1 A2 c2) _ rfl rfl HY5.out zWmC rfl (zh6u _ _ _ _ _) ?_))
     intro w6 hb6 hk6
     have HK6:=qh (HK5.out.new hk6 (by rintro x rfl;exact y1))
     have HY6:=qh hb6
     have yl:=zvKu HY2.out
     have HA6:=qh (HA5.out.keep hk6 (fun x hx e=>by have:=(H1.out.base_le hx).1;omega))
     have HB6:=qh (HB5.out.keep hk6 (fun x hx e=>by have:=(H2.out.base_le hx).1;omega))
     clear hb6 hk6
     go_wp2
     try simp only [Exit.inBlock,Exit.then]
     refine bodyPost_ret (zQL4 rfl _ _ y _ rfl HY6.out Tryz.underlying86 rfl zWmC) rfl ?_
     refine ⟨HK6.out,fun h=>(by rw [HX.out] at h;cases h),fun r' hr'=>?_⟩
     rw [HX.out] at hr' ⊢
     cases hr'
     exact ⟨A1,c1,A2,c2,rfl,HA6.out.low SZ.out,HB6.out.low SZ.out,H3.out⟩
   ·have hmb:(E != 0)=true:=by simpa using h0
    have HX:=qh (show X=(none,E) from by rw [HV2.out,if_pos h0])
    clear hE hnb HV2 HBY2 hcap hlen1
    go_wp2_with (refine zxQF rfl 86 _ _ rfl y zRecC _ rfl rfl HY2.out zWmC rfl (zh6u _ _ _ _ _) ?_)
    intro w3 hb3 hk3
    have HK3:=qh (HK2.out.new hk3 (by rintro x rfl;exact y1))
    have HY3:=qh hb3
    clear hb3 hk3
    go_wp2
    try simp only [Exit.inBlock,Exit.then]
    refine bodyPost_ret (zQL4 rfl _ _ y _ rfl HY3.out Tryz.underlying86 rfl zWmC) rfl ?_
    exact zkMh.no HK3.out (by rw [HX.out]) (by rw [HX.out];rfl)
 ·rw [HF.out,decide_eq_false hf] at HBS
  have hx:X=(none,6):=by
   rw [HV.out,if_pos]
   by_cases h1:L.lsns.length<=k
   ·exact .inr h1
   ·exact .inl (fun h=>hf ⟨by omega,h⟩)
  have HX:=qh hx
  clear hx hf HF HV
  go_wp2_with fail
  refine HTH.out.mono ?_
  rintro e wx ⟨rfl,rfl⟩
  go_wp2_with fail
  refine HBS.out.mono ?_
  rintro e wx ⟨rfl,rfl⟩
  go_wp2_with (refine zxQF rfl 86 _ _ rfl y zRecC _ rfl rfl HY1.out zWmC rfl (zh6u _ _ _ _ _) ?_)
  intro w2 hb2 hk2
  have HK2:=qh (HK1.out.new hk2 (by rintro x rfl;exact y1))
  have HY2:=qh hb2
  clear hb2 hk2
  go_wp2
  try simp only [Exit.inBlock,Exit.then]
  refine bodyPost_ret (zQL4 rfl _ _ y _ rfl HY2.out Tryz.underlying86 rfl zWmC) rfl ?_
  exact zkMh.no HK2.out (by rw [HX.out]) (by rw [HX.out];rfl)
def LogM.trim (L:LogM) (lsn:Int):LogM×Int:=
 if (zVUo L.lsns lsn=false/\lsn≠L.fin)\/L.safe < lsn then (L,2) else ({ L with oldest:=lsn,lsns:=L.lsns.drop (findM L.lsns lsn) },0)
theorem zS1Y (w:World):(sizeOf ((Tryz.prog).elem 28)).run Tryz.prog w=.ok 1 w:=by
 have h:((Tryz.prog).info? ((Tryz.prog).elem 28)).map (·.size)=some 1:=by kernel_rfl
 cases hq:(Tryz.prog).info? ((Tryz.prog).elem 28) with
 | none=>simp [hq] at h
 | some i=>
  have h1:i.size=1:=by simpa [hq] using h
  simp [sizeOf,typeInfo,hq,h1]
theorem z3Cg:(Tryz.prog).underlying 28=some (.slice ((Tryz.prog).elem 28)):=by kernel_rfl
theorem zJ3p {ev:Operand->Value} {o:Oper} (x z:Operand) (k:Nat) (ho:o.op=.slice 28 x (some z) none none) (A:Option Addr) (n c:Nat) (hI:Int) (hx:ev x=.slice A n c) (hz:ev z=.int .i64 hI) (e:hI=(k:Int)) (hk:k<=n) (w:World) :
  (execOp ev o).run Tryz.prog w=.ok (.value (.slice (slA A k c) (n - k) (c - k))) w:=by
 subst e
 have h:(Instr.slice 28 (.slice A n c) (some (.int .i64 k)) none none).run Tryz.prog w=.ok (.slice (slA A k c) (n - k) (c - k)) w:=by
  rw [run_slice_l w 28 A n c z3Cg .i64 (k:Int) (by omega) (by omega),zS1Y]
  rfl
 simp only [execOp,ho,hx,hz,Option.map,Sem.run_bind,run_sliceAt_slice w 28 _ _ _ _ z3Cg,h,Result.andThen]
 rfl
theorem zgGZ {A:Option Addr} {k c n m c':Nat}:(Value.slice (slA A k c) n c').ownBlock=(Value.slice A m c).ownBlock:=by
 unfold slA
 split
 ·cases A<;>rfl
 ·cases A with
  | none=>rfl
  | some a=>
   show some (a.add (k*1)).block=some a.block
   unfold Addr.add
   split<;>rfl
theorem LsV.drop {w:World} {base:Nat} {A:Option Addr} {n c:Nat} {l:List Int} (h:LsV w base (.slice A n c) l) (k:Nat) (hk:k<=n):LsV w base (.slice (slA A k c) (n - k) (c - k)) (l.drop k):=by
 rcases h with ⟨h1,rfl⟩ | ⟨g,off,c',cur,h1,h2,h3,h4,h5,h6,h7⟩
 ·cases h1
  have:k=0:=by omega
  subst this
  exact .inl ⟨rfl,rfl⟩
 ·cases h1
  unfold slA
  by_cases hck:c=k
  ·rw [if_pos hck]
   refine .inr ⟨g,off,c - k,cur,by rw [List.length_drop],h2,h3,by rw [List.length_drop];omega,by omega,by omega,fun j x hx=>?_⟩
   rw [List.getElem?_eq_none (by rw [List.length_drop];omega)] at hx
   cases hx
  ·rw [if_neg hck]
   refine .inr ⟨g,off+k,c - k,cur,?_,h2,h3,by rw [List.length_drop];omega,by omega,by omega,fun j x hx=>?_⟩
   ·rw [List.length_drop,Nat.mul_one]
    show Value.slice (some ((⟨g,off,none⟩:Addr).add k)) _ _=_
    rw [Addr.add_mid]
   ·rw [List.getElem?_drop] at hx
    rw [Nat.add_assoc]
    exact h7 _ x hx
def zns1 (w:World) (q p ms mo:Nat) (lv tv:Value) (_L:LogM) (D:DevM) (x:LogM×Int) (e:Ending) (w':World):Prop:=e=.returned (.int .i64 x.2) /\
 ∃ lv',LogS w' q p ms mo lv' tv x.1 D/\Kept (fun x=>x=q) w w'/\lv'.ownBlock=lv.ownBlock
set_option maxRecDepth 100000 in
set_option maxHeartbeats 1600000 in
theorem zV6y (w:World) (q p ms mo:Nat) (lv tv:Value) (L:LogM) (D:DevM) (h:LogS w q p ms mo lv tv L D) (hri:Rises L.lsns) (hll:L.lsns.length<=1000000000) (lsn:Int) :
  Calls Tryz.prog 84 #[.pointer (some ⟨q,0,none⟩),.int .i64 lsn] w (zns1 w q p ms mo lv tv L D (L.trim lsn)):=by
 obtain ⟨Al,nl,cl,hlv,hnl⟩:=h.hl.form3
 subst hlv
 obtain ⟨k,hk⟩:∃ k,k=findM L.lsns lsn:=⟨_,rfl⟩
 have HBS:=qh (show Calls Tryz.prog 90 #[.slice Al nl cl,.int .i64 lsn] w fun e w'=>e=.returned (.tuple #[.int .i64 (k:Nat),.bool (zVUo L.lsns lsn)])/\w=w' from by
  obtain ⟨A,c,h1,h2,h3,h4⟩:=h.hl.slice
  cases h1
  rw [hk]
  exact zpf1 _ _ _ _ _ hri hll h4)
 have hkl:k<=nl:=by
  rw [hk,hnl]
  unfold findM
  exact (List.takeWhile_sublist _).length_le
 obtain ⟨X,hX⟩:∃ X,X=L.trim lsn:=⟨_,rfl⟩
 have hv:X=if (zVUo L.lsns lsn=false/\lsn≠L.fin)\/L.safe < lsn then (L,2) else ({ L with oldest:=lsn,lsns:=L.lsns.drop k },0):=by rw [hX,hk];rfl
 rw [<- hX]
 have HV:=qh hv
 have HTH:=qh (zATj w q p _ tv L h.hq)
 have c7:w.cell? ⟨q,7,none⟩=some (.slice Al nl cl):=zcjX h.hq rfl
 have c5:w.cell? ⟨q,5,none⟩=some (.int .i64 L.fin):=zcjX h.hq rfl
 have c6:w.cell? ⟨q,6,none⟩=some (.int .i64 L.safe):=zcjX h.hq rfl
 have H:=qh h
 obtain ⟨FI,hFI⟩:∃ FI,FI=L.fin:=⟨_,rfl⟩
 obtain ⟨SA,hSA⟩:∃ SA,SA=L.safe:=⟨_,rfl⟩
 obtain ⟨FO,hFO⟩:∃ FO,FO=zVUo L.lsns lsn:=⟨_,rfl⟩
 rw [<- hFI] at c5 HV
 rw [<- hSA] at c6 HV
 rw [<- hFO] at HBS HV
 have hk9:k<=1000000000:=by omega
 have HFI:=qh hFI
 have HSA:=qh hSA
 clear h hk hnl hX hv hri hll hFI hSA hFO
 by_cases hbad:(FO=false/\lsn≠FI)\/SA < lsn
 ·have hx:X=(L,2):=by rw [HV.out,if_pos hbad]
  have HX:=qh hx
  clear hx HV
  go_enter Tryz.func84,Tryz.ntmps84
  go_wp2_with fail
  refine HTH.out.mono ?_
  rintro e wx ⟨rfl,rfl⟩
  go_wp2_with fail
  refine HBS.out.mono ?_
  rintro e wx ⟨rfl,rfl⟩
  by_cases h1:FO=false
  ·subst h1
   by_cases h2:lsn=FI
   ·have h2b:(lsn != FI)=false:=by rw [h2];simp
    have h3:SA < lsn:=by rcases hbad with ⟨_,h⟩ | h;exact absurd h2 h;exact h
    clear hbad h2
    go_wp2
    go_ret
    unfold zns1
    rw [HX.out]
    exact ⟨rfl,_,H.out,Kept.refl _ _,rfl⟩
   ·have h2b:(lsn != FI)=true:=by simpa using h2
    clear hbad h2
    go_wp2
    go_ret
    unfold zns1
    rw [HX.out]
    exact ⟨rfl,_,H.out,Kept.refl _ _,rfl⟩
  ·have h1':FO=true:=by
    rcases Bool.eq_false_or_eq_true FO with h | h
    ·exact h
    ·exact absurd h h1
   subst h1'
   have h3:SA < lsn:=by rcases hbad with ⟨h,_⟩ | h;cases h;exact h
   clear hbad h1
   go_wp2
   go_ret
   unfold zns1
   rw [HX.out]
   exact ⟨rfl,_,H.out,Kept.refl _ _,rfl⟩
 ·have hx:X=({ L with oldest:=lsn,lsns:=L.lsns.drop k },0):=(HV.out.trans (if_neg hbad)).trans (by rw [HFI.out,HSA.out])
  have HX:=qh hx
  have h3:¬ SA < lsn:=fun h=>hbad (.inr h)
  have h2:FO=true\/(FO=false/\lsn=FI):=by
   rcases Bool.eq_false_or_eq_true FO with h | h
   ·exact .inl h
   ·exact .inr ⟨h,Decidable.byContradiction (fun hn=>hbad (.inl ⟨h,hn⟩))⟩
  clear hx HV hbad
  have HFB:=qh h2
  have hb1:FO=false->(lsn != FI)=false:=fun h=>by
   rcases h2 with h2 | ⟨_,h2⟩
   ·rw [h] at h2;cases h2
   ·rw [h2];simp
  clear h2
  go_enter Tryz.func84,Tryz.ntmps84
  go_wp2_with fail
  refine HTH.out.mono ?_
  rintro e wx ⟨rfl,rfl⟩
  go_wp2_with fail
  refine HBS.out.mono ?_
  rintro e wx ⟨rfl,rfl⟩
  go_upto_region 4 with fail
  go_cut [36] from 19 to 36 (fun v wx=>v=.bool false/\w=wx)
  case first=>
   cases FO
   ·have hb2:=hb1 rfl
    clear hb1
    go_wp2
    go_meet
    case rel=>exact ⟨by rw [decide_eq_false (by omega:¬ SA < lsn)],rfl⟩
   ·clear hb1
    go_wp2
    go_meet
    case rel=>exact ⟨by rw [decide_eq_false (by omega:¬ SA < lsn)],rfl⟩
  case rest=>
   obtain ⟨rfl,rfl⟩:=hcut
   have HQ:=Lib.hid H.out.hq
   have HQd:=qh (show LogQ w.drew q p (.slice Al nl cl) tv L from H.out.hq)
   go_wp2_with fail
   refine znCh 14 (fun w'=>LogQ w' q p (.slice Al nl cl) tv L\/LogQ w' q p (.slice Al nl cl) tv { L with oldest:=lsn }) (by kernel_rfl) (.inl HQd.out) (fun hH=>?_)
   simp only [List.length_cons,List.length_nil,List.replicate]
   refine tK 0 ?_ (fun w' hw'=>?_) hH ?_
   rotate_left
   ·have c7:w'.cell? ⟨q,7,none⟩=some (.slice Al nl cl):=(by rcases hw' with h | h;exact zcjX h rfl;exact zcjX h rfl)
    go_simp<;>with_reducible rfl
   simp only [Act.put,oZa,oZb,oZc]
   refine tK 1 ?_ (fun w' hw'=>?_) hH ?_
   rotate_left
   ·have c7:w'.cell? ⟨q,7,none⟩=some (.slice Al nl cl):=(by rcases hw' with h | h;exact zcjX h rfl;exact zcjX h rfl)
    go_simp<;>with_reducible rfl
   simp only [Act.put,oZa,oZb,oZc]
   refine tK 2 ?_ (fun w' hw'=>?_) hH ?_
   rotate_left
   ·have c7:w'.cell? ⟨q,7,none⟩=some (.slice Al nl cl):=(by rcases hw' with h | h;exact zcjX h rfl;exact zcjX h rfl)
    go_simp<;>with_reducible rfl
   simp only [Act.put,oZa,oZb,oZc]
   refine tK 3 ?_ (fun w' hw'=>?_) hH ?_
   rotate_left
   ·have c7:w'.cell? ⟨q,7,none⟩=some (.slice Al nl cl):=(by rcases hw' with h | h;exact zcjX h rfl;exact zcjX h rfl)
    go_simp<;>with_reducible rfl
   simp only [Act.put,oZa,oZb,oZc]
   refine tK 4 ?_ (fun w' hw'=>?_) hH ?_
   rotate_left
   ·have c7:w'.cell? ⟨q,7,none⟩=some (.slice Al nl cl):=(by rcases hw' with h | h;exact zcjX h rfl;exact zcjX h rfl)
    go_simp<;>with_reducible rfl
   simp only [Act.put,oZa,oZb,oZc]
   refine tK 5 ?_ (fun w' hw'=>?_) hH ?_
   rotate_left
   ·have c7:w'.cell? ⟨q,7,none⟩=some (.slice Al nl cl):=(by rcases hw' with h | h;exact zcjX h rfl;exact zcjX h rfl)
    go_simp<;>with_reducible rfl
   simp only [Act.put,oZa,oZb,oZc]
   refine tK 6 ?_ (fun w' hw'=>?_) hH ?_
   rotate_left
   ·have c7:w'.cell? ⟨q,7,none⟩=some (.slice Al nl cl):=(by rcases hw' with h | h;exact zcjX h rfl;exact zcjX h rfl)
    go_simp<;>with_reducible rfl
   simp only [Act.put,oZa,oZb,oZc]
   refine tK 7 ?_ (fun w' hw'=>?_) hH ?_
   rotate_left
   ·have c7:w'.cell? ⟨q,7,none⟩=some (.slice Al nl cl):=(by rcases hw' with h | h;exact zcjX h rfl;exact zcjX h rfl)
    go_simp<;>with_reducible rfl
   simp only [Act.put,oZa,oZb,oZc]
   refine takeL 8 (.slice (slA Al k cl) (nl - k) (cl - k)) rfl (by kernel_rfl) (fun _ _ _ h=>h) (by rfl) (fun w' _=>zJ3p _ _ k rfl Al nl cl _ rfl rfl rfl hkl w') hH ?_
   simp only [Act.put,oZa,oZb,oZc]
   refine stepL 9 rfl (by kernel_rfl) (fun K hK=>?_)
   go_simp
   refine hK.out _ _ (fun _=>hH) (fun _=>?_)
   simp only [oZa,oZb,oZc]
   clear hK K
   refine stepL 10 rfl (by kernel_rfl) (fun K hK=>?_)
   go_simp
   refine hK.out _ _ (fun _=>hH) (fun _=>?_)
   simp only [oZa,oZb,oZc]
   clear hK K
   refine stepL 11 rfl (by kernel_rfl) (fun K hK=>?_)
   refine zRRc rfl 2 _ _ (by rfl) q 4 (.int .i64 lsn) (logC p (.slice Al nl cl) tv L) (by rfl) (by rfl) HQd.out (by kernel_rfl) (by show 4 < 10;decide) rfl ?_
   intro w2 hb2 hk2
   have HQ2:=qh (show LogQ w2 q p (.slice Al nl cl) tv { L with oldest:=lsn } from hb2)
   have HK2:=qh (((Kept.refl (fun x=>x=q) w).drew).trans' hk2)
   clear hb2 hk2 hH
   refine hK.out _ _ (fun _=>.inr HQ2.out) (fun hH=>?_)
   simp only [Act.put,oZa,oZb,oZc]
   clear hK K
   refine stepL 12 rfl (by kernel_rfl) (fun K hK=>?_)
   go_simp
   refine hK.out _ _ (fun _=>.inr HQ2.out) (fun hH=>?_)
   simp only [oZa,oZb,oZc]
   clear hK K
   refine stepL 13 rfl (by kernel_rfl) (fun K hK=>?_)
   go_simp
   refine hK.out _ _ (fun _=>.inr HQ2.out) (fun hH=>?_)
   simp only [oZa,oZb,oZc]
   clear hK K
   refine stepL 14 rfl (by kernel_rfl) (fun K hK=>?_)
   refine zRRc rfl 28 _ _ (by rfl) q 7 (.slice (slA Al k cl) (nl - k) (cl - k)) (logC p (.slice Al nl cl) tv { L with oldest:=lsn }) (by rfl) (by rfl) HQ2.out (by kernel_rfl) (by show 7 < 10;decide) rfl ?_
   intro w3 hb3 hk3
   have HQ3:=qh (show LogQ w3 q p (.slice (slA Al k cl) (nl - k) (cl - k)) tv { L with oldest:=lsn,lsns:=L.lsns.drop k } from hb3)
   have HK3:=qh (HK2.out.trans' hk3)
   clear hb3 hk3
   refine hK.out _ _ (fun h=>absurd rfl h) (fun _=>?_)
   simp only [Act.put,oZa,oZb,oZc]
   clear hK K hH
   refine doneL (by kernel_rfl) ?_ _
   go_wp2
   go_ret
   unfold zns1
   rw [HX.out]
   have hob:(Value.slice (slA Al k cl) (nl - k) (cl - k)).ownBlock=(Value.slice Al nl cl).ownBlock:=zgGZ
   refine ⟨rfl,_,⟨H.out.dev.keep HK3.out H.out.nq.1 H.out.nq.2.1 H.out.nq.2.2,HQ3.out,(H.out.hl.drop k hkl).keep HK3.out (fun x hx=>(H.out.nl x (hob▸hx)).1),H.out.ht.keep HK3.out (fun x hx=>(H.out.nt x hx).1),H.out.nq,fun x hx=>H.out.nl x (hob▸hx),H.out.nt⟩,HK3.out,hob⟩
theorem zNGM {w:World} {ops:Array Oper} {o:Oper} {a:Act} {K:Act->World->Prop} {Q:Exit->Act->World->Prop} {E:Prop} (hgd:o.guard=none) (s x:Operand)
  (ho:o.op=.call { callee:=.builtin .append,args:=#[s,x],argTypes:=#[47,47] }) (base:Nat) (v:Value) (l m:Bytes) (hs:a.eval s=v) (hown:OwnV w base v l)
  (A:Option Addr) (n c:Nat) (hx:a.eval x=.slice A n c) (hn:m.length=n) (hm:RdB w A m) (h63:l.length+m.length<=140737488355328) (hbase:base<=w.heap.size)
  (k:∀ v' w',OwnV w' base v' (l ++ m)->Kept (fun x=>base<=x) w w'->K (a.put o.dst v') w'):if Region.wanted o (yielded ops a.tmps)=true then Oper.wp Tryz.prog o a w K Q else E:=by
 subst hn
 exact zpLh hgd s x ho base v l m hs hown A c hx hm h63 hbase k
theorem zG1u (g O k:Nat) (h:O < k):slA (some ⟨g,0,none⟩) O k=some ⟨g,O,none⟩:=by
 unfold slA
 rw [if_neg (by omega),Nat.mul_one]
 show some ((⟨g,0,none⟩:Addr).add O)=_
 rw [Addr.add_mid,Nat.zero_add]
theorem OwnV.parts {w:World} {base:Nat} {v:Value} {l:Bytes} (h:OwnV w base v l):∃ A n c,v=.slice A n c/\l.length=n:=by
 obtain ⟨A,c,h,_⟩:=h.slice
 exact ⟨A,_,c,h,rfl⟩
def z78h (w:World) (q p ms mo:Nat) (lv tv:Value) (L:LogM) (x:DevM×Int) (e:Ending) (w':World):Prop:=e=.returned (.int .i64 x.2)/\LogS w' q p ms mo lv tv L x.1/\Kept (fun x=>x=p\/x=ms\/x=mo) w w'
set_option maxRecDepth 100000 in
set_option maxHeartbeats 1600000 in
theorem zGlJ (w:World) (q p ms mo:Nat) (lv tv:Value) (L:LogM) (D:DevM) (h:LogS w q p ms mo lv tv L D) (hok:LogOk L) (t0:0<=L.turn) (t1:L.turn<=5000000000) (htl:L.tail.length<=51) :
  Calls Tryz.prog 111 #[.pointer (some ⟨q,0,none⟩)] w (z78h w q p ms mo lv tv L (L.cut D)):=by
 have H:=qh h
 have s0:1<=L.fin:=by have:=hok.o0;have:=hok.o1;omega
 have s1:=hok.e1
 have c5:w.cell? ⟨q,5,none⟩=some (.int .i64 L.fin):=zcjX h.hq rfl
 have c0:w.cell? ⟨q,0,none⟩=some (.pointer (some ⟨p,0,none⟩)):=zcjX h.hq rfl
 have HSEC:=qh (zdrd w q p lv tv L h.hq hok L.fin s0 (by omega))
 have hO:=zSEi (a:=L.fin) hok.c0
 have hF:=zjuj (a:=L.fin)
 obtain ⟨O,hO'⟩:∃ O:Nat,secO L.count L.fin=(O:Int):=⟨(secO L.count L.fin).toNat,by omega⟩
 obtain ⟨B,hB⟩:∃ B,B=secB L.first L.count L.fin:=⟨_,rfl⟩
 obtain ⟨F,hFF⟩:∃ F,F=secF L.fin:=⟨_,rfl⟩
 obtain ⟨m,hm⟩:∃ m,m=z7b5 F.toNat L.turn.toNat L.tail.length ++ L.tail:=⟨_,rfl⟩
 have hv:L.cut D=if D.mayE B≠0 then (D,D.mayE B) else
   if (D.write B (zPwQ (D.latest B) O m)).1≠0 then ((D.write B (zPwQ (D.latest B) O m)).2,(D.write B (zPwQ (D.latest B) O m)).1) else
   (((D.write B (zPwQ (D.latest B) O m)).2.syncR).2,((D.write B (zPwQ (D.latest B) O m)).2.syncR).1):=by
  unfold LogM.cut
  rw [<- hB,hO',Int.toNat_natCast,<- hFF,<- hm]
 obtain ⟨X,hX⟩:∃ X,X=L.cut D:=⟨_,rfl⟩
 rw [<- hX] at hv ⊢
 rw [<- hB,hO',<- hFF] at HSEC
 have hF1:F<=L.fin/\1<=F:=by rw [hFF];unfold secF;omega
 have hO448:O<=448:=by omega
 by_cases hmay:D.mayE B=0
 ·rw [if_neg (by rw [hmay];decide)] at hv
  have HV:=qh hv
  have HRD:=qh (zqzz h.dev B hmay)
  have LB:=qh (h.dev.len B)
  have HM:=qh hm
  have HTL:=qh htl
  clear hv hX hmay hB hFF hm hO hF hO' h hok
  go_enter Tryz.func111,Tryz.ntmps111
  go_wp2_with fail
  refine HSEC.out.mono ?_
  rintro e wx ⟨rfl,rfl⟩
  go_wp2_with fail
  refine HRD.out.mono ?_
  rintro e w2 ⟨g2,k2,rfl,hb2,hk2⟩
  have hk512:512<=k2:=by
   obtain ⟨cur,_,_,h5,_⟩:=hb2.form
   rw [LB.out] at h5;exact h5
  have HB2:=qh hb2
  have HK2:=qh hk2
  have HS2:=qh (H.out.keep hk2 (fun _ _=>id))
  clear hb2 hk2 HRD HSEC
  go_wp2_with (first
   | (refine z3Ho rfl (zW40 _ _ _ O (O+64) 64 rfl (some ⟨g2,0,none⟩) 512 k2 _ _ rfl rfl rfl (by go_num) (by go_num) (by omega) (by omega) (by omega) _) ?_)
   | (refine z623 rfl _ rfl HB2.out O 64 (k2 - O) (by rw [LB.out];omega) (slA (some ⟨g2,0,none⟩) O k2) (fun _=>zG1u _ _ _ (by omega)) rfl ?_))
  intro w3 hb3 hk3
  obtain ⟨P1,hP1⟩:∃ P1,P1=ovL (D.latest B) O (zeros 64):=⟨_,rfl⟩
  have LP1:=qh (show P1.length=512 from by rw [hP1,zvaq (by rw [LB.out];omega),LB.out])
  rw [<- hP1] at hb3
  have HP1:=qh hP1
  have HB3:=qh hb3
  have HK3:=qh (HK2.out.new hk3 (by rintro x rfl;exact HB2.out.base_le))
  have HS3:=qh (HS2.out.keep hk3 (by
   rintro x hx rfl
   have h1:=HB2.out.base_le
   rcases hx with rfl | rfl | rfl | rfl | hx | hx
   ·have:=zvKu H.out.hq;omega
   ·have:=zvKu H.out.dev.hp;omega
   ·have:=H.out.dev.hs.lt;omega
   ·have:=H.out.dev.ho.lt;omega
   ·have:=(H.out.hl.base_le hx).2;omega
   ·have:=(H.out.ht.base_le hx).2;omega))
  clear hb3 hk3 hP1 HB2 HK2 HS2
  obtain ⟨At,nt,ct,htv,hnt⟩:=HS3.out.ht.parts
  subst htv
  have HNT:=qh hnt
  have hnt2:nt<=51:=by have:=HTL.out;omega
  clear hnt
  go_wp2_with fail
  refine znCh 19 (fun w'=>LogQ w' q p lv (.slice At nt ct) L) (by kernel_rfl) HS3.out.hq (fun hH=>?_)
  simp only [List.length_cons,List.length_nil,List.replicate]
  refine tK 0 ?_ (fun w' hw'=>?_) hH ?_
  rotate_left
  ·skip
   go_simp<;>with_reducible rfl
  simp only [Act.put,oZa,oZb,oZc]
  refine tK 1 ?_ (fun w' hw'=>?_) hH ?_
  rotate_left
  ·skip
   go_simp<;>with_reducible rfl
  simp only [Act.put,oZa,oZb,oZc]
  refine takeL 2 (.slice (slA (some ⟨g2,0,none⟩) O k2) (512 - O) (k2 - O)) rfl (by kernel_rfl) (fun _ _ _ h=>h) (by rfl) (fun w' _=>zjw2 _ _ O rfl (some ⟨g2,0,none⟩) 512 k2 _ rfl rfl rfl (by omega) w') hH ?_
  simp only [Act.put,oZa,oZb,oZc]
  refine tK 3 ?_ (fun w' hw'=>?_) hH ?_
  rotate_left
  ·have c3:w'.cell? ⟨q,3,none⟩=some (.int .i64 L.turn):=zcjX hw' rfl;have c8:w'.cell? ⟨q,8,none⟩=some (.slice At nt ct):=zcjX hw' rfl
   go_simp<;>with_reducible rfl
  simp only [Act.put,oZa,oZb,oZc]
  refine tK 4 ?_ (fun w' hw'=>?_) hH ?_
  rotate_left
  ·have c3:w'.cell? ⟨q,3,none⟩=some (.int .i64 L.turn):=zcjX hw' rfl;have c8:w'.cell? ⟨q,8,none⟩=some (.slice At nt ct):=zcjX hw' rfl
   go_simp<;>with_reducible rfl
  simp only [Act.put,oZa,oZb,oZc]
  refine tK 5 ?_ (fun w' hw'=>?_) hH ?_
  rotate_left
  ·have c3:w'.cell? ⟨q,3,none⟩=some (.int .i64 L.turn):=zcjX hw' rfl;have c8:w'.cell? ⟨q,8,none⟩=some (.slice At nt ct):=zcjX hw' rfl
   go_simp<;>with_reducible rfl
  simp only [Act.put,oZa,oZb,oZc]
  refine tK 6 ?_ (fun w' hw'=>?_) hH ?_
  rotate_left
  ·have c3:w'.cell? ⟨q,3,none⟩=some (.int .i64 L.turn):=zcjX hw' rfl;have c8:w'.cell? ⟨q,8,none⟩=some (.slice At nt ct):=zcjX hw' rfl
   go_simp<;>with_reducible rfl
  simp only [Act.put,oZa,oZb,oZc]
  refine tK 7 ?_ (fun w' hw'=>?_) hH ?_
  rotate_left
  ·have c3:w'.cell? ⟨q,3,none⟩=some (.int .i64 L.turn):=zcjX hw' rfl;have c8:w'.cell? ⟨q,8,none⟩=some (.slice At nt ct):=zcjX hw' rfl
   go_simp<;>with_reducible rfl
  simp only [Act.put,oZa,oZb,oZc]
  refine tK 8 ?_ (fun w' hw'=>?_) hH ?_
  rotate_left
  ·have c3:w'.cell? ⟨q,3,none⟩=some (.int .i64 L.turn):=zcjX hw' rfl;have c8:w'.cell? ⟨q,8,none⟩=some (.slice At nt ct):=zcjX hw' rfl
   go_simp<;>with_reducible rfl
  simp only [Act.put,oZa,oZb,oZc]
  refine tK 9 ?_ (fun w' hw'=>?_) hH ?_
  rotate_left
  ·have c3:w'.cell? ⟨q,3,none⟩=some (.int .i64 L.turn):=zcjX hw' rfl;have c8:w'.cell? ⟨q,8,none⟩=some (.slice At nt ct):=zcjX hw' rfl
   go_simp<;>with_reducible rfl
  simp only [Act.put,oZa,oZb,oZc]
  refine tK 10 ?_ (fun w' hw'=>?_) hH ?_
  rotate_left
  ·have c3:w'.cell? ⟨q,3,none⟩=some (.int .i64 L.turn):=zcjX hw' rfl;have c8:w'.cell? ⟨q,8,none⟩=some (.slice At nt ct):=zcjX hw' rfl
   go_simp<;>with_reducible rfl
  simp only [Act.put,oZa,oZb,oZc]
  refine tK 11 ?_ (fun w' hw'=>?_) hH ?_
  rotate_left
  ·have c3:w'.cell? ⟨q,3,none⟩=some (.int .i64 L.turn):=zcjX hw' rfl;have c8:w'.cell? ⟨q,8,none⟩=some (.slice At nt ct):=zcjX hw' rfl
   go_simp<;>with_reducible rfl
  simp only [Act.put,oZa,oZb,oZc]
  refine tK 12 ?_ (fun w' hw'=>?_) hH ?_
  rotate_left
  ·have c3:w'.cell? ⟨q,3,none⟩=some (.int .i64 L.turn):=zcjX hw' rfl;have c8:w'.cell? ⟨q,8,none⟩=some (.slice At nt ct):=zcjX hw' rfl
   go_simp<;>with_reducible rfl
  simp only [Act.put,oZa,oZb,oZc]
  refine tK 14 ?_ (fun w' hw'=>?_) hH ?_
  rotate_left
  ·have c3:w'.cell? ⟨q,3,none⟩=some (.int .i64 L.turn):=zcjX hw' rfl;have c8:w'.cell? ⟨q,8,none⟩=some (.slice At nt ct):=zcjX hw' rfl
   go_simp<;>with_reducible rfl
  simp only [Act.put,oZa,oZb,oZc]
  refine tK 15 ?_ (fun w' hw'=>?_) hH ?_
  rotate_left
  ·have c3:w'.cell? ⟨q,3,none⟩=some (.int .i64 L.turn):=zcjX hw' rfl;have c8:w'.cell? ⟨q,8,none⟩=some (.slice At nt ct):=zcjX hw' rfl
   go_simp<;>with_reducible rfl
  simp only [Act.put,oZa,oZb,oZc]
  refine tK 16 ?_ (fun w' hw'=>?_) hH ?_
  rotate_left
  ·have c3:w'.cell? ⟨q,3,none⟩=some (.int .i64 L.turn):=zcjX hw' rfl;have c8:w'.cell? ⟨q,8,none⟩=some (.slice At nt ct):=zcjX hw' rfl
   go_simp<;>with_reducible rfl
  simp only [Act.put,oZa,oZb,oZc]
  refine tK 17 ?_ (fun w' hw'=>?_) hH ?_
  rotate_left
  ·have c3:w'.cell? ⟨q,3,none⟩=some (.int .i64 L.turn):=zcjX hw' rfl;have c8:w'.cell? ⟨q,8,none⟩=some (.slice At nt ct):=zcjX hw' rfl
   go_simp<;>with_reducible rfl
  simp only [Act.put,oZa,oZb,oZc]
  refine stepL 13 rfl (by kernel_rfl) (fun K hK=>?_)
  go_simp
  go_at_call 88
  refine (zl7L F L.turn nt _ (by omega) (by omega) t0 (by omega) (by omega) (by omega)).mono ?_
  rintro e w4 ⟨v4,rfl,ho4,hk4⟩
  have HO4:=qh ho4
  have HK4:=qh (HK3.out.drew.trans0 hk4)
  have HS4:=qh ((HS3.out.keep ((Kept.refl (fun _=>False) w3).drew) (fun _ _=>id)).keep hk4 (fun _ _=>id))
  have HB4:=qh ((HB3.out.keep ((Kept.refl (fun _=>False) w3).drew) id).keep hk4 id)
  have SZ4:=qh hk4.size
  clear ho4 hk4
  go_simp
  refine hK.out _ _ (fun _=>HS4.out.hq) (fun _=>?_)
  simp only [oZa,oZb,oZc]
  clear hK K
  have LST:(z7b5 F.toNat L.turn.toNat (nt:Int).toNat).length=13:=by simp [z7b5,zmTu]
  refine stepL 18 rfl (by kernel_rfl) (fun K hK=>?_)
  refine zNGM rfl _ _ (by rfl) w3.heap.size v4 _ L.tail (by rfl) HO4.out At nt ct (by rfl) HNT.out HS4.out.ht.rd (by rw [LST,HNT.out];omega) SZ4.out ?_
  intro v5 w5 ho5 hk5
  have hmm:z7b5 F.toNat L.turn.toNat (nt:Int).toNat ++ L.tail=m:=by rw [HM.out,HNT.out,Int.toNat_natCast]
  rw [hmm] at ho5
  obtain ⟨A5,n5,c5',hv5,hn5⟩:=ho5.parts
  subst hv5
  have HN5:=qh hn5
  have HLM:=qh (show m.length<=64 from by rw [<- hmm,List.length_append,LST,HNT.out];omega)
  have HO5:=qh ho5
  have HK5:=qh (HK4.out.new hk5 (fun x hx=>Nat.le_trans HK3.out.size hx))
  have old5:∀ x,x < w3.heap.size->¬ w3.heap.size<=x:=fun x hx h=>by omega
  have HS5:=qh (HS4.out.keep hk5 (by
   rintro x hx h
   have hs3:=HK3.out.size
   rcases hx with rfl | rfl | rfl | rfl | hx | hx
   ·have:=zvKu H.out.hq;omega
   ·have:=zvKu H.out.dev.hp;omega
   ·have:=H.out.dev.hs.lt;omega
   ·have:=H.out.dev.ho.lt;omega
   ·have:=(H.out.hl.base_le hx).2;omega
   ·have:=(H.out.ht.base_le hx).2;omega))
  have g3:g2 < w3.heap.size:=by obtain ⟨cur,_,h,_⟩:=HB3.out.form;exact zvKu h
  have HB5:=qh (HB4.out.keep hk5 (fun h=>by omega))
  clear ho5 hk5 hmm hn5 LST old5
  refine hK.out _ _ (fun _=>HS5.out.hq) (fun _=>?_)
  simp only [Act.put,oZa,oZb,oZc]
  clear hK K
  refine stepL 19 rfl (by kernel_rfl) (fun K hK=>?_)
  refine z83d rfl _ _ (by rfl) HB5.out O (by rw [LP1.out];omega) (slA (some ⟨g2,0,none⟩) O k2) A5 (fun _=>zG1u _ _ _ (by omega)) m HO5.out.rd (k2 - O) c5' (by rw [LP1.out];rfl) (by rw [HN5.out];rfl) ?_
  intro n6 w6 hn6 hb6 hk6
  have hpg:ovL P1 O m=zPwQ (D.latest B) O m:=by rw [HP1.out];exact zqs4 (by rw [LB.out];omega) HLM.out
  rw [hpg] at hb6
  obtain ⟨PG,hPG⟩:∃ PG,PG=zPwQ (D.latest B) O m:=⟨_,rfl⟩
  rw [<- hPG] at hb6 HV
  have LPG:=qh (show PG.length=512 from by rw [hPG,<- hpg,zvaq (by rw [LP1.out];omega),LP1.out])
  have HB6:=qh hb6
  have HK6:=qh (HK5.out.new hk6 (by rintro x rfl;exact HB3.out.base_le))
  have HS6:=qh (HS5.out.keep hk6 (by
   rintro x hx rfl
   have h1:=HB3.out.base_le
   rcases hx with rfl | rfl | rfl | rfl | hx | hx
   ·have:=zvKu H.out.hq;omega
   ·have:=zvKu H.out.dev.hp;omega
   ·have:=H.out.dev.hs.lt;omega
   ·have:=H.out.dev.ho.lt;omega
   ·have:=(H.out.hl.base_le hx).2;omega
   ·have:=(H.out.ht.base_le hx).2;omega))
  clear hn6 hb6 hk6 hpg hPG
  refine hK.out _ _ (fun h=>absurd rfl h) (fun _=>?_)
  simp only [Act.put,oZa,oZb,oZc]
  clear hK K hH
  refine doneL (by kernel_rfl) ?_ _
  have c06:w6.cell? ⟨q,0,none⟩=some (.pointer (some ⟨p,0,none⟩)):=zcjX HS6.out.hq rfl
  have HW:=qh (show Calls Tryz.prog 67 #[.pointer (some ⟨p,0,none⟩),.int .i64 B,.slice (some ⟨g2,0,none⟩) 512 k2] w6 fun e w'=>e=.returned (.int .i64 (D.write B PG).1)/\DevAt w' p ms mo (D.write B PG).2/\Kept (fun x=>x=p\/x=mo) w6 w' from by
   have:=zquG HS6.out.dev B (some ⟨g2,0,none⟩) k2 PG (OwnV.rd (n:=PG.length) (c:=k2) HB6.out)
   rwa [LPG.out] at this)
  obtain ⟨Y,hY⟩:∃ Y,Y=D.write B PG:=⟨_,rfl⟩
  rw [<- hY] at HW HV
  clear hY
  go_wp2_with fail
  refine HW.out.mono ?_
  rintro e w7 ⟨rfl,hd7,hk7⟩
  have HD7:=qh hd7
  have HK7:=qh ((HK6.out.mono (T:=fun x=>x=p\/x=ms\/x=mo) (fun _ _ h=>h.elim)).trans hk7 (fun x _ h=>by rcases h with h | h;exact .inl h;exact .inr (.inr h)))
  have HS7:=qh (show LogS w7 q p ms mo lv (.slice At nt ct) L Y.2 from
   ⟨hd7,hk7.heap HS6.out.hq (by rintro (e | e);exact H.out.nq.1 e.symm;exact H.out.nq.2.2 e.symm),HS6.out.hl.keep hk7 (fun x hx e=>by have:=H.out.nl x hx;rcases e with e | e;exact this.2.1 e;exact this.2.2.2.1 e),
    HS6.out.ht.keep hk7 (fun x hx e=>by have:=H.out.nt x hx;rcases e with e | e;exact this.2.1 e;exact this.2.2.2 e),H.out.nq,H.out.nl,H.out.nt⟩)
  clear hd7 hk7 HW c06
  obtain ⟨E,hE⟩:∃ E,E=Y.1:=⟨_,rfl⟩
  rw [<- hE] at HV ⊢
  clear hE
  by_cases hE0:E=0
  ·subst hE0
   have c07:w7.cell? ⟨q,0,none⟩=some (.pointer (some ⟨p,0,none⟩)):=zcjX HS7.out.hq rfl
   have HSY:=qh (zWTC HS7.out.dev)
   obtain ⟨Z,hZ⟩:∃ Z,Z=Y.2.syncR:=⟨_,rfl⟩
   rw [<- hZ] at HSY HV
   clear hZ
   go_wp2_with (go_at_call 68;refine HSY.out.mono ?_;rintro e w8 ⟨rfl,hd8,hk8⟩)
   go_ret
   unfold z78h
   rw [HV.out,if_neg (by decide)]
   exact ⟨rfl,⟨hd8,hk8.heap HS7.out.hq (by rintro (e | e | e);exact H.out.nq.1 e.symm;exact H.out.nq.2.1 e.symm;exact H.out.nq.2.2 e.symm),HS7.out.hl.keep hk8 (fun x hx e=>by have:=H.out.nl x hx;rcases e with e | e | e;exact this.2.1 e;exact this.2.2.1 e;exact this.2.2.2.1 e),
    HS7.out.ht.keep hk8 (fun x hx e=>by have:=H.out.nt x hx;rcases e with e | e | e;exact this.2.1 e;exact this.2.2.1 e;exact this.2.2.2 e),H.out.nq,H.out.nl,H.out.nt⟩,HK7.out.trans' hk8⟩
  ·have hEb:(E != 0)=true:=by simpa using hE0
   go_wp2
   go_ret
   unfold z78h
   rw [HV.out,if_pos hE0]
   exact ⟨rfl,HS7.out,HK7.out⟩
 ·rw [if_pos hmay] at hv
  have HV:=qh hv
  have HRD:=qh (zpER h.dev _ hmay)
  have hmb:(D.mayE B != 0)=true:=by simpa using hmay
  obtain ⟨E,hE⟩:∃ E,E=D.mayE B:=⟨_,rfl⟩
  rw [<- hE] at HRD hmb HV
  clear hE hv hX hmay hB hFF hm hO hF hO' h hok
  go_enter Tryz.func111,Tryz.ntmps111
  go_wp2_with fail
  refine HSEC.out.mono ?_
  rintro e wx ⟨rfl,rfl⟩
  go_wp2_with (go_at_call 87;refine HRD.out.mono ?_;rintro e w2 ⟨rfl,rfl⟩)
  go_ret
  unfold z78h
  rw [HV.out]
  exact ⟨rfl,H.out,Kept.refl _ _⟩
end Go.Proofs.YtfgagakepmigbaaGreat
