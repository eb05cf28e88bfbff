/-
  No statement is proved here.
-/
import Derived.Test.YtfgagakepmigbaaGreatJBlg
import Derived.Conc.LoneCalls
import Derived.Conc.LoneSelectN
import Derived.Test.YtfgagakepmigbaaGreatJSwd
import Derived.Test.YtfgagakepmigbaaGreatJPgl
import Derived.Test.YtfgagakepmigbaaGreatJSwk
import Derived.Test.YtfgagakepmigbaaGreatJSwj
import Derived.Test.YtfgagakepmigbaaGreatJSmf
namespace Go.Proofs.YtfgagakepmigbaaGreat
open Go.RowKit
theorem zMYz:∃ i,(Tryz.prog).info? 86=some i/\i.bytes=112:=by
 have h:((Tryz.prog).info? 86).map (·.bytes)=some 112:=by kernel_rfl
 obtain ⟨i,hi,hb⟩:=Option.map_eq_some_iff.1 h
 exact ⟨i,hi,hb⟩
theorem mkCh0 (w:World):(Instr.makeChan 172 (.int .i64 0)).run Tryz.prog w=.ok (.chan (some w.heap.size)) (w.alloc (.chan 0 #[] false 0 0 false)):=by
 obtain ⟨i,hi,hb⟩:=zMYz
 simpa using Go.Conc.run_makeChan (P:=Tryz.prog) (w:=w) Tryz.underlying172 hi .i64 0 (by omega) (by rw [hb];omega)
set_option maxRecDepth 100000 in
theorem zwJ4 (A:Option Addr) (n:Nat) (w:World):Calls Tryz.prog 112 #[.slice A 0 n] w fun e w'=>∃ c,e=.returned (.chan (some c))/\w'.heap[c]?=some (.chan 0 #[] true 0 0 false)/\w.heap.size<=c/\Kept (fun _=>False) w w':=by
 have hmc:=mkCh0
 go_enter Tryz.func112,Tryz.ntmps112
 go_wp2_with fail
 go_loopw [11] (fun i wr=>i=.int .i64 0/\wr=w.alloc (.chan 0 #[] false 0 0 false)) (fun _ _=>0)
 case atStart=>exact ⟨rfl,rfl⟩
 case round=>
  obtain ⟨rfl,rfl⟩:=hrel
  have hcl:=fun ats ty=>run_close_open (P:=Tryz.prog) (w:=w.alloc (.chan 0 #[] false 0 0 false)) ats ty (heap_alloc_new w (.chan 0 #[] false 0 0 false))
  go_wp2
  go_ret
  refine ⟨w.heap.size,rfl,Go.Conc.heap_setChan (w.alloc (.chan 0 #[] false 0 0 false)) w.heap.size 0 #[] true 0 0 false (by simp),Nat.le_refl _,?_⟩
  exact ((Kept.refl (fun _=>False) w).alloc _).setBlock (.inl (Nat.le_refl _)) _
end Go.Proofs.YtfgagakepmigbaaGreat
namespace Go.Proofs.YtfgagakepmigbaaGreat
open Go.RowKit Go.Conc
section
variable {P:Program} {Q:Goroutine->World->Prop}
theorem LoneTo.call {f:FuncId} {args:Array Value} {w:World} {R:Ending->World->Prop} (h:Calls P f args w R) {c:Frame} {cs:List Frame} (hk:∀ e w',R e w'->∃ v,e=.returned v/\LoneTo P Q (G (c.finish v) cs) w'):LoneTo P Q (G (Frame.enter P f args .normal) (c :: cs)) w:=by
 obtain ⟨e,w',fr,hR,hc,hf,hl⟩:=h (c :: cs)
 obtain ⟨v,rfl,g2,w2,hs,hq⟩:=hk e w' hR
 exact ⟨g2,w2,Steps.trans hc (Steps.head (step_leave_returned hl) hs),hq⟩
theorem zQs3 {ops:Array Oper} {i:Nat} {rest:List Nat} {o:Oper} {f:FuncId} {fn:Func} {args:Array Operand} {ats:Array TypeId} {b:Frame} {a:Act} {k:List Item} {cs:List Frame} {w:World} {R:Ending->World->Prop}
  (ho:ops[i]?=some o) (hw:Region.wanted o (yielded ops a.tmps)=true) (hk:b.kind≠CallKind.early) (hop:o.op=.call { callee:=.value (.func f),args,argTypes:=ats })
  (hf : P.funcs[f]? = some fn) (hname : (fn.name == "runtime.NumGoroutine") = false) (hb : fn.body.isNone = false)
  {vs:Array Value} (hv:args.map a.eval=vs) (h:Calls P f vs w R) (hn:∀ e w',R e w'->∃ v,e=.returned v/\LoneTo P Q (G ((b.at a (.inRegion ops (i :: rest) :: k)).finish v) cs) w') :
  LoneTo P Q (G (b.at a (.inRegion ops (i :: rest) :: k)) cs) w:=
 .step (step_solo_go rfl (stepG_enter ho hw hk (run_call_body hop hf hname hb))) (LoneTo.call (by rw [hv];exact h) hn)
end
theorem zXgt {P:Program} {o:Oper} {a:Act} {w:World} {K:Act->World->Prop} (ty:TypeId) (x y:Operand) (ho:o.op=.store ty x y)
  (g:Nat) (cells:Array Value) (hx:a.eval x=.pointer (some ⟨g,0,none⟩)) (hy:a.eval y=.agg cells)
  (t:TypeId) (old:Array Value) (hg:w.heap[g]?=some (.cells old t (0,0))) (hi:(P.info? ty).map (·.size)=some cells.size)
  (hold:old.size=cells.size) (h1:cells.all (·.oneCell')=true)
  (h:K (a.put o.dst undef) (w.setRow g cells)):uponK o a K ((execOp a.eval o).run P w):=by
 unfold execOp
 simp only [ho,hx,hy,Instr.storeAt,Instr.sureAddr,Sem.run_bind,Sem.run_pure,Result.andThen_ok,run_storeVar_row w g t ty old cells hg hi hold h1]
 exact h
theorem zQ2e (c:Nat) (z v:Value) (ok:Bool):commResult #[rcase c z] .select ((0:Nat):Int) v ok=.tuple #[goInt 0,.bool ok,v]:=by
 simp [commResult,rcase,List.zipIdx_cons]
set_option maxRecDepth 100000 in
theorem zkQr (A:Option Addr) (n:Nat) (p t:Value) (w:World):Calls Tryz.prog 76 #[.slice A 0 n,p,t] w fun e w'=>e=.returned (.int .i64 0)/\Kept (fun _=>False) w w':=by
 refine calls_of_loneTo fun cs=>?_
 have e:Frame.enter Tryz.prog 76 #[.slice A 0 n,p,t] .normal=(base 76).at ⟨#[.slice A 0 n,p,t,undef,undef,undef,undef,undef,undef,undef,undef,undef,undef,undef,undef,undef,undef,undef,undef,undef,undef,undef,undef,undef,undef,undef,undef,undef,undef,undef,undef,undef,undef,undef,undef,undef,undef,undef,undef,undef,undef,undef,undef,undef,undef,undef,undef,undef,undef,undef,undef,undef,undef,undef,undef,undef,undef,undef],[]⟩ [.code (Tryz.f76.body.getD .skip)]:=by
  simp [Frame.enter,Frame.at,Tryz.func76,base,Tryz.f76]
 rw [e]
 clear e
 refine LoneTo.goes (n:=7) ?_
 simp only [Tryz.f76,Option.getD_some]
 s_c stepG_seq
 s_reg
 s_op
 s_c stepG_region_end
 s_c stepG_seq
 s_reg
 s_op
 s_stop
 refine zQs3 rfl rfl (by decide) rfl Tryz.func112 (by kernel_rfl) rfl (by simp [Act.eval]) (zwJ4 A n w) ?_
 rintro e w1 ⟨c,rfl,hc,hlc,hk⟩
 refine ⟨_,rfl,?_⟩
 have HK:=qh hk
 clear hk
 rw [Frame.finish_at]
 walk_nrm
 refine LoneTo.goes (n:=11) ?_
 s_op
 s_c stepG_region_end
 s_c stepG_block
 s_c stepG_loop
 s_c stepG_block
 s_c stepG_seq
 s_reg
 s_op
 s_c stepG_region_end
 s_c stepG_seq
 s_reg
 s_stop
 have hz:=zzWm
 refine LoneTo.step (step_lone_sel_recv_shut (k:=0) (c:=c) (z:=.agg zRecC) (cap:=0) (s:=0) (r:=0) (tm:=false)
  (stepG_comm (cases:=#[rcase c (.agg zRecC)]) (blocking:=false) (shape:=.select) (w':=w1) rfl rfl (by decide) (by simp [go_sem,execOp,rcase,Act.eval,hz,Result.andThen]))
  rfl (fun m c' hm hc'=>?_) hc) ?_
 ·rcases m with _ | m
  ·exact absurd rfl hm
  ·simp at hc'
 rw [Frame.finish_at,zQ2e]
 walk_nrm
 refine LoneTo.goes (n:=20) ?_
 s_op
 s_op
 s_c stepG_region_end
 s_c stepG_block
 s_cond true
 s_c stepG_seq
 s_reg
 s_op
 s_op
 s_op
 s_in
 refine goes_oper_k rfl rfl (by decide) (fun K hK=>?_)
 refine zXgt 86 _ _ rfl w1.heap.size zRecC rfl rfl 86 zRecC (heap_alloc_new w1 _) zWmC rfl (zh6u _ _ _ _ _) ?_
 refine hK _ _ ⟨trivial,?_⟩
 clear hK K
 have hk2:Kept (fun _=>False) w ((w1.alloc (.cells zRecC 86)).setRow w1.heap.size zRecC):=(HK.out.alloc _).setRow (.inl HK.out.size) _
 obtain ⟨w2,hw2⟩:∃ w2,w2=(w1.alloc (.cells zRecC 86)).setRow w1.heap.size zRecC:=⟨_,rfl⟩
 rw [<- hw2] at hk2 ⊢
 have HK2:=qh hk2
 clear hw2 hk2 HK
 walk_nrm
 s_op
 s_c stepG_region_end
 s_c stepG_seq
 s_c stepG_seq
 s_reg
 s_op
 s_op
 s_stop
 refine LoneTo.goes (n:=8) ?_
 s_c stepG_region_end
 s_cond true
 s_c stepG_seq
 s_reg
 s_op
 s_c stepG_region_end
 s_c stepG_ret'
 s_stop
 refine LoneTo.done ⟨.returned (.int .i64 0),_,rfl,⟨rfl,HK2.out⟩,rfl,rfl,rfl,rfl,_,Tryz.func76,by simp [results,Tryz.f76,Frame.at]⟩
end Go.Proofs.YtfgagakepmigbaaGreat
namespace Go.Proofs.YtfgagakepmigbaaGreat
open Go.RowKit
theorem zfSm {P:Program} {fn:Func} {u p x:Tmp} {ty:TypeId} (h:fn.results=#[.tmp u,.cell p ty,.tmp x]) (tmps:Array Value) (w:World) (g:Nat) (cs:Array Value) {t:TypeId} {fr:Nat×Nat} {d:TypeDesc} (hp:tmps.getD p undef=.pointer (some ⟨g,0,none⟩)) (hg:w.heap[g]?=some (.cells cs t fr))
  (hu:P.underlying ty=some d) (hd:(match d with | .struct _ | .array _ _=>true | _=>false)=true) (hi:(P.info? ty).map (·.size)=some cs.size):(results fn tmps).run P w=.ok (.tuple #[tmps.getD u undef,.agg cs,tmps.getD x undef]) w:=by
 have hp':tmps[p]?.getD undef=.pointer (some ⟨g,0,none⟩):=by simpa using hp
 simp only [results,h]
 simp [Result.andThen,hp',asAddr,run_loadVar_row w g t ty cs fr d hg hu hd hi]
theorem zFQb {P:Program} {a:Act} {w:World} {o:Oper} (t:TypeId) (x:Operand) (ho:o.op=.load t x) (g:Nat) (hx:a.eval x=.pointer (some ⟨g,0,none⟩)) (cs:Array Value) {te:TypeId} {fr:Nat×Nat}
  (hb:w.heap[g]?=some (.cells cs te fr)) {d:TypeDesc} (hu:P.underlying t=some d) (hd:(match d with | .struct _ | .array _ _=>true | _=>false)=true) (hi:(P.info? t).map (·.size)=some cs.size):(execOp a.eval o).run P w=.ok (.value (.agg cs)) w:=by
 simp only [execOp,ho,hx,Instr.loadAt,Instr.sureAddr,Sem.run_bind,Sem.run_pure,Result.andThen_ok,run_loadVar_row w g te t cs fr d hb hu hd hi]
theorem RecsV.none_of {w:World} {B:Nat} {v:Value} (h:RecsV w B v []):∃ A c,v=.slice A 0 c:=by
 rcases h.row with ⟨-,⟨h1,-⟩ | ⟨g,c,cur,h1,-⟩⟩
 ·exact ⟨_,_,h1⟩
 ·exact ⟨_,_,h1⟩
theorem zIgt (A:Option Addr) (n:Nat) (l p t:Value) (w:World):Calls Tryz.prog 77 #[.slice A 0 n,l,p,t] w fun e w'=>e=.returned (.int .i64 0)/\w=w':=by
 go_enter Tryz.func77,Tryz.ntmps77
 go_wp2
 go_ret
 exact ⟨rfl,rfl⟩
def tldC (a b c d:Int):Array Value:=#[.int .i64 a,.int .i64 b,.int .i64 c,.int .i64 d]
theorem zuuk:(Tryz.prog.info? 76).map (fun i=>(i.zero,i.size))=some (some (.agg (tldC 0 0 0 0)),4):=by kernel_rfl
theorem zxqe (w:World):(zeroValue 76).run Tryz.prog w=.ok (.agg (tldC 0 0 0 0)) w:=(zero_of_info zuuk).1 w
theorem zWfn:(Tryz.prog.info? 76).map (·.size)=some 4:=(zero_of_info zuuk).2
theorem zmW9 (a b c d:Int):(tldC a b c d).all (·.oneCell')=true:=by simp [tldC,Value.oneCell']
theorem FmtD.wrote {D:DevM} {n:Int} (h:FmtD D n ⟨1,1,1⟩) (n0:24<=n):∃ D',zgqU D ⟨2,2,1⟩=(D',0)/\FmtD D' n ⟨2,2,1⟩:=by
 obtain ⟨D',e1,e2,e3,e4,e5,e6,e7,e8⟩:=zIJ2 h.c (by rw [h.n];exact n0) (m':=⟨2,2,1⟩) (by decide) (fun m hm=>by rw [z5tp h.mas] at hm;rw [<- hm];decide)
 exact ⟨D',e1,e2,e3.trans h.n,e4,fun k h0 h1=>by rw [e5 k h0];exact h.z k h0 h1,e6,e8 h.l⟩
section
variable {w w' w1:World} {p ms mo:Nat} {D:DevM}
set_option maxRecDepth 100000 in
set_option maxHeartbeats 3200000 in
theorem zF7L (h:DevAt w p ms mo D) {n frames:Int} (hd:FmtD D n ⟨1,1,1⟩) (n0:24<=n) (n1:n<=65536) (f0:8<=frames) (f1:frames<=1024) :
  Calls Tryz.prog 39 #[.pointer (some ⟨p,0,none⟩),.int .i64 frames] w fun e w'=>∃ x,e=.returned (.tuple #[ptrV x.bk,.agg (tldC 0 0 0 0),.int .i64 0])/\BkW w' x (zT5q n) 1/\Kept (fun z=>z=p\/z=ms\/z=mo) w w'/\∀ z,x.K z->z=p\/z=ms\/z=mo\/w.heap.size<=z:=by
 obtain ⟨D2,hw2,hd2⟩:=hd.wrote n0
 obtain ⟨o1,o2,o3,o4⟩:=hd2.opened n0 n1 (T:=2) (by decide) (by decide)
 have hpl:=zSPw n0 n1
 have hbook:=zy84 (frames:=frames) hd2.c hd2.n n0 n1 o4 hd2.z hd2.mas (by decide) (by decide) f0 f1
 have HB:=qh (fun (w':World) (hk:Kept (fun _=>False) w w')=>zyYd (h.keep hk id id id))
 rw [hd.n] at HB
 have HRM:=qh (fun (w':World) (hk:Kept (fun _=>False) w w')=>by
  have:=zH0r (h.keep hk id id id) (by rw [hd.n];omega)
  rw [hd.mas] at this
  exact this)
 have HWM:=qh (fun (w':World) (hk:Kept (fun _=>False) w w')=>by
  have:=zjxy (h.keep hk id id id) ⟨2,2,1⟩
  rw [hw2] at this
  exact this)
 have HPZ:=qh (show p < w.heap.size/\ms < w.heap.size/\mo < w.heap.size from ⟨zvKu h.hp,h.hs.lt,h.ho.lt⟩)
 obtain ⟨F,hF⟩:∃ F,F=n - n / 2:=⟨_,rfl⟩
 obtain ⟨C,hC⟩:∃ C,C=n / 2:=⟨_,rfl⟩
 obtain ⟨Pg,hPg⟩:∃ Pg,Pg=n - 2 - n / 2:=⟨_,rfl⟩
 rw [<- hF,<- hC] at o1 o2 o3 o4
 rw [<- hPg,<- hF,<- hC] at hpl hbook
 have HNUM:=qh (⟨hF,hC,hPg⟩:F=n - n / 2/\C=n / 2/\Pg=n - 2 - n / 2)
 have HFD:=qh hd2
 have HO:=qh (⟨o1,o2,o3⟩:¬ badM D2.n F C 1 2/\openM D2 F C 1 2=(some (newL F C 2),D2,0)/\(zoel D2 F C 2 (C*408 - 408).toNat ((C*408 - 408).toNat+1) 1 0 []).1.length<=1000000)
 have HLI:=Lib.hid o4
 have HPL:=qh hpl
 have HBOOK:=qh hbook
 have e0:(n == 0)=false:=by rw [beq_eq_false_iff_ne];omega
 have hf1:¬ frames < 8:=by omega
 have hf2:¬ 1024 < frames:=by omega
 clear h hd hw2 hd2 o1 o2 o3 o4 hpl hbook hF hC hPg
 go_enter Tryz.func39,Tryz.ntmps39
 go_wp2_with (refine zNko rfl 76 rfl (tldC 0 0 0 0) zxqe ?_)
 intro rc w1 l1 m1 hb1 hk1
 have HR1:=qh hb1
 have HK1:=qh hk1
 have HL1:=Lib.hid l1
 clear hb1 hk1 l1 m1
 go_wp2_with fail
 refine (HB.out w1 HK1.out).mono ?_
 rintro e wx ⟨rfl,rfl⟩
 go_wp2_with fail
 refine (HRM.out w1 HK1.out).mono ?_
 rintro e w2 ⟨rfl,hk2⟩
 have HR2:=qh (hk2.heap HR1.out id)
 have HK2:=qh (HK1.out.trans0 hk2)
 clear hk2 HR1
 go_wp2_with (refine zNko rfl 103 rfl (masC zM) z1iB ?_)
 intro gm w3 l3 m3 hb3 hk3
 have HM3:=qh hb3
 have HR3:=qh (hk3.heap HR2.out id)
 have HK3:=qh (HK2.out.trans0 hk3)
 have HL3:=qh (show w.heap.size<=gm/\rc≠gm from ⟨Nat.le_trans HK2.out.size l3,fun e=>by have:=zvKu HR2.out;omega⟩)
 clear hb3 hk3 l3 m3 HR2
 go_wp2_with (refine zxQF rfl 103 _ _ rfl gm (masC ⟨1,1,1⟩) (masC zM) rfl rfl HM3.out zapW rfl (z6IM _) ?_)
 intro w4 hb4 hk4
 have HM4:=qh hb4
 have HR4:=qh (hk4.heap HR3.out HL3.out.2)
 have HK4:=qh (HK3.out.new hk4 (fun z hz=>by subst hz;exact HL3.out.1))
 have c1:w4.cell? ⟨gm,1,none⟩=some (.int .i64 1):=zcjX hb4 rfl
 clear hb4 hk4 HM3 HR3
 go_wp2_with (refine z2q7 rfl _ _ _ rfl gm 1 (.int .i64 2) (masC ⟨1,1,1⟩) rfl rfl HM4.out (by kernel_rfl) (by show 1 < 3;decide) rfl ?_)
 intro w5 hb5 hk5
 have HM5:=qh (show w5.heap[gm]?=some (.cells (masC ⟨1,2,1⟩) 103 (0,0)) from hb5)
 have HR5:=qh (hk5.heap HR4.out HL3.out.2)
 have HK5:=qh (HK4.out.new hk5 (fun z hz=>by subst hz;exact HL3.out.1))
 have c1:w5.cell? ⟨gm,1,none⟩=some (.int .i64 2):=zcjX HM5.out rfl
 have c0:w5.cell? ⟨gm,0,none⟩=some (.int .i64 1):=zcjX HM5.out rfl
 clear hb5 hk5 HM4 HR4
 go_wp2_with fail
 refine (HB.out w5 HK5.out).mono ?_
 rintro e wx ⟨rfl,rfl⟩
 go_wp2_with fail
 have hpa:=zdOx n w5
 rw [HPL.out] at hpa
 refine hpa.mono ?_
 rintro e wx ⟨rfl,rfl⟩
 clear hpa
 go_wp2_with (refine z2q7 rfl _ _ _ rfl gm 0 (.int .i64 2) (masC ⟨1,2,1⟩) rfl rfl HM5.out (by kernel_rfl) (by show 0 < 3;decide) rfl ?_)
 intro w6 hb6 hk6
 have HM6:=qh (show w6.heap[gm]?=some (.cells (masC ⟨2,2,1⟩) 103 (0,0)) from hb6)
 have HR6:=qh (hk6.heap HR5.out HL3.out.2)
 have HK6:=qh (HK5.out.new hk6 (fun z hz=>by subst hz;exact HL3.out.1))
 clear hb6 hk6 HM5 HR5 c0 c1
 go_wp2_with (refine zFcC rfl 103 _ rfl gm rfl (masC ⟨2,2,1⟩) HM6.out Tryz.underlying103 rfl zapW ?_)
 go_wp2_with fail
 refine (HWM.out w6 HK6.out).mono ?_
 rintro e w7 ⟨rfl,hd7,hk7⟩
 have hz:=HPZ.out
 have hl3:=HL3.out
 have hl1:=HL1.out
 have HD7:=qh hd7
 have HM7:=qh (hk7.heap HM6.out (by omega))
 have HR7:=qh (hk7.heap HR6.out (by omega))
 have HK7:=qh ((HK6.out.mono (T:=fun z=>z=p\/z=ms\/z=mo) (fun _ _ h=>h.elim)).trans' hk7)
 have c1:w7.cell? ⟨gm,1,none⟩=some (.int .i64 2):=zcjX HM7.out rfl
 have c2:w7.cell? ⟨gm,2,none⟩=some (.int .i64 1):=zcjX HM7.out rfl
 clear hd7 hk7 HM6 HR6 hz hl3 hl1
 go_wp2_with fail
 have hoa:=ztLr w7 p ms mo D2 HD7.out F C 1 2 HO.out.1 HO.out.2.2
 rw [HO.out.2.1] at hoa
 refine hoa.mono ?_
 intro e w8 hp8
 obtain ⟨hk8,-,hy⟩:=hp8
 obtain ⟨q,lv,tv,rfl,hs8,hq,hlv,htv⟩:=hy (newL F C 2) rfl
 have HS8:=qh hs8
 have HR8:=qh (hk8.heap HR7.out (by
  have h1:=HPZ.out;have h2:=HL1.out
  omega))
 have HM8:=qh (hk8.heap HM7.out (by
  have h1:=HPZ.out;have h2:=HL3.out
  omega))
 have HK8:=qh (HK7.out.trans' hk8)
 have HNR:=qh (show ∀ x,LogK q p ms mo lv tv x->x≠rc/\x≠gm from by
  have h1:=zvKu HR7.out
  have h2:=zvKu HM7.out
  have h3:=HPZ.out
  have h4:=HL1.out
  have h5:=HL3.out
  rintro x (rfl | rfl | rfl | rfl | h | h)
  ·omega
  ·omega
  ·omega
  ·omega
  ·have:=hlv x h;omega
  ·have:=htv x h;omega)
 have HLQ:=qh (show w.heap.size<=q/\(∀ x,lv.ownBlock=some x->w.heap.size<=x)/\(∀ x,tv.ownBlock=some x->w.heap.size<=x) from by
  have:=HK7.out.size
  exact ⟨by omega,fun x h=>by have:=hlv x h;omega,fun x h=>by have:=htv x h;omega⟩)
 clear hy hs8 hk8 hq hlv htv hoa c1 c2 HD7 HM7 HR7 HK7
 have HPN:=qh (zywc HS8.out (by show (1:Int)≠0;decide) (first:=2) (blocks:=Pg) (most:=frames) (by omega) (by have:=HNUM.out;omega) (by have:=HNUM.out;have:=HFD.out.n;show 2+Pg<=D2.n;omega) f0 f1)
 unfold ptrV at HPN
 go_wp2_with fail
 refine HPN.out.mono ?_
 rintro e w9 ⟨a,rfl,aq,ap,ams,amo,alv,atv,arv,axs,lpb,lmb,hs9,hk9⟩
 have HS9:=qh hs9
 have HR9:=qh (hk9.heap HR8.out id)
 have HM9:=qh (hk9.heap HM8.out id)
 have HK9:=qh (HK8.out.trans0 hk9)
 have HA:=qh (⟨aq,ap,ams,amo,alv,atv,arv,axs⟩:a.q=q/\a.p=p/\a.ms=ms/\a.mo=mo/\a.lv=lv/\a.tv=tv/\a.rv=.slice none 0 0/\a.xs=[])
 have HLB:=qh (show w.heap.size<=a.pb/\w.heap.size<=a.mb/\rc < a.pb/\rc < a.mb/\gm < a.pb/\gm < a.mb from by
  have h1:=HK8.out.size
  have h2:=zvKu HR8.out
  have h3:=zvKu HM8.out
  omega)
 clear aq ap ams amo alv atv arv axs lpb lmb hs9 hk9 HPN HS8 HR8 HM8
 go_wp2_with (refine zNko rfl 76 rfl (tldC 0 0 0 0) zxqe ?_)
 intro gt w10 l10 m10 hb10 hk10
 have HT10:=qh hb10
 have HR10:=qh (hk10.heap HR9.out id)
 have HM10:=qh (hk10.heap HM9.out id)
 have HS10:=qh (HS9.out.keep hk10 (fun _ _=>id))
 have HK10:=qh (HK9.out.trans0 hk10)
 have c2:w10.cell? ⟨gm,2,none⟩=some (.int .i64 1):=zcjX HM10.out rfl
 have HNE:=qh (show rc < gt from by have:=zvKu HR9.out;omega)
 clear l10 m10 hb10 hk10 HS9 HR9 HM9
 have HFR:=qh (show Calls Tryz.prog 75 #[.pointer (some ⟨q,0,none⟩),.int .i64 1] w10 (z70W w10 []) from by
  have h:=zpaU w10 a.q a.p a.ms a.mo a.lv a.tv (newL F C 2) D2 HS10.out.log HLI.out.ok HLI.out.b HLI.out.r 1
  rw [show (newL F C 2).fromM D2 1=[] from zfkK HLI.out,HA.out.1] at h
  exact h)
 go_wp2_with fail
 refine HFR.out.mono ?_
 rintro e w11 ⟨hk11,v,rows,rfl,hv,hrw⟩
 have hrn:rows=[]:=by simpa using hrw
 subst hrn
 obtain ⟨A,cz,rfl⟩:=hv.none_of
 have HT11:=qh (hk11.heap HT10.out id)
 have HR11:=qh (hk11.heap HR10.out id)
 have HS11:=qh (HS10.out.keep hk11 (fun _ _=>id))
 have HK11:=qh (HK10.out.trans0 hk11)
 clear hk11 hv hrw HFR c2 HT10 HR10 HS10 HM10
 go_wp2_with fail
 refine (zkQr A cz _ _ w11).mono ?_
 rintro e w12 ⟨rfl,hk12⟩
 have HT12:=qh (hk12.heap HT11.out id)
 have HR12:=qh (hk12.heap HR11.out id)
 have HS12:=qh (HS11.out.keep hk12 (fun _ _=>id))
 have HK12:=qh (HK11.out.trans0 hk12)
 clear hk12 HT11 HR11 HS11
 go_wp2_with fail
 refine (zIgt A cz _ _ _ w12).mono ?_
 rintro e wx ⟨rfl,rfl⟩
 have HNB:=qh (show Calls Tryz.prog 78 #[.pointer (some ⟨p,0,none⟩),.pointer (some ⟨q,0,none⟩),.pointer (some ⟨a.pb,0,none⟩)] w12 fun e w'=>∃ bk,e=.returned (ptrV bk)/\Kept (fun _=>False) w12 w'/\w12.heap.size<=bk/\BookS w' ⟨a,bk,.slice none 0 0⟩ (bkNew C) (zVHS 2 Pg frames) (newL F C 2) D2 from by
  obtain ⟨aq,ap,ams,amo,alv,atv,arv,axs⟩:=HA.out
  have:=zNFO HS12.out (by rw [HFD.out.n];omega) (by rw [HFD.out.mas]) (by show (1:Int)≠0;decide) (by show Pg≠0;have:=HNUM.out;omega) (by rw [HFD.out.n,HPL.out];rfl)
  rw [HFD.out.n,HPL.out] at this
  unfold ptrV at this
  rw [aq,ap] at this
  exact this)
 go_wp2_with fail
 refine HNB.out.mono ?_
 rintro e w13 ⟨bk,rfl,hk13,hbk,hs13⟩
 have HB13:=qh (show BkW w13 ⟨a,bk,.slice none 0 0⟩ (zT5q n) 0 from ⟨_,_,_,_,hs13,HBOOK.out⟩)
 have HT13:=qh (hk13.heap HT12.out id)
 have HR13:=qh (hk13.heap HR12.out id)
 have HK13:=qh (HK12.out.trans0 hk13)
 have HLK:=qh (show w.heap.size<=bk/\rc < bk/\gt < bk from by
  have h1:=HK12.out.size
  have h2:=zvKu HR12.out
  have h3:=zvKu HT12.out
  omega)
 clear hs13 hk13 hbk HNB HT12 HR12 HS12
 unfold ptrV
 go_wp2_with fail
 have hpt:=zh2j HB13.out (by decide) rfl
 refine hpt.mono ?_
 rintro e w14 ⟨rfl,x14,h1,h2⟩
 have HFA:=qh (show ∀ z,(⟨a,bk,.slice none 0 0⟩:BAdr).K z->(z=p\/z=ms\/z=mo)\/w.heap.size<=z from by
  obtain ⟨aq,ap,ams,amo,alv,atv,arv,axs⟩:=HA.out
  have h1:=HLB.out
  have h2:=HLQ.out
  have h3:=HLK.out
  rintro z ((hz | hz | hz | hz | ⟨y,hy,_⟩) | hz | hz)
  ·unfold Adr.logK at hz
   dsimp only at hz
   rw [aq,ap,ams,amo,alv,atv] at hz
   rcases hz with rfl | rfl | rfl | rfl | h | h
   ·exact .inr h2.1
   ·exact .inl (.inl rfl)
   ·exact .inl (.inr (.inl rfl))
   ·exact .inl (.inr (.inr rfl))
   ·exact .inr (h2.2.1 z h)
   ·exact .inr (h2.2.2 z h)
  ·dsimp only at hz;omega
  ·dsimp only at hz;omega
  ·dsimp only at hz;rw [arv] at hz;cases hz
  ·dsimp only at hy;rw [axs] at hy;cases hy
  ·have:z=bk:=hz
   omega
  ·cases hz)
 have HT14:=qh (h1.k.heap HT13.out (HB13.out.notK ⟨_,_,HT13.out⟩ (by decide) (by decide) (by decide) (by decide) (by decide) (by decide) (by decide) (by decide)))
 have HR14:=qh (h1.k.heap HR13.out (HB13.out.notK ⟨_,_,HR13.out⟩ (by decide) (by decide) (by decide) (by decide) (by decide) (by decide) (by decide) (by decide)))
 have HK14:=qh (HK13.out.trans h1.k (fun z hz hK=>by
  rcases HFA.out z hK with h | h
  ·exact h
  ·omega))
 have HB14:=qh (show BkW w14 x14 (zT5q n) 1 from h2)
 have HF14:=qh (show ∀ z,x14.K z->(z=p\/z=ms\/z=mo)\/w.heap.size<=z from fun z hz=>by
  rcases h1.g z hz with h | h
  ·exact HFA.out z h
  ·exact .inr (Nat.le_trans HK13.out.size h))
 have HBK:=qh (show x14.bk=bk from h1.fix.bk)
 have HNK:=qh (show ¬ x14.K rc from fun hK=>by
  rcases h1.g rc hK with h | h
  ·exact HB13.out.notK ⟨_,_,HR13.out⟩ (by decide) (by decide) (by decide) (by decide) (by decide) (by decide) (by decide) (by decide) h
  ·have:=zvKu HR13.out
   omega)
 clear h1 h2 hpt HT13 HR13 HB13
 go_wp2_with fail
 have HR14d:=qh (show w14.drew.heap[rc]?=some (.cells (tldC 0 0 0 0) 76 (0,0)) from HR14.out)
 refine znCh 4 (fun w'=>w'.heap[gt]?=some (.cells (tldC 0 0 0 0) 76 (0,0))) (by kernel_rfl) HT14.out (fun hH=>?_)
 simp only [List.length_cons,List.length_nil,List.replicate]
 refine tK 0 ?_ (fun w' hw'=>?_) hH ?_
 rotate_left
 ·skip
  go_simp<;>with_reducible rfl
 simp only [Act.put,oZa,oZb,oZc]
 refine takeL 1 (.agg (tldC 0 0 0 0)) rfl (by kernel_rfl) (fun _ _ _ h=>h) (by rfl) (fun w' hw'=>zFQb 76 _ rfl gt rfl _ hw' Tryz.underlying76 rfl zWfn) hH ?_
 simp only [Act.put,oZa,oZb,oZc]
 refine tK 2 ?_ (fun w' hw'=>?_) hH ?_
 rotate_left
 ·skip
  go_simp<;>with_reducible rfl
 simp only [Act.put,oZa,oZb,oZc]
 refine stepL 3 rfl (by kernel_rfl) (fun K hK=>?_)
 refine zSwC rfl 76 _ _ rfl rc (tldC 0 0 0 0) (tldC 0 0 0 0) rfl rfl HR14d.out zWfn rfl (zmW9 _ _ _ _) ?_
 intro w15 hb15 hk15
 have HR15:=qh hb15
 have HT15:=qh (hk15.heap (show w14.drew.heap[gt]?=some (.cells (tldC 0 0 0 0) 76 (0,0)) from HT14.out) (by have:=HNE.out;omega))
 have HK15:=qh (HK14.out.drew.trans hk15 (fun z hz h'=>by have:=HL1.out;omega))
 have HB15:=qh (show BkW w15 x14 (zT5q n) 1 from BkW.keep (HB14.out.keep0 ((Kept.refl _ _).drew)) hk15 (fun z hz e=>HNK.out (by rw [<- e];exact hz)))
 clear hb15 hk15 HR14d HR14 HT14 hH
 refine hK.out _ _ (fun _=>HT15.out) (fun _=>?_)
 simp only [Act.put,oZa,oZb,oZc]
 clear hK K
 refine stepL 4 rfl (by kernel_rfl) (fun K hK=>?_)
 go_simp
 refine hK.out _ _ (fun h=>absurd rfl h) (fun _=>?_)
 simp only [oZa,oZb,oZc]
 clear hK K
 refine doneL (by kernel_rfl) ?_ _
 go_wp2_with fail
 refine bodyPost_ret (zfSm rfl _ _ rc (tldC 0 0 0 0) rfl HR15.out Tryz.underlying76 rfl zWfn) rfl ?_
 refine ⟨x14,by rw [HBK.out];rfl,HB15.out,HK15.out,fun z hz=>?_⟩
 rcases HF14.out z hz with h | h
 ·rcases h with h | h | h
  ·exact .inl h
  ·exact .inr (.inl h)
  ·exact .inr (.inr (.inl h))
 ·exact .inr (.inr (.inr h))
end
structure Bk (w0 w:World) (x:BAdr) (S:BkA) (g:Nat):Prop where
 b:BkW w x S g
 k:Kept (fun _=>False) w0 w
 lk:∀ z,x.K z->w0.heap.size<=z
section
variable {w0 w w':World} {x x':BAdr} {S S':BkA} {g g':Nat}
theorem Bk.to (h:Bk w0 w x S g) (ht:BTo w x w' x') (hb:BkW w' x' S' g'):Bk w0 w' x' S' g':=
 ⟨hb,h.k.new ht.k h.lk,fun z hz=>by rcases ht.g z hz with h1 | h1;exact h.lk z h1;exact Nat.le_trans h.k.size h1⟩
theorem Bk.keep0 (h:Bk w0 w x S g) (hk:Kept (fun _=>False) w w'):Bk w0 w' x S g:=⟨h.b.keep0 hk,h.k.trans0 hk,h.lk⟩
theorem Bk.keep {T:Nat->Prop} (h:Bk w0 w x S g) (hk:Kept T w w') (hT:∀ z,T z->w0.heap.size<=z) (h2:∀ z,x.K z->¬ T z):Bk w0 w' x S g:=
 ⟨BkW.keep h.b hk h2,h.k.new hk hT,h.lk⟩
theorem Bk.early (k:Kept (fun _=>False) w0 w) (h:Bk w w' x S g):Bk w0 w' x S g:=⟨h.b,k.trans0 h.k,fun z hz=>Nat.le_trans k.size (h.lk z hz)⟩
set_option maxRecDepth 100000 in
set_option maxHeartbeats 3200000 in
theorem zWg0 (w:World) (blocks spread:Int) (s0:0<=spread) (s1:spread<=60000) :
  Calls Tryz.prog 16 #[.int .i64 blocks,.int .i64 spread] w fun e w'=>∃ x,e=.returned (ptrV x.bk)/\Bk w w' x (zT5q (24+pickM blocks (spread+1))) 1:=by
 obtain ⟨q0,q1⟩:=z1m9 (x:=blocks) (n:=spread+1) (by omega)
 obtain ⟨n,hn⟩:∃ n,n=pickM blocks (spread+1):=⟨_,rfl⟩
 have hp:=fun w=>zkAP blocks (spread+1) (by omega) w
 rw [<- hn] at q0 q1 ⊢
 have HP:=qh (show ∀ w,_ from fun w=>by have:=hp w;rw [<- hn] at this;exact this)
 have e1:wrap64 (spread+1)=spread+1:=by unfold wrap64;omega
 have e2:wrap64 (24+n)=24+n:=by unfold wrap64;omega
 obtain ⟨D,hfm,hfd⟩:=zvmM (n:=24+n) (by omega)
 have HFM:=qh hfm
 have HFD:=qh hfd
 clear hn hp hfm hfd
 go_enter Tryz.func16,Tryz.ntmps16
 go_wp2_with fail
 refine (HP.out w).mono ?_
 rintro e wx ⟨rfl,rfl⟩
 go_wp2_with fail
 refine (zAkz (24+n) (by omega) (by omega) w).mono ?_
 rintro e w2 ⟨p,ms,mo,rfl,hD,hk2,lp,lms,lmo⟩
 have HD:=qh hD
 have HK2:=qh hk2
 have HLP:=qh (⟨lp,lms,lmo⟩:w.heap.size<=p/\w.heap.size<=ms/\w.heap.size<=mo)
 clear hD hk2 lp lms lmo
 go_wp2_with fail
 have hfa:=zi6r HD.out (⟨rfl,rfl,by show 1<=24+n;omega⟩:Calm (newM (24+n))) (by show 24<=24+n;omega)
 rw [HFM.out] at hfa
 refine hfa.mono ?_
 rintro e w4 ⟨rfl,hd4,hk4⟩
 have HD4:=qh hd4
 have HK4:=qh (HK2.out.new hk4 (fun z hz=>by have:=HLP.out;omega))
 clear hd4 hk4 hfa
 go_wp2_with fail
 have hro:=zF7L HD4.out (n:=24+n) (frames:=8) HFD.out (by omega) (by omega) (by decide) (by decide)
 unfold ptrV at hro
 refine hro.mono ?_
 rintro e w5 ⟨x,rfl,h1,h2,h3⟩
 have HB:=qh (show Bk w w5 x (zT5q (24+n)) 1 from ⟨h1,HK4.out.new h2 (fun z hz=>by have:=HLP.out;omega),fun z hz=>by
  have h4:=HLP.out
  have h5:=HK4.out.size
  rcases h3 z hz with h | h | h | h<;>omega⟩)
 clear h1 h2 h3 hro
 go_wp2_with (refine zNko rfl 76 rfl (tldC 0 0 0 0) zxqe ?_)
 intro gt w6 l6 m6 hb6 hk6
 have HB6:=qh (HB.out.keep0 hk6)
 have HNT:=qh (show ¬ x.K gt from fun hK=>by have:=HB.out.b.lt hK;omega)
 have HLT:=qh (Nat.le_trans HB.out.k.size l6)
 have HT6:=qh hb6
 clear hb6 hk6 l6 m6
 go_wp2_with (refine zxQF rfl 76 _ _ rfl gt (tldC 0 0 0 0) (tldC 0 0 0 0) rfl rfl HT6.out zWfn rfl (zmW9 _ _ _ _) ?_)
 intro w7 hb7 hk7
 have HB7:=qh (HB6.out.keep hk7 (fun z hz=>by subst hz;exact HLT.out) (fun z hz e=>HNT.out (by rw [<- e];exact hz)))
 clear hb7 hk7 HT6
 go_wp2
 go_ret
 exact ⟨x,rfl,HB7.out⟩
end
def zNew:SpM:=(SpM.format ⟨34,true,[],List.replicate 8 0⟩).1
section
variable {w0 w w':World} {x x':BAdr} {S S':BkA} {g g':Nat}
set_option maxRecDepth 100000 in
theorem zAOj (w:World):Calls Tryz.prog 10 #[] w fun e w'=>∃ x S,e=.returned (ptrV x.bk)/\Bk w w' x S 22/\S.pages=34/\RelC S zNew 6409:=by
 obtain ⟨S1,S2,e1,e2,e3,e4⟩:=zRTL (n:=72) (by decide) (by decide)
 have E1:=Lib.hid e1
 have E2:=Lib.hid e2
 have E3:=qh (show S2.pages=34 from e3)
 have E4:=qh (show RelC S2 zNew 6409 from e4)
 clear e1 e2 e3 e4
 go_enter Tryz.func10,Tryz.ntmps10
 go_wp2_with fail
 refine (zWg0 w 48 48 (by decide) (by decide)).mono ?_
 rintro e w1 ⟨x,rfl,hb⟩
 have H1:=qh (show Bk w w1 x (zT5q 72) 1 from hb)
 clear hb
 unfold ptrV
 go_wp2_with fail
 have hb:=zvJ4 H1.out.b (by decide)
 rw [E1.out] at hb
 refine hb.mono ?_
 rintro e w2 ⟨rfl,x2,h1,h2⟩
 have H2:=qh (H1.out.to h1 h2)
 have HBK:=qh (show x2.bk=x.bk from h1.fix.bk)
 clear h1 h2 hb H1 E1
 go_wp2_with fail
 have hb:=zBXs H2.out.b (by decide)
 unfold ptrV at hb
 rw [HBK.out,E2.out] at hb
 refine hb.mono ?_
 rintro e w3 ⟨rfl,x3,h1,h2⟩
 have H3:=qh (H2.out.to h1 h2)
 have HBK3:=qh (show x3.bk=x.bk from h1.fix.bk.trans HBK.out)
 clear h1 h2 hb H2 E2
 go_wp2
 go_ret
 exact ⟨x3,S2,by rw [HBK3.out];rfl,H3.out,E3.out,E4.out⟩
set_option maxRecDepth 100000 in
set_option maxHeartbeats 1600000 in
theorem zpT7 (w:World):Calls Tryz.prog 8 #[] w fun e w'=>e=.returned (.bool true)/\Kept (fun _=>False) w w':=by
 go_enter Tryz.func8,Tryz.ntmps8
 go_wp2_with fail
 refine (zAOj w).mono ?_
 rintro e w1 ⟨x,S,rfl,h1,h2,h3⟩
 obtain ⟨S1,a1,a2⟩:=(h3.low (c':=6312+97) (by decide)).take (by decide)
 obtain ⟨S2,b1,b2⟩:=(a2.low (c':=6215+97) (by decide)).take (by decide)
 obtain ⟨S3,c1,c2⟩:=(b2.low (c':=6118+97) (by decide)).give (by decide) 2
 obtain ⟨S4,d1,d2⟩:=(c2.low (c':=6021+97) (by decide)).take (by decide)
 obtain ⟨S5,f1,f2⟩:=(d2.low (c':=5924+97) (by decide)).give (by decide) 0
 obtain ⟨S6,g1,g2⟩:=(f2.low (c':=5827+97) (by decide)).give (by decide) 9
 have A1:=qh (show S.take=(S1,2,0) from a1)
 have B1:=qh (show S1.take=(S2,3,0) from b1)
 have C1:=qh (show S2.give 2=(S3,0) from c1)
 have D1:=qh (show S3.take=(S4,2,0) from d1)
 have D2:=qh (show S4.free=(30,0) from d2.r.free)
 have F1:=qh (show S4.give 0=(S5,2) from f1)
 have G1:=qh (show S5.give 9=(S6,2) from g1)
 have D3:=qh (show S4.pages=34 from d2.r.pg.symm)
 have H1:=qh h1
 clear h1 h2 h3 a1 a2 b1 b2 c1 c2 d1 d2 f1 f2 g1 g2
 unfold ptrV
 go_wp2_with fail
 have hb:=zSDl H1.out.b (by decide)
 unfold ptrV at hb
 refine hb.mono ?_
 rintro e w2 ⟨rfl,x2,h1,h2⟩
 have H2:=qh (H1.out.to h1 h2)
 have HBK2:=qh (show x2.bk=x.bk from h1.fix.bk)
 clear h1 h2 hb H1
 rw [A1.out] at H2 ⊢
 go_wp2_with fail
 have hb:=zSDl H2.out.b (by decide)
 unfold ptrV at hb
 rw [HBK2.out] at hb
 refine hb.mono ?_
 rintro e w3 ⟨rfl,x3,h1,h2⟩
 have H3:=qh (H2.out.to h1 h2)
 have HBK3:=qh (show x3.bk=x.bk from h1.fix.bk.trans HBK2.out)
 clear h1 h2 hb H2
 rw [B1.out] at H3 ⊢
 go_wp2_with fail
 have hb:=zCzr H3.out.b (by decide) 2
 unfold ptrV at hb
 rw [HBK3.out] at hb
 refine hb.mono ?_
 rintro e w4 ⟨rfl,x4,h1,h2⟩
 have H4:=qh (H3.out.to h1 h2)
 have HBK4:=qh (show x4.bk=x.bk from h1.fix.bk.trans HBK3.out)
 clear h1 h2 hb H3
 rw [C1.out] at H4 ⊢
 go_wp2_with fail
 have hb:=zSDl H4.out.b (by decide)
 unfold ptrV at hb
 rw [HBK4.out] at hb
 refine hb.mono ?_
 rintro e w5 ⟨rfl,x5,h1,h2⟩
 have H5:=qh (H4.out.to h1 h2)
 have HBK5:=qh (show x5.bk=x.bk from h1.fix.bk.trans HBK4.out)
 clear h1 h2 hb H4
 rw [D1.out] at H5 ⊢
 go_wp2_with fail
 have hb:=znV8 H5.out.b
 unfold ptrV at hb
 rw [HBK5.out] at hb
 refine hb.mono ?_
 rintro e w6 ⟨rfl,x6,h1,h2⟩
 have H6:=qh (H5.out.to h1 h2)
 have HBK6:=qh (show x6.bk=x.bk from h1.fix.bk.trans HBK5.out)
 clear h1 h2 hb H5
 rw [D2.out]
 dsimp only
 go_wp2_with fail
 have hb:=zQfR H6.out.b
 unfold ptrV at hb
 rw [HBK6.out] at hb
 rw [D3.out] at hb
 refine hb.mono ?_
 rintro e wx ⟨rfl,rfl⟩
 clear hb
 go_wp2_with fail
 have hb:=zCzr H6.out.b (by decide) 0
 unfold ptrV at hb
 rw [HBK6.out] at hb
 refine hb.mono ?_
 rintro e w7 ⟨rfl,x7,h1,h2⟩
 have H7:=qh (H6.out.to h1 h2)
 have HBK7:=qh (show x7.bk=x.bk from h1.fix.bk.trans HBK6.out)
 clear h1 h2 hb H6
 rw [F1.out] at H7 ⊢
 go_wp2_with fail
 have hb:=zCzr H7.out.b (by decide) 9
 unfold ptrV at hb
 rw [HBK7.out] at hb
 refine hb.mono ?_
 rintro e w8 ⟨rfl,x8,h1,h2⟩
 have H8:=qh (H7.out.to h1 h2)
 have HBK8:=qh (show x8.bk=x.bk from h1.fix.bk.trans HBK7.out)
 clear h1 h2 hb H7
 rw [G1.out] at H8 ⊢
 go_wp2
 go_ret
 exact ⟨rfl,H8.out.k⟩
end
def zAt (i:Nat):SpM:={ zNew with tk:=(List.range 34).map fun q=>decide (q < 2+i) }
set_option maxRecDepth 100000 in
theorem z8CY:∀ i,i < 32->(zAt i).take.2=(((2+i:Nat):Int),0)/\(zAt i).take.1=zAt (i+1):=by
 have h1:((List.range 32).all fun i=>decide ((zAt i).take.2=(((2+i:Nat):Int),0)))=true:=by decide +kernel
 have h2:((List.range 32).all fun i=>decide ((zAt i).take.1.tk=(zAt (i+1)).tk) && decide ((zAt i).take.1.roots=(zAt (i+1)).roots) && decide ((zAt i).take.1.pages=(zAt (i+1)).pages) && decide ((zAt i).take.1.inT=(zAt (i+1)).inT))=true:=by decide +kernel
 intro i hi
 have a:=of_decide_eq_true (List.all_eq_true.1 h1 i (List.mem_range.2 hi))
 have b:=List.all_eq_true.1 h2 i (List.mem_range.2 hi)
 simp only [Bool.and_eq_true,decide_eq_true_eq] at b
 obtain ⟨⟨⟨b1,b2⟩,b3⟩,b4⟩:=b
 refine ⟨a,?_⟩
 generalize (zAt i).take.1=X at b1 b2 b3 b4
 generalize zAt (i+1)=Y at b1 b2 b3 b4
 cases X;cases Y
 dsimp only at b1 b2 b3 b4
 subst b1;subst b2;subst b3;subst b4
 rfl
end Go.Proofs.YtfgagakepmigbaaGreat
