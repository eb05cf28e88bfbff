/-
  No statement is proved here.
-/
import Derived.Test.YtnbfhdgojmflhaaJLgc
import Derived.ArgAppend
namespace Go.Proofs.Ytnbfhdgojmflhaa
open Go.RowKit
set_option maxRecDepth 100000 in
set_option maxHeartbeats 1600000 in
theorem z7eO (w:World) (q p ms mo:Nat) (lv tv:Value) (L:LogM) (D:DevM) (h:LogQ w q p lv tv L) (hd:DevAt w p ms mo D) (hok:LogOk L) :
  Calls Try.prog 48 #[.pointer (some ⟨q,0,none⟩)] w fun e w'=>∃ A n c,e=.returned (.int .i64 (L.begin D).2)/\LogQ w' q p lv (.slice A n c) (L.begin D).1/\OwnV w' w.heap.size (.slice A n c) (L.begin D).1.tail/\Kept (fun x=>x=q) w w':=by
 have QLT:=qh (zvKu h)
 have hF:=zjuj (a:=L.safe)
 have s0:=hok.s0
 have s1:=hok.s1
 obtain ⟨d,hd'⟩:∃ d:Nat,L.safe - secF L.safe=(d:Int):=⟨(L.safe - secF L.safe).toNat,by omega⟩
 obtain ⟨f,hf⟩:∃ f,f=secF L.safe:=⟨_,rfl⟩
 obtain ⟨X,hX⟩:∃ X,X=zXvy D L.first L.count d (d+1) f []:=⟨_,rfl⟩
 have e1:L.begin D=({ L with beg:=f,tail:=X.1 },X.2):=by
  unfold LogM.begin
  rw [hd',Int.toNat_natCast,<- hf,<- hX]
 rw [e1]
 have hf0:1<=f:=by rw [hf];unfold secF;omega
 have c5:w.cell? ⟨q,6,none⟩=some (.int .i64 L.safe):=zcjX h rfl
 have HSEC:=qh (zdrd w q p lv tv L h hok L.safe s0 (by omega))
 rw [<- hf] at HSEC hF hd'
 obtain ⟨S,hS⟩:∃ S,S=L.safe:=⟨_,rfl⟩
 rw [<- hS] at c5 HSEC hd' hF
 have hS2:S<=3000000000000000000:=by omega
 have hk1:Kept (fun x=>x=q) w (w.setCell ⟨q,9,none⟩ (.int .i64 f)):=Kept.cell _ _ _ _
 have HQ1:=qh (show LogQ (w.setCell ⟨q,9,none⟩ (.int .i64 f)) q p lv tv { L with beg:=f } from zAtc h 9 (.int .i64 f))
 have fr:=zZnw h 9
 have HK1:=qh hk1
 have nq:p≠q/\ms≠q/\mo≠q:=by
  refine ⟨?_,?_,?_⟩
  ·rintro rfl
   have:=hd.hp
   unfold LogQ at h
   rw [h] at this
   cases this
  ·rintro rfl
   obtain ⟨_,_,hh,_⟩:=hd.hs
   unfold LogQ at h
   rw [h] at hh
   cases hh
  ·rintro rfl
   obtain ⟨_,_,hh,_⟩:=hd.ho
   unfold LogQ at h
   rw [h] at hh
   cases hh
 have HD1:=qh (hd.keep hk1 nq.1 nq.2.1 nq.2.2)
 have HST:=qh (zBRE (w.setCell ⟨q,9,none⟩ (.int .i64 f)) q p ms mo lv tv { L with beg:=f } D HQ1.out HD1.out ⟨hok.f0,hok.f1,hok.c0,hok.c1,hok.o0,hok.o1,hok.e1,hok.s0,hok.s1⟩ f hf0 (by omega) d (by omega))
 have c9:w.cell? ⟨q,9,none⟩=some (.int .i64 L.beg):=zcjX h rfl
 have c6':(w.setCell ⟨q,9,none⟩ (.int .i64 f)).cell? ⟨q,6,none⟩=some (.int .i64 S):=by rw [hS];exact zcjX HQ1.out rfl
 have hsub:IntKind.i64.wrap (S - f)=(d:Int):=by rw [IntKind.wrap_i64];omega
 rw [<- hX] at HST
 clear hX e1 hd hk1 h hS nq hf
 go_enter Try.func48,Try.ntmps48
 go_wp2_with fail
 refine HSEC.out.mono ?_
 rintro e wx ⟨rfl,rfl⟩
 go_wp2_with fail
 refine HST.out.mono ?_
 intro e w2 hp
 obtain ⟨hk2,A,n,c,rfl,ho2⟩:=hp
 have HQ2:=qh (hk2.heap HQ1.out id)
 have HO2:=qh ho2
 have HK2:=qh (HK1.out.trans0 hk2)
 clear hk2 ho2 HST
 go_wp2_with (refine z2q7 rfl 37 _ _ rfl q 8 (.slice A n c) (logC p lv tv { L with beg:=f }) rfl rfl HQ2.out (by kernel_rfl) (by show 8 < 10;decide) rfl ?_)
 intro w3 hb3 hk3
 have HQ3:=qh hb3
 have HK3:=qh (HK2.out.trans' hk3)
 have qlt:q < w.heap.size:=QLT.out
 have HO3:=qh (HO2.out.keep hk3 (fun x hx e=>by have h1:=(HO2.out.base_le hx).1;have h2:=HK1.out.size;omega))
 clear hb3 hk3
 go_wp2
 go_ret
 refine ⟨A,n,c,rfl,HQ3.out,HO3.out.low (HK1.out.size),HK3.out⟩
set_option maxRecDepth 100000 in
set_option maxHeartbeats 1600000 in
theorem zKn9 (w:World) (q p ms mo:Nat) (lv tv:Value) (L:LogM) (D:DevM) (h:LogQ w q p lv tv L) (hd:DevAt w p ms mo D) (hok:LogOk L) :
  Calls Try.prog 49 #[.pointer (some ⟨q,0,none⟩)] w fun e w'=>e=.returned (.tuple #[.bool (L.stale D).1,.int .i64 (L.stale D).2])/\Kept (fun _=>False) w w':=by
 have hF:=zjuj (a:=L.fin)
 have s0:1<=L.fin:=by have:=hok.o0;have:=hok.o1;omega
 have s1:=hok.e1
 have c5:w.cell? ⟨q,5,none⟩=some (.int .i64 L.fin):=zcjX h rfl
 have c0:w.cell? ⟨q,0,none⟩=some (.pointer (some ⟨p,0,none⟩)):=zcjX h rfl
 have HSEC:=qh (zdrd w q p lv tv L h hok L.fin s0 (by omega))
 by_cases hf:secF L.fin=L.fin
 ·by_cases hm:D.mayE (secB L.first L.count L.fin)=0
  ·have e1:L.stale D=(decide (sgn (valN (cut (secP D L.first L.count L.fin) 0 8) 0)=L.fin),0):=by
    unfold LogM.stale
    rw [if_neg (by simp [hf]),if_neg (by simp [hm])]
   have HRD:=qh (zqzz hd _ hm)
   have hO:=zSEi (a:=L.fin) hok.c0
   have lb:(D.latest (secB L.first L.count L.fin)).length=512:=hd.len _
   have hPe:cut (secP D L.first L.count L.fin) 0 8=((D.latest (secB L.first L.count L.fin)).drop (secO L.count L.fin).toNat).take 8:=by
    unfold secP cut
    rw [List.drop_zero,List.take_take]
    rfl
   rw [e1,hPe]
   obtain ⟨O,hO'⟩:∃ O:Nat,secO L.count L.fin=(O:Int):=⟨(secO L.count L.fin).toNat,by omega⟩
   rw [hO'] at HSEC
   rw [hO',Int.toNat_natCast]
   rw [hf] at HSEC
   have hO448:O<=448:=by omega
   obtain ⟨B,hB⟩:∃ B,B=secB L.first L.count L.fin:=⟨_,rfl⟩
   rw [<- hB] at HSEC HRD lb ⊢
   obtain ⟨V,hV⟩:∃ V,V=sgn (valN (((D.latest B).drop O).take 8) 0):=⟨_,rfl⟩
   have VV:=qh hV.symm
   rw [<- hV]
   obtain ⟨F,hFF⟩:∃ F,F=L.fin:=⟨_,rfl⟩
   rw [<- hFF] at HSEC c5 ⊢
   have LB:=Lib.hid lb
   clear hO hPe hO' hB hV hf hm e1 lb hd h hF hFF
   go_enter Try.func49,Try.ntmps49
   go_wp2_with fail
   refine HSEC.out.mono ?_
   rintro e wx ⟨rfl,rfl⟩
   go_wp2_with fail
   refine HRD.out.mono ?_
   rintro e w2 ⟨g2,k2,rfl,hb2,hk2⟩
   have hk512:512<=k2:=by
    obtain ⟨cur,_,_,h5,_⟩:=hb2.form
    rw [LB.out] at h5;exact h5
   have hr2:RdB w2 (some ⟨g2,0,none⟩) (D.latest B):=OwnV.rd (n:=(D.latest B).length) (c:=k2) hb2
   have HPR:=qh (hr2.sl O k2 (by rw [LB.out];exact hk512))
   have HK2:=qh hk2
   clear hr2 hb2 hk2 HRD HSEC
   go_wp2_with (first
    | (refine z3Ho rfl (zjw2 _ _ O rfl (some ⟨g2,0,none⟩) 512 k2 _ rfl rfl rfl (by omega) _) ?_)
    | (go_at_call 71;refine (ze6V _ (512 - O) (k2 - O) ((D.latest B).drop O) 8 _ (by rw [List.length_drop,LB.out]) HPR.out (by decide) (by omega) (by omega)).mono ?_;rw [VV.out];rintro e wx ⟨rfl,rfl⟩))
   go_ret2
   refine ⟨?_,HK2.out⟩
   have:(V == F)=decide (V=F):=by
    by_cases h:V=F
    ·rw [h];simp
    ·rw [decide_eq_false h,beq_eq_false_iff_ne];exact h
   rw [<- this]
   rfl
  ·have e1:L.stale D=(false,D.mayE (secB L.first L.count L.fin)):=by
    unfold LogM.stale
    rw [if_neg (by simp [hf]),if_pos hm]
   have HRD:=qh (zpER hd _ hm)
   have hmb:(D.mayE (secB L.first L.count L.fin) != 0)=true:=by simpa using hm
   rw [e1]
   rw [hf] at HSEC
   obtain ⟨E,hE⟩:∃ E,E=D.mayE (secB L.first L.count L.fin):=⟨_,rfl⟩
   rw [<- hE] at HRD hmb ⊢
   clear hE hm e1 hf hF h hd
   go_enter Try.func49,Try.ntmps49
   go_wp2_with fail
   refine HSEC.out.mono ?_
   rintro e wx ⟨rfl,rfl⟩
   go_wp2_with (go_at_call 28;refine HRD.out.mono ?_;rintro e w2 ⟨rfl,rfl⟩)
   go_ret2
   exact ⟨rfl,Kept.refl _ _⟩
 ·have e1:L.stale D=(false,0):=by
   unfold LogM.stale
   rw [if_pos hf]
  rw [e1]
  have hfb:(secF L.fin != L.fin)=true:=by simpa using hf
  clear e1 hf hd h
  go_enter Try.func49,Try.ntmps49
  go_wp2_with fail
  refine HSEC.out.mono ?_
  rintro e wx ⟨rfl,rfl⟩
  go_wp2
  go_ret2
  exact ⟨rfl,Kept.refl _ _⟩
theorem zKRW:((Try.prog).info? 2).map (fun i=>(i.zero,i.size,i.bytes))=some (some (.int .i64 0),1,8):=by kernel_rfl
def LsV (w:World) (base:Nat) (v:Value) (l:List Int):Prop:=(v=.slice none 0 0/\l=[]) \/
 ∃ g off c cur,v=.slice (some ⟨g,off,none⟩) l.length c/\base<=g/\w.heap[g]?=some (.cells cur 2 (0,0))/\l.length<=c/\off+c<=cur.size/\c<=9223372036854775807/\∀ k x,l[k]?=some x->cur[off+k]?=some (.int .i64 x)
theorem LsV.nil (w:World) (base:Nat):LsV w base (.slice none 0 0) []:=.inl ⟨rfl,rfl⟩
theorem LsV.keep {S:Nat->Prop} {w w':World} {base:Nat} {v:Value} {l:List Int} (h:LsV w base v l) (hk:Kept S w w') (hn:∀ x,v.ownBlock=some x->¬ S x):LsV w' base v l:=by
 rcases h with h | ⟨g,off,c,cur,rfl,h2,h3,h4⟩
 ·exact .inl h
 ·exact .inr ⟨g,off,c,cur,rfl,h2,hk.heap h3 (hn g rfl),h4⟩
theorem LsV.base_le {w:World} {base:Nat} {v:Value} {l:List Int} (h:LsV w base v l) {x:Nat} (hx:v.ownBlock=some x):base<=x/\x < w.heap.size:=by
 rcases h with ⟨rfl,_⟩ | ⟨g,off,c,cur,rfl,h2,h3,_⟩
 ·cases hx
 ·cases hx;exact ⟨h2,zvKu h3⟩
theorem LsV.slice {w:World} {base:Nat} {v:Value} {l:List Int} (h:LsV w base v l):∃ A c,v=.slice A l.length c/\l.length<=c/\c<=9223372036854775807/\(∀ k x,l[k]?=some x->∃ g off,A=some ⟨g,off,none⟩/\w.cell? ⟨g,off+k,none⟩=some (.int .i64 x)):=by
 rcases h with ⟨rfl,rfl⟩ | ⟨g,off,c,cur,rfl,h2,h3,h4,h5,h6,h7⟩
 ·exact ⟨none,0,rfl,Nat.le_refl _,by decide,fun k x h=>by simp at h⟩
 ·exact ⟨_,_,rfl,h4,h6,fun k x hk=>⟨g,off,rfl,zcjX h3 (h7 k x hk)⟩⟩
theorem LsV.form3 {w:World} {base:Nat} {v:Value} {l:List Int} (h:LsV w base v l):∃ A n c,v=.slice A n c/\n=l.length:=by
 obtain ⟨A,c,h,_⟩:=h.slice
 exact ⟨A,_,c,h,rfl⟩
theorem LsV.low {w:World} {base base':Nat} {v:Value} {l:List Int} (h:LsV w base v l) (hb:base'<=base):LsV w base' v l:=by
 rcases h with h | ⟨g,off,c,cur,h1,h2,h3⟩
 ·exact .inl h
 ·exact .inr ⟨g,off,c,cur,h1,by omega,h3⟩
theorem LsV.of_row {w:World} {base:Nat} {v:Value} {l:List Int} (h:w.ownsRow base 2 1 v l.length (l.map (Value.int .i64))):LsV w base v l:=by
 rcases h.2 with ⟨rfl,h2⟩ | ⟨g,cap,cur,rfl,h3,h4,h5,h6,h7,h8⟩
 ·exact .inl ⟨rfl,List.length_eq_zero_iff.1 h2⟩
 ·have e63:maxLen=9223372036854775807:=rfl
  refine .inr ⟨g,0,cap,cur,rfl,h3,h4,h5,by omega,by omega,fun k x hk=>?_⟩
  have hl:k < l.length:=by
   rcases Nat.lt_or_ge k l.length with h | h
   ·exact h
   ·rw [List.getElem?_eq_none h] at hk;cases hk
  have:=congrArg (fun L=>L[k]?) h8
  simp only [List.getElem?_map,hk,List.getElem?_take,Nat.mul_one,if_pos hl,Option.map] at this
  rw [Nat.zero_add,<- this]
  simp
theorem LsV.append {w:World} {base:Nat} {v:Value} {l:List Int} (hown:LsV w base v l) (n:Int) (b c:Nat) (hc:w.cell? ⟨b,0,none⟩=some (.int .i64 n)) (h63:l.length<=1000000000) (hbase:base<=w.heap.size) (ty:TypeId) :
  ∃ v' w',(Builtin.append_ #[102,102] ty #[v,.slice (some ⟨b,0,none⟩) 1 c]).run Try.prog w=.ok v' w'/\LsV w' base v' (l ++ [n])/\Kept (fun x=>v.ownBlock=some x) w w'/\(v'.ownBlock=v.ownBlock\/∀ x,v'.ownBlock=some x->w.heap.size<=x):=by
 have e63:maxLen=9223372036854775807:=rfl
 obtain ⟨i,hi,h2,h3,h4⟩:=info_parts zKRW
 have hnews:∀ (j:Nat) (u:Value),[Value.int .i64 n][j]?=some u->w.cell? ((⟨b,0,none⟩:Addr).add j)=some u:=fun j u hu=>by
  match j,hu with
  | 0,hu=>cases hu;rw [Addr.add_mid];exact hc
 have hmap:l.map (Value.int .i64) ++ [Value.int .i64 n]=(l ++ [n]).map (Value.int .i64):=by simp
 have hlen:l.length+1=(l ++ [n]).length:=by simp
 rcases hown with ⟨rfl,rfl⟩ | ⟨g,off,cp,cur,rfl,hg1,hg,hg3,hg4,hg5,hg6⟩
 ·obtain ⟨g',cap',w',hr,ho',_,hat,_⟩:=z0TN (P:=Try.prog) (w:=w) 102 ty base 2 Try.underlying102 zKRW rfl (by omega) (.slice none 0 0) 0 [] ⟨rfl,.inl ⟨rfl,rfl⟩⟩ ⟨b,0,none⟩ 1 c [.int .i64 n] rfl hnews (by simp [Value.oneCell']) (by omega) (by omega) (by omega) hbase
  refine ⟨_,w',hr,LsV.of_row ho',?_,?_⟩
  ·rcases hat with ⟨e,hk⟩ | ⟨e,hk⟩
   ·cases e
   ·exact hk.mono (fun _ _ h=>h.elim)
  ·rcases hat with ⟨e,hk⟩ | ⟨e,hk⟩
   ·cases e
   ·exact .inr (fun x hx=>by have:g'=x:=Option.some.inj hx;omega)
 ·by_cases hroom:l.length+1<=cp
  ·have hr:=run_append_room_cells (P:=Try.prog) w 102 ty 2 i Try.underlying102 hi g off l.length cp ⟨b,0,none⟩ 1 c [.int .i64 n] (by rw [h3];rfl) hnews (by simp [Value.oneCell']) hroom
    (fun j hj=>by
     have hj:j < 1:=hj
     rw [h3,cell_of_row w g _ cur 2 (0,0) hg,Array.getElem?_eq_getElem (by omega)]
     rfl) (fun j _=>zZnw hg _)
   rw [h3] at hr
   have hw:w.setCells g (off+l.length*1) [.int .i64 n]=w.setCell ⟨g,off+l.length,none⟩ (.int .i64 n):=by rw [Nat.mul_one];rfl
   rw [hw] at hr
   refine ⟨_,_,hr,?_,(Kept.cell w g _ _).mono (fun x _ h=>by subst h;rfl),.inl rfl⟩
   refine .inr ⟨g,off,cp,cur.setIfInBounds (off+l.length) (.int .i64 n),by rw [hlen],hg1,zAtc hg _ _,by rw [<- hlen];exact hroom,by rw [Array.size_setIfInBounds];exact hg4,hg5,fun k x hk=>?_⟩
   rw [Array.getElem?_setIfInBounds]
   by_cases hkl:k < l.length
   ·rw [if_neg (by omega)]
    rw [List.getElem?_append_left hkl] at hk
    exact hg6 k x hk
   ·rw [List.getElem?_append_right (by omega)] at hk
    have:k=l.length:=by
     rcases Nat.lt_or_ge (k - l.length) 1 with h | h
     ·omega
     ·rw [List.getElem?_eq_none (by simpa using h)] at hk;cases hk
    subst this
    rw [if_pos rfl,if_pos (by omega)]
    simpa using hk
  ·obtain ⟨v',w',hr,ho,hgr⟩:=run_append_arg_grows (P:=Try.prog) w 102 ty 2 i _ 1 8 Try.underlying102 hi h2 h3 h4 rfl (by omega) ⟨g,off,none⟩ l.length cp (l.map (Value.int .i64)) (by simp)
    (fun j u hu=>by
     rw [List.getElem?_map] at hu
     obtain ⟨x,hx,rfl⟩:=Option.map_eq_some_iff.1 hu
     rw [Addr.add_mid]
     exact zcjX hg (hg6 j x hx)) ⟨b,0,none⟩ 1 c [.int .i64 n] rfl hnews (by omega) (by omega) (by omega)
   rw [hmap,hlen] at ho
   refine ⟨v',w',hr,(LsV.of_row ho).low hbase,(Kept.refl _ w).grown hgr (fun x h=>by cases h),.inr (fun x hx=>((LsV.of_row ho).base_le hx).1)⟩
theorem zdvN {w:World} {ops:Array Oper} {o:Oper} {a:Act} {K:Act->World->Prop} {Q:Exit->Act->World->Prop} {E:Prop} (hgd:o.guard=none) (s x:Operand)
  (ho:o.op=.call { callee:=.builtin .append,args:=#[s,x],argTypes:=#[102,102] }) (base:Nat) (v:Value) (l:List Int) (n:Int) (hs:a.eval s=v) (hown:LsV w base v l)
  (b c:Nat) (hx:a.eval x=.slice (some ⟨b,0,none⟩) 1 c) (hc:w.cell? ⟨b,0,none⟩=some (.int .i64 n)) (h63:l.length<=1000000000) (hbase:base<=w.heap.size)
  (k:∀ v' w',LsV w' base v' (l ++ [n])->Kept (fun x=>v.ownBlock=some x) w w'->(v'.ownBlock=v.ownBlock\/∀ x,v'.ownBlock=some x->w.heap.size<=x)->K (a.put o.dst v') w'):if Region.wanted o (yielded ops a.tmps)=true then Oper.wp Try.prog o a w K Q else E:=by
 rw [if_pos (by unfold Region.wanted;rw [hgd])]
 obtain ⟨v',w',hr,h1,h2,h3⟩:=hown.append n b c hc h63 hbase o.type
 unfold Oper.wp
 simp [execOp,ho,resolve,invoke,builtin,hs,hx,hr,Result.andThen]
 exact k v' w' h1 h2 h3
structure LogS (w:World) (q p ms mo:Nat) (lv tv:Value) (L:LogM) (D:DevM):Prop where
 dev:DevAt w p ms mo D
 hq:LogQ w q p lv tv L
 hl:LsV w 0 lv L.lsns
 ht:OwnV w 0 tv L.tail
 nq:p≠q/\ms≠q/\mo≠q
 nl:∀ x,lv.ownBlock=some x->x≠q/\x≠p/\x≠ms/\x≠mo/\tv.ownBlock≠some x
 nt:∀ x,tv.ownBlock=some x->x≠q/\x≠p/\x≠ms/\x≠mo
def LogK (q p ms mo:Nat) (lv tv:Value) (x:Nat):Prop:=x=q\/x=p\/x=ms\/x=mo\/lv.ownBlock=some x\/tv.ownBlock=some x
theorem LogS.keep {S:Nat->Prop} {w w':World} {q p ms mo:Nat} {lv tv:Value} {L:LogM} {D:DevM} (h:LogS w q p ms mo lv tv L D) (hk:Kept S w w') (hn:∀ x,LogK q p ms mo lv tv x->¬ S x):LogS w' q p ms mo lv tv L D:=
 ⟨h.dev.keep hk (hn _ (.inr (.inl rfl))) (hn _ (.inr (.inr (.inl rfl)))) (hn _ (.inr (.inr (.inr (.inl rfl))))),hk.heap h.hq (hn _ (.inl rfl)),h.hl.keep hk (fun x hx=>hn x (.inr (.inr (.inr (.inr (.inl hx)))))),h.ht.keep hk (fun x hx=>hn x (.inr (.inr (.inr (.inr (.inr hx)))))),h.nq,h.nl,h.nt⟩
theorem bLog (p:Nat) (f c t o:Int) (wz:World):(Instr.build 104 #[(0,.pointer (some ⟨p,0,none⟩)),(1,.int .i64 f),(2,.int .i64 c),(3,.int .i64 t),(4,.int .i64 o),(5,.int .i64 o),(6,.int .i64 o)]).run Try.prog wz =
  .ok (.agg (logC p (.slice none 0 0) (.slice none 0 0) ⟨f,c,t,o,o,o,[],[],0⟩)) wz:=run_build wz _ _ _ (by kernel_rfl)
end Go.Proofs.Ytnbfhdgojmflhaa
