/-
  No statement is proved here.
-/
import Derived.Test.YtnbfhdgojmflhaaJQh
namespace Go.Proofs.Ytnbfhdgojmflhaa
open Go.RowKit
theorem OwnB.lowQ {w:World} {base base' g cap:Nat} {l:Bytes} (h:OwnB w base g cap l) (hb:base'<=base):OwnB w base' g cap l:=by
 obtain ⟨h1,h2⟩:=h
 refine ⟨h1,?_⟩
 rcases h2 with h2 | ⟨g,c,cur,e,hg,h3⟩
 ·exact .inl h2
 ·exact .inr ⟨g,c,cur,e,by omega,h3⟩
section
variable {w w' w0 w1 w2:World} {a a0:Adr} {P P1:PoolM} {L L1:LogM} {D D1:DevM}
theorem zaue (h:PoolS w a P L D):Calls Try.prog 30 #[ptrV a.pb] w fun e w'=>e=.returned (.bool true)/\w=w':=by
 have c0:w.cell? ⟨a.pb,0,none⟩=some (.pointer (some ⟨a.p,0,none⟩)):=zcjX h.hp rfl
 unfold ptrV
 clear h
 go_enter Try.func30,Try.ntmps30
 go_wp2
 go_ret
 exact ⟨rfl,rfl⟩
def z0aQ (w:World) (a:Adr) (P:PoolM) (L:LogM) (D:DevM) (page:Int) (e:Ending) (w':World):Prop:=
 let X:=ziLQ P L D page
 (X.2.2.2.2≠0->e=.returned (.tuple #[.pointer none,.int .i64 X.2.2.2.2])/\PPost w a X.1 X.2.1 X.2.2.1 w') /\
 (X.2.2.2.2=0->∃ a' y,AdrTo w a w' a'/\PoolS w' a' X.1 X.2.1 X.2.2.1/\a'.xs[X.2.2.2.1]?=some y/\e=.returned (.tuple #[ptrV y.k,.int .i64 0]))
theorem z0aQ.no {page:Int} {e:Ending} {i:Nat} {c:Int} (hx:ziLQ P L D page=(P1,L1,D1,i,c)) (hc:c≠0) (he:e=.returned (.tuple #[.pointer none,.int .i64 c])) (h:PPost w a P1 L1 D1 w'):z0aQ w a P L D page e w':=by
 unfold z0aQ
 rw [hx]
 exact ⟨fun _=>⟨he,h⟩,fun h=>absurd h hc⟩
theorem z0aQ.ok {page:Int} {e:Ending} {i:Nat} {a':Adr} {y:FrD} (hx:ziLQ P L D page=(P1,L1,D1,i,0)) (h1:AdrTo w a w' a') (h2:PoolS w' a' P1 L1 D1) (h3:a'.xs[i]?=some y) (he:e=.returned (.tuple #[ptrV y.k,.int .i64 0])):z0aQ w a P L D page e w':=by
 unfold z0aQ
 rw [hx]
 exact ⟨fun h=>absurd rfl h,fun _=>⟨a',y,h1,h2,h3,he⟩⟩
theorem zyYP (h:PoolS w a P L D) (hg:LogG L) (hn:PoolN P):Calls Try.prog 68 #[ptrV a.pb] w (z9dm w a P L D):=by
 by_cases hl:(P.ring.length:Int) < P.most
 ·exact z8ai h hn hl
 ·exact z0WN h hg hn hl
theorem PoolT.dev {rv':Value} {vs:List Value} {f':Int->Option Value} (h:PoolT w0 w1 a0 P1 L1 D1 rv' vs f'):DevAt w1 a0.p a0.ms a0.mo D1:=by
 have far:∀ z,a0.logK z->¬ (z=a0.pb\/z=a0.mb\/a0.rv.ownBlock=some z):=fun z hz e=>by
  have:=h.s.far hz
  rcases e with e | e | e
  ·exact this.1 e
  ·exact this.2.1 e
  ·exact this.2.2.1 e
 exact (h.s.log.keep h.k far).dev
theorem bFr (page:Int) (A:Option Addr) (n c:Nat) (wz:World):(Instr.build 94 #[(0,.int .i64 page),(1,.slice A n c),(3,.bool true)]).run Try.prog wz=.ok (.agg #[.int .i64 page,.slice A n c,.int .i64 0,.bool true,.bool false,.int .i64 0,.int .i64 0]) wz:=run_build wz _ _ _ (by kernel_rfl)
theorem z3b2 (wz:World):(zeroValue 92).run Try.prog wz=.ok (.pointer none) wz:=(zero_of_info (n:=1) (by kernel_rfl)).1 wz
set_option maxRecDepth 100000 in
set_option maxHeartbeats 3200000 in
theorem z2VE (h:PoolS w a P L D) (hg:LogG L) (hn:PoolN P) (hd:D.down=false) (hD:P.first+P.blocks<=D.n) (page:Int):Calls Try.prog 40 #[ptrV a.pb,.int .i64 page] w (z0aQ w a P L D page):=by
 have H:=qh h
 have HG:=qh hg
 have HN:=qh hn
 have hf0:=hn.f0
 have hfb:=hn.fb
 have HD:=qh hd
 have HTH:=qh (zaue h)
 have HB:=qh h.hp
 obtain ⟨POST,hPOST⟩:∃ POST,POST=z0aQ w a P L D page:=⟨_,rfl⟩
 have HNO:=qh (show ∀ (w':World) (P1:PoolM) (L1:LogM) (D1:DevM) (i:Nat) (c:Int),ziLQ P L D page=(P1,L1,D1,i,c)->c≠0->PPost w a P1 L1 D1 w'->POST (.returned (.tuple #[.pointer none,.int .i64 c])) w' from fun w' P1 L1 D1 i c h1 h2 h3=>by
  rw [hPOST];exact z0aQ.no h1 h2 rfl h3)
 have HOK:=qh (show ∀ (w':World) (P1:PoolM) (L1:LogM) (D1:DevM) (i:Nat) (a':Adr) (y:FrD),ziLQ P L D page=(P1,L1,D1,i,0)->AdrTo w a w' a'->PoolS w' a' P1 L1 D1->a'.xs[i]?=some y->POST (.returned (.tuple #[.pointer (some ⟨y.k,0,none⟩),.int .i64 0])) w' from fun w' P1 L1 D1 i a' y h1 h2 h3 h4=>by
  rw [hPOST];exact z0aQ.ok h1 h2 h3 h4 rfl)
 rw [<- hPOST]
 obtain ⟨pb,hpb⟩:∃ pb,pb=a.pb:=⟨_,rfl⟩
 have HPB:=qh hpb
 have cp3:w.cell? ⟨pb,3,none⟩=some (.int .i64 P.blocks):=by rw [hpb];exact zcjX h.hp rfl
 have cp7:w.cell? ⟨pb,7,none⟩=some (.map (some a.mb)):=by rw [hpb];exact zcjX h.hp rfl
 unfold ptrV at HTH ⊢
 rw [<- hpb] at HTH ⊢
 clear h hg hn hd hPOST hpb
 go_enter Try.func40,Try.ntmps40
 go_wp2_with fail
 refine HTH.out.mono ?_
 rintro e wx ⟨rfl,rfl⟩
 by_cases hp:page < 0\/P.blocks<=page
 ·have hx:ziLQ P L D page=(P,L,D,0,6):=by unfold ziLQ;rw [if_pos hp]
  have HX:=qh hx
  clear hx
  by_cases h0:page < 0
  ·go_wp2
   exact HNO.out _ _ _ _ _ _ HX.out (by decide) (.refl H.out)
  ·have h1:P.blocks<=page:=by omega
   go_wp2
   exact HNO.out _ _ _ _ _ _ HX.out (by decide) (.refl H.out)
 ·have p0:¬ page < 0:=by omega
  have p1:¬ P.blocks<=page:=by omega
  have HLK:=qh (H.out.map.lookup_ok Try.underlying55 Try.underlying3 (z3b2 w) page)
  rcases H.out.find HN.out page with ⟨x,hx,hxp,hpg⟩ | ⟨hno,hpg,hnx⟩
  ·have hlk:=HLK.out
   rw [hpg] at hlk
   have hfr:ziLQ P L D page=({ P with ring:=P.ring.set (P.at page) { x.m with used:=true } },L,D,P.at page,0):=by
    unfold ziLQ
    rw [if_neg hp]
    dsimp only
    rw [H.out.ringAt hx]
   have HX:=qh hx
   have HFR:=qh hfr
   have HLK2:=qh (show (Instr.lookup 55 (.map (some a.mb)) (.int .i64 page) true).run Try.prog w=.ok (.tuple #[.pointer (some ⟨x.k,0,none⟩),.bool true]) w from hlk)
   clear hx hxp hpg hlk hfr HLK hp
   have hxm:=List.mem_of_getElem? HX.out
   have HFX:=qh (H.out.fr x hxm).1
   clear hxm
   go_wp2_with (first | refine z1eo rfl 55 _ _ _ rfl (.tuple #[.pointer (some ⟨x.k,0,none⟩),.bool true]) HLK2.out ?_ | refine z2q7 rfl 4 _ _ rfl x.k 3 (.bool true) (frC x) rfl rfl HFX.out (by kernel_rfl) (by show 3 < 7;decide) rfl ?_)
   intro w3 hb3 hk3
   have h3:=H.out.unuse true HX.out hb3 hk3
   have HS3:=qh h3.1
   have HT3:=qh h3.2
   clear h3 hb3 hk3
   go_wp2
   exact HOK.out w3 _ _ _ _ _ { x with m:={ x.m with used:=true } } HFR.out HT3.out HS3.out (List.getElem?_set_self (List.getElem?_eq_some_iff.1 HX.out).1)
  ·have hlk:=HLK.out
   rw [hpg] at hlk
   have HLK2:=qh (show (Instr.lookup 55 (.map (some a.mb)) (.int .i64 page) true).run Try.prog w=.ok (.tuple #[.pointer none,.bool false]) w from hlk)
   have HRM:=qh (show Calls Try.prog 68 #[.pointer (some ⟨pb,0,none⟩)] w (fun e w'=>(∃ P1 L1 D1 i c,c≠0/\e=.returned (.tuple #[.int .i64 0,.int .i64 c])/\ziLQ P L D page=(P1,L1,D1,i,c)/\PPost w a P1 L1 D1 w') \/
    ∃ k:Nat,e=.returned (.tuple #[.int .i64 (k:Int),.int .i64 0])/\zFWs w a P L D page k w') from by
     have:=zyYP H.out HG.out HN.out
     unfold ptrV at this
     rw [<- HPB.out] at this
     exact this.mono (fun e w' h=>h.got H.out HN.out HG.out HD.out hD (by omega) (by omega) hno))
   clear hno hpg hnx hlk HLK
   go_wp2_with (refine z1eo rfl 55 _ _ _ rfl (.tuple #[.pointer none,.bool false]) HLK2.out ?_)
   go_wp2_with fail
   refine HRM.out.mono ?_
   rintro e w1 (⟨P1,L1,D1,i,c,hc,rfl,hfr,hpp⟩ | ⟨k,rfl,hgot⟩)
   ·have HFR:=qh hfr
    have HPP:=qh hpp
    have hcb:(c != 0)=true:=by rw [bne_iff_ne];exact hc
    have HC:=qh hc
    clear hfr hpp
    go_wp2
    exact HNO.out _ _ _ _ _ _ HFR.out HC.out HPP.out
   ·obtain ⟨P1,L1,D1,w0,a0,rv',vs,f',Pf,hA,hT,hkv,hf1,hme,hfn,hfr,hpl⟩:=hgot
    have HA:=qh hA
    have HT:=qh hT
    have HFN:=qh hfn
    have HFR:=qh hfr
    have HPL:=qh hpl
    obtain ⟨rg,rc,hrv,_⟩:=hT.row.form (by omega)
    obtain ⟨n,hn⟩:∃ n,n=vs.length:=⟨_,rfl⟩
    rw [<- hn] at hrv hkv
    have hn1:n<=9223372036854775807:=by
     rcases hT.row.2 with ⟨_,h0⟩ | ⟨g,c,cur,e,_,_,h2,h3,_⟩
     ·omega
     ·have e63:maxLen=9223372036854775807:=rfl
      omega
    have epb:a0.pb=pb:=hA.fix.pb.trans HPB.out.symm
    have HPB0:=Lib.hid epb
    have hpp:∀ w':World,w'.heap[pb]?=some (.cells (poolC { a0 with rv:=rv' } P1) 57 (0,0))->w'.cell? ⟨pb,0,none⟩=some (.pointer (some ⟨a0.p,0,none⟩))/\w'.cell? ⟨pb,2,none⟩=some (.int .i64 P.first)/\w'.cell? ⟨pb,5,none⟩=some (.slice (some ⟨rg,0,none⟩) n rc)/\w'.cell? ⟨pb,7,none⟩=some (.map (some a0.mb)):=fun w' h=>
     ⟨zcjX h rfl,by rw [<- hf1];exact zcjX h rfl,by rw [<- hrv];exact zcjX h rfl,zcjX h rfl⟩
    have HC:=qh hpp
    have hb1:=hT.hp
    rw [epb] at hb1
    have HB1:=qh (show (w1.drew).heap[pb]?=_ from hb1)
    have HRD:=qh (zqzz (w:=w1.drew) (hT.dev.keep ((Kept.refl (fun _=>False) w1).drew) id id id) (P.first+page) hme)
    have HLEN:=qh (hT.s.log.dev.len (P.first+page))
    have HRV:=qh hrv
    have HVS:=qh hn
    have e1:wrap64 (P.first+page)=P.first+page:=by unfold wrap64;omega
    have e2:IntKind.i64.wrap (P.first+page)=P.first+page:=by rw [IntKind.wrap_i64];omega
    clear hA hT hfn hfr hpl hrv hn epb hpp hb1 hf1 hme cp3 cp7 HTH HB HLK2 HRM HNO HD hD
    go_wp2_with fail
    refine znCh 15 (fun w'=>w'.heap[pb]?=some (.cells (poolC { a0 with rv:=rv' } P1) 57 (0,0))) (by kernel_rfl) HB1.out (fun hH=>?_)
    simp only [List.length_cons,List.length_nil,List.replicate]
    refine tK 0 ?_ (fun w' hw'=>?_) hH ?_
    rotate_left
    ·obtain ⟨c0,c2,_,_⟩:=HC.out w' hw'
     go_simp<;>with_reducible rfl
    simp only [Act.put,oZa,oZb,oZc]
    refine tK 1 ?_ (fun w' hw'=>?_) hH ?_
    rotate_left
    ·obtain ⟨c0,c2,_,_⟩:=HC.out w' hw'
     go_simp<;>with_reducible rfl
    simp only [Act.put,oZa,oZb,oZc]
    refine tK 2 ?_ (fun w' hw'=>?_) hH ?_
    rotate_left
    ·obtain ⟨c0,c2,_,_⟩:=HC.out w' hw'
     go_simp<;>with_reducible rfl
    simp only [Act.put,oZa,oZb,oZc]
    refine tK 3 ?_ (fun w' hw'=>?_) hH ?_
    rotate_left
    ·obtain ⟨c0,c2,_,_⟩:=HC.out w' hw'
     go_simp<;>with_reducible rfl
    simp only [Act.put,oZa,oZb,oZc]
    refine tK 4 ?_ (fun w' hw'=>?_) hH ?_
    rotate_left
    ·obtain ⟨c0,c2,_,_⟩:=HC.out w' hw'
     go_simp<;>with_reducible rfl
    simp only [Act.put,oZa,oZb,oZc]
    refine tK 5 ?_ (fun w' hw'=>?_) hH ?_
    rotate_left
    ·obtain ⟨c0,c2,_,_⟩:=HC.out w' hw'
     go_simp<;>with_reducible rfl
    simp only [Act.put,oZa,oZb,oZc]
    refine tK 6 ?_ (fun w' hw'=>?_) hH ?_
    rotate_left
    ·obtain ⟨c0,c2,_,_⟩:=HC.out w' hw'
     go_simp<;>with_reducible rfl
    simp only [Act.put,oZa,oZb,oZc]
    refine tK 7 ?_ (fun w' hw'=>?_) hH ?_
    rotate_left
    ·obtain ⟨c0,c2,_,_⟩:=HC.out w' hw'
     go_simp<;>with_reducible rfl
    simp only [Act.put,oZa,oZb,oZc]
    refine tK 8 ?_ (fun w' hw'=>?_) hH ?_
    rotate_left
    ·obtain ⟨c0,c2,_,_⟩:=HC.out w' hw'
     go_simp<;>with_reducible rfl
    simp only [Act.put,oZa,oZb,oZc]
    refine tK 9 ?_ (fun w' hw'=>?_) hH ?_
    rotate_left
    ·obtain ⟨c0,c2,_,_⟩:=HC.out w' hw'
     go_simp<;>with_reducible rfl
    simp only [Act.put,oZa,oZb,oZc]
    refine stepL 10 rfl (by kernel_rfl) (fun K hK=>?_)
    go_simp
    refine HRD.out.mono ?_
    rintro e w5 ⟨g,cap,rfl,ho5,hk5⟩
    have HO5:=qh ho5
    have HK5:=qh ((Kept.refl (fun _=>False) w1).drew.trans0 hk5)
    have HB5:=qh (HK5.out.heap HB1.out id)
    clear ho5 hk5 HRD
    go_simp
    refine hK.out _ _ (fun _=>HB5.out) (fun _=>?_)
    simp only [oZa,oZb,oZc]
    clear hK K hH
    refine tK 11 ?_ (fun w' hw'=>?_) HB5.out ?_
    rotate_left
    ·skip
     go_simp<;>with_reducible rfl
    simp only [Act.put,oZa,oZb,oZc]
    refine tK 12 ?_ (fun w' hw'=>?_) HB5.out ?_
    rotate_left
    ·skip
     go_simp<;>with_reducible rfl
    simp only [Act.put,oZa,oZb,oZc]
    refine tK 13 ?_ (fun w' hw'=>?_) HB5.out ?_
    rotate_left
    ·skip
     go_simp<;>with_reducible rfl
    simp only [Act.put,oZa,oZb,oZc]
    refine tK 14 ?_ (fun w' hw'=>?_) HB5.out ?_
    rotate_left
    ·skip
     go_simp<;>with_reducible rfl
    simp only [Act.put,oZa,oZb,oZc]
    refine stepL 15 rfl (by kernel_rfl) (fun K hK=>?_)
    go_simp
    refine hK.out _ _ (fun h=>absurd rfl h) (fun _=>?_)
    simp only [oZa,oZb,oZc]
    clear hK K
    refine doneL (by kernel_rfl) ?_ _
    have BF:=bFr page (some ⟨g,0,none⟩) 512 cap
    go_wp2_with (refine znBH rfl 94 _ rfl (.agg #[.int .i64 page,.slice (some ⟨g,0,none⟩) 512 cap,.int .i64 0,.bool true,.bool false,.int .i64 0,.int .i64 0]) rfl ?_)
    intro yk w6 hy0 hyl hyb hyk
    obtain ⟨y,hy⟩:∃ y:FrD,y=⟨newF page (D1.latest (P.first+page)),yk,g,cap⟩:=⟨_,rfl⟩
    have HYK:=qh (show yk=y.k from by rw [hy])
    have HYF:=qh (show w6.heap[y.k]?=some (.cells (frC y) 94 (0,0)) from by
     have e:frC y=#[.int .i64 page,.slice (some ⟨g,0,none⟩) 512 cap,.int .i64 0,.bool true,.bool false,.int .i64 0,.int .i64 0]:=by
      rw [hy];unfold frC newF;dsimp only;rw [HLEN.out]
     rw [<- HYK.out,e];exact hyb)
    have HYG:=qh (show OwnB w6 w1.heap.size y.g y.c y.m.b from by rw [hy];exact HO5.out.kept hyk)
    have HYP:=qh (show y.m=newF page (D1.latest (P.first+page)) from by rw [hy])
    have HK6:=qh (HK5.out.trans0 hyk)
    have HB6:=qh (show (w6.drew).heap[pb]?=some (.cells (poolC { a0 with rv:=rv' } P1) 57 (0,0)) from hyk.heap HB5.out id)
    have HYL:=qh (show w1.heap.size<=y.k from by rw [<- HYK.out];have:=HK5.out.size;omega)
    clear hy hy0 hyl hyb hyk HO5 HK5 HB5 BF
    have hrow6:(w6.drew).ownsRow 0 92 1 (.slice (some ⟨rg,0,none⟩) n rc) n vs:=by
     have:=zh0U HT.out.row HK6.out.drew (fun _ _=>id)
     rw [HRV.out,<- HVS.out] at this
     exact this
    have HR6:=qh hrow6
    have hng:a0.mb≠rg/\rg≠pb:=by
     have e:rv'.ownBlock=some rg:=by rw [HRV.out];rfl
     exact ⟨fun e2=>(za9a HT.out.row e).nem HT.out.map e2.symm,fun e2=>(za9a HT.out.row e).ne ⟨_,_,by rw [<- HPB0.out];exact HT.out.hp⟩ (by decide) e2⟩
    have HNG:=qh hng
    have HNM:=qh (show a0.mb≠pb from by rw [<- HPB0.out];exact fun e=>HT.out.s.tpb.nem HT.out.s.map e.symm)
    clear hrow6 hng
    go_wp2_with fail
    refine znCh 17 (fun w'=>w'.heap[pb]?=some (.cells (poolC { a0 with rv:=rv' } P1) 57 (0,0))) (by kernel_rfl) HB6.out (fun hH=>?_)
    simp only [List.length_cons,List.length_nil,List.replicate]
    have kn:(k:Int) < (n:Int):=by omega
    refine tK 0 ?_ (fun w' hw'=>?_) hH ?_
    rotate_left
    ·obtain ⟨_,_,c5,c7⟩:=HC.out w' hw'
     go_simp<;>with_reducible rfl
    simp only [Act.put,oZa,oZb,oZc]
    refine tK 1 ?_ (fun w' hw'=>?_) hH ?_
    rotate_left
    ·obtain ⟨_,_,c5,c7⟩:=HC.out w' hw'
     go_simp<;>with_reducible rfl
    simp only [Act.put,oZa,oZb,oZc]
    refine tK 2 ?_ (fun w' hw'=>?_) hH ?_
    rotate_left
    ·obtain ⟨_,_,c5,c7⟩:=HC.out w' hw'
     go_simp<;>with_reducible rfl
    simp only [Act.put,oZa,oZb,oZc]
    refine tK 3 ?_ (fun w' hw'=>?_) hH ?_
    rotate_left
    ·obtain ⟨_,_,c5,c7⟩:=HC.out w' hw'
     go_simp<;>with_reducible rfl
    simp only [Act.put,oZa,oZb,oZc]
    refine tK 4 ?_ (fun w' hw'=>?_) hH ?_
    rotate_left
    ·obtain ⟨_,_,c5,c7⟩:=HC.out w' hw'
     go_simp<;>with_reducible rfl
    simp only [Act.put,oZa,oZb,oZc]
    refine tK 5 ?_ (fun w' hw'=>?_) hH ?_
    rotate_left
    ·obtain ⟨_,_,c5,c7⟩:=HC.out w' hw'
     go_simp<;>with_reducible rfl
    simp only [Act.put,oZa,oZb,oZc]
    refine tK 6 ?_ (fun w' hw'=>?_) hH ?_
    rotate_left
    ·obtain ⟨_,_,c5,c7⟩:=HC.out w' hw'
     go_simp<;>with_reducible rfl
    simp only [Act.put,oZa,oZb,oZc]
    refine tK 7 ?_ (fun w' hw'=>?_) hH ?_
    rotate_left
    ·obtain ⟨_,_,c5,c7⟩:=HC.out w' hw'
     go_simp<;>with_reducible rfl
    simp only [Act.put,oZa,oZb,oZc]
    refine tK 8 ?_ (fun w' hw'=>?_) hH ?_
    rotate_left
    ·obtain ⟨_,_,c5,c7⟩:=HC.out w' hw'
     go_simp<;>with_reducible rfl
    simp only [Act.put,oZa,oZb,oZc]
    refine tK 9 ?_ (fun w' hw'=>?_) hH ?_
    rotate_left
    ·obtain ⟨_,_,c5,c7⟩:=HC.out w' hw'
     go_simp<;>with_reducible rfl
    simp only [Act.put,oZa,oZb,oZc]
    refine tK 10 ?_ (fun w' hw'=>?_) hH ?_
    rotate_left
    ·obtain ⟨_,_,c5,c7⟩:=HC.out w' hw'
     go_simp<;>with_reducible rfl
    simp only [Act.put,oZa,oZb,oZc]
    refine tK 11 ?_ (fun w' hw'=>?_) hH ?_
    rotate_left
    ·obtain ⟨_,_,c5,c7⟩:=HC.out w' hw'
     go_simp<;>with_reducible rfl
    simp only [Act.put,oZa,oZb,oZc]
    refine tK 12 ?_ (fun w' hw'=>?_) hH ?_
    rotate_left
    ·obtain ⟨_,_,c5,c7⟩:=HC.out w' hw'
     go_simp<;>with_reducible rfl
    simp only [Act.put,oZa,oZb,oZc]
    refine tK 13 ?_ (fun w' hw'=>?_) hH ?_
    rotate_left
    ·obtain ⟨_,_,c5,c7⟩:=HC.out w' hw'
     go_simp<;>with_reducible rfl
    simp only [Act.put,oZa,oZb,oZc]
    refine stepL 14 rfl (by kernel_rfl) (fun K hK=>?_)
    refine zpse rfl _ _ _ (by rfl) (.pointer (some ⟨yk,0,none⟩)) (by rfl) (by rfl) HR6.out (by kernel_rfl) hkv rfl ?_
    intro w7 hr7 hk7
    have HR7:=qh hr7
    have HK7:=qh (HK6.out.drew.mono (T:=fun z=>z=rg) (fun _ _ h=>h.elim) |>.trans' hk7)
    have HM7:=qh ((HT.out.map.kept HK6.out.drew id).kept hk7 HNG.out.1)
    have HB7:=qh (hk7.heap HB6.out (fun e=>HNG.out.2 e.symm))
    have HJ7:=qh (((Kept.refl (fun z=>z=a0.mb\/z=rg) w6).drew).trans hk7 (fun _ _ h=>.inr h))
    clear hr7 hk7
    refine hK.out _ _ (fun _=>HB7.out) (fun _=>?_)
    simp only [oZa,oZb,oZc]
    clear hK K
    refine stepL 15 rfl (by kernel_rfl) (fun K hK=>?_)
    refine z8mm rfl _ _ _ (by rfl) (by rfl) (by rfl) HM7.out Try.underlying55 (by kernel_rfl) (z3b2 _) HFN.out ?_
    intro w8 cl hen hk8
    have HEN:=qh hen
    have HK8:=qh ((HK7.out.mono (T:=fun z=>z=a0.mb\/z=rg) (fun _ _ h=>.inr h)).trans hk8 (fun _ _ h=>.inl h))
    have HB8:=qh (hk8.heap HB7.out (fun e=>HNM.out e.symm))
    have HR8:=qh (zh0U HR7.out hk8 (fun z hz e=>by cases hz;exact HNG.out.1 e.symm))
    have HJ8:=qh (HJ7.out.trans hk8 (fun _ _ h=>.inl h))
    clear hen hk8 HM7 HB7
    refine hK.out _ _ (fun _=>HB8.out) (fun _=>?_)
    simp only [oZa,oZb,oZc]
    clear hK K
    refine tK 16 ?_ (fun w' hw'=>?_) HB8.out ?_
    rotate_left
    ·skip
     go_simp<;>with_reducible rfl
    simp only [Act.put,oZa,oZb,oZc]
    refine stepL 17 rfl (by kernel_rfl) (fun K hK=>?_)
    refine zhT4 rfl _ _ _ _ (by rfl) (.pointer (some ⟨yk,0,none⟩)) (by rfl) (by rfl) (by rfl) HEN.out ?_
    intro w9 hm9 hk9
    have HM9:=qh hm9
    have HK9:=qh (HK8.out.trans hk9 (fun _ _ h=>.inl h))
    have HR9:=qh (zh0U HR8.out hk9 (fun z hz e=>by cases hz;exact HNG.out.1 e.symm))
    have HJ9:=qh (HJ8.out.trans hk9 (fun _ _ h=>.inl h))
    clear hm9 hk9
    refine hK.out _ _ (fun h=>absurd rfl h) (fun _=>?_)
    simp only [oZa,oZb,oZc]
    clear hK K hH
    refine doneL (by kernel_rfl) ?_ _
    have hmlt:=HT.out.map.lt
    have hrlt:rg < w1.heap.size:=(za9a HT.out.row (x:=rg) (by rw [HRV.out];rfl)).lt
    have hyl:=HYL.out
    have hyg:=HYG.out.base_le
    have hfin:=HPL.out w9 y (by rw [HYP.out];rfl) hyl hyg (HJ9.out.heap HYF.out (fun e=>by rcases e with e | e<;>omega)) ((OwnB.lowQ HYG.out (Nat.zero_le _)).keep HJ9.out (fun e=>by rcases e with e | e<;>omega))
     (by rw [HRV.out,<- HVS.out];show w9.ownsRow 0 _ 1 _ _ (vs.set k (.pointer (some ⟨y.k,0,none⟩)));rw [<- HYK.out];exact HR9.out)
     (by show IMap w9 a0.mb (updF f' page (.pointer (some ⟨y.k,0,none⟩)));rw [<- HYK.out];exact HM9.out)
     (HK9.out.mono (fun z _ h=>by
      rcases h with h | h
      ·exact .inl h
      ·right;rw [HRV.out,h];rfl))
    obtain ⟨a2,h1,h2,h3⟩:=hfin
    rw [HYP.out] at h2
    have HF1:=qh h1
    have HF2:=qh h2
    have HF3:=qh h3
    clear h1 h2 h3 hmlt hrlt hyl hyg
    go_wp2
    rw [HYK.out]
    exact HOK.out w9 _ _ _ _ _ y HFR.out HF1.out HF2.out HF3.out
end
end Go.Proofs.Ytnbfhdgojmflhaa
