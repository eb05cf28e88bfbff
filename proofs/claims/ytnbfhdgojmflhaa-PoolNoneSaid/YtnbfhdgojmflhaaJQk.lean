/-
  No statement is proved here.
-/
import Derived.Test.YtnbfhdgojmflhaaJQi
import Derived.Test.YtnbfhdgojmflhaaJCpz
import Derived.Test.YtnbfhdgojmflhaaJLgk
namespace Go.Proofs.Ytnbfhdgojmflhaa
open Go.RowKit
section
variable {w w' w0 w1 w2:World} {a a0:Adr} {P P1:PoolM} {L L1:LogM} {D D1:DevM}
def z4w2 (w:World) (a:Adr) (P:PoolM) (L:LogM) (D:DevM) (page:Int) (e:Ending) (w':World):Prop:=
 let X:=ziLQ P L D page
 (X.2.2.2.2≠0->e=.returned (.tuple #[.slice none 0 0,.int .i64 X.2.2.2.2])/\PPost w a X.1 X.2.1 X.2.2.1 w') /\
 (X.2.2.2.2=0->∃ a' f A c,AdrTo w a w' a'/\PoolS w' a' X.1 X.2.1 X.2.2.1/\X.1.ring[X.2.2.2.1]?=some f/\e=.returned (.tuple #[.slice A 512 c,.int .i64 0])/\OwnV w' w.heap.size (.slice A 512 c) f.b/\∀ x,(Value.slice A 512 c).ownBlock=some x->¬ a'.K x)
set_option maxRecDepth 100000 in
set_option maxHeartbeats 1600000 in
theorem zZpk (h:PoolS w a P L D) (hg:LogG L) (hn:PoolN P) (hd:D.down=false) (hD:P.first+P.blocks<=D.n) (page:Int) (hb:∀ f,(ziLQ P L D page).1.ring[(ziLQ P L D page).2.2.2.1]?=some f->(ziLQ P L D page).2.2.2.2=0->f.b.length=512) :
  Calls Try.prog 13 #[ptrV a.pb,.int .i64 page] w (z4w2 w a P L D page):=by
 obtain ⟨X,hX⟩:∃ X,X=ziLQ P L D page:=⟨_,rfl⟩
 rw [<- hX] at hb
 have HF:=qh (show Calls Try.prog 40 #[.pointer (some ⟨a.pb,0,none⟩),.int .i64 page] w (fun e w'=>(X.2.2.2.2≠0->e=.returned (.tuple #[.pointer none,.int .i64 X.2.2.2.2])/\PPost w a X.1 X.2.1 X.2.2.1 w') /\
   (X.2.2.2.2=0->∃ a' y,AdrTo w a w' a'/\PoolS w' a' X.1 X.2.1 X.2.2.1/\a'.xs[X.2.2.2.1]?=some y/\e=.returned (.tuple #[ptrV y.k,.int .i64 0]))) from by
  rw [hX];exact z2VE h hg hn hd hD page)
 obtain ⟨POST,hPOST⟩:∃ POST,POST=z4w2 w a P L D page:=⟨_,rfl⟩
 have HPO:=qh (show ∀ e w',((X.2.2.2.2≠0->e=.returned (.tuple #[.slice none 0 0,.int .i64 X.2.2.2.2])/\PPost w a X.1 X.2.1 X.2.2.1 w') /\
  (X.2.2.2.2=0->∃ a' f A c,AdrTo w a w' a'/\PoolS w' a' X.1 X.2.1 X.2.2.1/\X.1.ring[X.2.2.2.1]?=some f/\e=.returned (.tuple #[.slice A 512 c,.int .i64 0])/\OwnV w' w.heap.size (.slice A 512 c) f.b/\∀ x,(Value.slice A 512 c).ownBlock=some x->¬ a'.K x))->POST e w' from fun e w' h=>by
  rw [hPOST];unfold z4w2;rw [<- hX];exact h)
 rw [<- hPOST]
 have HB:=qh hb
 obtain ⟨c,hc⟩:∃ c,c=X.2.2.2.2:=⟨_,rfl⟩
 have HC:=qh hc
 clear hX hPOST h hg hn hd hD hb hc
 unfold ptrV at HF ⊢
 go_enter Try.func13,Try.ntmps13
 go_wp2_with fail
 refine HF.out.mono ?_
 rintro e w1 ⟨h1,h2⟩
 by_cases he:c=0
 ·obtain ⟨a',y,hT,hS,hy,rfl⟩:=h2 (by rw [<- HC.out];exact he)
  have HT:=qh hT
  have HS:=qh hS
  have HY:=qh hy
  have hym:=List.mem_of_getElem? hy
  have hlen:=HB.out y.m (hS.ringAt hy) (by rw [<- HC.out];exact he)
  have hf:=(hS.fr y hym)
  have c1:w1.cell? ⟨y.k,1,none⟩=some (.slice (some ⟨y.g,0,none⟩) 512 y.c):=by rw [<- hlen];exact zcjX hf.1 rfl
  have HO:=qh hf.2
  have HL:=qh hlen
  have HCL:=qh (z12v (some ⟨y.g,0,none⟩) 512 y.c y.m.b w1 hlen (OwnB.rdq hf.2) (by simp) (by decide))
  have HE:=qh (show X.2.2.2.2=0 from by rw [<- HC.out];exact he)
  clear h1 h2 hT hS hy hym hlen hf he
  go_wp2_with fail
  refine HCL.out.mono ?_
  rintro e w2 ⟨A,c2,rfl,ho,hk⟩
  have HO2:=qh ho
  have HK2:=qh hk
  clear ho hk
  go_wp2
  refine HPO.out _ _ ⟨fun h=>absurd HE.out h,fun _=>⟨a',y.m,A,c2,HT.out.keep0 HK2.out,HS.out.keep0 HK2.out,HS.out.ringAt HY.out,rfl,?_,fun x hx hK=>?_⟩⟩
  ·exact HO2.out.low HT.out.k.size
  ·have h1:=(HO2.out.base_le hx).1
   have h2:=HS.out.lt hK
   omega
 ·obtain ⟨rfl,hP⟩:=h1 (by rw [<- HC.out];exact he)
  rw [<- HC.out]
  have HP:=qh hP
  have HE:=qh he
  have hcb:(c != 0)=true:=by rw [bne_iff_ne];exact he
  clear h1 h2 hP
  go_wp2
  show POST (.returned (.tuple #[.slice none 0 0,.int .i64 c])) w1
  refine HPO.out _ _ ⟨fun _=>⟨by rw [HC.out],HP.out⟩,fun h=>absurd (HC.out.trans h) HE.out⟩
set_option maxRecDepth 100000 in
theorem z5NK (h:PoolS w a P L D) (hn:PoolN P):Calls Try.prog 11 #[ptrV a.pb] w fun e w'=>e=.returned (.int .i64 P.ring.length)/\w=w':=by
 have HT:=qh (zaue h)
 have c0:w.cell? ⟨a.pb,7,none⟩=some (.map (some a.mb)):=zcjX h.hp rfl
 have hnd:(a.xs.map (fun x=>x.m.page)).Nodup:=by rw [h.pagesX];exact hn.nd
 have hlen:=fun ty=>h.map.len (P:=Try.prog) (t:=55) Try.underlying55 (a.xs.map (fun x=>x.m.page)) hnd (fun n=>by
  constructor
  ·intro hm
   obtain ⟨x,hx,e⟩:=List.mem_map.1 hm
   rw [(zZSJ hnd n (ptrV x.k)).2 ⟨x,hx,e,rfl⟩]
   rfl
  ·intro hs
   obtain ⟨v,hv⟩:=Option.isSome_iff_exists.1 hs
   obtain ⟨x,hx,e,_⟩:=(zZSJ hnd n v).1 hv
   exact List.mem_map.2 ⟨x,hx,e⟩) ty
 rw [List.length_map,<- h.len] at hlen
 have HL:=qh hlen
 obtain ⟨n,hn⟩:∃ n,n=P.ring.length:=⟨_,rfl⟩
 rw [<- hn] at HL ⊢
 unfold ptrV at HT ⊢
 clear h hnd hlen hn
 go_enter Try.func11,Try.ntmps11
 go_wp2_with fail
 refine HT.out.mono ?_
 rintro e wx ⟨rfl,rfl⟩
 have hl3:(Builtin.len_ #[55] 3 #[.map (some a.mb)]).run Try.prog w=.ok (.int .i64 (n:Int)) w:=HL.out _
 go_wp2
 go_ret
 exact ⟨rfl,rfl⟩
end
section
variable {w w' w0 w1 w2:World} {a a0:Adr} {P P1:PoolM} {L L1:LogM} {D D1:DevM}
def spnC (page off:Int) (OA:Option Addr) (on oc:Nat) (NA:Option Addr) (nn nc:Nat):Array Value:=#[.int .i64 page,.int .i64 off,.slice OA on oc,.slice NA nn nc]
def zuFW (w:World) (a:Adr) (P:PoolM) (L:LogM) (D:DevM) (page off:Int) (m:Bytes) (lsn:Int) (e:Ending) (w':World):Prop:=
 let X:=zpi7 P L D page off m lsn
 e=.returned (.int .i64 X.2.2.2)/\PPost w a X.1 X.2.1 X.2.2.1 w'
theorem PoolS.setA (h:PoolS w a P L D) {i:Nat} {x y:FrD} (hx:a.xs[i]?=some x) (hk:y.k=x.k) (hg:y.g=x.g) (hp:y.m.page=x.m.page) (hb:w'.heap[x.k]?=some (.cells (frC y) 94 (0,0))) (ho:OwnB w' 0 y.g y.c y.m.b)
  (hK:Kept (fun z=>z=x.k\/z=x.g) w w'):PoolS w' { a with xs:=a.xs.set i y } { P with ring:=P.ring.set i y.m } L D/\AdrTo w a w' { a with xs:=a.xs.set i y }:=by
 have hs:=h.setF hx hk hg hp hb ho hK
 exact ⟨hs.1,⟨⟨rfl,rfl,rfl,rfl,rfl,rfl⟩,hs.2.1,hs.2.2⟩⟩
theorem zTAh {b m:Bytes} {k:Nat} (h:k+m.length<=b.length):(layO b k m).length=b.length:=by
 unfold layO
 simp only [List.length_append,List.length_take,List.length_drop]
 omega
set_option maxRecDepth 100000 in
set_option maxHeartbeats 3200000 in
theorem zDLA (h:PoolS w a P L D) (hg:LogG L) (hn:PoolN P) (hd:D.down=false) (hD:P.first+P.blocks<=D.n) (page off:Int) (OA:Option Addr) (on oc:Nat) (NA:Option Addr) (m:Bytes) (nc:Nat) (lsn:Int)
  (hm:RdB w NA m) (hmK:∀ b o,NA=some ⟨b,o,none⟩->b < w.heap.size->¬ a.K b)
  (hb:∀ f,(ziLQ P L D page).1.ring[(ziLQ P L D page).2.2.2.1]?=some f->(ziLQ P L D page).2.2.2.2=0->f.b.length=512) :
  Calls Try.prog 14 #[ptrV a.pb,.agg (spnC page off OA on oc NA m.length nc),.int .i64 lsn] w (zuFW w a P L D page off m lsn):=by
 obtain ⟨POST,hPOST⟩:∃ POST,POST=zuFW w a P L D page off m lsn:=⟨_,rfl⟩
 have HPO:=qh (show ∀ (w':World) (P1:PoolM) (L1:LogM) (D1:DevM) (c:Int),zpi7 P L D page off m lsn=(P1,L1,D1,c)->PPost w a P1 L1 D1 w'->POST (.returned (.int .i64 c)) w' from fun w' P1 L1 D1 c h1 h2=>by
  rw [hPOST];unfold zuFW;rw [h1];exact ⟨rfl,h2⟩)
 rw [<- hPOST]
 have H:=qh h
 have HG:=qh hg
 have HN:=qh hn
 have HD:=qh hd
 have HM:=qh hm
 have HMK:=qh hmK
 have HBL:=qh hb
 obtain ⟨n,hnl⟩:∃ n,n=m.length:=⟨_,rfl⟩
 have HNL:=qh hnl
 rw [<- hnl]
 clear h hg hn hd hm hmK hb hPOST hnl
 unfold ptrV
 go_enter Try.func14,Try.ntmps14
 go_wp2_with (refine znBH rfl 42 _ rfl (.agg (spnC page off OA on oc NA n nc)) rfl ?_)
 intro sb wa hs0 hs1 hsb hka
 have HSB:=qh (show wa.heap[sb]?=some (.cells (spnC page off OA on oc NA n nc) 42 (0,0)) from hsb)
 have HKA:=qh hka
 have HA:=qh (H.out.keep0 hka)
 have HS0:=qh hs0
 have s0:wa.cell? ⟨sb,0,none⟩=some (.int .i64 page):=zcjX hsb rfl
 have s1:wa.cell? ⟨sb,1,none⟩=some (.int .i64 off):=zcjX hsb rfl
 have s3:wa.cell? ⟨sb,3,none⟩=some (.slice NA n nc):=zcjX hsb rfl
 have HTH:=qh (zaue HA.out)
 have c3:wa.cell? ⟨a.pb,3,none⟩=some (.int .i64 P.blocks):=zcjX HA.out.hp rfl
 have c1:wa.cell? ⟨a.pb,1,none⟩=some (.pointer (some ⟨a.q,0,none⟩)):=zcjX HA.out.hp rfl
 unfold ptrV at HTH
 have HE:=qh (fun k=>z4JP (wa.drewN k) a.q a.p a.lv a.tv L HA.out.log.hq)
 have HPE:=qh (show ∀ k,PPost w a P L D (wa.drewN k) from fun k=>PPost.early H.out HKA.out (.keep0 (.refl HA.out) ((Kept.refl (fun _=>False) wa).drewN k)))
 clear hs0 hs1 hsb hka
 go_wp2_with fail
 refine HTH.out.mono ?_
 rintro e wx ⟨rfl,rfl⟩
 go_wp2_with fail
 by_cases hp:page < 0\/P.blocks<=page
 ·have HX:=qh (show zpi7 P L D page off m lsn=(P,L,D,6) from by unfold zpi7;rw [if_pos hp])
  by_cases h0:page < 0
  ·go_quiet (fail)
   go_wp2
   exact HPO.out _ _ _ _ _ HX.out (HPE.out _)
  ·have h1:P.blocks<=page:=by omega
   go_quiet (fail)
   go_wp2
   exact HPO.out _ _ _ _ _ HX.out (HPE.out _)
 ·have p0:¬ page < 0:=by omega
  have p1:¬ P.blocks<=page:=by omega
  go_quiet (fail)
  generalize hwd:wa.drewN nq=wd
  have hkd:Kept (fun _=>False) wa wd:=by rw [<- hwd];exact (Kept.refl (fun _=>False) wa).drewN _
  have HKD:=qh hkd
  have HSd:=qh (HA.out.keep0 hkd)
  have HSBd:=qh (hkd.heap HSB.out id)
  have s1d:wd.cell? ⟨sb,1,none⟩=some (.int .i64 off):=zcjX HSBd.out rfl
  have s3d:wd.cell? ⟨sb,3,none⟩=some (.slice NA n nc):=zcjX HSBd.out rfl
  have s0d:wd.cell? ⟨sb,0,none⟩=some (.int .i64 page):=zcjX HSBd.out rfl
  have c1d:wd.cell? ⟨a.pb,1,none⟩=some (.pointer (some ⟨a.q,0,none⟩)):=zcjX HSd.out.hp rfl
  have HEd:=qh (z4JP wd a.q a.p a.lv a.tv L HSd.out.log.hq)
  have HPEd:=qh (show PPost w a P L D wd from by rw [<- hwd];exact HPE.out _)
  clear hwd hkd HE HPE s0 s1 s3 c3 c1 HTH
  have HX2:=qh (show (off < 0\/512 < off\/m=[]\/512 - off < (m.length:Int)\/lsn < 1\/L.fin<=lsn)->zpi7 P L D page off m lsn=(P,L,D,2) from fun h=>by
   unfold zpi7;rw [if_neg hp,if_pos h])
  have HX3:=qh (show ¬ (off < 0\/512 < off\/m=[]\/512 - off < (m.length:Int)\/lsn < 1\/L.fin<=lsn)->zpi7 P L D page off m lsn=(let x:=ziLQ P L D page
   if x.2.2.2.2≠0 then (x.1,x.2.1,x.2.2.1,x.2.2.2.2) else
   match x.1.ring[x.2.2.2.1]? with
   | none=>(x.1,x.2.1,x.2.2.1,0)
   | some f=>({ x.1 with ring:=x.1.ring.set x.2.2.2.1 { f with b:=layO f.b off.toNat m,last:=max f.last lsn,dirty:=true,first:=if f.dirty then f.first else lsn } },x.2.1,x.2.2.1,0)) from fun h=>by
   unfold zpi7;rw [if_neg hp,if_neg h];rfl)
  clear hp
  by_cases b1:off < 0
  ·have HX:=qh (HX2.out (.inl b1))
   go_wp2
   exact HPO.out _ _ _ _ _ HX.out HPEd.out
  by_cases b2:512 < off
  ·have HX:=qh (HX2.out (.inr (.inl b2)))
   go_wp2
   exact HPO.out _ _ _ _ _ HX.out HPEd.out
  by_cases b3:n=0
  ·have HX:=qh (HX2.out (.inr (.inr (.inl (List.length_eq_zero_iff.1 (HNL.out.symm.trans b3))))))
   have b3i:(n:Int)=0:=by omega
   go_wp2
   exact HPO.out _ _ _ _ _ HX.out HPEd.out
  have b3b:((n:Int) == 0)=false:=by rw [beq_eq_false_iff_ne];omega
  have e1:wrap64 (512 - off)=512 - off:=by unfold wrap64;omega
  have e2:IntKind.i64.wrap (512 - off)=512 - off:=by rw [IntKind.wrap_i64];omega
  by_cases b4:512 - off < (n:Int)
  ·have HX:=qh (HX2.out (.inr (.inr (.inr (.inl (by rw [<- HNL.out];exact b4))))))
   go_wp2
   exact HPO.out _ _ _ _ _ HX.out HPEd.out
  by_cases b5:lsn < 1
  ·have HX:=qh (HX2.out (.inr (.inr (.inr (.inr (.inl b5))))))
   go_wp2
   exact HPO.out _ _ _ _ _ HX.out HPEd.out
  by_cases b6:L.fin<=lsn
  ·have HX:=qh (HX2.out (.inr (.inr (.inr (.inr (.inr b6))))))
   go_wp2_with fail
   refine HEd.out.mono ?_
   rintro e wx ⟨rfl,rfl⟩
   go_wp2
   exact HPO.out _ _ _ _ _ HX.out HPEd.out
  go_wp2_with fail
  refine HEd.out.mono ?_
  rintro e wx ⟨rfl,rfl⟩
  obtain ⟨X,hX⟩:∃ X,X=ziLQ P L D page:=⟨_,rfl⟩
  have HF:=qh (show Calls Try.prog 40 #[.pointer (some ⟨a.pb,0,none⟩),.int .i64 page] wd (fun e w'=>(X.2.2.2.2≠0->e=.returned (.tuple #[.pointer none,.int .i64 X.2.2.2.2])/\PPost wd a X.1 X.2.1 X.2.2.1 w') /\
   (X.2.2.2.2=0->∃ a' y,AdrTo wd a w' a'/\PoolS w' a' X.1 X.2.1 X.2.2.1/\a'.xs[X.2.2.2.1]?=some y/\e=.returned (.tuple #[ptrV y.k,.int .i64 0]))) from by
   rw [hX];exact z2VE HSd.out HG.out HN.out HD.out hD page)
  have hx3:=HX3.out (by
   rw [<- HNL.out]
   rintro (h | h | h | h | h | h)
   ·omega
   ·omega
   ·exact b3 (by rw [HNL.out,h];rfl)
   ·omega
   ·omega
   ·omega)
  rw [<- hX] at hx3
  have HX4:=qh hx3
  have HBL2:=qh (show ∀ f,X.1.ring[X.2.2.2.1]?=some f->X.2.2.2.2=0->f.b.length=512 from by rw [hX];exact HBL.out)
  obtain ⟨c,hc⟩:∃ c,c=X.2.2.2.2:=⟨_,rfl⟩
  have HC:=qh hc
  clear hX hx3 HX2 HX3 HBL HEd hc hD s1d s3d c1d e1 e2
  go_wp2_with fail
  refine HF.out.mono ?_
  rintro e wb ⟨g1,g2⟩
  by_cases he:c=0
  ·obtain ⟨a',y,hT,hS,hy,rfl⟩:=g2 (by rw [<- HC.out];exact he)
   unfold ptrV
   have hym:=List.mem_of_getElem? hy
   have hyr:=hS.ringAt hy
   have hlen:=HBL2.out y.m hyr (by rw [<- HC.out];exact he)
   have hsz:=HKA.out.size
   have hsd:=HKD.out.size
   have hsbn:¬ a.K sb:=fun e=>by
    have:=H.out.lt e
    have:=HS0.out
    omega
   have HSBb:=qh (hT.k.heap HSBd.out hsbn)
   have HMb:=qh ((HM.out.kept (HKA.out.trans0 HKD.out) (fun _ _ _ _=>id)).kept hT.k (fun b o e hlt hK=>by
    have h1:=H.out.lt hK
    exact HMK.out b o e h1 hK))
   have HNG:=qh (show ∀ b o,NA=some ⟨b,o,none⟩->b < w.heap.size->b≠y.g from fun b o e hlt e2=>by
    rcases hT.g b (.inr (.inr (.inr (.inr ⟨y,hym,.inr e2⟩)))) with h | h
    ·exact HMK.out b o e hlt h
    ·omega)
   have hTw:AdrTo w a wb a':=(AdrTo.keep0 (.refl w a) (HKA.out.trans0 HKD.out)).trans hT
   have HTW:=qh hTw
   have HSX:=qh hS
   have HY:=qh hy
   have HYM:=qh hym
   have HLEN:=qh hlen
   have HX5:=qh (show zpi7 P L D page off m lsn=({ X.1 with ring:=X.1.ring.set X.2.2.2.1 { y.m with b:=layO y.m.b off.toNat m,last:=max y.m.last lsn,dirty:=true,first:=if y.m.dirty then y.m.first else lsn } },X.2.1,X.2.2.1,0) from by
    rw [HX4.out,if_neg (by rw [<- HC.out];simpa using he),hyr])
   have HF1:=qh (show (wb.drew).heap[y.k]?=some (.cells (frC y) 94 (0,0))/\(wb.drew).heap[sb]?=some (.cells (spnC page off OA on oc NA m.length nc) 42 (0,0)) from ⟨(hS.fr y hym).1,by rw [<- HNL.out];exact HSBb.out⟩)
   have HCC:=qh (fun (w':World) (h:w'.heap[y.k]?=some (.cells (frC y) 94 (0,0))/\w'.heap[sb]?=some (.cells (spnC page off OA on oc NA m.length nc) 42 (0,0)))=>show w'.cell? ⟨y.k,1,none⟩=some (.slice (some ⟨y.g,0,none⟩) y.m.b.length y.c)/\w'.cell? ⟨sb,1,none⟩=some (.int .i64 off)/\w'.cell? ⟨sb,3,none⟩=some (.slice NA m.length nc) from
    ⟨zcjX h.1 rfl,zcjX h.2 rfl,zcjX h.2 rfl⟩)
   have HO:=qh (hS.fr y hym).2
   have HNK:=qh (show y.g≠y.k from (hS.tg hym).ne (hS.tk hym) (by decide))
   obtain ⟨k,hk⟩:∃ k,k=off.toNat:=⟨_,rfl⟩
   have HK:=qh hk
   have hko:off=(k:Int):=by omega
   have HKO:=qh hko
   have hnm:=HNL.out
   subst hnm
   have hfit:k+m.length<=y.m.b.length:=by omega
   have hm0:0 < m.length:=by omega
   clear g1 g2 hT hS hy hym hyr hlen hsbn hTw hk hko he HX4 HF HNL HMK
   go_wp2_with fail
   refine znCh 9 (fun w'=>w'.heap[y.k]?=some (.cells (frC y) 94 (0,0))/\w'.heap[sb]?=some (.cells (spnC page off OA on oc NA m.length nc) 42 (0,0))) (by kernel_rfl) HF1.out (fun hH=>?_)
   simp only [List.length_cons,List.length_nil,List.replicate]
   refine tK 0 ?_ (fun w' hw'=>?_) hH ?_
   rotate_left
   ·obtain ⟨d1,d2,d3⟩:=HCC.out w' hw'
    go_simp<;>with_reducible rfl
   simp only [Act.put,oZa,oZb,oZc]
   refine tK 1 ?_ (fun w' hw'=>?_) hH ?_
   rotate_left
   ·obtain ⟨d1,d2,d3⟩:=HCC.out w' hw'
    go_simp<;>with_reducible rfl
   simp only [Act.put,oZa,oZb,oZc]
   refine tK 2 ?_ (fun w' hw'=>?_) hH ?_
   rotate_left
   ·obtain ⟨d1,d2,d3⟩:=HCC.out w' hw'
    go_simp<;>with_reducible rfl
   simp only [Act.put,oZa,oZb,oZc]
   refine tK 3 ?_ (fun w' hw'=>?_) hH ?_
   rotate_left
   ·obtain ⟨d1,d2,d3⟩:=HCC.out w' hw'
    go_simp<;>with_reducible rfl
   simp only [Act.put,oZa,oZb,oZc]
   refine tK 4 ?_ (fun w' hw'=>?_) hH ?_
   rotate_left
   ·obtain ⟨d1,d2,d3⟩:=HCC.out w' hw'
    go_simp<;>with_reducible rfl
   simp only [Act.put,oZa,oZb,oZc]
   refine tK 5 ?_ (fun w' hw'=>?_) hH ?_
   rotate_left
   ·obtain ⟨d1,d2,d3⟩:=HCC.out w' hw'
    go_simp<;>with_reducible rfl
   simp only [Act.put,oZa,oZb,oZc]
   refine tK 7 ?_ (fun w' hw'=>?_) hH ?_
   rotate_left
   ·obtain ⟨d1,d2,d3⟩:=HCC.out w' hw'
    go_simp<;>with_reducible rfl
   simp only [Act.put,oZa,oZb,oZc]
   refine tK 8 ?_ (fun w' hw'=>?_) hH ?_
   rotate_left
   ·obtain ⟨d1,d2,d3⟩:=HCC.out w' hw'
    go_simp<;>with_reducible rfl
   simp only [Act.put,oZa,oZb,oZc]
   refine takeL 6 (.slice (slA (some ⟨y.g,0,none⟩) k y.c) (y.m.b.length - k) (y.c - k)) rfl (by kernel_rfl) (fun _ _ _ h=>h) (by rfl) (fun w' hw'=>zjw2 _ _ k rfl (some ⟨y.g,0,none⟩) y.m.b.length y.c off rfl rfl HKO.out (by omega) w') hH ?_
   simp only [Act.put,oZa,oZb,oZc]
   refine stepL 9 rfl (by kernel_rfl) (fun K hK=>?_)
   have hcap:y.m.b.length<=y.c:=(OwnB.form HO.out).choose_spec.2.2.1
   refine z83d rfl _ _ (by rfl) (OwnB.keep HO.out ((Kept.refl (fun _=>False) wb).drew) id) k (by omega) (slA (some ⟨y.g,0,none⟩) k y.c) NA (fun _=>zG1u _ _ _ (by omega)) m (HMb.out.kept ((Kept.refl (fun _=>False) wb).drew) (fun _ _ _ _=>id)) _ _ (by rfl) (by rfl) ?_
   intro n5 w5 hn5 hb5 hk5
   rw [zTDn hfit] at hb5
   have HB5:=qh (show OwnB w5 0 y.g y.c (layO y.m.b k m) from hb5)
   have HK5:=qh ((Kept.refl (fun z=>z=y.g) wb).drew.trans' hk5)
   clear hb5 hk5 hn5
   refine hK.out _ _ (fun h=>absurd rfl h) (fun _=>?_)
   simp only [Act.put,oZa,oZb,oZc]
   clear hK K hH
   refine doneL (by kernel_rfl) ?_ _
   have HF5:=qh (HK5.out.heap HF1.out.1 (fun e=>HNK.out e.symm))
   have l6:w5.cell? ⟨y.k,6,none⟩=some (.int .i64 y.m.last):=zcjX HF5.out rfl
   go_wp2_with (refine z2q7 rfl 2 _ _ rfl y.k 6 (.int .i64 (max y.m.last lsn)) (frC y) rfl rfl HF5.out (by kernel_rfl) (by show 6 < 7;decide) rfl ?_)
   intro w6 hb6 hk6
   have HB6:=qh hb6
   have HO6:=qh (HB5.out.keep hk6 (fun e=>HNK.out e))
   have HK6:=qh ((HK5.out.mono (T:=fun z=>z=y.k\/z=y.g) (fun _ _ h=>.inr h)).trans hk6 (fun _ _ h=>.inl h))
   have l4:w6.cell? ⟨y.k,4,none⟩=some (.bool y.m.dirty):=zcjX hb6 rfl
   have HFIN:=qh (show ∀ w':World,Kept (fun z=>z=y.k\/z=y.g) wb w'->OwnB w' 0 y.g y.c (layO y.m.b k m)->w'.heap[y.k]?=some (.cells (frC { y with m:={ y.m with b:=layO y.m.b k m,last:=max y.m.last lsn,dirty:=true,first:=if y.m.dirty then y.m.first else lsn } }) 94 (0,0))->POST (.returned (.int .i64 0)) w' from fun w' h1 h2 h3=>by
    have hs:=HSX.out.setA (y:={ y with m:={ y.m with b:=layO y.m.b k m,last:=max y.m.last lsn,dirty:=true,first:=if y.m.dirty then y.m.first else lsn } }) HY.out rfl rfl rfl h3 h2 h1
    have ht:=HTW.out.trans hs.2
    exact HPO.out w' _ _ _ 0 HX5.out (by rw [<- HK.out];exact ht.post hs.1))
   have HLL:=qh (zTAh hfit)
   clear hb6 hk6 HB5 HK5 HF5
   cases hd:y.m.dirty
   ·rw [hd] at l4
    go_wp2_with (refine z2q7 rfl 4 _ _ rfl y.k 4 (.bool true) _ rfl rfl HB6.out (by kernel_rfl) (by show 4 < 7;decide) rfl ?_)
    intro w7 hb7 hk7
    have HB7:=qh hb7
    have HK7:=qh (HK6.out.trans hk7 (fun _ _ h=>.inl h))
    have HO7:=qh (HO6.out.keep hk7 (fun e=>HNK.out e))
    clear hb7 hk7
    go_wp2_with (refine z2q7 rfl 2 _ _ rfl y.k 5 (.int .i64 lsn) _ rfl rfl HB7.out (by kernel_rfl) (by show 5 < 7;decide) rfl ?_)
    intro w8 hb8 hk8
    have HB8:=qh hb8
    have HK8:=qh (HK7.out.trans hk8 (fun _ _ h=>.inl h))
    have HO8:=qh (HO7.out.keep hk8 (fun e=>HNK.out e))
    clear hb8 hk8
    go_wp2
    refine HFIN.out w8 HK8.out HO8.out ?_
    rw [HB8.out]
    unfold frC
    dsimp only
    rw [HLL.out,hd]
    rfl
   ·rw [hd] at l4
    go_wp2
    refine HFIN.out w6 HK6.out HO6.out ?_
    rw [HB6.out]
    unfold frC
    dsimp only
    rw [HLL.out,hd]
    rfl
  ·obtain ⟨rfl,hP⟩:=g1 (by rw [<- HC.out];exact he)
   rw [<- HC.out]
   have HP:=qh (PPost.early H.out (HKA.out.trans0 HKD.out) hP)
   have HE:=qh he
   have hcb:(c != 0)=true:=by rw [bne_iff_ne];exact he
   have HX5:=qh (show zpi7 P L D page off m lsn=(X.1,X.2.1,X.2.2.1,c) from by
    rw [HX4.out,if_pos (by rw [<- HC.out];exact he),HC.out])
   clear g1 g2 hP
   go_wp2
   exact HPO.out _ _ _ _ _ HX5.out HP.out
end
end Go.Proofs.Ytnbfhdgojmflhaa
