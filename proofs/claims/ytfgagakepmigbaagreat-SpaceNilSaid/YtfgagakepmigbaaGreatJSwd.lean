/-
  No statement is proved here.
-/
import Derived.Test.YtfgagakepmigbaaGreatJSmb
namespace Go.Proofs.YtfgagakepmigbaaGreat
open Go.RowKit
section
variable {w w' : World} {x : BAdr} {S : BkA} {g : Nat}
theorem BkW.pg (h : BkW w x S g) : 10 ≤ S.pages ∧ S.pages ≤ 32766 := by
  obtain ⟨b, P, L, D, h1, h2⟩ := h
  obtain ⟨R, hc, -⟩ := h2.rest
  have := hc.n24
  have := hc.n64
  have := h2.n
  unfold BkA.pages
  omega
theorem sown_any (h : BkW w x S g) : Calls Tryz.prog 35 #[ptrV x.bk] w fun e w' => e = .returned (.int .i64 (ownS S.pages)) ∧ w = w' := by
  have HP := qh (apages_any h)
  obtain ⟨p0, p1⟩ := h.pg
  obtain ⟨n, hn⟩ : ∃ n, n = S.pages := ⟨_, rfl⟩
  rw [← hn] at HP p0 p1 ⊢
  have e1 : wrap64 (n + 4096) = n + 4096 := by unfold wrap64; omega
  have e2 : wrap64 (n + 4096 - 1) = n + 4095 := by unfold wrap64; omega
  have e3 : (n + 4095).tdiv 4096 = (n + 4095) / 4096 := Int.tdiv_eq_ediv_of_nonneg (by omega)
  have e4 : wrap64 ((n + 4095) / 4096) = (n + 4095) / 4096 := by unfold wrap64; omega
  have e5 : wrap64 (1 + (n + 4095) / 4096) = ownS n := by unfold wrap64 ownS; omega
  unfold ptrV at HP ⊢
  clear h hn
  go_enter Tryz.func35, Tryz.ntmps35
  go_wp2_with fail
  refine HP.out.mono ?_
  rintro e wx ⟨rfl, rfl⟩
  go_wp2
  go_ret
  refine ⟨?_, rfl⟩
  show Ending.returned (.int .i64 (1 + (n + 4096 - 1) / 4096)) = .returned (.int .i64 (ownS n))
  unfold ownS
  rw [show n + 4096 - 1 = n + 4095 by omega]
theorem sstate_any (h : BkW w x S g) : Calls Tryz.prog 32 #[ptrV x.bk] w fun e w' => e = .returned (.int .i64 (if S.inT = true then 0 else 7)) ∧ w = w' := by
  have HP := qh (apages_any h)
  have HI := qh (ain_any h)
  obtain ⟨p0, p1⟩ := h.pg
  obtain ⟨n, hn⟩ : ∃ n, n = S.pages := ⟨_, rfl⟩
  obtain ⟨t, ht⟩ : ∃ t, t = S.inT := ⟨_, rfl⟩
  rw [← hn] at HP p0 p1
  rw [← ht] at HI ⊢
  have e0 : (n == 0) = false := by rw [beq_eq_false_iff_ne]; omega
  unfold ptrV at HP HI ⊢
  clear h hn ht
  go_enter Tryz.func32, Tryz.ntmps32
  go_wp2_with fail
  refine HP.out.mono ?_
  rintro e wx ⟨rfl, rfl⟩
  go_wp2_with fail
  refine HI.out.mono ?_
  rintro e wx ⟨rfl, rfl⟩
  cases t with
  | true =>
    go_wp2
    go_ret
    exact ⟨rfl, rfl⟩
  | false =>
    go_wp2
    go_ret
    exact ⟨rfl, rfl⟩
theorem equal6 (A B : Option Addr) (c d : Nat) (l m : Bytes) (w : World) (hl : l.length = 6) (hm : m.length = 6) (ha : RdB w A l) (hb : RdB w B m) :
    Calls Tryz.prog 101 #[.slice A 6 c, .slice B 6 d] w fun e w' => e = .returned (.bool (l == m)) ∧ w = w' := by
  have e1 := conv_str (c := c) hl ha (by decide)
  have e2 := conv_str (c := d) hm hb (by decide)
  go_enter Tryz.func101, Tryz.ntmps101
  go_wp2
  go_ret
  exact ⟨rfl, rfl⟩
theorem prefix6 (A B : Option Addr) (c d : Nat) (l m : Bytes) (w : World) (hl : l.length = 512) (hc : 512 ≤ c) (hm : m.length = 6) (ha : RdB w A l) (hb : RdB w B m) :
    Calls Tryz.prog 64 #[.slice A 512 c, .slice B 6 d] w fun e w' => e = .returned (.bool (l.take 6 == m)) ∧ w = w' := by
  have HE := qh (equal6 A B c d (l.take 6) m w (by rw [List.length_take]; omega) hm (ha.takeG 6) hb)
  obtain ⟨b, o, rfl⟩ := ha.some hl
  clear ha hb
  go_enter Tryz.func64, Tryz.ntmps64
  go_wp2_with fail
  refine HE.out.mono ?_
  rintro e wx ⟨rfl, rfl⟩
  go_wp2
  go_ret
  exact ⟨rfl, rfl⟩
end
end Go.Proofs.YtfgagakepmigbaaGreat
namespace Go.Proofs.YtfgagakepmigbaaGreat
open Go.RowKit
section
variable {w w' : World} {x : BAdr} {S : BkA} {g : Nat}
def HeadPost (w : World) (x : BAdr) (S : BkA) (g : Nat) (e : Ending) (w' : World) : Prop := ∃ x', BTo w x w' x' ∧ BkW w' x' S g ∧
  (hdrB S.now = false ∧ e = .returned (.tuple #[.slice none 0 0, .int .i64 4]) ∨ hdrB S.now = true ∧ ∃ y c, (S.now 0).length = 512 ∧ e = .returned (.tuple #[.slice (some ⟨y, 0, none⟩) 512 c, .int .i64 0]) ∧ OwnB w' w.heap.size y c (S.now 0) ∧ ¬ x'.K y)
theorem bY6 (wz : World) : (Instr.buildSlice 47 6 #[(0, .int .u8 115), (1, .int .u8 112), (2, .int .u8 97), (3, .int .u8 99), (4, .int .u8 101), (5, .int .u8 1)]).run Tryz.prog wz =
    .ok (.slice (some ⟨wz.heap.size, 0, none⟩) 6 6) (wz.alloc (.cells (cellsOf sgnS) 5)) := by
  obtain ⟨i, hi, h2, h3, h4⟩ := info_parts info5
  exact run_buildSlice wz _ 5 6 _ _ i _ Tryz.underlying47 hi h2 (by rw [h3]; decide) (by rw [h3]; decide) (by rw [h3]; kernel_rfl)
theorem wl_buildY6 {w : World} {ops : Array Oper} {rest : List Oper} {o o2 : Oper} {a : Act} {Q : Exit → Act → World → Prop} (hgd : o.guard = none) (hgd2 : o2.guard = none) (ho : o.op = .buildSlice 47 6 #[(0, .const (.int .u8 115)), (1, .const (.int .u8 112)), (2, .const (.int .u8 97)), (3, .const (.int .u8 99)), (4, .const (.int .u8 101)), (5, .const (.int .u8 1))])
    (ho2 : o2.op = .convert 47 47 (.tmp 15)) (hd : o.dst = some 15) (hsz : 15 < a.tmps.size)
    (k : ∀ g w', w.heap.size ≤ g → w'.heap[g]? = some (.cells (cellsOf sgnS) 5 (6, 7)) → Kept (fun _ => False) w w' → wpList Tryz.prog ops Q rest ((a.put (some 15) (.slice (some ⟨g, 0, none⟩) 6 6)).put o2.dst (.slice (some ⟨g, 0, none⟩) 6 6)) w') : wpList Tryz.prog ops Q (o :: o2 :: rest) a w := by
  refine wl_val (w' := w.alloc (.cells (cellsOf sgnS) 5)) (v := .slice (some ⟨w.heap.size, 0, none⟩) 6 6) hgd ?_ (wl_val (w' := w.alloc (.cells (cellsOf sgnS) 5 (6, 7))) (v := .slice (some ⟨w.heap.size, 0, none⟩) 6 6) hgd2 ?_ ?_)
  · have h := bY6 w
    simp only [execOp, ho, List.map_toArray, List.map_cons, List.map_nil, Act.eval, Sem.run_bind, h, Result.andThen_ok]
    rfl
  · have h := Lib.run_convert_bytes_const (P := Tryz.prog) w 47 5 (cellsOf sgnS) 6 6 Tryz.underlying47 Tryz.underlying5
    have he : (a.put o.dst (.slice (some ⟨w.heap.size, 0, none⟩) 6 6)).eval (.tmp 15) = .slice (some ⟨w.heap.size, 0, none⟩) 6 6 := by
      rw [hd]
      simp [Act.put, Act.eval, hsz]
    simp only [execOp, ho2, he, Sem.run_bind, h, Result.andThen_ok]
    rfl
  · rw [hd]
    exact k w.heap.size _ (Nat.le_refl _) (heap_alloc_new w _) ((Kept.refl _ w).alloc _)
set_option maxRecDepth 100000 in
theorem shead_any (h : BkW w x S g) : Calls Tryz.prog 31 #[ptrV x.bk] w (HeadPost w x S g) := by
  obtain ⟨p0, p1⟩ := h.pg
  have HP := qh (apage_any h 0)
  obtain ⟨POST, hPOST⟩ : ∃ POST, POST = HeadPost w x S g := ⟨_, rfl⟩
  rw [← hPOST]
  have HPO := qh (show ∀ e w', HeadPost w x S g e w' → POST e w' from fun e w' h => by rw [hPOST]; exact h)
  unfold ptrV at HP ⊢
  clear h hPOST
  go_enter Tryz.func31, Tryz.ntmps31
  go_wp2_with fail
  refine HP.out.mono ?_
  rintro e w1 ⟨x1, h1, h2, ⟨h3, rfl⟩ | ⟨h3, y, c, hl, rfl, ho, hn⟩⟩
  · omega
  · have H1 := qh h1
    have H2 := qh h2
    have HO := qh ho
    have HN := qh hn
    have HL := qh hl
    obtain ⟨l, hl0⟩ : ∃ l, l = S.now 0 := ⟨_, rfl⟩
    rw [← hl0] at HO HL
    have HLE := qh hl0
    clear h1 h2 ho hn hl hl0 HP h3
    have hc : 512 ≤ c := by
      obtain ⟨cur, _, _, hcap, _⟩ := HO.out.form
      rw [HL.out] at hcap; exact hcap
    go_wp2_with (refine wl_buildY6 rfl rfl rfl rfl rfl (by show 15 < 20; decide) ?_)
    intro gs w2 l2 hb2 hk2
    have H12 := qh (H1.out.keep0 hk2)
    have H22 := qh (H2.out.keep0 hk2)
    have HO2 := qh (HO.out.kept hk2)
    have HPX := qh (prefix6 (some ⟨y, 0, none⟩) (some ⟨gs, 0, none⟩) c 6 l sgnS w2 HL.out hc rfl HO2.out.v.rd (RdB.of_blk hb2))
    clear hb2 hk2 H1 H2 HO
    go_wp2_with fail
    refine HPX.out.mono ?_
    rintro e wx ⟨rfl, rfl⟩
    have HB := qh (show hdrB S.now = (l.take 6 == sgnS) from by rw [HLE.out]; rfl)
    obtain ⟨t, ht⟩ : ∃ t, t = (l.take 6 == sgnS) := ⟨_, rfl⟩
    rw [← ht] at HB ⊢
    clear ht HPX
    cases t with
    | true =>
      go_wp2
      refine HPO.out _ _ ⟨x1, H12.out, H22.out, .inr ⟨HB.out, y, c, by rw [← HLE.out]; exact HL.out, rfl, by rw [← HLE.out]; exact HO2.out, HN.out⟩⟩
    | false =>
      go_wp2
      refine HPO.out _ _ ⟨x1, H12.out, H22.out, .inl ⟨HB.out, rfl⟩⟩
end
end Go.Proofs.YtfgagakepmigbaaGreat
namespace Go.Proofs.YtfgagakepmigbaaGreat
open Go.RowKit
theorem bit_and (x : UInt8) {j : Nat} (hj : j < 8) : (bits BinOp.and IntKind.u8 (x.toNat : Int) ((2 ^ j : Nat) : Int) != 0) = bitB x j := by
  have h := all_bits (fun x j => (bits BinOp.and IntKind.u8 (x : Int) ((2 ^ j : Nat) : Int) != 0) == bitB (UInt8.ofNat x) j) (by decide +kernel) x hj
  rw [UInt8.ofNat_toNat] at h
  exact eq_of_beq h
theorem bit_or (x : UInt8) {j : Nat} (hj : j < 8) : bits BinOp.or IntKind.u8 (x.toNat : Int) ((2 ^ j : Nat) : Int) = ((orB x j).toNat : Int) := by
  have h := all_bits (fun x j => bits BinOp.or IntKind.u8 (x : Int) ((2 ^ j : Nat) : Int) == ((orB (UInt8.ofNat x) j).toNat : Int)) (by decide +kernel) x hj
  rw [UInt8.ofNat_toNat] at h
  exact eq_of_beq h
theorem bit_andn (x : UInt8) {j : Nat} (hj : j < 8) : bits BinOp.andNot IntKind.u8 (x.toNat : Int) ((2 ^ j : Nat) : Int) = ((andnB x j).toNat : Int) := by
  have h := all_bits (fun x j => bits BinOp.andNot IntKind.u8 (x : Int) ((2 ^ j : Nat) : Int) == ((andnB (UInt8.ofNat x) j).toNat : Int)) (by decide +kernel) x hj
  rw [UInt8.ofNat_toNat] at h
  exact eq_of_beq h
theorem bit_shr (x : UInt8) {j : Nat} (hj : j < 8) : bits BinOp.and IntKind.u8 ((x.toNat : Int) / 2 ^ j) 1 = if bitB x j = true then 1 else 0 := by
  have h := all_bits (fun x j => bits BinOp.and IntKind.u8 ((x : Int) / 2 ^ j) 1 == if bitB (UInt8.ofNat x) j = true then 1 else 0) (by decide +kernel) x hj
  rw [UInt8.ofNat_toNat] at h
  exact eq_of_beq h
section
variable {w w' : World} {x : BAdr} {S : BkA} {g : Nat}
set_option maxRecDepth 100000 in
theorem sbit_any (h : BkW w x S g) (q : Nat) (hq : (q : Int) < S.pages) (f : FuncId) (cap : Array Value) (R : Int → World → Prop)
    (hcf : ∀ (a b c : Value) (wz : World), (callFunc f (#[a, b, c] ++ cap)).run Tryz.prog wz = .ok (.enter f (#[a, b, c] ++ cap)) wz)
    (H : ∀ w' x' y c, BTo w x w' x' → BkW w' x' S g → OwnB w' w.heap.size y c (S.now (mapP q)) → (S.now (mapP q)).length = 512 → ¬ x'.K y →
      Calls Tryz.prog f (#[.slice (some ⟨y, 0, none⟩) 512 c, .int .i64 ((q % 4096 / 8 : Nat) : Int), .int .u8 ((2 ^ (q % 8) : Nat) : Int)] ++ cap) w' fun e w' => ∃ n, e = .returned (.int .i64 n) ∧ R n w') :
    Calls Tryz.prog 33 #[ptrV x.bk, .int .i64 q, .func (.func f) #[] cap] w fun e w' => ∃ n, e = .returned (.int .i64 n) ∧ R n w' := by
  obtain ⟨p0, p1⟩ := h.pg
  have hm : 0 ≤ mapP q ∧ mapP q < S.pages := by unfold mapP; omega
  have HP := qh (apage_any h (mapP q))
  have HM := qh hm
  have HH := Lib.hid H
  have em : mapP q = 1 + (q : Int) / 4096 := by unfold mapP; omega
  have HE := Lib.hid em
  have i1 : 0 ≤ (q : Int) := by omega
  rw [em] at HP
  have hpn : ¬ (1 + (q : Int) / 4096 < 0) := by omega
  unfold ptrV at HP ⊢
  clear H hm h em
  go_enter Tryz.func33, Tryz.ntmps33
  go_wp2_with fail
  refine HP.out.mono ?_
  rintro e w1 ⟨x1, h1, h2, ⟨h3, rfl⟩ | ⟨h3, y, c, hl, rfl, ho, hn⟩⟩
  · have := HM.out
    rw [HE.out] at this
    omega
  · rw [← HE.out] at hl ho
    have HC := qh (HH.out w1 x1 y c h1 h2 ho hl hn)
    clear h1 h2 ho hn hl HP h3 HH
    have c1 : ((q % 4096 / 8 : Nat) : Int) = (q : Int) % 4096 / 8 := by omega
    have c2 : ((2 ^ (q % 8) : Nat) : Int) = 2 ^ (q % 8) % 256 := by
      have h : ((List.range 8).all fun j => ((2 ^ j : Nat) : Int) == 2 ^ j % 256) = true := by decide +kernel
      exact eq_of_beq (List.all_eq_true.1 h (q % 8) (List.mem_range.2 (by omega)))
    have HC2 := qh (show Calls Tryz.prog f (#[.slice (some ⟨y, 0, none⟩) 512 c, .int .i64 ((q : Int) % 4096 / 8), .int .u8 (2 ^ (q % 8) % 256)] ++ cap) w1 fun e w' => ∃ n, e = .returned (.int .i64 n) ∧ R n w' from by rw [← c1, ← c2]; exact HC.out)
    clear HC c1 c2
    go_wp2_with fail
    refine HC2.out.mono ?_
    rintro e w2 ⟨n, rfl, hr⟩
    have HR := qh hr
    clear hr HC2
    go_wp2
    go_ret
    exact ⟨n, rfl, HR.out⟩
end
end Go.Proofs.YtfgagakepmigbaaGreat
namespace Go.Proofs.YtfgagakepmigbaaGreat
open Go.RowKit
section
variable {w w' w1 w2 : World} {x x1 : BAdr} {S : BkA} {g : Nat}
theorem BTo.newK {T : Nat → Prop} (h : BTo w x w1 x1) (k : Kept T w1 w2) (hT : ∀ z, T z → w.heap.size ≤ z) : BTo w x w2 x1 := ⟨h.fix, h.k.trans k (fun z hz h' => by have := hT z h'; omega), h.g⟩
theorem BkW.notK (h : BkW w x S g) {y : Nat} {t : TypeId} (hx : IsT w y t) (t1 : t ≠ 118) (t2 : t ≠ 100) (t3 : t ≠ 143) (t4 : t ≠ 133) (t5 : t ≠ 137) (t6 : t ≠ 5) (t7 : t ≠ 2) (t8 : t ≠ 30) : ¬ x.K y := by
  obtain ⟨b, P, L, D, h1, h2⟩ := h
  exact h1.notT hx t1 t2 t3 t4 t5 t6 t7 t8
theorem BkW.lt (h : BkW w x S g) {z : Nat} (hz : x.K z) : z < w.heap.size := by
  obtain ⟨b, P, L, D, h1, h2⟩ := h
  exact h1.lt hz
theorem taken1_any (y c i j tc : Nat) (b0 : Bool) (l : Bytes) (w : World) (ho : w.cell? ⟨y, i, none⟩ = some (.int .u8 (bAt l i).toNat)) (hi : i < 512) (hj : j < 8) (ht : w.heap[tc]? = some (.cells #[.bool b0] 4 (0, 0))) :
    Calls Tryz.prog 63 #[.slice (some ⟨y, 0, none⟩) 512 c, .int .i64 (i : Int), .int .u8 ((2 ^ j : Nat) : Int), .pointer (some ⟨tc, 0, none⟩)] w fun e w' => e = .returned (.int .i64 0) ∧ w'.heap[tc]? = some (.cells #[.bool (bitB (bAt l i) j)] 4 (0, 0)) ∧ Kept (fun z => z = tc) w w' := by
  have hb := bit_and (bAt l i) hj
  have i1 : (i : Int) < 512 := by omega
  obtain ⟨P2, hP2⟩ : ∃ P2 : Int, P2 = ((2 ^ j : Nat) : Int) := ⟨_, rfl⟩
  rw [← hP2] at hb ⊢
  clear hP2
  go_enter Tryz.func63, Tryz.ntmps63
  go_wp2_with (refine wl_store1 rfl _ _ _ rfl tc 0 (.bool (bitB (bAt l i) j)) #[.bool b0] rfl (by first | rfl | exact congrArg Value.bool hb) ht (by kernel_rfl) (by show 0 < 1; decide) rfl ?_)
  intro w2 hb2 hk2
  have HB := qh (show w2.heap[tc]? = some (.cells #[.bool (bitB (bAt l i) j)] 4 (0, 0)) from hb2)
  have HK := qh hk2
  clear hb2 hk2 ht ho
  go_wp2
  go_ret
  exact ⟨rfl, HB.out, HK.out⟩
theorem zeroBool (w : World) : (zeroValue 4).run Tryz.prog w = .ok (.bool false) w := by go_simp
def TakenPost (w : World) (x : BAdr) (S : BkA) (g : Nat) (q : Int) (e : Ending) (w' : World) : Prop := e = .returned (.tuple #[.bool (S.taken q).1, .int .i64 (S.taken q).2]) ∧ ∃ x', BTo w x w' x' ∧ BkW w' x' S g
set_option maxRecDepth 100000 in
theorem staken_any (h : BkW w x S g) (q : Int) : Calls Tryz.prog 30 #[ptrV x.bk, .int .i64 q] w (TakenPost w x S g q) := by
  obtain ⟨p0, p1⟩ := h.pg
  have HH := qh (shead_any h)
  have HB := qh h
  obtain ⟨POST, hPOST⟩ : ∃ POST, POST = TakenPost w x S g q := ⟨_, rfl⟩
  rw [← hPOST]
  have HPO := qh (show ∀ b n w' x', S.taken q = (b, n) → BTo w x w' x' → BkW w' x' S g → POST (.returned (.tuple #[.bool b, .int .i64 n])) w' from fun b n w' x' h1 h2 h3 => by rw [hPOST]; exact ⟨by rw [h1], x', h2, h3⟩)
  have HPG := qh (show 10 ≤ S.pages ∧ S.pages ≤ 32766 from ⟨p0, p1⟩)
  have hmf : ∀ (fn : Fn) (first cap : Array Value) (w : World), (Instr.makeFunc fn first cap).run Tryz.prog w = .ok (.func fn first cap) w := fun _ _ _ _ => rfl
  unfold ptrV at HH ⊢
  clear h hPOST p0 p1
  go_enter Tryz.func30, Tryz.ntmps30
  go_wp2_with fail
  refine HH.out.mono ?_
  rintro e w1 ⟨x1, h1, h2, ⟨h3, rfl⟩ | ⟨h3, y, c, hl, rfl, ho, hn⟩⟩
  · have H1 := qh h1
    have H2 := qh h2
    have H3 := qh (show S.taken q = (false, 4) from by unfold BkA.taken; rw [if_pos h3])
    clear h1 h2 h3 HH
    go_wp2
    exact HPO.out _ _ _ x1 H3.out H1.out H2.out
  · have H1 := qh h1
    have H2 := qh h2
    have H3 := qh (show S.taken q = if q < 0 ∨ S.pages ≤ q then (false, 0) else (takB S.now q.toNat, 0) from by unfold BkA.taken; rw [if_neg (by rw [h3]; decide)])
    have HPN := qh (apages_any h2)
    have hbk : x1.bk = x.bk := h1.fix.bk
    unfold ptrV at HPN
    rw [hbk] at HPN
    have HBK := qh hbk
    obtain ⟨n, hn2⟩ : ∃ n, n = S.pages := ⟨_, rfl⟩
    rw [← hn2] at HPN H3 HPG
    have HN := qh hn2
    clear h1 h2 h3 HH hl ho hn hbk hn2
    by_cases hq0 : q < 0
    · have H4 := qh (show S.taken q = (false, 0) from by rw [H3.out, if_pos (.inl hq0)])
      go_wp2
      exact HPO.out _ _ _ x1 H4.out H1.out H2.out
    · by_cases hq1 : n ≤ q
      · have H4 := qh (show S.taken q = (false, 0) from by rw [H3.out, if_pos (.inr hq1)])
        go_wp2_with fail
        refine HPN.out.mono ?_
        rintro e wx ⟨rfl, rfl⟩
        go_wp2
        exact HPO.out _ _ _ x1 H4.out H1.out H2.out
      · have H4 := qh (show S.taken q = (takB S.now q.toNat, 0) from by rw [H3.out, if_neg (by omega)])
        go_wp2_with fail
        refine HPN.out.mono ?_
        rintro e wx ⟨rfl, rfl⟩
        go_wp2_with (refine wl_alloc1 rfl 4 rfl (.bool false) rfl zeroBool ?_)
        intro tc w2 l2 m2 hb2 hk2
        have HB2 := qh hb2
        have H12 := qh (H1.out.keep0 hk2)
        have H22 := qh (H2.out.keep0 hk2)
        have HL2 := qh (show w.heap.size ≤ tc from by have := H1.out.k.size; omega)
        clear hb2 hk2 l2 m2
        go_wp2_with (refine wl_store1 rfl _ _ _ rfl tc 0 (.bool false) #[.bool false] rfl rfl HB2.out (by kernel_rfl) (by show 0 < 1; decide) rfl ?_)
        intro w3 hb3 hk3
        have HB3 := qh (show w3.heap[tc]? = some (.cells #[.bool false] 4 (0, 0)) from hb3)
        have HNT := qh (show ∀ z, x1.K z → z ≠ tc from fun z hz e => by
          subst e
          exact H22.out.notK ⟨_, _, HB2.out⟩ (by decide) (by decide) (by decide) (by decide) (by decide) (by decide) (by decide) (by decide) hz)
        have H13 := qh (H12.out.newK hk3 (fun z hz => by subst hz; exact HL2.out))
        have H23 := qh (BkW.keep H22.out hk3 HNT.out)
        clear hb3 hk3 HB2 H12 H22 H1 H2 HNT HPN
        obtain ⟨k, hk⟩ : ∃ k : Nat, q = k := ⟨q.toNat, by omega⟩
        subst hk
        have HQ := qh (show (k : Int) < S.pages from by rw [← HN.out]; omega)
        rw [Int.toNat_natCast] at H4
        have HBI := qh (sbit_any H23.out k HQ.out 63 #[.pointer (some ⟨tc, 0, none⟩)] (fun m w' => m = 0 ∧ ∃ x', BTo w x w' x' ∧ BkW w' x' S g ∧ w'.heap[tc]? = some (.cells #[.bool (takB S.now k)] 4 (0, 0)))
          (fun a b c wz => rfl) (fun w' x' y c t1 t2 t3 t4 t5 => by
            have hk8 : k % 4096 / 8 < 512 := by omega
            have hb := t1.k.heap HB3.out (fun hK => H23.out.notK ⟨_, _, HB3.out⟩ (by decide) (by decide) (by decide) (by decide) (by decide) (by decide) (by decide) (by decide) hK)
            refine (taken1_any y c (k % 4096 / 8) (k % 8) tc false (S.now (mapP k)) w' (t3.cellAt (by rw [t4]; exact hk8)) hk8 (by omega) hb).mono ?_
            rintro e w'' ⟨rfl, r1, r2⟩
            refine ⟨0, rfl, rfl, x', (H13.out.trans t1).newK r2 (fun z hz => by subst hz; exact HL2.out), BkW.keep t2 r2 (fun z hz e => ?_), ?_⟩
            · subst e
              exact t2.notK ⟨_, _, hb⟩ (by decide) (by decide) (by decide) (by decide) (by decide) (by decide) (by decide) (by decide) hz
            · rw [r1]
              unfold takB bitP
              rw [show k % 4096 % 8 = k % 8 by omega]))
        unfold ptrV at HBI
        rw [HBK.out] at HBI
        go_wp2_with fail
        refine HBI.out.mono ?_
        rintro e w4 ⟨m, rfl, rfl, x4, h4, h5, h6⟩
        have d0 : w4.cell? ⟨tc, 0, none⟩ = some (.bool (takB S.now k)) := cell_blk h6 rfl
        have HX := qh (⟨h4, h5⟩ : BTo w x w4 x4 ∧ BkW w4 x4 S g)
        clear h4 h5 h6 HBI H13 H23 HB3
        go_wp2
        exact HPO.out _ _ _ x4 H4.out HX.out.1 HX.out.2
end
end Go.Proofs.YtfgagakepmigbaaGreat
