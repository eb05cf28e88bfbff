/-
  No statement is proved here.
-/
import Derived.Test.YtfgagakepmigbaaGreatJBkb
import Derived.Test.YtfgagakepmigbaaGreatJGv
import Derived.Lib.SlBytesConst
import Derived.Laws.BytesArg
import Derived.Test.YtfgagakepmigbaaGreatJGw
import Derived.Laws.ResultCell
import Derived.Laws.Rows
namespace Go.Proofs.YtfgagakepmigbaaGreat
open Go.RowKit
structure MasM where
  seq : Int
  turn : Int
  oldest : Int
deriving DecidableEq
def masC (m : MasM) : Array Value := #[.int .i64 m.seq, .int .i64 m.turn, .int .i64 m.oldest]
def MasM.may (m : MasM) : Prop := 1 ≤ m.seq ∧ m.seq ≤ 2305843009213693952 ∧ 1 ≤ m.turn ∧ m.turn ≤ 2147483646 ∧ 1 ≤ m.oldest ∧ m.oldest ≤ 2305843009213693952
instance (m : MasM) : Decidable m.may := by unfold MasM.may; infer_instance
def mHead (m : MasM) : Bytes := [80, 77, 48, 49] ++ putI m.seq ++ putI m.turn ++ putI m.oldest
def mCrc (m : MasM) : Bytes := beN (crcL (mHead m)) 4
def mBytes (m : MasM) : Bytes := mHead m ++ mCrc m ++ zeros 480
theorem mHead_len (m : MasM) : (mHead m).length = 28 := by unfold mHead; simp [putI_len]
theorem mBytes_len (m : MasM) : (mBytes m).length = 512 := by unfold mBytes mCrc; rw [List.length_append, List.length_append, mHead_len, beN_len, len_zerosY]
set_option maxRecDepth 100000 in
set_option maxHeartbeats 800000 in
theorem may_any12 (m : MasM) (w : World) : Calls Tryz.prog 104 #[.agg (masC m)] w fun e w' => e = .returned (.bool (decide m.may)) ∧ Kept (fun _ => False) w w' := by
  obtain ⟨POST, hPOST⟩ : ∃ POST : Bool → World → Prop, POST = (fun b w' => b = decide m.may ∧ Kept (fun _ => False) w w') := ⟨_, rfl⟩
  have HT := qh (show ∀ w', m.may → Kept (fun _ => False) w w' → POST true w' from fun w' h k => by rw [hPOST]; exact ⟨by rw [decide_eq_true h], k⟩)
  have HF := qh (show ∀ w', ¬ m.may → Kept (fun _ => False) w w' → POST false w' from fun w' h k => by rw [hPOST]; exact ⟨by rw [decide_eq_false h], k⟩)
  have HE := qh (show ∀ b w', POST b w' → (Ending.returned (.bool b) = .returned (.bool (decide m.may)) ∧ Kept (fun _ => False) w w') from fun b w' h => by rw [hPOST] at h; exact ⟨by rw [h.1], h.2⟩)
  clear hPOST
  have HM := qh (show m.may ↔ 1 ≤ m.seq ∧ m.seq ≤ 2305843009213693952 ∧ 1 ≤ m.turn ∧ m.turn ≤ 2147483646 ∧ 1 ≤ m.oldest ∧ m.oldest ≤ 2305843009213693952 from Iff.rfl)
  obtain ⟨s, t, o⟩ := m
  dsimp only at HM
  go_enter Tryz.func104, Tryz.ntmps104
  go_wp2_with (refine wl_box rfl 103 _ rfl (.agg (masC ⟨s, t, o⟩)) rfl ?_)
  intro g w1 l1 l2 hb1 hk1
  have HK1 := qh hk1
  have c0 : w1.cell? ⟨g, 0, none⟩ = some (.int .i64 s) := cell_blk hb1 rfl
  have c1 : w1.cell? ⟨g, 1, none⟩ = some (.int .i64 t) := cell_blk hb1 rfl
  have c2 : w1.cell? ⟨g, 2, none⟩ = some (.int .i64 o) := cell_blk hb1 rfl
  clear hb1 hk1
  by_cases a1 : s ≥ 1
  · by_cases a2 : s ≤ 2305843009213693952
    · by_cases a3 : t ≥ 1
      · by_cases a4 : t ≤ 2147483646
        · by_cases a5 : o ≥ 1
          · by_cases a6 : o ≤ 2305843009213693952
            · go_wp2
              go_ret
              exact HE.out true _ (HT.out _ (HM.out.2 ⟨a1, a2, a3, a4, a5, a6⟩) HK1.out)
            · go_wp2
              go_ret
              exact HE.out false _ (HF.out _ (fun h => by have := HM.out.1 h; omega) HK1.out)
          · go_wp2
            go_ret
            exact HE.out false _ (HF.out _ (fun h => by have := HM.out.1 h; omega) HK1.out)
        · go_wp2
          go_ret
          exact HE.out false _ (HF.out _ (fun h => by have := HM.out.1 h; omega) HK1.out)
      · go_wp2
        go_ret
        exact HE.out false _ (HF.out _ (fun h => by have := HM.out.1 h; omega) HK1.out)
    · go_wp2
      go_ret
      exact HE.out false _ (HF.out _ (fun h => by have := HM.out.1 h; omega) HK1.out)
  · go_wp2
    go_ret
    exact HE.out false _ (HF.out _ (fun h => by have := HM.out.1 h; omega) HK1.out)
theorem bArr3 (a b c : Int) (wz : World) : (Instr.build 167 #[(0, .int .i64 a), (1, .int .i64 b), (2, .int .i64 c)]).run Tryz.prog wz = .ok (.agg #[.int .i64 a, .int .i64 b, .int .i64 c]) wz := run_build wz _ _ _ (by kernel_rfl)
def mL (m : MasM) : List Int := [m.seq, m.turn, m.oldest]
def mTo (m : MasM) (k : Nat) : Bytes := [80, 77, 48, 49] ++ ((mL m).take k).flatMap putI
theorem mTo_len (m : MasM) (k : Nat) : (mTo m k).length ≤ 28 := by
  unfold mTo mL
  match k with
  | 0 => simp
  | 1 => simp [putI_len]
  | 2 => simp [putI_len]
  | k + 3 => simp [putI_len]
theorem mTo_succ (m : MasM) {k : Nat} {x : Int} (h : (mL m)[k]? = some x) : mTo m (k + 1) = mTo m k ++ putI x := by
  unfold mTo
  obtain ⟨hk, hx⟩ := List.getElem?_eq_some_iff.1 h
  rw [List.take_succ_eq_append_getElem hk, hx, List.flatMap_append]
  simp
theorem mTo_3 (m : MasM) : mTo m 3 = mHead m := by unfold mTo mL mHead; simp
theorem wl_appendK {w : World} {ops : Array Oper} {rest : List Oper} {o : Oper} {a : Act} {Q : Exit → Act → World → Prop} (hgd : o.guard = none) (s x : Operand)
    (ho : o.op = .call { callee := .builtin .append, args := #[s, x], argTypes := #[47, 47] }) (base g n : Nat) (l m : Bytes) (hn : l.length = n) (hs : a.eval s = .slice (some ⟨g, 0, none⟩) n n) (hl : RdB w (some ⟨g, 0, none⟩) l) (l0 : l ≠ [])
    (A : Option Addr) (c p : Nat) (hp : m.length = p) (hx : a.eval x = .slice A p c) (hm : RdB w A m) (m0 : m ≠ []) (h63 : n + p ≤ 1000000) (hbase : base ≤ w.heap.size)
    (k : ∀ g' cap' w', OwnB w' base g' cap' (l ++ m) → Kept (fun _ => False) w w' → w.heap.size ≤ g' → wpList Tryz.prog ops Q rest (a.put o.dst (.slice (some ⟨g', 0, none⟩) (n + p) cap')) w') : wpList Tryz.prog ops Q (o :: rest) a w := by
  subst hn
  subst hp
  obtain ⟨i, hi, hz, hsz, hby⟩ := info_parts info5
  have e63 : maxLen = 9223372036854775807 := rfl
  obtain ⟨b, off, rfl, hc⟩ := hm m0
  obtain ⟨g2, o2, e2, hc2⟩ := hl l0
  cases e2
  have hm0 : 0 < m.length := List.length_pos_iff.2 m0
  have hr := run_append_grow (P := Tryz.prog) w 47 o.type 5 i (.int .u8 0) Tryz.underlying47 hi hz ⟨g, 0, none⟩ l.length l.length (cellsOf l).toList (by rw [cellsOf_len, hsz, Nat.mul_one]) (fun j v hv => by rw [Addr.add_mid]; exact hc2 j v (by simpa using hv))
    ⟨b, off, none⟩ m.length c (cellsOf m).toList (by rw [cellsOf_len, hsz, Nat.mul_one]) (fun j v hv => by rw [Addr.add_mid]; exact hc j v (by simpa using hv)) (by omega) (by omega) (growslice_fits (by omega) (by rw [hby]; omega))
  have hge := grownCap_ge w (l.length + m.length) l.length 5
  have hcm : grownCap w (l.length + m.length) l.length 5 ≤ maxLen := grownCap_le_maxLen w (l.length + m.length) l.length 5 (by omega)
  have hk := k w.heap.size (grownCap w (l.length + m.length) l.length 5) (w.drew.alloc (.cells ((cellsOf l).toList.toArray ++ (cellsOf m).toList.toArray ++ Builtin.zeroCells (Value.int .u8 0).cells (grownCap w (l.length + m.length) l.length 5 - (l.length + m.length))) 5)) (by
    unfold OwnB
    refine ⟨by rw [cellsOf_len, Nat.mul_one], .inr ⟨w.heap.size, _, _, by rw [List.length_append], hbase, heap_alloc_new w.drew _, by rw [List.length_append]; exact hge, hcm, ?_, ?_⟩⟩
    · simp only [Array.size_append, List.size_toArray, size_zeroCells, show (Value.int .u8 0).cells = #[Value.int .u8 0] from rfl, cellsOf_len]
      show l.length + m.length + (_ - _) * 1 = _ * 1
      omega
    · rw [cellsOf_append, List.length_append, Nat.mul_one]
      have e1 : ((cellsOf l).toList ++ (cellsOf m).toList).length = l.length + m.length := by rw [List.length_append, cellsOf_len, cellsOf_len]
      rw [← e1]
      simp only [Array.toList_append]
      exact List.take_left) (((Kept.refl (fun _ => False) w).drew).alloc _) (Nat.le_refl _)
  obtain ⟨W, hW⟩ : ∃ W, W = (w.drew.alloc (.cells ((cellsOf l).toList.toArray ++ (cellsOf m).toList.toArray ++ Builtin.zeroCells (Value.int .u8 0).cells (grownCap w (l.length + m.length) l.length 5 - (l.length + m.length))) 5)) := ⟨_, rfl⟩
  rw [← hW] at hr hk
  clear hW
  refine wpList_plain hgd fun K hK => ?_
  unfold Oper.wp
  simp [execOp, ho, resolve, invoke, builtin, hs, hx, hr, Result.andThen]
  exact hK _ _ hk
set_option maxRecDepth 100000 in
set_option maxHeartbeats 1600000 in
theorem mbytes_any (m : MasM) (w : World) (h1 : isI m.seq) (h2 : isI m.turn) (h3 : isI m.oldest) :
    Calls Tryz.prog 106 #[.agg (masC m)] w fun e w' => ∃ g cap, e = .returned (.slice (some ⟨g, 0, none⟩) 512 cap) ∧ OwnB w' w.heap.size g cap (mBytes m) ∧ Kept (fun _ => False) w w' := by
  have HI := qh (show ∀ x ∈ mL m, isI x from fun x h => by
    have e : mL m = [m.seq, m.turn, m.oldest] := rfl
    rw [e] at h
    simp only [List.mem_cons, List.not_mem_nil, or_false] at h
    rcases h with rfl | rfl | rfl
    · exact h1
    · exact h2
    · exact h3)
  have HL := qh (show mL m = [m.seq, m.turn, m.oldest] from rfl)
  clear h1 h2 h3
  have BA := bArr3
  have KC := fun (w : World) (C : Array Value) (n c : Nat) => Lib.run_convert_bytes_const (P := Tryz.prog) w 47 5 C n c Tryz.underlying47 Tryz.underlying5
  go_enter Tryz.func106, Tryz.ntmps106
  go_wp2_with (refine wl_box rfl 103 _ rfl (.agg (masC m)) rfl ?_)
  intro gm w1 l1 l2 hb1 hk1
  have HK1 := qh hk1
  have c0 : w1.cell? ⟨gm, 0, none⟩ = some (.int .i64 m.seq) := cell_blk hb1 rfl
  have c1 : w1.cell? ⟨gm, 1, none⟩ = some (.int .i64 m.turn) := cell_blk hb1 rfl
  have c2 : w1.cell? ⟨gm, 2, none⟩ = some (.int .i64 m.oldest) := cell_blk hb1 rfl
  clear hb1 hk1
  go_wp2_with fail
  obtain ⟨C, hC⟩ : ∃ C : Array Value, C = #[Value.int IntKind.u8 80, Value.int IntKind.u8 77, Value.int IntKind.u8 48, Value.int IntKind.u8 49] := ⟨_, rfl⟩
  rw [← hC]
  obtain ⟨w2, hw2⟩ : ∃ w2, w2 = w1.alloc (.cells C 5 (4, 5)) := ⟨_, rfl⟩
  obtain ⟨nb, hnb⟩ : ∃ nb, nb = w1.heap.size := ⟨_, rfl⟩
  have HR := qh (show RdB w2 (some ⟨nb, 0, none⟩) [80, 77, 48, 49] from by
    rw [hw2, hnb]
    exact RdB.of_blk (t := 5) (fr := (4, 5)) (by rw [hC]; exact heap_alloc_new w1 _))
  have HK2 := qh (show Kept (fun _ => False) w w2 from by rw [hw2]; exact HK1.out.alloc _)
  have hwz : w2 = w1.alloc (.cells C 5 (4, 5)) := hw2
  first | rw [← hwz] | skip
  first | rw [← hnb] | skip
  clear hC hwz hw2 hnb c0 c1 c2
  go_loopw [3, 16] (fun b i wr => ∃ k : Nat, k ≤ 3 ∧ i = .int .i64 k ∧ Kept (fun _ => False) w wr ∧ (k = 0 ∧ b = .slice (some ⟨nb, 0, none⟩) 4 4 ∧ RdB wr (some ⟨nb, 0, none⟩) [80, 77, 48, 49] ∨ 0 < k ∧ ∃ g cap, b = .slice (some ⟨g, 0, none⟩) (mTo m k).length cap ∧ OwnB wr w.heap.size g cap (mTo m k))) (fun b i wr => 3 - (intOf i).toNat)
  case atStart => exact ⟨0, by omega, rfl, HK2.out, .inl ⟨rfl, rfl, HR.out⟩⟩
  case round =>
    obtain ⟨k, hk, rfl, hkr, hb⟩ := hrel
    have HK := qh hkr
    have HB := qh hb
    clear hkr hb HR HK2
    by_cases hlt : k < 3
    · have i1 : (k : Int) < 3 := by omega
      obtain ⟨x, hx⟩ : ∃ x, (mL m)[k]? = some x := ⟨_, List.getElem?_eq_getElem (show k < 3 from hlt)⟩
      have hxi := HI.out x (List.mem_of_getElem? hx)
      have HX := qh hx
      have HIX := qh (show ∀ wz : World, (Instr.index 167 (.agg #[.int .i64 m.seq, .int .i64 m.turn, .int .i64 m.oldest]) (.int .i64 k)).run Tryz.prog wz = .ok (.int .i64 x) wz from by
        rcases (show k = 0 ∨ k = 1 ∨ k = 2 by omega) with rfl | rfl | rfl
        · cases hx; intro wz; kernel_rfl
        · cases hx; intro wz; kernel_rfl
        · cases hx; intro wz; kernel_rfl)
      have hix := HIX.out
      clear hx
      go_wp2_with fail
      refine (putI_any x hxi.1 hxi.2 wr).mono ?_
      rintro e w3 ⟨g2, rfl, ho2, hk2⟩
      have HO2 := qh ho2
      have HK2 := qh hk2
      have HK3 := qh (HK.out.trans0 hk2)
      have HTS := qh (mTo_succ m HX.out)
      have HPL := qh (putI_len x)
      have hml := mTo_len m k
      have hsz := HK3.out.size
      have HB0 := HB.out
      clear ho2 hk2 hix HB
      rcases HB0 with ⟨rfl, rfl, hr⟩ | ⟨hk0, g, cap, rfl, ho⟩
      · have HR := qh (hr.kept HK2.out (fun _ _ _ _ => id))
        clear hr
        go_wp2_with (at_builtin; refine wl_appendK rfl _ _ rfl w.heap.size nb 4 [80, 77, 48, 49] (putI x) rfl rfl HR.out (by simp) (some ⟨g2, 0, none⟩) 8 8 HPL.out rfl HO2.out.v.rd (by intro h; have := HPL.out; rw [h] at this; simp at this) (by omega) hsz ?_)
        intro g' cap' w4 ho4 hk4 hg4
        have HO4 := qh (show OwnB w4 w.heap.size g' cap' (mTo m 1) from by rw [HTS.out]; exact ho4)
        have HK4 := qh (HK3.out.trans0 hk4)
        clear ho4 hk4
        go_wp2
        go_roundw
        case rel => exact ⟨1, by omega, by go_num, HK4.out, .inr ⟨by omega, g', cap', rfl, HO4.out⟩⟩
        case measure => simp [intOf]
      · have HO := qh (ho.keep HK2.out id)
        have hgb := ho.base_le
        clear ho
        obtain ⟨T, hT⟩ : ∃ T, T = mTo m k := ⟨_, rfl⟩
        rw [← hT] at HO HTS hml ⊢
        obtain ⟨p, hp⟩ : ∃ p, p = putI x := ⟨_, rfl⟩
        rw [← hp] at HO2 HTS HPL
        clear hT hp
        obtain ⟨q8, hq8⟩ : ∃ q8 : Nat, q8 = p.length := ⟨_, rfl⟩
        have HQ8 := qh hq8
        have HP8 := qh (show q8 = 8 by rw [hq8]; exact HPL.out)
        clear hq8
        go_wp2_with (at_builtin; refine wl_appendB rfl _ _ rfl w.heap.size g cap T p rfl HO.out (some ⟨g2, 0, none⟩) 8 (by rw [HPL.out]; rfl) HO2.out.v.rd (by rw [HPL.out]; omega) hsz ?_)
        intro g' cap' w4 ho4 hk4 hat4 hlt4
        have HO4 := qh (show OwnB w4 w.heap.size g' cap' (mTo m (k + 1)) from by rw [HTS.out]; exact ho4)
        have HK4 := qh (HK3.out.new hk4 (fun z hz => by subst hz; exact hgb))
        have HL4 := qh (show T.length + p.length = (mTo m (k + 1)).length from by rw [HTS.out, List.length_append])
        clear ho4 hk4
        go_wp2
        go_roundw
        case rel => exact ⟨k + 1, by omega, by go_num, HK4.out, .inr ⟨by omega, g', cap', by rw [HL4.out], HO4.out⟩⟩
        case measure => simp [intOf]; omega
    · have ek : k = 3 := by omega
      subst ek
      have HB0 := HB.out
      rcases HB0 with ⟨h0, _⟩ | ⟨_, g, cap, rfl, ho⟩
      · exact absurd h0 (by decide)
      · rw [mTo_3] at ho
        rw [mTo_3, mHead_len]
        have HO := qh ho
        have hgb := ho.base_le
        have hsz := HK.out.size
        clear ho HB
        obtain ⟨H, hH⟩ : ∃ H, H = mHead m := ⟨_, rfl⟩
        have HHL := qh (show H.length = 28 by rw [hH]; exact mHead_len m)
        have HBY := qh (show mBytes m = H ++ beN (crcL H) 4 ++ zeros 480 by rw [hH]; rfl)
        rw [← hH] at HO
        clear hH
        have HCS := qh (csum_any (some ⟨g, 0, none⟩) 28 cap H wr HHL.out HO.out.v.rd (by decide))
        obtain ⟨C2, hC2⟩ : ∃ C2, C2 = crcL H := ⟨_, rfl⟩
        have hC2l : C2 < 2 ^ 32 := by rw [hC2]; exact crcL_lt H
        rw [← hC2] at HCS HBY
        clear hC2
        go_wp2_with fail
        refine HCS.out.mono ?_
        rintro e w3 ⟨rfl, rfl⟩
        clear HCS
        obtain ⟨B0, hB0⟩ : ∃ B : UInt8, B = UInt8.ofNat (C2 / 256 ^ 3) := ⟨_, rfl⟩
        obtain ⟨B1, hB1⟩ : ∃ B : UInt8, B = UInt8.ofNat (C2 / 256 ^ 2) := ⟨_, rfl⟩
        obtain ⟨B2, hB2⟩ : ∃ B : UInt8, B = UInt8.ofNat (C2 / 256 ^ 1) := ⟨_, rfl⟩
        obtain ⟨B3, hB3⟩ : ∃ B : UInt8, B = UInt8.ofNat (C2 / 256 ^ 0) := ⟨_, rfl⟩
        have HBE := qh (show beN C2 4 = [B0, B1, B2, B3] by rw [hB0, hB1, hB2, hB3]; rfl)
        have e0 : (C2 : Int) / 16777216 = (B0.toNat : Int) := by rw [hB0, UInt8.toNat_ofNat']; omega
        have e1 : (C2 : Int) / 65536 % 256 = (B1.toNat : Int) := by rw [hB1, UInt8.toNat_ofNat']; omega
        have e2 : (C2 : Int) / 256 % 256 = (B2.toNat : Int) := by rw [hB2, UInt8.toNat_ofNat']; omega
        have e3 : (C2 : Int) % 256 = (B3.toNat : Int) := by rw [hB3, UInt8.toNat_ofNat']; omega
        clear hB0 hB1 hB2 hB3
        have HOA := qh (HO.out.keep ((Kept.refl (fun _ => False) wr).alloc (.cells #[.int .u8 B0.toNat, .int .u8 B1.toNat, .int .u8 B2.toNat, .int .u8 B3.toNat] 5)) id)
        have HKA := qh (HK.out.alloc (.cells #[.int .u8 B0.toNat, .int .u8 B1.toNat, .int .u8 B2.toNat, .int .u8 B3.toNat] 5))
        have HRD := qh (RdB.of_blk (l := [B0, B1, B2, B3]) (heap_alloc_new wr (.cells #[.int .u8 B0.toNat, .int .u8 B1.toNat, .int .u8 B2.toNat, .int .u8 B3.toNat] 5)))
        go_wp2_with (at_builtin; refine wl_appendB rfl _ _ rfl w.heap.size g cap H [B0, B1, B2, B3] (by rw [HHL.out]; rfl) HOA.out (some ⟨wr.heap.size, 0, none⟩) 4 rfl HRD.out (by rw [HHL.out]; simp) HKA.out.size ?_)
        intro g5 cap5 w5 ho5 hk5 hat5 hlt5
        rw [← HBE.out] at ho5
        obtain ⟨H2, hH2⟩ : ∃ H2, H2 = H ++ beN C2 4 := ⟨_, rfl⟩
        have HL2 := qh (show H2.length = 32 by rw [hH2, List.length_append, HHL.out, beN_len])
        rw [← hH2] at ho5 HBY
        have HO5 := qh ho5
        have HK5 := qh (HKA.out.new hk5 (fun z hz => by subst hz; exact hgb))
        have hg5 := ho5.base_le
        have hsz5 := HK5.out.size
        have hle := HHL.out
        have x480 : wrap64 (512 - 32) = 480 := by unfold wrap64; omega
        clear ho5 hk5 hat5 hlt5 hH2 HBE HOA HKA HRD e0 e1 e2 e3
        go_wp2_with (at_builtin; refine wl_appendZ rfl _ _ rfl w.heap.size g5 cap5 H2 (by rw [HL2.out]; show Value.slice _ (H.length + 4) _ = _; rw [HHL.out]) HO5.out 480 (by first | rfl | simp) (by decide) (by rw [HL2.out]; decide) hsz5 ?_)
        intro g6 cap6 w6 ho6 hk6 hat6
        rw [← HBY.out] at ho6
        have HO6 := qh ho6
        have HK6 := qh (HK5.out.new hk6 (fun z hz => by subst hz; exact hg5))
        have hle2 := HL2.out
        clear ho6 hk6 hat6
        go_wp2
        go_ret
        exact ⟨g6, cap6, by show Ending.returned (.slice _ (H2.length + 480) cap6) = _; rw [HL2.out], HO6.out, HK6.out⟩
end Go.Proofs.YtfgagakepmigbaaGreat
namespace Go.Proofs.YtfgagakepmigbaaGreat
open Go.RowKit
section
variable {P : Program} {ops : Array Oper} {Q : Exit → Act → World → Prop} {md : Region.Mode} {S : World → Prop} {last : Nat}
theorem forkB (i j : Nat) {l : List Oper} {oi oj : Oper} {fuel : Nat} {listed : Array Bool} {a : Act} {w : World} (hi : atL l i = some oi) (hj : atL l j = some oj) (hr : Region.ready md l.toArray listed = [i, j])
    (h1 : ∀ K' : Act → World → Prop, RowKit.Hid (∀ a w, (i ≠ last → S w) → ((i ≠ last → S w) → wpAnyL P md l.toArray Q S last fuel (listed.setIfInBounds i true) a w) → K' a w) → if Region.wanted oi (yielded l.toArray a.tmps) = true then Oper.wp P oi a w K' Q else K' (a.put oi.dst undef) w)
    (h2 : ∀ K' : Act → World → Prop, RowKit.Hid (∀ a w, (j ≠ last → S w) → ((j ≠ last → S w) → wpAnyL P md l.toArray Q S last fuel (listed.setIfInBounds j true) a w) → K' a w) → if Region.wanted oj (yielded l.toArray a.tmps) = true then Oper.wp P oj a w K' Q else K' (a.put oj.dst undef) w) :
    wpAnyL P md l.toArray Q S last (fuel + 1) listed a w := by
  have hi' : l.toArray[i]? = some oi := by rw [← hi, atL_spec]; simp
  have hj' : l.toArray[j]? = some oj := by rw [← hj, atL_spec]; simp
  refine ⟨fun h0 => (by rw [hr] at h0; cases h0), ?_⟩
  rw [hr]
  intro x hx
  simp only [List.mem_cons, List.not_mem_nil, or_false] at hx
  rcases hx with rfl | rfl
  · exact wpOp_step hi' (fun K' hK => h1 K' (qh (fun a w hS hW => hK a w ⟨hS, hW hS⟩)))
  · exact wpOp_step hj' (fun K' hK => h2 K' (qh (fun a w hS hW => hK a w ⟨hS, hW hS⟩)))
end
theorem results_cell_rowM {P : Program} {fn : Func} {p u : Tmp} {ty : TypeId} (h : fn.results = #[.cell p ty, .tmp u]) (tmps : Array Value) (w : World) (g : Nat) (cs : Array Value) {t : TypeId} {fr : Nat × Nat} {d : TypeDesc} (hp : tmps.getD p undef = .pointer (some ⟨g, 0, none⟩)) (hg : w.heap[g]? = some (.cells cs t fr))
    (hu : P.underlying ty = some d) (hd : (match d with | .struct _ | .array _ _ => true | _ => false) = true) (hi : (P.info? ty).map (·.size) = some cs.size) : (results fn tmps).run P w = .ok (.tuple #[.agg cs, tmps.getD u undef]) w := by
  rw [results_cell_tmp h, hp]
  simp [asAddr, Result.andThen, run_loadVar_row w g t ty cs fr d hg hu hd hi]
def zM : MasM := ⟨0, 0, 0⟩
def decM (l : Bytes) : MasM := ⟨getI (l.drop 4), getI (l.drop 12), getI (l.drop 20)⟩
def masterM (l : Bytes) (k : Int) : MasM × Bool := if ¬ (decM l).may ∨ (decM l).seq.tmod 2 ≠ k then (zM, false) else (decM l, decide (mBytes (decM l) = l))
theorem getI_isI (l : Bytes) : isI (getI l) := by
  have h := valN_lt (l.take 8)
  have h2 : (256 : Nat) ^ (l.take 8).length ≤ 256 ^ 8 := Nat.pow_le_pow_right (by decide) (by rw [List.length_take]; omega)
  unfold getI isI
  have h3 : valN (l.take 8) 0 < 256 ^ 8 := Nat.lt_of_lt_of_le h h2
  omega
theorem infoMas : (Tryz.prog.info? 103).map (fun i => (i.zero, i.size)) = some (some (.agg (masC zM)), 3) := by kernel_rfl
theorem zeroMas (w : World) : (zeroValue 103).run Tryz.prog w = .ok (.agg (masC zM)) w := (zero_of_info infoMas).1 w
theorem sizeMas : (Tryz.prog.info? 103).map (·.size) = some 3 := (zero_of_info infoMas).2
theorem one_mas (m : MasM) : (masC m).all (·.oneCell') = true := by simp [masC, Value.oneCell']
theorem bM0 (wz : World) : (Instr.build 103 #[]).run Tryz.prog wz = .ok (.agg (masC zM)) wz := run_build wz _ _ _ (by kernel_rfl)
theorem bM3 (a b c : Int) (wz : World) : (Instr.build 103 #[(0, .int .i64 a), (1, .int .i64 b), (2, .int .i64 c)]).run Tryz.prog wz = .ok (.agg #[.int .i64 a, .int .i64 b, .int .i64 c]) wz := run_build wz _ _ _ (by kernel_rfl)
theorem zeroArr3 (w : World) : (zeroValue 167).run Tryz.prog w = .ok (.agg #[.int .i64 0, .int .i64 0, .int .i64 0]) w := (zero_of_info (n := 3) (by kernel_rfl)).1 w
theorem conv_str {w : World} {A : Option Addr} {c n : Nat} {l : Bytes} (hn : l.length = n) (h : RdB w A l) (h0 : 0 < n) : (convert 47 9 (.slice A n c)).run Tryz.prog w = .ok (.string ⟨l.toArray⟩) w := by
  subst hn
  obtain ⟨b, off, rfl, -⟩ := h (by rintro rfl; simp at h0)
  have := run_convert_bytes_arg (P := Tryz.prog) w 47 5 Tryz.underlying47 Tryz.underlying5 b off l.length c (l.map fun x => (x.toNat : Int)) (by simp) (fun i hi => by
    obtain ⟨b', off', e, hc⟩ := h.cell hi
    cases e
    rw [hc, List.getD_eq_getElem?_getD, List.getElem?_map, List.getElem?_eq_getElem hi, bAt_get hi]
    rfl) 9 Tryz.underlying9
  have e : (fun n : Int => UInt8.ofNat n.toNat) ∘ (fun x : UInt8 => (x.toNat : Int)) = id := by
    funext x; simp
  have e2 : strOfNums (l.map fun x => (x.toNat : Int)) = ⟨l.toArray⟩ := by
    unfold strOfNums
    rw [List.map_map, e, List.map_id]
  rw [this, e2]
def mArr (l : Bytes) (k : Nat) : Array Value := #[.int .i64 (if 0 < k then getI (l.drop 4) else 0), .int .i64 (if 1 < k then getI (l.drop 12) else 0), .int .i64 (if 2 < k then getI (l.drop 20) else 0)]
theorem mArr_set (l : Bytes) {k : Nat} (hk : k < 3) : (mArr l k).setIfInBounds k (.int .i64 (getI (l.drop (4 + 8 * k)))) = mArr l (k + 1) := by
  rcases (show k = 0 ∨ k = 1 ∨ k = 2 by omega) with rfl | rfl | rfl <;> rfl
set_option maxRecDepth 100000 in
set_option maxHeartbeats 1600000 in
theorem master_any (A : Option Addr) (c : Nat) (l : Bytes) (k : Int) (w : World) (h : RdB w A l) (hl : l.length = 512) (hc : 512 ≤ c) (hc2 : c ≤ 9223372036854775807) :
    Calls Tryz.prog 107 #[.slice A 512 c, .int .i64 k] w fun e w' => e = .returned (.tuple #[.agg (masC (masterM l k).1), .bool (masterM l k).2]) ∧ Kept (fun _ => False) w w' := by
  obtain ⟨b, off, rfl, -⟩ := h (by rintro rfl; simp at hl)
  have H := qh h
  have HL := qh hl
  clear h hl
  have B0 := bM0
  have BA := bM3
  go_enter Tryz.func107, Tryz.ntmps107
  go_wp2_with (refine wl_alloc' rfl 103 rfl (masC zM) zeroMas ?_)
  intro pr w1 l1 m1 hb1 hk1
  have HP := qh hb1
  have HK1 := qh hk1
  clear hb1 hk1
  go_wp2_with (refine wl_alloc' rfl 167 rfl #[.int .i64 0, .int .i64 0, .int .i64 0] zeroArr3 ?_)
  intro ga w2 l2 m2 hb2 hk2
  have HG := qh (show w2.heap[ga]? = some (.cells (mArr l 0) 167 (0, 0)) from hb2)
  have HP2 := qh (hk2.heap HP.out id)
  have HK2 := qh (HK1.out.trans0 hk2)
  have hne : pr ≠ ga := by have := heap_lt HP.out; omega
  clear hb2 hk2 HP HK1
  go_wp2_with fail
  go_loopw [13] (fun i wr => ∃ j : Nat, j ≤ 3 ∧ i = .int .i64 j ∧ wr.heap[ga]? = some (.cells (mArr l j) 167 (0, 0)) ∧ wr.heap[pr]? = some (.cells (masC zM) 103 (0, 0)) ∧ Kept (fun _ => False) w wr) (fun i wr => 3 - (intOf i).toNat)
  case atStart => exact ⟨0, by omega, rfl, HG.out, HP2.out, HK2.out⟩
  case round =>
    obtain ⟨j, hj, rfl, hg, hp, hkr⟩ := hrel
    have HG := qh hg
    have HP := qh hp
    have HK := qh hkr
    clear hg hp hkr HP2 HK2
    by_cases hlt : j < 3
    · have i1 : (j : Int) < 3 := by omega
      have x1 : wrap64 (8 * (j : Int)) = 8 * (j : Int) := by unfold wrap64; omega
      have x2 : wrap64 (4 + 8 * (j : Int)) = ((4 + 8 * j : Nat) : Int) := by unfold wrap64; omega
      have hA : slA (some ⟨b, off, none⟩) (4 + 8 * j) c = some ⟨b, off + (4 + 8 * j), none⟩ := by unfold slA; rw [if_neg (by omega)]; simp [Addr.add_mid]
      have HGT := qh (getI_any (slA (some ⟨b, off, none⟩) (4 + 8 * j) c) (512 - (4 + 8 * j)) (c - (4 + 8 * j)) (l.drop (4 + 8 * j)) wr (by rw [List.length_drop, HL.out]) ((H.out.kept HK.out (fun _ _ _ _ => id)).sl _ c (by rw [HL.out]; exact hc)) (by omega))
      obtain ⟨x, hx⟩ : ∃ x, x = getI (l.drop (4 + 8 * j)) := ⟨_, rfl⟩
      rw [← hx, hA] at HGT
      have HX := qh hx
      clear hx hA
      go_wp2_with fail
      refine HGT.out.mono ?_
      rintro e wx ⟨rfl, rfl⟩
      clear HGT
      go_wp2_with (refine wl_store1 rfl _ _ _ rfl ga j (.int .i64 x) (mArr l j) rfl rfl HG.out (by kernel_rfl) (by show j < 3; omega) rfl ?_)
      intro w4 hb4 hk4
      rw [HX.out, mArr_set l hlt] at hb4
      have HG4 := qh hb4
      have HP4 := qh (hk4.heap HP.out (fun e => hne e))
      have HK4 := qh (HK.out.new hk4 (fun z hz => by subst hz; have := l2; have := l1; omega))
      clear hb4 hk4
      go_wp2
      go_roundw
      case rel => exact ⟨j + 1, by omega, by go_num, HG4.out, HP4.out, HK4.out⟩
      case measure => simp [intOf]; omega
    · have ej : j = 3 := by omega
      subst ej
      have ea : mArr l 3 = #[.int .i64 (getI (l.drop 4)), .int .i64 (getI (l.drop 12)), .int .i64 (getI (l.drop 20))] := rfl
      obtain ⟨s, t, o, hd⟩ : ∃ s t o, decM l = ⟨s, t, o⟩ := ⟨_, _, _, rfl⟩
      have hg3 := HG.out
      rw [ea] at hg3
      have q0 : getI (l.drop 4) = s := congrArg MasM.seq hd
      have q1 : getI (l.drop 12) = t := congrArg MasM.turn hd
      have q2 : getI (l.drop 20) = o := congrArg MasM.oldest hd
      have HIS := qh (show isI s ∧ isI t ∧ isI o from ⟨by rw [← q0]; exact getI_isI _, by rw [← q1]; exact getI_isI _, by rw [← q2]; exact getI_isI _⟩)
      rw [q0, q1, q2] at hg3
      have HD := qh hd
      have g0 : wr.cell? ⟨ga, 0, none⟩ = some (.int .i64 s) := cell_blk hg3 rfl
      have g1 : wr.cell? ⟨ga, 1, none⟩ = some (.int .i64 t) := cell_blk hg3 rfl
      have g2 : wr.cell? ⟨ga, 2, none⟩ = some (.int .i64 o) := cell_blk hg3 rfl
      clear hg3 q0 q1 q2 hd ea
      go_wp2_with (refine wl_alloc' rfl 103 rfl (masC zM) zeroMas ?_)
      intro gm w4 l4 m4 hb4 hk4
      refine wl_store_row rfl 103 _ _ rfl gm (masC ⟨s, t, o⟩) (masC zM) rfl rfl hb4 sizeMas rfl (one_mas _) ?_
      intro w5 hb5 hk5
      have hk45 : Kept (fun _ => False) wr w5 := hk4.new hk5 (fun z hz => by subst hz; exact l4)
      have HM5 := qh hb5
      have HP5 := qh (hk45.heap HP.out id)
      have HK5 := qh (HK.out.trans0 hk45)
      have HMY := qh (may_any12 ⟨s, t, o⟩ w5)
      have c0 : w5.cell? ⟨gm, 0, none⟩ = some (.int .i64 s) := cell_blk hb5 rfl
      have c1 : w5.cell? ⟨gm, 1, none⟩ = some (.int .i64 t) := cell_blk hb5 rfl
      have c2 : w5.cell? ⟨gm, 2, none⟩ = some (.int .i64 o) := cell_blk hb5 rfl
      have hprm : pr < gm := by have := heap_lt HP.out; omega
      clear hb4 hk4 hb5 hk5 hk45 g0 g1 g2 HG HP HK
      go_wp2_with fail
      refine HMY.out.mono ?_
      rintro e w6 ⟨rfl, hk6⟩
      have HM6 := qh (hk6.heap HM5.out id)
      have HP6 := qh (hk6.heap HP5.out id)
      have HK6 := qh (HK5.out.trans0 hk6)
      have c0 : w6.cell? ⟨gm, 0, none⟩ = some (.int .i64 s) := cell_blk HM6.out rfl
      clear hk6 HMY HM5 HP5 HK5
      have HNO := qh (show ¬ (MasM.may ⟨s, t, o⟩ ∧ s.tmod 2 = k) → masterM l k = (zM, false) from fun h => by
        unfold masterM
        rw [HD.out]
        rw [if_pos]
        by_cases hm : MasM.may ⟨s, t, o⟩
        · exact .inr (fun e => h ⟨hm, e⟩)
        · exact .inl hm)
      have HYES := qh (show MasM.may ⟨s, t, o⟩ → s.tmod 2 = k → masterM l k = (⟨s, t, o⟩, decide (mBytes ⟨s, t, o⟩ = l)) from fun h1 h2 => by
        unfold masterM
        rw [HD.out]
        rw [if_neg]
        rintro (h | h)
        · exact h h1
        · exact h h2)
      have REJ : ∀ wz, Kept (fun _ => False) w wz → wz.heap[pr]? = some (.cells (masC zM) 103 (0, 0)) → True := fun _ _ _ => trivial
      clear REJ
      by_cases hm : MasM.may ⟨s, t, o⟩
      · rw [decide_eq_true hm]
        have HMM := qh hm
        clear hm
        by_cases hs : s.tmod 2 = k
        · have hsb : (s.tmod 2 != k) = false := by rw [bne_eq_false_iff_eq]; exact hs
          have HS := qh hs
          have HMB := qh (fun wz => mbytes_any ⟨s, t, o⟩ wz HIS.out.1 HIS.out.2.1 HIS.out.2.2)
          have HS0 := qh (show (w6.drew).heap[gm]? = some (.cells (masC ⟨s, t, o⟩) 103 (0, 0)) ∧ (w6.drew).heap[pr]? = some (.cells (masC zM) 103 (0, 0)) ∧ RdB (w6.drew) (some ⟨b, off, none⟩) l from ⟨HM6.out, HP6.out, H.out.kept HK6.out.drew (fun _ _ _ _ => id)⟩)
          have HC := qh (fun (w' : World) (h : w'.heap[gm]? = some (.cells (masC ⟨s, t, o⟩) 103 (0, 0))) => show w'.cell? ⟨gm, 0, none⟩ = some (.int .i64 s) ∧ w'.cell? ⟨gm, 1, none⟩ = some (.int .i64 t) ∧ w'.cell? ⟨gm, 2, none⟩ = some (.int .i64 o) from ⟨cell_blk h rfl, cell_blk h rfl, cell_blk h rfl⟩)
          have hpg : pr ≠ gm := by omega
          go_wp2_with fail
          refine startL 8 (fun w' => w'.heap[gm]? = some (.cells (masC ⟨s, t, o⟩) 103 (0, 0)) ∧ (∃ n : MasM, w'.heap[pr]? = some (.cells (masC n) 103 (0, 0))) ∧ RdB w' (some ⟨b, off, none⟩) l) (by kernel_rfl) ⟨HS0.out.1, ⟨_, HS0.out.2.1⟩, HS0.out.2.2⟩ (fun hH => ?_)
          simp only [List.length_cons, List.length_nil, List.replicate]
          refine tK 0 ?_ (fun w' hw' => ?_) hH ?_
          rotate_left
          · obtain ⟨c0, c1, c2⟩ := HC.out w' hw'.1
            go_simp <;> with_reducible rfl
          simp only [Act.put, oZa, oZb, oZc]
          refine tK 1 ?_ (fun w' hw' => ?_) hH ?_
          rotate_left
          · obtain ⟨c0, c1, c2⟩ := HC.out w' hw'.1
            go_simp <;> with_reducible rfl
          simp only [Act.put, oZa, oZb, oZc]
          refine tK 4 ?_ (fun w' hw' => ?_) hH ?_
          rotate_left
          · obtain ⟨c0, c1, c2⟩ := HC.out w' hw'.1
            go_simp <;> with_reducible rfl
          simp only [Act.put, oZa, oZb, oZc]
          refine tK 5 ?_ (fun w' hw' => ?_) hH ?_
          rotate_left
          · have e := conv_str (c := c) HL.out hw'.2.2 (by decide)
            go_simp <;> with_reducible rfl
          simp only [Act.put, oZa, oZb, oZc]
          refine stepL 2 rfl (by kernel_rfl) (fun K hK => ?_)
          go_simp
          refine (HMB.out _).mono ?_
          rintro e w7 ⟨g7, cap7, rfl, ho7, hk7⟩
          have HS7 := qh (show w7.heap[gm]? = some (.cells (masC ⟨s, t, o⟩) 103 (0, 0)) ∧ w7.heap[pr]? = some (.cells (masC zM) 103 (0, 0)) ∧ RdB w7 (some ⟨b, off, none⟩) l from ⟨hk7.heap HS0.out.1 id, hk7.heap HS0.out.2.1 id, HS0.out.2.2.kept hk7 (fun _ _ _ _ => id)⟩)
          have HK7 := qh (HK6.out.drew.trans0 hk7)
          have HE7 := qh (fun (w' : World) (hk : Kept (fun _ => False) w7 w') => conv_str (c := cap7) (mBytes_len ⟨s, t, o⟩) (ho7.v.rd.kept hk (fun _ _ _ _ => id)) (by decide))
          have HE8 := qh (fun (w' : World) (hk : Kept (fun x => x = pr) w7 w') => conv_str (c := cap7) (mBytes_len ⟨s, t, o⟩) (ho7.v.rd.kept hk (fun b' o' e _ h => by cases e; have := ho7.base_le; have := heap_lt HP6.out; have e2 : w6.drew.heap.size = w6.heap.size := rfl; omega)) (by decide))
          have HSX := qh (show w7.heap[gm]? = some (.cells (masC ⟨s, t, o⟩) 103 (0, 0)) ∧ (∃ n : MasM, w7.heap[pr]? = some (.cells (masC n) 103 (0, 0))) ∧ RdB w7 (some ⟨b, off, none⟩) l from ⟨HS7.out.1, ⟨_, HS7.out.2.1⟩, HS7.out.2.2⟩)
          have HPB := qh (show ∀ (b' : Nat), b' = b → b < w.heap.size → b' ≠ pr from fun b' _ h e => by have := l1; omega)
          have HB0 := qh (show b < w.heap.size from by obtain ⟨b2, o2, e2, hc⟩ := H.out.cell (k := 0) (by rw [HL.out]; decide); cases e2; exact block_lt_of_cell hc)
          obtain ⟨m, hm⟩ : ∃ m : MasM, m = ⟨s, t, o⟩ := ⟨_, rfl⟩
          have HM := qh hm
          obtain ⟨X, hX⟩ : ∃ X, X = mBytes ⟨s, t, o⟩ := ⟨_, rfl⟩
          rw [← hX] at HE7 HE8 HYES
          have HY2 := qh (HYES.out HMM.out HS.out)
          clear ho7 hk7 hm hX
          have e7 := HE7.out w7 (Kept.refl _ _)
          go_simp
          refine hK.out _ _ (fun _ => HSX.out) (fun _ => ?_)
          simp only [oZa, oZb, oZc]
          clear hK K hH
          refine forkB 3 7 rfl rfl (by kernel_rfl) (fun K hK => ?_) (fun K hK => ?_)
          · go_simp
            refine hK.out _ _ (fun _ => HSX.out) (fun _ => ?_)
            simp only [oZa, oZb, oZc]
            clear hK K e7
            refine tK 6 ?_ (fun w' hw' => ?_) HSX.out ?_
            rotate_left
            · skip
              go_simp <;> with_reducible rfl
            simp only [Act.put, oZa, oZb, oZc]
            refine stepL 7 rfl (by kernel_rfl) (fun K hK => ?_)
            refine step_store_row rfl 103 _ _ rfl pr (masC ⟨s, t, o⟩) (masC zM) rfl rfl HS7.out.2.1 sizeMas rfl (one_mas _) ?_
            intro w8 hb8 hk8
            have HP8 := qh hb8
            have HK8 := qh (HK7.out.new hk8 (fun z hz => by subst hz; exact l1))
            have HS8 := qh (show w8.heap[gm]? = some (.cells (masC ⟨s, t, o⟩) 103 (0, 0)) ∧ (∃ n : MasM, w8.heap[pr]? = some (.cells (masC n) 103 (0, 0))) ∧ RdB w8 (some ⟨b, off, none⟩) l from ⟨hk8.heap HS7.out.1 (fun e => hpg e.symm), ⟨_, hb8⟩, HS7.out.2.2.kept hk8 (fun b' o' e _ h => by cases e; exact HPB.out b rfl HB0.out h)⟩)
            clear hb8 hk8
            refine hK.out _ _ (fun _ => HS8.out) (fun _ => ?_)
            simp only [oZa, oZb, oZc]
            clear hK K
            refine stepL 8 rfl (by kernel_rfl) (fun K hK => ?_)
            go_simp
            refine hK.out _ _ (fun h => absurd rfl h) (fun _ => ?_)
            simp only [oZa, oZb, oZc]
            clear hK K
            refine doneL (by kernel_rfl) ?_ _
            go_wp2
            try simp only [Exit.inBlock, Exit.then]
            refine bodyPost_ret (results_cell_rowM rfl _ _ pr (masC ⟨s, t, o⟩) rfl HP8.out Tryz.underlying103 rfl sizeMas) rfl ?_
            refine ⟨?_, HK8.out⟩
            rw [HY2.out]
            show Ending.returned (.tuple #[.agg (masC ⟨s, t, o⟩), .bool (X == l)]) = .returned (.tuple #[.agg (masC ⟨s, t, o⟩), .bool (decide (X = l))])
            have hbe : (X == l) = decide (X = l) := by rw [Bool.eq_iff_iff]; simp
            rw [hbe]
          · refine step_store_row rfl 103 _ _ rfl pr (masC ⟨s, t, o⟩) (masC zM) rfl rfl HS7.out.2.1 sizeMas rfl (one_mas _) ?_
            intro w8 hb8 hk8
            have HP8 := qh hb8
            have HK8 := qh (HK7.out.new hk8 (fun z hz => by subst hz; exact l1))
            have HS8 := qh (show w8.heap[gm]? = some (.cells (masC ⟨s, t, o⟩) 103 (0, 0)) ∧ (∃ n : MasM, w8.heap[pr]? = some (.cells (masC n) 103 (0, 0))) ∧ RdB w8 (some ⟨b, off, none⟩) l from ⟨hk8.heap HS7.out.1 (fun e => hpg e.symm), ⟨_, hb8⟩, HS7.out.2.2.kept hk8 (fun b' o' e _ h => by cases e; exact HPB.out b rfl HB0.out h)⟩)
            have e8 := HE8.out w8 hk8
            clear hb8 hk8 e7
            refine hK.out _ _ (fun _ => HS8.out) (fun _ => ?_)
            simp only [oZa, oZb, oZc]
            clear hK K
            refine stepL 3 rfl (by kernel_rfl) (fun K hK => ?_)
            go_simp
            refine hK.out _ _ (fun _ => HS8.out) (fun _ => ?_)
            simp only [oZa, oZb, oZc]
            clear hK K e8
            refine tK 6 ?_ (fun w' hw' => ?_) HS8.out ?_
            rotate_left
            · skip
              go_simp <;> with_reducible rfl
            simp only [Act.put, oZa, oZb, oZc]
            refine stepL 8 rfl (by kernel_rfl) (fun K hK => ?_)
            go_simp
            refine hK.out _ _ (fun h => absurd rfl h) (fun _ => ?_)
            simp only [oZa, oZb, oZc]
            clear hK K
            refine doneL (by kernel_rfl) ?_ _
            go_wp2
            try simp only [Exit.inBlock, Exit.then]
            refine bodyPost_ret (results_cell_rowM rfl _ _ pr (masC ⟨s, t, o⟩) rfl HP8.out Tryz.underlying103 rfl sizeMas) rfl ?_
            refine ⟨?_, HK8.out⟩
            rw [HY2.out]
            show Ending.returned (.tuple #[.agg (masC ⟨s, t, o⟩), .bool (X == l)]) = .returned (.tuple #[.agg (masC ⟨s, t, o⟩), .bool (decide (X = l))])
            have hbe : (X == l) = decide (X = l) := by rw [Bool.eq_iff_iff]; simp
            rw [hbe]
        · have hsb : (s.tmod 2 != k) = true := by rw [bne_iff_ne]; exact hs
          have HE := qh (HNO.out (fun h => hs h.2))
          clear hs
          go_wp2_with (refine wl_store_row rfl 103 _ _ rfl pr (masC zM) (masC zM) rfl rfl HP6.out sizeMas rfl (one_mas _) ?_)
          intro w8 hb8 hk8
          have HP8 := qh hb8
          have HK8 := qh (HK6.out.new hk8 (fun z hz => by subst hz; exact l1))
          clear hb8 hk8
          go_wp2
          try simp only [Exit.inBlock, Exit.then]
          refine bodyPost_ret (results_cell_rowM rfl _ _ pr (masC zM) rfl HP8.out Tryz.underlying103 rfl sizeMas) rfl ?_
          exact ⟨by rw [HE.out]; rfl, HK8.out⟩
      · rw [decide_eq_false hm]
        have HE := qh (HNO.out (fun h => hm h.1))
        clear hm
        go_wp2_with (refine wl_store_row rfl 103 _ _ rfl pr (masC zM) (masC zM) rfl rfl HP6.out sizeMas rfl (one_mas _) ?_)
        intro w8 hb8 hk8
        have HP8 := qh hb8
        have HK8 := qh (HK6.out.new hk8 (fun z hz => by subst hz; exact l1))
        clear hb8 hk8
        go_wp2
        try simp only [Exit.inBlock, Exit.then]
        refine bodyPost_ret (results_cell_rowM rfl _ _ pr (masC zM) rfl HP8.out Tryz.underlying103 rfl sizeMas) rfl ?_
        exact ⟨by rw [HE.out]; rfl, HK8.out⟩
end Go.Proofs.YtfgagakepmigbaaGreat
