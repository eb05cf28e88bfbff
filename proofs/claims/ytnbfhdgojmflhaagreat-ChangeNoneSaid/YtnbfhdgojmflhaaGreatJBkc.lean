/-
  No statement is proved here: a part of what the claim's last text rests on.
-/
import Derived.Test.YtnbfhdgojmflhaaGreatJBka
import Derived.Test.YtnbfhdgojmflhaaGreatJGv
import Derived.Lib.SlBytesConst
import Derived.Laws.BytesArg
namespace Go.Proofs.YtnbfhdgojmflhaaGreat
open Go.RowKit
theorem or_be64 (V x : Nat) (hx : x < 256) (hV : V < 72057594037927936) : bits .or .u64 (((V : Int) * 256) % 18446744073709551616) (x : Int) = ((V * 256 + x : Nat) : Int) := by
  have e : ((V : Int) * 256) % 18446744073709551616 = ((V * 256 : Nat) : Int) := by omega
  rw [e, (bits_u64 (V * 256) x (by omega) (by omega)).2, or_be' V x hx]
theorem xorT (u : Nat) (h : u < 18446744073709551616) : wrap64 (bits .xor .u64 (u : Int) 9223372036854775808) = (u : Int) - 9223372036854775808 := by
  show wrap64 (bits .xor .u64 (u : Int) ((9223372036854775808 : Nat) : Int)) = _
  rw [(bits_u64 u 9223372036854775808 h (by decide)).1, xor_tops u h]
  unfold wrap64
  omega
set_option maxRecDepth 20000 in
set_option maxHeartbeats 800000 in
theorem getI_any (A : Option Addr) (n c : Nat) (l : Bytes) (w : World) (hn : l.length = n) (h : RdB w A l) (hl : 8 ≤ n) :
    Calls Tryz.prog 126 #[.slice A n c] w fun e w' => e = .returned (.tuple #[.int .i64 (getI l), .int .i64 8, .bool true]) ∧ w = w' := by
  subst hn
  have H := Lib.hid h
  clear h
  have h8 : ¬ (l.length : Int) < 8 := by omega
  have HL := Lib.hid hl
  clear hl
  go_enter Tryz.func126, Tryz.ntmps126
  go_wp2
  go_loopw [5, 10] (fun n i wr => ∃ k V : Nat, k ≤ 8 ∧ i = .int .i64 k ∧ n = .int .u64 V ∧ V = valN (l.take k) 0 ∧ w = wr) (fun n i wr => 8 - (intOf i).toNat)
  case atStart => exact ⟨0, 0, Nat.zero_le _, rfl, rfl, rfl, rfl⟩
  case round =>
    obtain ⟨k, V, hk, rfl, rfl, hV, rfl⟩ := hrel
    have hV64 : V < 256 ^ k := by
      have h1 := valN_lt (l.take k)
      rw [List.length_take, Nat.min_eq_left (by have := HL.out; omega)] at h1
      rw [hV]; exact h1
    have HV := Lib.hid hV
    clear hV
    by_cases hlt : k < 8
    · have i1 : (k : Int) < 8 := by omega
      have hkl : k < l.length := by have := HL.out; omega
      have hV56 : V < 72057594037927936 := by
        have h2 : 256 ^ k ≤ 256 ^ 7 := Nat.pow_le_pow_right (by decide) (by omega)
        exact Nat.lt_of_lt_of_le hV64 h2
      have hx := (bAt l k).toNat_lt
      obtain ⟨x, hx'⟩ : ∃ x, x = bAt l k := ⟨_, rfl⟩
      rw [← hx'] at hx
      have xo := or_be64 V x.toNat hx hV56
      obtain ⟨b, off, rfl, hcell⟩ := H.out.cell hkl
      rw [← hx'] at hcell
      have HX := Lib.hid hx'
      have hkl2 : (k : Int) < (l.length : Int) := by omega
      have x8 : (x.toNat : Int) % 18446744073709551616 = x.toNat := by omega
      have HVN := Lib.hid (show V * 256 + x.toNat = valN (l.take (k + 1)) 0 by rw [HV.out, ← valN_snoc, HX.out, List.take_succ_eq_append_getElem hkl, bAt_get hkl])
      obtain ⟨V2, hV2⟩ : ∃ V2, V2 = V * 256 + x.toNat := ⟨_, rfl⟩
      rw [← hV2] at xo HVN
      clear hx' hV2 hV64 hV56
      go_wp2
      go_roundw
      case rel => exact ⟨k + 1, V2, by omega, by go_num, by rw [wrapU, xo], HVN.out, by trivial⟩
      case measure => simp [intOf]; omega
    · have ek : k = 8 := by omega
      subst ek
      have xt := xorT V (by omega)
      have HG := Lib.hid (show getI l = (V : Int) - 9223372036854775808 by unfold getI; rw [← HV.out])
      go_wp2
      go_ret3
      refine ⟨?_, rfl⟩
      rw [HG.out, ← xt]
      rfl
set_option maxRecDepth 20000 in
set_option maxHeartbeats 800000 in
theorem csum_any (A : Option Addr) (n cap : Nat) (b : Bytes) (w : World) (hn : b.length = n) (h : RdB w A b) (hb : n ≤ 1000000) :
    Calls Tryz.prog 129 #[.slice A n cap] w fun e w' => e = .returned (.int .u32 (crcL b)) ∧ w = w' := by
  subst hn
  have HR := Lib.hid h
  clear h
  go_enter Tryz.func129, Tryz.ntmps129
  go_wp2
  go_loopw [3, 8] (fun c i wr => ∃ (j C2 : Nat), j ≤ b.length ∧ i = .int .i64 j ∧ c = .int .u32 C2 ∧ C2 < 4294967296 ∧ C2 = (b.take j).foldl crcB 4294967295 ∧ w = wr) (fun n i wr => b.length - (intOf i).toNat)
  case atStart => exact ⟨0, 4294967295, Nat.zero_le _, rfl, rfl, by omega, rfl, rfl⟩
  case round =>
    obtain ⟨j, C2, hj, rfl, rfl, hC2, eC2, rfl⟩ := hrel
    have EC2 := Lib.hid eC2
    clear eC2
    by_cases hjt : j < b.length
    · have i2 : (j : Int) < (b.length : Int) := by omega
      obtain ⟨bb, boff, rfl, hcell2⟩ := HR.out.cell hjt
      have hx := (bAt b j).toNat_lt
      obtain ⟨x, hx'⟩ : ∃ x, x = bAt b j := ⟨_, rfl⟩
      rw [← hx'] at hcell2 hx
      have HX := Lib.hid hx'
      clear hx'
      obtain ⟨C3, hC3⟩ : ∃ C3, C3 = C2 ^^^ x.toNat := ⟨_, rfl⟩
      have hC3t : C3 < 4294967296 := by rw [hC3]; exact Nat.xor_lt_two_pow (n := 32) hC2 (by omega)
      have xo : bits .xor .u32 (C2 : Int) (x.toNat : Int) = (C3 : Int) := by rw [hC3]; exact (bits_u32 _ _ hC2 (by omega)).1
      have HC3 := Lib.hid hC3
      clear hC3
      go_wp2_with fail
      go_loopw [3, 16] (fun c i wr => ∃ (m C4 : Nat), m ≤ 8 ∧ i = .int .i64 m ∧ c = .int .u32 C4 ∧ C4 < 4294967296 ∧ C4 = crcN m C3 ∧ w = wr) (fun n i wr => 8 - (intOf i).toNat)
      case atStart => exact ⟨0, C3, Nat.zero_le _, rfl, rfl, hC3t, rfl, rfl⟩
      case round =>
        obtain ⟨m, C4, hm, rfl, rfl, hC4, eC4, rfl⟩ := hrel
        have EC4 := Lib.hid eC4
        clear eC4
        by_cases hmt : m < 8
        · have i3 : (m : Int) < 8 := by omega
          have xa : bits .and .u32 (C4 : Int) 1 = ((C4 % 2 : Nat) : Int) := by
            have := (bits_u32 C4 1 hC4 (by omega)).2
            rw [Nat.and_one_is_mod] at this
            exact this
          have xm : (3988292384 * ((C4 % 2 : Nat) : Int)) % 4294967296 = ((3988292384 * (C4 % 2) : Nat) : Int) := by omega
          have xx : bits .xor .u32 ((C4 : Int) / 2) ((3988292384 * (C4 % 2) : Nat) : Int) = ((crcS C4 : Nat) : Int) := by
            have := (bits_u32 (C4 / 2) (3988292384 * (C4 % 2)) (by omega) (by omega)).1
            exact this
          have hC5 := crcS_lt hC4
          have XA := Lib.hid xa
          go_wp2_with fail
          refine ⟨⟨m + 1, crcS C4, by omega, by go_num, ?_, hC5, by rw [EC4.out]; rfl, by trivial⟩, by simp [intOf]; omega⟩
          rw [← xx]
          rfl
        · have em : m = 8 := by omega
          subst em
          go_wp2_with fail
          go_roundw
          case rel => exact ⟨j + 1, C4, by omega, by go_num, rfl, hC4, by rw [EC4.out, HC3.out, crcN_8, HX.out, EC2.out, List.take_succ_eq_append_getElem hjt, List.foldl_append, bAt_get hjt]; rfl, by trivial⟩
          case measure => simp [intOf]; omega
    · have ej : j = b.length := by omega
      subst ej
      go_wp2
      go_ret
      refine ⟨?_, rfl⟩
      have e := EC2.out
      rw [List.take_length] at e
      have x := (bits_u32 4294967295 C2 (by omega) hC2).1
      show Ending.returned (.int .u32 (bits .xor .u32 4294967295 (C2 : Int))) = _
      rw [show (4294967295 : Int) = ((4294967295 : Nat) : Int) from rfl, x, Nat.xor_comm]
      unfold crcL
      rw [← e]
end Go.Proofs.YtnbfhdgojmflhaaGreat
namespace Go.Proofs.YtnbfhdgojmflhaaGreat
open Go.RowKit
structure MasM where
  seq : Int
  turn : Int
  oldest : Int
deriving DecidableEq
def masC (m : MasM) : Array Value := #[.int .i64 m.seq, .int .i64 m.turn, .int .i64 m.oldest]
def MasM.may (m : MasM) : Prop := 1 ≤ m.seq ∧ m.seq ≤ 2305843009213693952 ∧ 1 ≤ m.turn ∧ m.turn ≤ 2147483646 ∧ 1 ≤ m.oldest ∧ m.oldest ≤ 2305843009213693952
instance (m : MasM) : Decidable m.may := by unfold MasM.may; infer_instance
def mHead (m : MasM) : Bytes := [80, 77, 48, 49] ++ putI m.seq ++ putI m.turn ++ putI m.oldest
def mCrc (m : MasM) : Bytes := beN (crcL (mHead m)) 4
def mBytes (m : MasM) : Bytes := mHead m ++ mCrc m ++ zeros 480
theorem mHead_len (m : MasM) : (mHead m).length = 28 := by unfold mHead; simp [putI_len]
theorem mBytes_len (m : MasM) : (mBytes m).length = 512 := by unfold mBytes mCrc; rw [List.length_append, List.length_append, mHead_len, beN_len, len_zerosY]
set_option maxRecDepth 100000 in
set_option maxHeartbeats 800000 in
theorem may_any12 (m : MasM) (w : World) : Calls Tryz.prog 80 #[.agg (masC m)] w fun e w' => e = .returned (.bool (decide m.may)) ∧ Kept (fun _ => False) w w' := by
  obtain ⟨POST, hPOST⟩ : ∃ POST : Bool → World → Prop, POST = (fun b w' => b = decide m.may ∧ Kept (fun _ => False) w w') := ⟨_, rfl⟩
  have HT := Lib.hid (show ∀ w', m.may → Kept (fun _ => False) w w' → POST true w' from fun w' h k => by rw [hPOST]; exact ⟨by rw [decide_eq_true h], k⟩)
  have HF := Lib.hid (show ∀ w', ¬ m.may → Kept (fun _ => False) w w' → POST false w' from fun w' h k => by rw [hPOST]; exact ⟨by rw [decide_eq_false h], k⟩)
  have HE := Lib.hid (show ∀ b w', POST b w' → (Ending.returned (.bool b) = .returned (.bool (decide m.may)) ∧ Kept (fun _ => False) w w') from fun b w' h => by rw [hPOST] at h; exact ⟨by rw [h.1], h.2⟩)
  clear hPOST
  have HM := Lib.hid (show m.may ↔ 1 ≤ m.seq ∧ m.seq ≤ 2305843009213693952 ∧ 1 ≤ m.turn ∧ m.turn ≤ 2147483646 ∧ 1 ≤ m.oldest ∧ m.oldest ≤ 2305843009213693952 from Iff.rfl)
  obtain ⟨s, t, o⟩ := m
  dsimp only at HM
  go_enter Tryz.func80, Tryz.ntmps80
  go_wp2_with (refine wl_box rfl 62 _ rfl (.agg (masC ⟨s, t, o⟩)) rfl ?_)
  intro g w1 l1 l2 hb1 hk1
  have HK1 := Lib.hid hk1
  have c0 : w1.cell? ⟨g, 0, none⟩ = some (.int .i64 s) := cell_blk hb1 rfl
  have c1 : w1.cell? ⟨g, 1, none⟩ = some (.int .i64 t) := cell_blk hb1 rfl
  have c2 : w1.cell? ⟨g, 2, none⟩ = some (.int .i64 o) := cell_blk hb1 rfl
  clear hb1 hk1
  by_cases a1 : s ≥ 1
  · by_cases a2 : s ≤ 2305843009213693952
    · by_cases a3 : t ≥ 1
      · by_cases a4 : t ≤ 2147483646
        · by_cases a5 : o ≥ 1
          · by_cases a6 : o ≤ 2305843009213693952
            · go_wp2
              go_ret
              exact HE.out true _ (HT.out _ (HM.out.2 ⟨a1, a2, a3, a4, a5, a6⟩) HK1.out)
            · go_wp2
              go_ret
              exact HE.out false _ (HF.out _ (fun h => by have := HM.out.1 h; omega) HK1.out)
          · go_wp2
            go_ret
            exact HE.out false _ (HF.out _ (fun h => by have := HM.out.1 h; omega) HK1.out)
        · go_wp2
          go_ret
          exact HE.out false _ (HF.out _ (fun h => by have := HM.out.1 h; omega) HK1.out)
      · go_wp2
        go_ret
        exact HE.out false _ (HF.out _ (fun h => by have := HM.out.1 h; omega) HK1.out)
    · go_wp2
      go_ret
      exact HE.out false _ (HF.out _ (fun h => by have := HM.out.1 h; omega) HK1.out)
  · go_wp2
    go_ret
    exact HE.out false _ (HF.out _ (fun h => by have := HM.out.1 h; omega) HK1.out)
theorem bArr3 (a b c : Int) (wz : World) : (Instr.build 207 #[(0, .int .i64 a), (1, .int .i64 b), (2, .int .i64 c)]).run Tryz.prog wz = .ok (.agg #[.int .i64 a, .int .i64 b, .int .i64 c]) wz := run_build wz _ _ _ (by kernel_rfl)
def mL (m : MasM) : List Int := [m.seq, m.turn, m.oldest]
def mTo (m : MasM) (k : Nat) : Bytes := [80, 77, 48, 49] ++ ((mL m).take k).flatMap putI
theorem mTo_len (m : MasM) (k : Nat) : (mTo m k).length ≤ 28 := by
  unfold mTo mL
  match k with
  | 0 => simp
  | 1 => simp [putI_len]
  | 2 => simp [putI_len]
  | k + 3 => simp [putI_len]
theorem mTo_succ (m : MasM) {k : Nat} {x : Int} (h : (mL m)[k]? = some x) : mTo m (k + 1) = mTo m k ++ putI x := by
  unfold mTo
  obtain ⟨hk, hx⟩ := List.getElem?_eq_some_iff.1 h
  rw [List.take_succ_eq_append_getElem hk, hx, List.flatMap_append]
  simp
theorem mTo_3 (m : MasM) : mTo m 3 = mHead m := by unfold mTo mL mHead; simp
theorem wl_appendK {w : World} {ops : Array Oper} {rest : List Oper} {o : Oper} {a : Act} {Q : Exit → Act → World → Prop} (hgd : o.guard = none) (s x : Operand)
    (ho : o.op = .call { callee := .builtin .append, args := #[s, x], argTypes := #[26, 26] }) (base g n : Nat) (l m : Bytes) (hn : l.length = n) (hs : a.eval s = .slice (some ⟨g, 0, none⟩) n n) (hl : RdB w (some ⟨g, 0, none⟩) l) (l0 : l ≠ [])
    (A : Option Addr) (c p : Nat) (hp : m.length = p) (hx : a.eval x = .slice A p c) (hm : RdB w A m) (m0 : m ≠ []) (h63 : n + p ≤ 1000000) (hbase : base ≤ w.heap.size)
    (k : ∀ g' cap' w', OwnB w' base g' cap' (l ++ m) → Kept (fun _ => False) w w' → w.heap.size ≤ g' → wpList Tryz.prog ops Q rest (a.put o.dst (.slice (some ⟨g', 0, none⟩) (n + p) cap')) w') : wpList Tryz.prog ops Q (o :: rest) a w := by
  subst hn
  subst hp
  obtain ⟨i, hi, hz, hsz, hby⟩ := info_parts info5
  have e63 : maxLen = 9223372036854775807 := rfl
  obtain ⟨b, off, rfl, hc⟩ := hm m0
  obtain ⟨g2, o2, e2, hc2⟩ := hl l0
  cases e2
  have hm0 : 0 < m.length := List.length_pos_iff.2 m0
  have hr := run_append_grow (P := Tryz.prog) w 26 o.type 5 i (.int .u8 0) Tryz.underlying26 hi hz ⟨g, 0, none⟩ l.length l.length (cellsOf l).toList (by rw [cellsOf_len, hsz, Nat.mul_one]) (fun j v hv => by rw [Addr.add_mid]; exact hc2 j v (by simpa using hv))
    ⟨b, off, none⟩ m.length c (cellsOf m).toList (by rw [cellsOf_len, hsz, Nat.mul_one]) (fun j v hv => by rw [Addr.add_mid]; exact hc j v (by simpa using hv)) (by omega) (by omega) (growslice_fits (by omega) (by rw [hby]; omega))
  have hge := grownCap_ge w (l.length + m.length) l.length 5
  have hcm : grownCap w (l.length + m.length) l.length 5 ≤ maxLen := grownCap_le_maxLen w (l.length + m.length) l.length 5 (by omega)
  have hk := k w.heap.size (grownCap w (l.length + m.length) l.length 5) (w.drew.alloc (.cells ((cellsOf l).toList.toArray ++ (cellsOf m).toList.toArray ++ Builtin.zeroCells (Value.int .u8 0).cells (grownCap w (l.length + m.length) l.length 5 - (l.length + m.length))) 5)) (by
    unfold OwnB
    refine ⟨by rw [cellsOf_len, Nat.mul_one], .inr ⟨w.heap.size, _, _, by rw [List.length_append], hbase, heap_alloc_new w.drew _, by rw [List.length_append]; exact hge, hcm, ?_, ?_⟩⟩
    · simp only [Array.size_append, List.size_toArray, size_zeroCells, show (Value.int .u8 0).cells = #[Value.int .u8 0] from rfl, cellsOf_len]
      show l.length + m.length + (_ - _) * 1 = _ * 1
      omega
    · rw [cellsOf_append, List.length_append, Nat.mul_one]
      have e1 : ((cellsOf l).toList ++ (cellsOf m).toList).length = l.length + m.length := by rw [List.length_append, cellsOf_len, cellsOf_len]
      rw [← e1]
      simp only [Array.toList_append]
      exact List.take_left) (((Kept.refl (fun _ => False) w).drew).alloc _) (Nat.le_refl _)
  obtain ⟨W, hW⟩ : ∃ W, W = (w.drew.alloc (.cells ((cellsOf l).toList.toArray ++ (cellsOf m).toList.toArray ++ Builtin.zeroCells (Value.int .u8 0).cells (grownCap w (l.length + m.length) l.length 5 - (l.length + m.length))) 5)) := ⟨_, rfl⟩
  rw [← hW] at hr hk
  clear hW
  refine wpList_plain hgd fun K hK => ?_
  unfold Oper.wp
  simp [execOp, ho, resolve, invoke, builtin, hs, hx, hr, Result.andThen]
  exact hK _ _ hk
set_option maxRecDepth 100000 in
set_option maxHeartbeats 1600000 in
theorem mbytes_any (m : MasM) (w : World) (h1 : isI m.seq) (h2 : isI m.turn) (h3 : isI m.oldest) :
    Calls Tryz.prog 82 #[.agg (masC m)] w fun e w' => ∃ g cap, e = .returned (.slice (some ⟨g, 0, none⟩) 512 cap) ∧ OwnB w' w.heap.size g cap (mBytes m) ∧ Kept (fun _ => False) w w' := by
  have HI := Lib.hid (show ∀ x ∈ mL m, isI x from fun x h => by
    have e : mL m = [m.seq, m.turn, m.oldest] := rfl
    rw [e] at h
    simp only [List.mem_cons, List.not_mem_nil, or_false] at h
    rcases h with rfl | rfl | rfl
    · exact h1
    · exact h2
    · exact h3)
  have HL := Lib.hid (show mL m = [m.seq, m.turn, m.oldest] from rfl)
  clear h1 h2 h3
  have BA := bArr3
  have KC := fun (w : World) (C : Array Value) (n c : Nat) => Lib.run_convert_bytes_const (P := Tryz.prog) w 26 5 C n c Tryz.underlying26 Tryz.underlying5
  go_enter Tryz.func82, Tryz.ntmps82
  go_wp2_with (refine wl_box rfl 62 _ rfl (.agg (masC m)) rfl ?_)
  intro gm w1 l1 l2 hb1 hk1
  have HK1 := Lib.hid hk1
  have c0 : w1.cell? ⟨gm, 0, none⟩ = some (.int .i64 m.seq) := cell_blk hb1 rfl
  have c1 : w1.cell? ⟨gm, 1, none⟩ = some (.int .i64 m.turn) := cell_blk hb1 rfl
  have c2 : w1.cell? ⟨gm, 2, none⟩ = some (.int .i64 m.oldest) := cell_blk hb1 rfl
  clear hb1 hk1
  go_wp2_with fail
  obtain ⟨C, hC⟩ : ∃ C : Array Value, C = #[Value.int IntKind.u8 80, Value.int IntKind.u8 77, Value.int IntKind.u8 48, Value.int IntKind.u8 49] := ⟨_, rfl⟩
  rw [← hC]
  obtain ⟨w2, hw2⟩ : ∃ w2, w2 = w1.alloc (.cells C 5 (4, 5)) := ⟨_, rfl⟩
  obtain ⟨nb, hnb⟩ : ∃ nb, nb = w1.heap.size := ⟨_, rfl⟩
  have HR := Lib.hid (show RdB w2 (some ⟨nb, 0, none⟩) [80, 77, 48, 49] from by
    rw [hw2, hnb]
    exact RdB.of_blk (t := 5) (fr := (4, 5)) (by rw [hC]; exact heap_alloc_new w1 _))
  have HK2 := Lib.hid (show Kept (fun _ => False) w w2 from by rw [hw2]; exact HK1.out.alloc _)
  have hwz : w2 = w1.alloc (.cells C 5 (4, 5)) := hw2
  first | rw [← hwz] | skip
  first | rw [← hnb] | skip
  clear hC hwz hw2 hnb c0 c1 c2
  go_loopw [3, 16] (fun b i wr => ∃ k : Nat, k ≤ 3 ∧ i = .int .i64 k ∧ Kept (fun _ => False) w wr ∧ (k = 0 ∧ b = .slice (some ⟨nb, 0, none⟩) 4 4 ∧ RdB wr (some ⟨nb, 0, none⟩) [80, 77, 48, 49] ∨ 0 < k ∧ ∃ g cap, b = .slice (some ⟨g, 0, none⟩) (mTo m k).length cap ∧ OwnB wr w.heap.size g cap (mTo m k))) (fun b i wr => 3 - (intOf i).toNat)
  case atStart => exact ⟨0, by omega, rfl, HK2.out, .inl ⟨rfl, rfl, HR.out⟩⟩
  case round =>
    obtain ⟨k, hk, rfl, hkr, hb⟩ := hrel
    have HK := Lib.hid hkr
    have HB := Lib.hid hb
    clear hkr hb HR HK2
    by_cases hlt : k < 3
    · have i1 : (k : Int) < 3 := by omega
      obtain ⟨x, hx⟩ : ∃ x, (mL m)[k]? = some x := ⟨_, List.getElem?_eq_getElem (show k < 3 from hlt)⟩
      have hxi := HI.out x (List.mem_of_getElem? hx)
      have HX := Lib.hid hx
      have HIX := Lib.hid (show ∀ wz : World, (Instr.index 207 (.agg #[.int .i64 m.seq, .int .i64 m.turn, .int .i64 m.oldest]) (.int .i64 k)).run Tryz.prog wz = .ok (.int .i64 x) wz from by
        rcases (show k = 0 ∨ k = 1 ∨ k = 2 by omega) with rfl | rfl | rfl
        · cases hx; intro wz; kernel_rfl
        · cases hx; intro wz; kernel_rfl
        · cases hx; intro wz; kernel_rfl)
      have hix := HIX.out
      clear hx
      go_wp2_with fail
      refine (putI_any x hxi.1 hxi.2 wr).mono ?_
      rintro e w3 ⟨g2, rfl, ho2, hk2⟩
      have HO2 := Lib.hid ho2
      have HK2 := Lib.hid hk2
      have HK3 := Lib.hid (HK.out.trans0 hk2)
      have HTS := Lib.hid (mTo_succ m HX.out)
      have HPL := Lib.hid (putI_len x)
      have hml := mTo_len m k
      have hsz := HK3.out.size
      have HB0 := HB.out
      clear ho2 hk2 hix HB
      rcases HB0 with ⟨rfl, rfl, hr⟩ | ⟨hk0, g, cap, rfl, ho⟩
      · have HR := Lib.hid (hr.kept HK2.out (fun _ _ _ _ => id))
        clear hr
        go_wp2_with (at_builtin; refine wl_appendK rfl _ _ rfl w.heap.size nb 4 [80, 77, 48, 49] (putI x) rfl rfl HR.out (by simp) (some ⟨g2, 0, none⟩) 8 8 HPL.out rfl HO2.out.v.rd (by intro h; have := HPL.out; rw [h] at this; simp at this) (by omega) hsz ?_)
        intro g' cap' w4 ho4 hk4 hg4
        have HO4 := Lib.hid (show OwnB w4 w.heap.size g' cap' (mTo m 1) from by rw [HTS.out]; exact ho4)
        have HK4 := Lib.hid (HK3.out.trans0 hk4)
        clear ho4 hk4
        go_wp2
        go_roundw
        case rel => exact ⟨1, by omega, by go_num, HK4.out, .inr ⟨by omega, g', cap', rfl, HO4.out⟩⟩
        case measure => simp [intOf]
      · have HO := Lib.hid (ho.keep HK2.out id)
        have hgb := ho.base_le
        clear ho
        obtain ⟨T, hT⟩ : ∃ T, T = mTo m k := ⟨_, rfl⟩
        rw [← hT] at HO HTS hml ⊢
        obtain ⟨p, hp⟩ : ∃ p, p = putI x := ⟨_, rfl⟩
        rw [← hp] at HO2 HTS HPL
        clear hT hp
        obtain ⟨q8, hq8⟩ : ∃ q8 : Nat, q8 = p.length := ⟨_, rfl⟩
        have HQ8 := Lib.hid hq8
        have HP8 := Lib.hid (show q8 = 8 by rw [hq8]; exact HPL.out)
        clear hq8
        go_wp2_with (at_builtin; refine wl_appendB rfl _ _ rfl w.heap.size g cap T p rfl HO.out (some ⟨g2, 0, none⟩) 8 (by rw [HPL.out]; rfl) HO2.out.v.rd (by rw [HPL.out]; omega) hsz ?_)
        intro g' cap' w4 ho4 hk4 hat4 hlt4
        have HO4 := Lib.hid (show OwnB w4 w.heap.size g' cap' (mTo m (k + 1)) from by rw [HTS.out]; exact ho4)
        have HK4 := Lib.hid (HK3.out.new hk4 (fun z hz => by subst hz; exact hgb))
        have HL4 := Lib.hid (show T.length + p.length = (mTo m (k + 1)).length from by rw [HTS.out, List.length_append])
        clear ho4 hk4
        go_wp2
        go_roundw
        case rel => exact ⟨k + 1, by omega, by go_num, HK4.out, .inr ⟨by omega, g', cap', by rw [HL4.out], HO4.out⟩⟩
        case measure => simp [intOf]; omega
    · have ek : k = 3 := by omega
      subst ek
      have HB0 := HB.out
      rcases HB0 with ⟨h0, _⟩ | ⟨_, g, cap, rfl, ho⟩
      · exact absurd h0 (by decide)
      · rw [mTo_3] at ho
        rw [mTo_3, mHead_len]
        have HO := Lib.hid ho
        have hgb := ho.base_le
        have hsz := HK.out.size
        clear ho HB
        obtain ⟨H, hH⟩ : ∃ H, H = mHead m := ⟨_, rfl⟩
        have HHL := Lib.hid (show H.length = 28 by rw [hH]; exact mHead_len m)
        have HBY := Lib.hid (show mBytes m = H ++ beN (crcL H) 4 ++ zeros 480 by rw [hH]; rfl)
        rw [← hH] at HO
        clear hH
        have HCS := Lib.hid (csum_any (some ⟨g, 0, none⟩) 28 cap H wr HHL.out HO.out.v.rd (by decide))
        obtain ⟨C2, hC2⟩ : ∃ C2, C2 = crcL H := ⟨_, rfl⟩
        have hC2l : C2 < 2 ^ 32 := by rw [hC2]; exact crcL_lt H
        rw [← hC2] at HCS HBY
        clear hC2
        go_wp2_with fail
        refine HCS.out.mono ?_
        rintro e w3 ⟨rfl, rfl⟩
        clear HCS
        obtain ⟨B0, hB0⟩ : ∃ B : UInt8, B = UInt8.ofNat (C2 / 256 ^ 3) := ⟨_, rfl⟩
        obtain ⟨B1, hB1⟩ : ∃ B : UInt8, B = UInt8.ofNat (C2 / 256 ^ 2) := ⟨_, rfl⟩
        obtain ⟨B2, hB2⟩ : ∃ B : UInt8, B = UInt8.ofNat (C2 / 256 ^ 1) := ⟨_, rfl⟩
        obtain ⟨B3, hB3⟩ : ∃ B : UInt8, B = UInt8.ofNat (C2 / 256 ^ 0) := ⟨_, rfl⟩
        have HBE := Lib.hid (show beN C2 4 = [B0, B1, B2, B3] by rw [hB0, hB1, hB2, hB3]; rfl)
        have e0 : (C2 : Int) / 16777216 = (B0.toNat : Int) := by rw [hB0, UInt8.toNat_ofNat']; omega
        have e1 : (C2 : Int) / 65536 % 256 = (B1.toNat : Int) := by rw [hB1, UInt8.toNat_ofNat']; omega
        have e2 : (C2 : Int) / 256 % 256 = (B2.toNat : Int) := by rw [hB2, UInt8.toNat_ofNat']; omega
        have e3 : (C2 : Int) % 256 = (B3.toNat : Int) := by rw [hB3, UInt8.toNat_ofNat']; omega
        clear hB0 hB1 hB2 hB3
        have HOA := Lib.hid (HO.out.keep ((Kept.refl (fun _ => False) wr).alloc (.cells #[.int .u8 B0.toNat, .int .u8 B1.toNat, .int .u8 B2.toNat, .int .u8 B3.toNat] 5)) id)
        have HKA := Lib.hid (HK.out.alloc (.cells #[.int .u8 B0.toNat, .int .u8 B1.toNat, .int .u8 B2.toNat, .int .u8 B3.toNat] 5))
        have HRD := Lib.hid (RdB.of_blk (l := [B0, B1, B2, B3]) (heap_alloc_new wr (.cells #[.int .u8 B0.toNat, .int .u8 B1.toNat, .int .u8 B2.toNat, .int .u8 B3.toNat] 5)))
        go_wp2_with (at_builtin; refine wl_appendB rfl _ _ rfl w.heap.size g cap H [B0, B1, B2, B3] (by rw [HHL.out]; rfl) HOA.out (some ⟨wr.heap.size, 0, none⟩) 4 rfl HRD.out (by rw [HHL.out]; simp) HKA.out.size ?_)
        intro g5 cap5 w5 ho5 hk5 hat5 hlt5
        rw [← HBE.out] at ho5
        obtain ⟨H2, hH2⟩ : ∃ H2, H2 = H ++ beN C2 4 := ⟨_, rfl⟩
        have HL2 := Lib.hid (show H2.length = 32 by rw [hH2, List.length_append, HHL.out, beN_len])
        rw [← hH2] at ho5 HBY
        have HO5 := Lib.hid ho5
        have HK5 := Lib.hid (HKA.out.new hk5 (fun z hz => by subst hz; exact hgb))
        have hg5 := ho5.base_le
        have hsz5 := HK5.out.size
        have hle := HHL.out
        have x480 : wrap64 (512 - 32) = 480 := by unfold wrap64; omega
        clear ho5 hk5 hat5 hlt5 hH2 HBE HOA HKA HRD e0 e1 e2 e3
        go_wp2_with (at_builtin; refine wl_appendZ rfl _ _ rfl w.heap.size g5 cap5 H2 (by rw [HL2.out]; show Value.slice _ (H.length + 4) _ = _; rw [HHL.out]) HO5.out 480 (by first | rfl | simp) (by decide) (by rw [HL2.out]; decide) hsz5 ?_)
        intro g6 cap6 w6 ho6 hk6 hat6
        rw [← HBY.out] at ho6
        have HO6 := Lib.hid ho6
        have HK6 := Lib.hid (HK5.out.new hk6 (fun z hz => by subst hz; exact hg5))
        have hle2 := HL2.out
        clear ho6 hk6 hat6
        go_wp2
        go_ret
        exact ⟨g6, cap6, by show Ending.returned (.slice _ (H2.length + 480) cap6) = _; rw [HL2.out], HO6.out, HK6.out⟩
end Go.Proofs.YtnbfhdgojmflhaaGreat
