/-
  No statement is proved here: 'put', 'get' and 'Sum' of the document's records.
-/
import Derived.Test.YtbolbddjmmfepaaRa
import Derived.Test.YtbolbddjmmfepaaGv
namespace Go.Proofs.Ytbolbddjmmfepaa
open Go.RowKit

set_option maxRecDepth 20000 in
set_option maxHeartbeats 800000 in
theorem rput_any (v : Value) (l : Bytes) (n : Int) (size : Nat) (base : Nat) (w : World) (h : OwnV w base v l) (hb : base ≤ w.heap.size) (h0 : 0 ≤ n) (h1 : n ≤ 9223372036854775807) (hs : size ≤ 8) (hl : l.length ≤ 1000000) :
    Calls Try.prog 44 #[v, .int .i64 n, .int .i64 size] w fun e w' => ∃ v', e = .returned v' ∧ OwnV w' base v' (l ++ beN n.toNat size) ∧ Kept (fun x => v.ownBlock = some x) w w' ∧ OwnTo w v v' := by
  have H := Lib.hid h
  have HB := Lib.hid hb
  clear h hb
  have e63 : maxLen = 9223372036854775807 := rfl
  go_enter Try.func44, Try.ntmps44
  go_wp2
  go_loopw [0, 7] (fun o i wr => ∃ (k : Nat) (d : Bytes), k ≤ size ∧ i = .int .i64 ((k : Int) - 1) ∧ d ++ beN n.toNat k = beN n.toNat size ∧ OwnV wr base o (l ++ d) ∧ Kept (fun x => v.ownBlock = some x) w wr ∧ OwnTo w v o) (fun o i wr => (intOf i + 1).toNat)
  case atStart => exact ⟨size, [], Nat.le_refl _, rfl, rfl, by rw [List.append_nil]; exact H.out, Kept.refl _ w, .inl rfl⟩
  case round =>
    obtain ⟨k, d, hk, rfl, hd, ho, hkr, hat⟩ := hrel
    have HO := Lib.hid ho
    have HK := Lib.hid hkr
    have HA := Lib.hid hat
    have HD := Lib.hid hd
    have sr := hkr.size
    have ld : d.length + k = size := by
      have := congrArg List.length hd
      simpa [beN_len] using this
    clear ho hkr hat hd
    cases k with
    | zero =>
      have hge : ¬ ((-1 : Int) ≥ 0) := by omega
      go_wp2
      go_ret
      have e : d = beN n.toNat size := by simpa [beN] using HD.out
      exact ⟨_, rfl, by rw [← e]; exact HO.out, HK.out, HA.out⟩
    | succ k =>
      have ek : ((k + 1 : Nat) : Int) - 1 = (k : Int) := by omega
      rw [ek]
      clear ek
      have LD := Lib.hid ld
      clear ld
      have hge : (k : Int) ≥ 0 := by omega
      have k7 : k ≤ 7 := by omega
      have x1 : wrap64 (8 * (k : Int)) = 8 * (k : Int) := by unfold wrap64; omega
      have x2 : (8 * (k : Int)).toNat = 8 * k := by omega
      have x3 : 0 ≤ 8 * (k : Int) := by omega
      have x4 : 8 * (k : Int) ≤ 64 := by omega
      obtain ⟨B, hB⟩ : ∃ B : UInt8, B = UInt8.ofNat (n.toNat / 256 ^ k) := ⟨_, rfl⟩
      have x5 : n / 2 ^ (8 * k) % 256 = (B.toNat : Int) := by rw [hB]; exact shr_byte n h0 k
      have HB2 := Lib.hid hB
      clear hB
      have HO2 := Lib.hid (HO.out.keep ((Kept.refl (fun _ => False) wr).alloc (.cells #[.int .u8 B.toNat] 5)) (fun _ _ => id))
      have HS := Lib.hid (RdB.of_blk (l := [B]) (heap_alloc_new wr (.cells #[.int .u8 B.toNat] 5)))
      have HKa := Lib.hid (HK.out.alloc (.cells #[.int .u8 B.toNat] 5))
      have HL : (l ++ d).length + 1 ≤ 140737488355328 := by rw [List.length_append]; have := LD.out; omega
      have HL2 := Lib.hid HL
      clear HL
      go_wp2_with (at_builtin; refine wl_appendV rfl _ _ rfl base _ (l ++ d) [B] rfl HO2.out _ 1 rfl HS.out HL2.out (by have := HB.out; have := HKa.out.size; omega) ?_)
      intro v3 w3 ho3 hk3 hat3
      have HO3 := Lib.hid ho3
      have HK3 := Lib.hid (HKa.out.trans hk3 (fun x hx hS => by
        rcases HA.out with e | e
        · rw [← e]; exact hS
        · have := e x hS; omega))
      have HA3 := Lib.hid (HA.out.trans HKa.out hat3)
      clear ho3 hk3 hat3
      go_wp2
      go_roundw
      case rel => exact ⟨k, d ++ [B], by omega, by go_num, by rw [HB2.out, List.append_assoc]; exact HD.out, HO3.out, HK3.out, HA3.out⟩
      case measure => simp [intOf]

theorem rput_up (v : Value) (l : Bytes) (n : Int) (size : Nat) (base : Nat) (w : World) (h : OwnV w base v l) (hb : base ≤ w.heap.size) (h0 : 0 ≤ n) (h1 : n ≤ 9223372036854775807) (hs : size ≤ 8) (hl : l.length ≤ 1000000) :
    Calls Try.prog 44 #[v, .int .i64 n, .int .i64 size] w fun e w' => ∃ v', e = .returned v' ∧ OwnV w' base v' (l ++ beN n.toNat size) ∧ Kept (fun x => base ≤ x) w w' := by
  refine (rput_any v l n size base w h hb h0 h1 hs hl).mono ?_
  rintro e w' ⟨v', rfl, h2, h3, _⟩
  exact ⟨v', rfl, h2, h3.mono (fun x _ hx => (h.base_le hx).1)⟩

theorem wrap64_sgn {V : Nat} (h : V < 2 ^ 64) : wrap64 (V : Int) = sgn V := by
  unfold wrap64 sgn
  split <;> omega
set_option maxRecDepth 20000 in
set_option maxHeartbeats 800000 in
theorem rget_any (A : Option Addr) (c : Nat) (l : Bytes) (at_ size : Nat) (w : World) (h : RdB w A l) (hs : size ≤ 8) (hl : at_ + size ≤ l.length) (hb : l.length ≤ 1000000) :
    Calls Try.prog 49 #[.slice A l.length c, .int .i64 at_, .int .i64 size] w fun e w' => e = .returned (.int .i64 (sgn (valN (cut l at_ size) 0))) ∧ w = w' := by
  have H := Lib.hid h
  have HL := Lib.hid hl
  have a0 : at_ ≤ 1000000 := by omega
  clear h hl
  go_enter Try.func49, Try.ntmps49
  go_wp2
  go_loopw [7, 8] (fun n i wr => ∃ k V : Nat, k ≤ size ∧ i = .int .i64 k ∧ n = .int .u64 V ∧ V < 256 ^ k ∧ V = valN (cut l at_ k) 0 ∧ w = wr) (fun n i wr => size - (intOf i).toNat)
  case atStart => exact ⟨0, 0, Nat.zero_le _, rfl, rfl, by decide, by simp [cut, valN], rfl⟩
  case round =>
    obtain ⟨k, V, hk, rfl, rfl, hV, eV, rfl⟩ := hrel
    have EV := Lib.hid eV
    have HV := Lib.hid hV
    clear eV hV
    by_cases hlt : k < size
    · have i1 : (k : Int) < (size : Int) := by omega
      have hkl : at_ + k < l.length := by have := HL.out; omega
      have hV56 : V < 72057594037927936 := Nat.lt_of_lt_of_le HV.out (Nat.le_trans (Nat.pow_le_pow_right (by decide) (show k ≤ 7 by omega)) (by decide))
      have hx := (bAt l (at_ + k)).toNat_lt
      have i2 : (at_ : Int) + (k : Int) < (l.length : Int) := by omega
      have i3 : 0 ≤ (at_ : Int) + (k : Int) := by omega
      have i5 : ((at_ : Int) + (k : Int)).toNat = at_ + k := by omega
      have i4 : wrap64 ((at_ : Int) + (k : Int)) = (at_ : Int) + (k : Int) := by unfold wrap64; omega
      obtain ⟨b, off, rfl, hcell⟩ := H.out.cell hkl
      obtain ⟨x, hx'⟩ : ∃ x, x = bAt l (at_ + k) := ⟨_, rfl⟩
      rw [← hx'] at hcell hx
      have HX := Lib.hid hx'
      have HS := Lib.hid (show V * 256 + x.toNat < 256 ^ (k + 1) ∧ V * 256 + x.toNat = valN (cut l at_ (k + 1)) 0 from by
        constructor
        · have := HV.out
          rw [Nat.pow_succ]
          omega
        · rw [hx', EV.out, ← valN_snoc]
          congr 1
          unfold cut
          rw [List.take_succ_eq_append_getElem (by simp; omega), bAt_get hkl]
          simp)
      have HXX := Lib.hid (show ∀ y : Int, y = ((V * 256 + x.toNat : Nat) : Int) → Value.int .u64 y = .int .u64 ((V * 256 + x.toNat : Nat) : Int) from fun y hy => by rw [hy])
      clear hx'
      go_wp2
      go_roundw
      case rel => exact ⟨k + 1, V * 256 + x.toNat, by omega, by go_num, HXX.out _ (by omega), HS.out.1, HS.out.2, by trivial⟩
      case measure => simp [intOf]; omega
    · have ek : k = size := by omega
      subst ek
      have h64 : V < 2 ^ 64 := Nat.lt_of_lt_of_le HV.out (Nat.le_trans (Nat.pow_le_pow_right (by decide) hs) (by decide))
      have HW := Lib.hid (wrap64_sgn h64)
      clear h64
      go_wp2
      go_ret
      exact ⟨by show Ending.returned (.int .i64 (wrap64 (V : Int))) = _; rw [HW.out, ← EV.out], rfl⟩
theorem crcS_if (c : Nat) : crcS c = if c % 2 = 1 then (c / 2) ^^^ 3988292384 else c / 2 := by
  unfold crcS
  rcases Nat.mod_two_eq_zero_or_one c with h | h
  · rw [h]; simp
  · rw [h]; simp
set_option maxRecDepth 20000 in
set_option maxHeartbeats 800000 in
theorem rsum_any (A : Option Addr) (c : Nat) (b : Bytes) (w : World) (h : RdB w A b) (hb : b.length ≤ 1000000) :
    Calls Try.prog 45 #[.slice A b.length c] w fun e w' => e = .returned (.int .u32 (crcL b)) ∧ w = w' := by
  have HR := Lib.hid h
  clear h
  go_enter Try.func45, Try.ntmps45
  go_wp2
  go_loopw [3, 4] (fun c i wr => ∃ (j C2 : Nat), j ≤ b.length ∧ i = .int .i64 j ∧ c = .int .u32 C2 ∧ C2 < 4294967296 ∧ C2 = (b.take j).foldl crcB 4294967295 ∧ w = wr) (fun n i wr => b.length - (intOf i).toNat)
  case atStart => exact ⟨0, 4294967295, Nat.zero_le _, rfl, rfl, by omega, rfl, rfl⟩
  case round =>
    obtain ⟨j, C2, hj, rfl, rfl, hC2, eC2, rfl⟩ := hrel
    have EC2 := Lib.hid eC2
    clear eC2
    by_cases hjt : j < b.length
    · have i2 : (j : Int) < (b.length : Int) := by omega
      obtain ⟨bb, boff, rfl, hcell2⟩ := HR.out.cell hjt
      have hx := (bAt b j).toNat_lt
      obtain ⟨x, hx'⟩ : ∃ x, x = bAt b j := ⟨_, rfl⟩
      rw [← hx'] at hcell2 hx
      have HX := Lib.hid hx'
      clear hx'
      obtain ⟨C3, hC3⟩ : ∃ C3, C3 = C2 ^^^ x.toNat := ⟨_, rfl⟩
      have hC3t : C3 < 4294967296 := by rw [hC3]; exact Nat.xor_lt_two_pow (n := 32) hC2 (by omega)
      have xo : bits .xor .u32 (C2 : Int) (x.toNat : Int) = (C3 : Int) := by rw [hC3]; exact (bits_u32 _ _ hC2 (by omega)).1
      have HC3 := Lib.hid hC3
      clear hC3
      go_wp2_with fail
      go_loopw [3, 5] (fun c i wr => ∃ (m C4 : Nat), m ≤ 8 ∧ i = .int .i64 m ∧ c = .int .u32 C4 ∧ C4 < 4294967296 ∧ C4 = crcN m C3 ∧ w = wr) (fun n i wr => 8 - (intOf i).toNat)
      case atStart => exact ⟨0, C3, Nat.zero_le _, rfl, rfl, hC3t, rfl, rfl⟩
      case round =>
        obtain ⟨m, C4, hm, rfl, rfl, hC4, eC4, rfl⟩ := hrel
        have EC4 := Lib.hid eC4
        clear eC4
        by_cases hmt : m < 8
        · have i3 : (m : Int) < 8 := by omega
          have hC5 := crcS_lt hC4
          have HCI := Lib.hid (crcS_if C4)
          have xx : bits .xor .u32 ((C4 : Int) / 2) 3988292384 = ((C4 / 2 ^^^ 3988292384 : Nat) : Int) := (bits_u32 (C4 / 2) 3988292384 (by omega) (by omega)).1
          rcases Nat.mod_two_eq_zero_or_one C4 with hm2 | hm2
          · have z : ((C4 : Int) % 2 == 1) = false := by simp; omega
            have HE := Lib.hid (show crcS C4 = C4 / 2 from by rw [HCI.out, if_neg (by omega)])
            go_wp2_with fail
            refine ⟨⟨m + 1, crcS C4, by omega, by go_num, ?_, hC5, by rw [EC4.out]; rfl, by trivial⟩, by simp [intOf]; omega⟩
            rw [HE.out]
            rfl
          · have z : ((C4 : Int) % 2 == 1) = true := by simp; omega
            have HE := Lib.hid (show crcS C4 = C4 / 2 ^^^ 3988292384 from by rw [HCI.out, if_pos hm2])
            go_wp2_with fail
            refine ⟨⟨m + 1, crcS C4, by omega, by go_num, ?_, hC5, by rw [EC4.out]; rfl, by trivial⟩, by simp [intOf]; omega⟩
            rw [HE.out, ← xx]
        · have em : m = 8 := by omega
          subst em
          go_wp2_with fail
          go_roundw
          case rel => exact ⟨j + 1, C4, by omega, by go_num, rfl, hC4, by rw [EC4.out, HC3.out, crcN_8, HX.out, EC2.out, List.take_succ_eq_append_getElem hjt, List.foldl_append, bAt_get hjt]; rfl, by trivial⟩
          case measure => simp [intOf]; omega
    · have ej : j = b.length := by omega
      subst ej
      go_wp2
      go_ret
      refine ⟨?_, rfl⟩
      have e := EC2.out
      rw [List.take_length] at e
      have x := (bits_u32 C2 4294967295 hC2 (by omega)).1
      show Ending.returned (.int .u32 (bits .xor .u32 (C2 : Int) 4294967295)) = _
      rw [show (4294967295 : Int) = ((4294967295 : Nat) : Int) from rfl, x]
      unfold crcL
      rw [← e]
end Go.Proofs.Ytbolbddjmmfepaa
