/-
  No statement is proved here: 'number' and 'read' of log: numbers as bytes.
-/
import Derived.Test.YtbolbddjmmfepaaApp
import Derived.Test.YtbolbddjmmfepaaGm
namespace Go.Proofs.Ytbolbddjmmfepaa
open Go.RowKit

/-- A slice of bytes of the call's own, or none. -/
def OwnV (w : World) (base : Nat) (v : Value) (l : Bytes) : Prop := w.ownsRow base 5 1 v l.length (cellsOf l).toList
theorem OwnV.nil (w : World) (base : Nat) : OwnV w base (.slice none 0 0) [] := ⟨rfl, .inl ⟨rfl, rfl⟩⟩
theorem OwnV.form {w : World} {base : Nat} {v : Value} {l : Bytes} (h : OwnV w base v l) : (v = .slice none 0 0 ∧ l = []) ∨ ∃ g cap, v = .slice (some ⟨g, 0, none⟩) l.length cap ∧ OwnB w base g cap l := by
  have h' := h
  rcases h.2 with ⟨rfl, h2⟩ | ⟨g, cap, cur, rfl, h3⟩
  · exact .inl ⟨rfl, List.length_eq_zero_iff.1 h2⟩
  · exact .inr ⟨g, cap, rfl, h'⟩
theorem OwnB.v {w : World} {base g cap : Nat} {l : Bytes} (h : OwnB w base g cap l) : OwnV w base (.slice (some ⟨g, 0, none⟩) l.length cap) l := h
theorem OwnV.keep {S : Nat → Prop} {w w' : World} {base : Nat} {v : Value} {l : Bytes} (h : OwnV w base v l) (hk : Kept S w w') (hn : ∀ x, v.ownBlock = some x → ¬ S x) : OwnV w' base v l := ownsRow_keep h hk hn
theorem OwnV.base_le {w : World} {base : Nat} {v : Value} {l : Bytes} (h : OwnV w base v l) {x : Nat} (hx : v.ownBlock = some x) : base ≤ x ∧ x < w.heap.size := h.lt x hx
/-- Where what was grown lies. -/
def OwnTo (w : World) (v v' : Value) : Prop := v'.ownBlock = v.ownBlock ∨ ∀ x, v'.ownBlock = some x → w.heap.size ≤ x
theorem OwnTo.trans {S : Nat → Prop} {w w' : World} {v v' v'' : Value} (h : OwnTo w v v') (hk : Kept S w w') (k : OwnTo w' v' v'') : OwnTo w v v'' := by
  have := hk.size
  rcases k with k | k
  · rcases h with h | h
    · exact .inl (k.trans h)
    · exact .inr (fun x hx => h x (by rw [← k]; exact hx))
  · exact .inr (fun x hx => by have := k x hx; omega)
theorem OwnTo.alloc {w : World} {v v' : Value} (h : OwnTo w v v') : OwnTo w v v' := h
/-- 'append', bytes appended (or none) onto bytes of the call's own (or none). -/
theorem wl_appendV {w : World} {ops : Array Oper} {rest : List Oper} {o : Oper} {a : Act} {Q : Exit → Act → World → Prop} (hgd : o.guard = none) (s x : Operand)
    (ho : o.op = .call { callee := .builtin .append, args := #[s, x], argTypes := #[23, 23] }) (base : Nat) (v : Value) (l m : Bytes) (hs : a.eval s = v) (hown : OwnV w base v l)
    (A : Option Addr) (c : Nat) (hx : a.eval x = .slice A m.length c) (hm : RdB w A m) (h63 : l.length + m.length ≤ 140737488355328) (hbase : base ≤ w.heap.size)
    (k : ∀ v' w', OwnV w' base v' (l ++ m) → Kept (fun x => v.ownBlock = some x) w w' → OwnTo w v v' → wpList Try.prog ops Q rest (a.put o.dst v') w') : wpList Try.prog ops Q (o :: rest) a w := by
  by_cases h0 : m = []
  · subst h0
    refine wl_append0 hgd s x 23 ho base 5 Try.underlying23 info5 _ l.length _ hs hown A c hx ?_
    exact k v w (by simpa using hown) (Kept.refl _ w) (.inl rfl)
  · obtain ⟨b, off, rfl, hc⟩ := hm h0
    have : 0 < m.length := List.length_pos_iff.2 h0
    have e63 : maxLen = 9223372036854775807 := rfl
    refine wl_append hgd s x 23 ho base 5 Try.underlying23 info5 rfl (by omega) _ l.length _ hs hown b off m.length c (cellsOf m).toList hx (by rw [cellsOf_len, Nat.mul_one]) (fun j u hu => hc j u (by simpa using hu)) (fun u hu => (Array.all_eq_true_iff_forall_mem.1 (one_cellsOf m)) u (by simpa using hu)) this (by omega) (by omega) hbase ?_
    intro g' cap' w' ho' hk' hat m'
    refine k _ w' ?_ hk' ?_
    · show World.ownsRow _ _ _ _ _ _ _
      rw [List.length_append, cellsOf_append]
      exact ho'
    · rcases hat with e | e
      · exact .inl e.symm
      · refine .inr (fun x hx => ?_)
        have : g' = x := by simpa [Value.ownBlock] using hx
        omega
theorem shr_byte (n : Int) (h0 : 0 ≤ n) (k : Nat) : n / 2 ^ (8 * k) % 256 = ((UInt8.ofNat (n.toNat / 256 ^ k)).toNat : Int) := by
  obtain ⟨m, rfl⟩ := Int.eq_ofNat_of_zero_le h0
  have e : (2 : Int) ^ (8 * k) = ((256 ^ k : Nat) : Int) := by
    have e1 : (2 : Int) ^ (8 * k) = ((2 ^ (8 * k) : Nat) : Int) := by rw [Int.natCast_pow]; rfl
    rw [e1, Nat.pow_mul]
  rw [UInt8.toNat_ofNat', Int.toNat_natCast, e, ← Int.natCast_ediv]
  rfl
theorem beN_succ (n k : Nat) : beN n (k + 1) = UInt8.ofNat (n / 256 ^ k) :: beN n k := rfl

set_option maxRecDepth 20000 in
set_option maxHeartbeats 800000 in
theorem number64_any (v : Value) (l : Bytes) (n : Int) (size : Nat) (base : Nat) (w : World) (h : OwnV w base v l) (hb : base ≤ w.heap.size) (h0 : 0 ≤ n) (h1 : n ≤ 9223372036854775807) (hs : size ≤ 8) (hl : l.length ≤ 1000000) :
    Calls Try.prog 39 #[v, .int .i64 n, .int .i64 size] w fun e w' => ∃ v', e = .returned v' ∧ OwnV w' base v' (l ++ beN n.toNat size) ∧ Kept (fun x => v.ownBlock = some x) w w' ∧ OwnTo w v v' := by
  have H := Lib.hid h
  have HB := Lib.hid hb
  clear h hb
  have e63 : maxLen = 9223372036854775807 := rfl
  go_enter Try.func39, Try.ntmps39
  go_wp2
  go_loopw [0, 7] (fun o i wr => ∃ (k : Nat) (d : Bytes), k ≤ size ∧ i = .int .i64 ((k : Int) - 1) ∧ d ++ beN n.toNat k = beN n.toNat size ∧ OwnV wr base o (l ++ d) ∧ Kept (fun x => v.ownBlock = some x) w wr ∧ OwnTo w v o) (fun o i wr => (intOf i + 1).toNat)
  case atStart => exact ⟨size, [], Nat.le_refl _, rfl, rfl, by rw [List.append_nil]; exact H.out, Kept.refl _ w, .inl rfl⟩
  case round =>
    obtain ⟨k, d, hk, rfl, hd, ho, hkr, hat⟩ := hrel
    have HO := Lib.hid ho
    have HK := Lib.hid hkr
    have HA := Lib.hid hat
    have HD := Lib.hid hd
    have sr := hkr.size
    have ld : d.length + k = size := by
      have := congrArg List.length hd
      simpa [beN_len] using this
    clear ho hkr hat hd
    cases k with
    | zero =>
      have hge : ¬ ((-1 : Int) ≥ 0) := by omega
      go_wp2
      go_ret
      have e : d = beN n.toNat size := by simpa [beN] using HD.out
      exact ⟨_, rfl, by rw [← e]; exact HO.out, HK.out, HA.out⟩
    | succ k =>
      have ek : ((k + 1 : Nat) : Int) - 1 = (k : Int) := by omega
      rw [ek]
      clear ek
      have LD := Lib.hid ld
      clear ld
      have hge : (k : Int) ≥ 0 := by omega
      have k7 : k ≤ 7 := by omega
      have x1 : wrap64 (8 * (k : Int)) = 8 * (k : Int) := by unfold wrap64; omega
      have x2 : (8 * (k : Int)).toNat = 8 * k := by omega
      have x3 : 0 ≤ 8 * (k : Int) := by omega
      have x4 : 8 * (k : Int) ≤ 64 := by omega
      obtain ⟨B, hB⟩ : ∃ B : UInt8, B = UInt8.ofNat (n.toNat / 256 ^ k) := ⟨_, rfl⟩
      have x5 : n / 2 ^ (8 * k) % 256 = (B.toNat : Int) := by rw [hB]; exact shr_byte n h0 k
      have HB2 := Lib.hid hB
      clear hB
      have HO2 := Lib.hid (HO.out.keep ((Kept.refl (fun _ => False) wr).alloc (.cells #[.int .u8 B.toNat] 5)) (fun _ _ => id))
      have HS := Lib.hid (RdB.of_blk (l := [B]) (heap_alloc_new wr (.cells #[.int .u8 B.toNat] 5)))
      have HKa := Lib.hid (HK.out.alloc (.cells #[.int .u8 B.toNat] 5))
      have HL : (l ++ d).length + 1 ≤ 140737488355328 := by rw [List.length_append]; have := LD.out; omega
      have HL2 := Lib.hid HL
      clear HL
      go_wp2_with (at_builtin; refine wl_appendV rfl _ _ rfl base _ (l ++ d) [B] rfl HO2.out _ 1 rfl HS.out HL2.out (by have := HB.out; have := HKa.out.size; omega) ?_)
      intro v3 w3 ho3 hk3 hat3
      have HO3 := Lib.hid ho3
      have HK3 := Lib.hid (HKa.out.trans hk3 (fun x hx hS => by
        rcases HA.out with e | e
        · rw [← e]; exact hS
        · have := e x hS; omega))
      have HA3 := Lib.hid (HA.out.trans HKa.out hat3)
      clear ho3 hk3 hat3
      go_wp2
      go_roundw
      case rel => exact ⟨k, d ++ [B], by omega, by go_num, by rw [HB2.out, List.append_assoc]; exact HD.out, HO3.out, HK3.out, HA3.out⟩
      case measure => simp [intOf]

set_option maxRecDepth 20000 in
set_option maxHeartbeats 800000 in
theorem numberI_any (v : Value) (l : Bytes) (n : Int) (size : Nat) (base : Nat) (w : World) (h : OwnV w base v l) (hb : base ≤ w.heap.size) (h0 : 0 ≤ n) (h1 : n ≤ 9223372036854775807) (hs : size ≤ 8) (hl : l.length ≤ 1000000) :
    Calls Try.prog 40 #[v, .int .i64 n, .int .i64 size] w fun e w' => ∃ v', e = .returned v' ∧ OwnV w' base v' (l ++ beN n.toNat size) ∧ Kept (fun x => v.ownBlock = some x) w w' ∧ OwnTo w v v' := by
  have H := Lib.hid h
  have HB := Lib.hid hb
  clear h hb
  have e63 : maxLen = 9223372036854775807 := rfl
  go_enter Try.func40, Try.ntmps40
  go_wp2
  go_loopw [0, 7] (fun o i wr => ∃ (k : Nat) (d : Bytes), k ≤ size ∧ i = .int .i64 ((k : Int) - 1) ∧ d ++ beN n.toNat k = beN n.toNat size ∧ OwnV wr base o (l ++ d) ∧ Kept (fun x => v.ownBlock = some x) w wr ∧ OwnTo w v o) (fun o i wr => (intOf i + 1).toNat)
  case atStart => exact ⟨size, [], Nat.le_refl _, rfl, rfl, by rw [List.append_nil]; exact H.out, Kept.refl _ w, .inl rfl⟩
  case round =>
    obtain ⟨k, d, hk, rfl, hd, ho, hkr, hat⟩ := hrel
    have HO := Lib.hid ho
    have HK := Lib.hid hkr
    have HA := Lib.hid hat
    have HD := Lib.hid hd
    have sr := hkr.size
    have ld : d.length + k = size := by
      have := congrArg List.length hd
      simpa [beN_len] using this
    clear ho hkr hat hd
    cases k with
    | zero =>
      have hge : ¬ ((-1 : Int) ≥ 0) := by omega
      go_wp2
      go_ret
      have e : d = beN n.toNat size := by simpa [beN] using HD.out
      exact ⟨_, rfl, by rw [← e]; exact HO.out, HK.out, HA.out⟩
    | succ k =>
      have ek : ((k + 1 : Nat) : Int) - 1 = (k : Int) := by omega
      rw [ek]
      clear ek
      have LD := Lib.hid ld
      clear ld
      have hge : (k : Int) ≥ 0 := by omega
      have k7 : k ≤ 7 := by omega
      have x1 : wrap64 (8 * (k : Int)) = 8 * (k : Int) := by unfold wrap64; omega
      have x2 : (8 * (k : Int)).toNat = 8 * k := by omega
      have x3 : 0 ≤ 8 * (k : Int) := by omega
      have x4 : 8 * (k : Int) ≤ 64 := by omega
      obtain ⟨B, hB⟩ : ∃ B : UInt8, B = UInt8.ofNat (n.toNat / 256 ^ k) := ⟨_, rfl⟩
      have x5 : n / 2 ^ (8 * k) % 256 = (B.toNat : Int) := by rw [hB]; exact shr_byte n h0 k
      have HB2 := Lib.hid hB
      clear hB
      have HO2 := Lib.hid (HO.out.keep ((Kept.refl (fun _ => False) wr).alloc (.cells #[.int .u8 B.toNat] 5)) (fun _ _ => id))
      have HS := Lib.hid (RdB.of_blk (l := [B]) (heap_alloc_new wr (.cells #[.int .u8 B.toNat] 5)))
      have HKa := Lib.hid (HK.out.alloc (.cells #[.int .u8 B.toNat] 5))
      have HL : (l ++ d).length + 1 ≤ 140737488355328 := by rw [List.length_append]; have := LD.out; omega
      have HL2 := Lib.hid HL
      clear HL
      go_wp2_with (at_builtin; refine wl_appendV rfl _ _ rfl base _ (l ++ d) [B] rfl HO2.out _ 1 rfl HS.out HL2.out (by have := HB.out; have := HKa.out.size; omega) ?_)
      intro v3 w3 ho3 hk3 hat3
      have HO3 := Lib.hid ho3
      have HK3 := Lib.hid (HKa.out.trans hk3 (fun x hx hS => by
        rcases HA.out with e | e
        · rw [← e]; exact hS
        · have := e x hS; omega))
      have HA3 := Lib.hid (HA.out.trans HKa.out hat3)
      clear ho3 hk3 hat3
      go_wp2
      go_roundw
      case rel => exact ⟨k, d ++ [B], by omega, by go_num, by rw [HB2.out, List.append_assoc]; exact HD.out, HO3.out, HK3.out, HA3.out⟩
      case measure => simp [intOf]

set_option maxRecDepth 20000 in
set_option maxHeartbeats 800000 in
theorem number32_any (v : Value) (l : Bytes) (n : Int) (size : Nat) (base : Nat) (w : World) (h : OwnV w base v l) (hb : base ≤ w.heap.size) (h0 : 0 ≤ n) (h1 : n < 4294967296) (hs : size ≤ 8) (hl : l.length ≤ 1000000) :
    Calls Try.prog 41 #[v, .int .u32 n, .int .i64 size] w fun e w' => ∃ v', e = .returned v' ∧ OwnV w' base v' (l ++ beN n.toNat size) ∧ Kept (fun x => v.ownBlock = some x) w w' ∧ OwnTo w v v' := by
  have H := Lib.hid h
  have HB := Lib.hid hb
  clear h hb
  have e63 : maxLen = 9223372036854775807 := rfl
  go_enter Try.func41, Try.ntmps41
  go_wp2
  go_loopw [0, 7] (fun o i wr => ∃ (k : Nat) (d : Bytes), k ≤ size ∧ i = .int .i64 ((k : Int) - 1) ∧ d ++ beN n.toNat k = beN n.toNat size ∧ OwnV wr base o (l ++ d) ∧ Kept (fun x => v.ownBlock = some x) w wr ∧ OwnTo w v o) (fun o i wr => (intOf i + 1).toNat)
  case atStart => exact ⟨size, [], Nat.le_refl _, rfl, rfl, by rw [List.append_nil]; exact H.out, Kept.refl _ w, .inl rfl⟩
  case round =>
    obtain ⟨k, d, hk, rfl, hd, ho, hkr, hat⟩ := hrel
    have HO := Lib.hid ho
    have HK := Lib.hid hkr
    have HA := Lib.hid hat
    have HD := Lib.hid hd
    have sr := hkr.size
    have ld : d.length + k = size := by
      have := congrArg List.length hd
      simpa [beN_len] using this
    clear ho hkr hat hd
    cases k with
    | zero =>
      have hge : ¬ ((-1 : Int) ≥ 0) := by omega
      go_wp2
      go_ret
      have e : d = beN n.toNat size := by simpa [beN] using HD.out
      exact ⟨_, rfl, by rw [← e]; exact HO.out, HK.out, HA.out⟩
    | succ k =>
      have ek : ((k + 1 : Nat) : Int) - 1 = (k : Int) := by omega
      rw [ek]
      clear ek
      have LD := Lib.hid ld
      clear ld
      have hge : (k : Int) ≥ 0 := by omega
      have k7 : k ≤ 7 := by omega
      have x1 : wrap64 (8 * (k : Int)) = 8 * (k : Int) := by unfold wrap64; omega
      have x2 : (8 * (k : Int)).toNat = 8 * k := by omega
      have x3 : 0 ≤ 8 * (k : Int) := by omega
      have x4 : 8 * (k : Int) ≤ 64 := by omega
      obtain ⟨B, hB⟩ : ∃ B : UInt8, B = UInt8.ofNat (n.toNat / 256 ^ k) := ⟨_, rfl⟩
      have x5 : n / 2 ^ (8 * k) % 256 = (B.toNat : Int) := by rw [hB]; exact shr_byte n h0 k
      have HB2 := Lib.hid hB
      clear hB
      have HO2 := Lib.hid (HO.out.keep ((Kept.refl (fun _ => False) wr).alloc (.cells #[.int .u8 B.toNat] 5)) (fun _ _ => id))
      have HS := Lib.hid (RdB.of_blk (l := [B]) (heap_alloc_new wr (.cells #[.int .u8 B.toNat] 5)))
      have HKa := Lib.hid (HK.out.alloc (.cells #[.int .u8 B.toNat] 5))
      have HL : (l ++ d).length + 1 ≤ 140737488355328 := by rw [List.length_append]; have := LD.out; omega
      have HL2 := Lib.hid HL
      clear HL
      go_wp2_with (at_builtin; refine wl_appendV rfl _ _ rfl base _ (l ++ d) [B] rfl HO2.out _ 1 rfl HS.out HL2.out (by have := HB.out; have := HKa.out.size; omega) ?_)
      intro v3 w3 ho3 hk3 hat3
      have HO3 := Lib.hid ho3
      have HK3 := Lib.hid (HKa.out.trans hk3 (fun x hx hS => by
        rcases HA.out with e | e
        · rw [← e]; exact hS
        · have := e x hS; omega))
      have HA3 := Lib.hid (HA.out.trans HKa.out hat3)
      clear ho3 hk3 hat3
      go_wp2
      go_roundw
      case rel => exact ⟨k, d ++ [B], by omega, by go_num, by rw [HB2.out, List.append_assoc]; exact HD.out, HO3.out, HK3.out, HA3.out⟩
      case measure => simp [intOf]

theorem number64_up (v : Value) (l : Bytes) (n : Int) (size : Nat) (base : Nat) (w : World) (h : OwnV w base v l) (hb : base ≤ w.heap.size) (h0 : 0 ≤ n) (h1 : n ≤ 9223372036854775807) (hs : size ≤ 8) (hl : l.length ≤ 1000000) :
    Calls Try.prog 39 #[v, .int .i64 n, .int .i64 size] w fun e w' => ∃ v', e = .returned v' ∧ OwnV w' base v' (l ++ beN n.toNat size) ∧ Kept (fun x => base ≤ x) w w' := by
  refine (number64_any v l n size base w h hb h0 h1 hs hl).mono ?_
  rintro e w' ⟨v', rfl, h2, h3, _⟩
  exact ⟨v', rfl, h2, h3.mono (fun x _ hx => (h.base_le hx).1)⟩

theorem numberI_up (v : Value) (l : Bytes) (n : Int) (size : Nat) (base : Nat) (w : World) (h : OwnV w base v l) (hb : base ≤ w.heap.size) (h0 : 0 ≤ n) (h1 : n ≤ 9223372036854775807) (hs : size ≤ 8) (hl : l.length ≤ 1000000) :
    Calls Try.prog 40 #[v, .int .i64 n, .int .i64 size] w fun e w' => ∃ v', e = .returned v' ∧ OwnV w' base v' (l ++ beN n.toNat size) ∧ Kept (fun x => base ≤ x) w w' := by
  refine (numberI_any v l n size base w h hb h0 h1 hs hl).mono ?_
  rintro e w' ⟨v', rfl, h2, h3, _⟩
  exact ⟨v', rfl, h2, h3.mono (fun x _ hx => (h.base_le hx).1)⟩

theorem number32_up (v : Value) (l : Bytes) (n : Int) (size : Nat) (base : Nat) (w : World) (h : OwnV w base v l) (hb : base ≤ w.heap.size) (h0 : 0 ≤ n) (h1 : n < 4294967296) (hs : size ≤ 8) (hl : l.length ≤ 1000000) :
    Calls Try.prog 41 #[v, .int .u32 n, .int .i64 size] w fun e w' => ∃ v', e = .returned v' ∧ OwnV w' base v' (l ++ beN n.toNat size) ∧ Kept (fun x => base ≤ x) w w' := by
  refine (number32_any v l n size base w h hb h0 h1 hs hl).mono ?_
  rintro e w' ⟨v', rfl, h2, h3, _⟩
  exact ⟨v', rfl, h2, h3.mono (fun x _ hx => (h.base_le hx).1)⟩
end Go.Proofs.Ytbolbddjmmfepaa
