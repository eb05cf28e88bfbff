/-
  No statement is proved here: two pairs of devices that lie apart (a device and its copy), TurnBytes, three lists of bytes in a table.
-/
import Derived.Test.YtjhbkamgmldkmaaRefc
import Derived.Test.YtjhbkamgmldkmaaCopy
import Derived.Test.YtjhbkamgmldkmaaApartb
namespace Go.Proofs.Ytjhbkamgmldkmaa
open Go.RowKit

/-- Two pairs of devices, apart. -/
structure Two (B : Nat) (w : World) (p ms mo q : Nat) (M I : Nat → Prop) (D : DevM) (R : RefM) (k : Nat) (p' ms' mo' q' : Nat) (M' I' : Nat → Prop) (D' : DevM) (R' : RefM) (k' : Nat) : Prop where
  b1 : Both B w p ms mo q M I D R k
  b2 : Both B w p' ms' mo' q' M' I' D' R' k'
  x1 : ∀ x, footB p ms mo M x → ¬ footB p' ms' mo' M' x ∧ ¬ I' x
  x2 : ∀ x, footB p' ms' mo' M' x → ¬ I x
section
variable {B : Nat} {w w' : World} {p ms mo q : Nat} {M I : Nat → Prop} {D : DevM} {R : RefM} {k : Nat} {p' ms' mo' q' : Nat} {M' I' : Nat → Prop} {D' : DevM} {R' : RefM} {k' : Nat}
theorem Two.swap (h : Two B w p ms mo q M I D R k p' ms' mo' q' M' I' D' R' k') : Two B w p' ms' mo' q' M' I' D' R' k' p ms mo q M I D R k :=
  ⟨h.b2, h.b1, fun x hx => ⟨fun e => (h.x1 x e).1 hx, h.x2 x hx⟩, fun x hx => (h.x1 x hx).2⟩
theorem Two.kept0 (h : Two B w p ms mo q M I D R k p' ms' mo' q' M' I' D' R' k') (hk : Kept (fun _ => False) w w') : Two B w' p ms mo q M I D R k p' ms' mo' q' M' I' D' R' k' := ⟨h.b1.kept0 hk, h.b2.kept0 hk, h.x1, h.x2⟩
theorem two_step (h : Two B w p ms mo q M I D R k p' ms' mo' q' M' I' D' R' k') (x : DoM) (FA : Option Addr) (c : Nat) (hB : B ≤ w.heap.size) (hk : k ≤ 1000) (hn : x.n ≤ 9223372036854775807) (hf : RdF w FA x.fates) (hfb : x.fates ≠ [] → ∀ b off, FA = some ⟨b, off, none⟩ → b < B) (hl : x.fates.length ≤ 1000) :
    Calls Try.prog 18 #[.pointer (some ⟨p, 0, none⟩), .pointer (some ⟨q, 0, none⟩), x.val FA c] w fun e w' => ∃ M1 I1 D1 R1, e = .returned (.bool true) ∧ Two B w' p ms mo q M1 I1 D1 R1 (k + 1) p' ms' mo' q' M' I' D' R' k' ∧ Kept (footB p ms mo M) w w' := by
  refine (step_any h.b1 x FA c hB hk hn hf hfb hl).mono ?_
  rintro e w' ⟨M1, I1, D1, R1, rfl, hb, hk1, hM, hI⟩
  have hlt := h.b2.lt
  refine ⟨M1, I1, D1, R1, rfl, ⟨hb, h.b2.keep hk1 h.x1, fun y hy => ?_, fun y hy e => ?_⟩, hk1⟩
  · rcases hy with e | e | e | e
    · exact h.x1 y (.inl e)
    · exact h.x1 y (.inr (.inl e))
    · exact h.x1 y (.inr (.inr (.inl e)))
    · rcases hM y e with e | e
      · exact h.x1 y (.inr (.inr (.inr e)))
      · exact ⟨fun e2 => by have := hlt y (.inl e2); omega, fun e2 => by have := hlt y (.inr e2); omega⟩
  · rcases hI y e with e | e
    · exact h.x2 y hy e
    · have := hlt y (.inl hy); omega
/-- Both are copied. -/
theorem two_copy (h : Both B w p ms mo q M I D R k) (hB : B ≤ w.heap.size) (hk : k ≤ 1000) :
    Calls Try.prog 27 #[.pointer (some ⟨p, 0, none⟩)] w fun e w1 => ∃ p', e = .returned (.pointer (some ⟨p', 0, none⟩)) ∧ Calls Try.prog 28 #[.pointer (some ⟨q, 0, none⟩)] w1 fun e w' => ∃ q' ms' mo' M', e = .returned (.pointer (some ⟨q', 0, none⟩)) ∧
      Two B w' p ms mo q M I D R k p' ms' mo' q' M' I D R k ∧ Kept (fun _ => False) w w' := by
  refine (copy_any h.hd).mono ?_
  rintro e w1 ⟨p', ms', mo', rfl, hD1, hk1, np, nms, nmo⟩
  refine ⟨p', rfl, ?_⟩
  have h1 := h.kept0 hk1
  refine (rcopy_any h1.hr (by have := h.len; omega)).mono ?_
  rintro e w2 ⟨q', M', rfl, hR2, hk2, nM⟩
  have s1 := hk1.size
  have lp := heap_lt hD1.hp
  have ls := hD1.hs.lt
  have lo := hD1.ho.lt
  have hlt := h.lt
  have hap := h.hr.lt.2.2.2.2
  refine ⟨q', ms', mo', M', rfl, ⟨h1.kept0 hk2, ⟨hD1.keep hk2 id id id, hR2, h.sim, ?_, ?_, h.len⟩, ?_, ?_⟩, hk1.trans0 hk2⟩
  · rintro x (rfl | rfl | rfl)
    · exact ⟨fun e => by have := nM _ e; omega, fun e => by have := hlt _ (.inr e); omega, by omega⟩
    · exact ⟨fun e => by have := nM _ e; omega, fun e => by have := hlt _ (.inr e); omega, by omega⟩
    · exact ⟨fun e => by have := nM _ e; omega, fun e => by have := hlt _ (.inr e); omega, by omega⟩
  · rintro x (e | e)
    · have := nM _ e; omega
    · exact h.nm x (.inr e)
  · intro x hx
    have l := hlt x (.inl hx)
    refine ⟨?_, fun e => ?_⟩
    · rintro (e | e | e | e)
      · omega
      · omega
      · omega
      · have := nM _ e; omega
    · rcases hx with e2 | e2 | e2 | e2
      · exact (h.dm x (.inl e2)).2.1 e
      · exact (h.dm x (.inr (.inl e2))).2.1 e
      · exact (h.dm x (.inr (.inr e2))).2.1 e
      · exact hap x e e2
  · intro x hx e
    have := hlt x (.inr e)
    rcases hx with e2 | e2 | e2 | e2
    · omega
    · omega
    · omega
    · have := nM _ e2; omega
end
theorem xor_u8 (b : UInt8) : bits BinOp.xor IntKind.u8 (b.toNat : Int) 255 = ((b ^^^ 255).toNat : Int) := by
  have h : ∀ y : Fin 256, bits BinOp.xor IntKind.u8 ((y.val : Nat) : Int) 255 = (((UInt8.ofNat y.val) ^^^ 255).toNat : Int) := by decide +kernel
  have := h ⟨b.toNat, b.toNat_lt⟩
  simpa using this
theorem OwnB.set {w : World} {base g cap : Nat} {l : Bytes} (h : OwnB w base g cap l) (i : Nat) (x : UInt8) : OwnB (w.setCell ⟨g, i, none⟩ (.int .u8 x.toNat)) base g cap (l.set i x) := by
  unfold OwnB at *
  have := (h.stored i (.int .u8 x.toNat)).1
  have e : (cellsOf l).toList.set i (.int .u8 x.toNat) = (cellsOf (l.set i x)).toList := by
    rw [← cellsOf_set]; simp
  rw [e] at this
  rw [List.length_set]
  exact this
set_option maxHeartbeats 400000 in
theorem turn_any (w : World) (base g cap n : Nat) (l : Bytes) (h : OwnB w base g cap l) (hl : l.length = n) (hn : n ≤ 1000000) :
    Calls Try.prog 29 #[.slice (some ⟨g, 0, none⟩) n cap] w fun e w' => ∃ l', e = .returned (.tuple #[]) ∧ OwnB w' base g cap l' ∧ l'.length = n ∧ Kept (fun x => x = g) w w' := by
  have H := Lib.hid h
  have HL := Lib.hid hl
  clear h hl
  go_enter Try.func29, Try.ntmps29
  go_wp2
  go_loopw [2] (fun i wr => ∃ (k : Nat) (l : Bytes), k ≤ n ∧ i = .int .i64 k ∧ OwnB wr base g cap l ∧ l.length = n ∧ Kept (fun x => x = g) w wr) (fun i _ => n - (intOf i).toNat)
  case atStart => exact ⟨0, l, Nat.zero_le _, rfl, H.out, HL.out, Kept.refl _ _⟩
  case round =>
    obtain ⟨k, l1, hk, rfl, ho, hl1, hkr⟩ := hrel
    have HO := Lib.hid ho
    have HL1 := Lib.hid hl1
    have HK := Lib.hid hkr
    by_cases hlt : k < n
    · have c1 := ho.cellAt (i := k) (by omega)
      have f1 : wr.frozen? ⟨g, k, none⟩ = false := by
        have := ho
        unfold OwnB at this
        exact this.frozenAt k
      have i0 : (0 : Int) ≤ (k : Int) := by omega
      have i1 : (k : Int) < (n : Int) := by omega
      have hx := xor_u8 (bAt l1 k)
      clear ho hl1 hkr
      go_wp2
      go_roundw
      case rel => exact ⟨k + 1, _, by omega, by go_num, HO.out.set k (bAt l1 k ^^^ 255), by rw [List.length_set]; exact HL1.out, HK.out.trans' (Kept.cell wr g k _)⟩
      case measure => simp [intOf]; omega
    · have hge : ¬ ((k : Int) < (n : Int)) := by omega
      clear ho hl1 hkr
      go_wp2
      go_end0
      exact ⟨rfl, l1, HO.out, HL1.out, HK.out⟩
/-- Three lists of 512 bytes, in a table of their own. -/
theorem three_apart {w : World} {B b1 b2 b3 g1 g2 g3 c1 c2 c3 : Nat} {l1 l2 l3 : Bytes} (h1 : OwnB w b1 g1 c1 l1) (h2 : OwnB w b2 g2 c2 l2) (h3 : OwnB w b3 g3 c3 l3) (e1 : l1.length = 512) (e2 : l2.length = 512) (e3 : l3.length = 512)
    (n12 : g1 ≠ g2) (n13 : g1 ≠ g3) (n23 : g2 ≠ g3) (B1 : B ≤ b1) (B2 : B ≤ b2) (B3 : B ≤ b3) (hB : B ≤ w.heap.size) :
    Calls Try.prog 30 #[.slice (some ⟨w.heap.size, 0, none⟩) 3 3] (w.alloc (.cells #[.slice (some ⟨g1, 0, none⟩) 512 c1, .slice (some ⟨g2, 0, none⟩) 512 c2, .slice (some ⟨g3, 0, none⟩) 512 c3] 35)) fun e w' =>
      e = .returned (.bool true) ∧ Kept (fun x => x = g1 ∨ x = g2 ∨ x = g3) w w' := by
  have ka : Kept (fun _ => False) w (w.alloc (.cells #[.slice (some ⟨g1, 0, none⟩) 512 c1, .slice (some ⟨g2, 0, none⟩) 512 c2, .slice (some ⟨g3, 0, none⟩) 512 c3] 35)) := (Kept.refl _ _).alloc _
  have hb := heap_alloc_new w (.cells #[.slice (some ⟨g1, 0, none⟩) 512 c1, .slice (some ⟨g2, 0, none⟩) 512 c2, .slice (some ⟨g3, 0, none⟩) 512 c3] 35)
  have r1 := ownsRow_base (ownsRow_keep h1 ka (fun _ _ => id)) B1
  have r2 := ownsRow_base (ownsRow_keep h2 ka (fun _ _ => id)) B2
  have r3 := ownsRow_base (ownsRow_keep h3 ka (fun _ _ => id)) B3
  rw [e1] at r1; rw [e2] at r2; rw [e3] at r3
  have q1 : g1 < w.heap.size := by obtain ⟨cur, _, hh, _⟩ := h1.form; exact heap_lt hh
  have q2 : g2 < w.heap.size := by obtain ⟨cur, _, hh, _⟩ := h2.form; exact heap_lt hh
  have q3 : g3 < w.heap.size := by obtain ⟨cur, _, hh, _⟩ := h3.form; exact heap_lt hh
  refine (apartBytes_any _ B w.heap.size 3 3 (fun k => if k = 0 then some ⟨g1, 0, none⟩ else if k = 1 then some ⟨g2, 0, none⟩ else some ⟨g3, 0, none⟩) (fun _ => 512) (fun k => if k = 0 then c1 else if k = 1 then c2 else c3) (fun k => if k = 0 then l1 else if k = 1 then l2 else l3) ⟨fun k hk => ?_, fun k hk => ?_⟩ ⟨fun i j x hi hj hx hy => ?_, fun k hk e => ?_⟩ (by omega) (fun _ _ => by omega) (by have := ka.size; omega)).mono ?_
  · match k, hk with
    | 0, _ => exact cell_blk hb rfl
    | 1, _ => exact cell_blk hb rfl
    | 2, _ => exact cell_blk hb rfl
  · match k, hk with
    | 0, _ => exact r1
    | 1, _ => exact r2
    | 2, _ => exact r3
  · match i, j, hi, hj with
    | 0, 0, _, _ => rfl
    | 1, 1, _, _ => rfl
    | 2, 2, _, _ => rfl
    | 0, 1, _, _ => cases hx; cases hy; exact absurd rfl n12
    | 0, 2, _, _ => cases hx; cases hy; exact absurd rfl n13
    | 1, 0, _, _ => cases hx; cases hy; exact absurd rfl n12
    | 1, 2, _, _ => cases hx; cases hy; exact absurd rfl n23
    | 2, 0, _, _ => cases hx; cases hy; exact absurd rfl n13
    | 2, 1, _, _ => cases hx; cases hy; exact absurd rfl n23
  · match k, hk with
    | 0, _ => exact absurd (show g1 = w.heap.size from Option.some.inj e) (by omega)
    | 1, _ => exact absurd (show g2 = w.heap.size from Option.some.inj e) (by omega)
    | 2, _ => exact absurd (show g3 = w.heap.size from Option.some.inj e) (by omega)
  · rintro e w' ⟨rfl, hk⟩
    refine ⟨rfl, (ka.mono (fun _ _ e => e.elim)).trans hk ?_⟩
    rintro x _ ⟨k, hk, e⟩
    match k, hk with
    | 0, _ => cases e; exact .inl rfl
    | 1, _ => cases e; exact .inr (.inl rfl)
    | 2, _ => cases e; exact .inr (.inr rfl)
end Go.Proofs.Ytjhbkamgmldkmaa
