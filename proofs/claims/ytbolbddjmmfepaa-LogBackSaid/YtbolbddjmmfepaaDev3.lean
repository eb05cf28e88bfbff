/-
  No statement is proved here: the contract of device's Wake.
-/
import Derived.Test.YtbolbddjmmfepaaDev2
namespace Go.Proofs.Ytbolbddjmmfepaa
open Go.RowKit

/-- What a map of safe blocks holds while a new one, T, is laid over it: 'left' are still to come. -/
def midT (g T : Int → Option Value) (left : Int → Prop) (h : Int → Option Value) : Prop := ∀ k, (left k → h k = g k) ∧ (¬ left k → h k = T k)
theorem midT.start {f g T : Int → Option Value} (H : ∀ k, f k = none → T k = g k) : midT g T (keysOf f) g := fun k => ⟨fun _ => rfl, fun hn => by
  cases hf : f k with
  | none => exact (H k hf).symm
  | some v => simp [keysOf, hf] at hn⟩
theorem midT.step {g T h : Int → Option Value} {left : Int → Prop} (H : midT g T left h) {n : Int} {v : Value} (hv : T n = some v) : midT g T (fun m => left m ∧ m ≠ n) (updF h n v) := by
  intro k
  unfold updF
  by_cases hk : k = n
  · subst hk
    exact ⟨fun hl => absurd rfl hl.2, fun _ => by simp [hv]⟩
  · simp only [hk, if_false]
    exact ⟨fun hl => (H k).1 hl.1, fun hl => (H k).2 (fun h => hl ⟨h, hk⟩)⟩
theorem midT.at_ {g T h : Int → Option Value} {left : Int → Prop} (H : midT g T left h) {n : Int} (hl : left n) : h n = g n := (H n).1 hl
theorem midT.stop {g T h : Int → Option Value} {left : Int → Prop} (H : midT g T left h) (hn : ∀ n, ¬ left n) : h = T := funext fun k => (H k).2 (hn k)

abbrev Fates := List (Int × UInt8)
/-- Fates that lie from a cell on. -/
def RdF (w : World) (A : Option Addr) (fs : Fates) : Prop := fs ≠ [] → ∃ b off, A = some ⟨b, off, none⟩ ∧
  ∀ i x, fs[i]? = some x → w.cell? ⟨b, off + i * 2, none⟩ = some (.int .i64 x.1) ∧ w.cell? ⟨b, off + i * 2 + 1, none⟩ = some (.int .u8 x.2.toNat)
def keepF (fs : Fates) : Int → Option UInt8 := fs.foldl (fun f x => updF f x.1 x.2) (fun _ => none)
def keepOf (fs : Fates) (n : Int) : UInt8 := (keepF fs n).getD 0
def bitOf (k : UInt8) (i : Nat) : Bool := k.toNat >>> (i / 64) % 2 == 1
/-- The first m bytes mixed, the others as they were safe. -/
def mixTo (k : UInt8) (s b : Bytes) (m : Nat) : Bytes := List.ofFn (n := 512) fun i => if i.val < m && bitOf k i then b.getD i 0 else s.getD i 0
def mix (k : UInt8) (s b : Bytes) : Bytes := mixTo k s b 512
def DevM.wake (D : DevM) (fs : Fates) : DevM :=
  { D with down := false, armed := 0, opn := fun _ => none, safe := fun k => match D.opn k with | some b => some (mix (keepOf fs k) ((D.safe k).getD (zeros 512)) b) | none => D.safe k }
theorem mixTo_get (k : UInt8) (s b : Bytes) (m i : Nat) (h : i < 512) : (mixTo k s b m)[i]? = some (if i < m && bitOf k i then b.getD i 0 else s.getD i 0) := by
  unfold mixTo
  rw [List.getElem?_ofFn, dif_pos h]
theorem bits_and_u8_one (x : Nat) (hx : x < 256) : bits BinOp.and IntKind.u8 (x : Int) 1 = (x % 2 : Nat) := by
  have h : ∀ y : Fin 256, bits BinOp.and IntKind.u8 ((y.val : Nat) : Int) 1 = ((y.val % 2 : Nat) : Int) := by decide +kernel
  exact h ⟨x, hx⟩
theorem bitOf_test (k : UInt8) (i : Nat) : (bits BinOp.and IntKind.u8 ((k.toNat : Int) / 2 ^ (i / 64)) 1 == 1) = bitOf k i := by
  have e : (k.toNat : Int) / 2 ^ (i / 64) = ((k.toNat / 2 ^ (i / 64) : Nat) : Int) := by
    rw [Int.natCast_ediv, Int.natCast_pow]; rfl
  have hlt : k.toNat / 2 ^ (i / 64) < 256 := Nat.lt_of_le_of_lt (Nat.div_le_self _ _) k.toNat_lt
  rw [e, bits_and_u8_one _ hlt, bitOf, Nat.shiftRight_eq_div_pow]
  generalize k.toNat / 2 ^ (i / 64) % 2 = y
  rw [Bool.eq_iff_iff]
  simp
  omega
theorem len_mixTo (k : UInt8) (s b : Bytes) (m : Nat) : (mixTo k s b m).length = 512 := List.length_ofFn
theorem mixTo_zero (k : UInt8) {s : Bytes} (hs : s.length = 512) (b : Bytes) : mixTo k s b 0 = s := by
  apply List.ext_getElem?
  intro i
  by_cases h : i < 512
  · rw [mixTo_get k s b 0 i h]
    simp [List.getD_eq_getElem?_getD, show i < s.length by omega]
  · rw [List.getElem?_eq_none (by rw [len_mixTo]; omega), List.getElem?_eq_none (by omega)]
theorem mixTo_no (k : UInt8) (s b : Bytes) (m : Nat) (hb : bitOf k m = false) : mixTo k s b (m + 1) = mixTo k s b m := by
  apply List.ext_getElem?
  intro i
  by_cases h : i < 512
  · rw [mixTo_get k s b _ i h, mixTo_get k s b _ i h]
    by_cases he : i = m
    · subst he; simp [hb]
    · have : (i < m + 1) = (i < m) := by apply propext; omega
      simp only [this]
  · rw [List.getElem?_eq_none (by rw [len_mixTo]; omega), List.getElem?_eq_none (by rw [len_mixTo]; omega)]
theorem mixTo_yes (k : UInt8) (s b : Bytes) (m : Nat) (hm : m < 512) (hb : bitOf k m = true) : cellsOf (mixTo k s b (m + 1)) = (cellsOf (mixTo k s b m)).setIfInBounds m (.int .u8 (b.getD m 0).toNat) := by
  apply Array.ext_getElem?
  intro i
  rw [Array.getElem?_setIfInBounds]
  by_cases h : i < 512
  · rw [cellsOf_get, cellsOf_get, mixTo_get k s b _ i h, mixTo_get k s b _ i h, size_cellsOf, len_mixTo]
    by_cases he : m = i
    · subst he; simp [hb, hm]
    · have : (i < m + 1) = (i < m) := by apply propext; omega
      simp only [this, if_neg he]
  · have e1 : (cellsOf (mixTo k s b (m + 1)))[i]? = none := Array.getElem?_eq_none (by rw [size_cellsOf, len_mixTo]; omega)
    have e2 : (cellsOf (mixTo k s b m))[i]? = none := Array.getElem?_eq_none (by rw [size_cellsOf, len_mixTo]; omega)
    rw [e1, e2, if_neg (by omega)]
def u8F (f : Int → Option UInt8) : Int → Option Value := fun k => (f k).map fun x => .int .u8 x.toNat
theorem u8F_upd (f : Int → Option UInt8) (n : Int) (x : UInt8) : updF (u8F f) n (.int .u8 x.toNat) = u8F (updF f n x) := by
  funext k; simp only [updF, u8F]; split <;> rfl
theorem keepF_snoc (fs : Fates) (x : Int × UInt8) : keepF (fs ++ [x]) = updF (keepF fs) x.1 x.2 := by simp [keepF]

section
variable {w : World} {p ms mo : Nat} {D : DevM}
theorem infoFate : (Try.prog.info? 117).map (fun i => (i.zero, i.size)) = some (some (.agg #[.int .i64 0, .int .u8 0]), 2) := by kernel_rfl
theorem zeroFate (w : World) : (zeroValue 117).run Try.prog w = .ok (.agg #[.int .i64 0, .int .u8 0]) w := (zero_of_info infoFate).1 w

set_option maxRecDepth 100000 in
set_option maxHeartbeats 2000000 in
theorem wake_any (h : DevAt w p ms mo D) (A : Option Addr) (c : Nat) (fs : Fates) (hfs : RdF w A fs) (hap : fs ≠ [] → ∀ b off, A = some ⟨b, off, none⟩ → b ≠ p) (hn : fs.length ≤ 4611686018427387904) :
    Calls Try.prog 35 #[.pointer (some ⟨p, 0, none⟩), .slice A fs.length c] w fun e w' => e = .returned (.tuple #[]) ∧ DevAt w' p ms mo (D.wake fs) ∧ Kept (fun x => x = p ∨ x = ms ∨ x = mo) w w' := by
  have c0 := h.c0; have c4 := h.c4; have c3 := h.c3
  have f3 := free_blk h.hp 3; have f4 := free_blk h.hp 4
  have hz : (D.n == 0) = false := by have := h.n0; simp; omega
  have hx := h
  have HF := Lib.hid hfs
  have h1 := h.h1; have h2 := h.h2; have h3 := h.h3
  have lp := heap_lt h.hp; have lms := h.hs.lt; have lmo := h.ho.lt
  clear h hfs
  go_enter Try.func35, Try.ntmps35
  go_wp2_with (refine wl_makeMap rfl 115 rfl ?_)
  intro g w2 n2 m2 hkm hk2
  have hk1 : Kept (fun x => x = p) w ((w.setCell ⟨p, 4, none⟩ (.bool false)).setCell ⟨p, 3, none⟩ (.int .i64 0)) := (Kept.cell w p 4 _).trans' (Kept.cell _ p 3 _)
  have hp2 := hk2.heap (set_blk (set_blk hx.hp 4 (.bool false)) 3 (.int .i64 0)) id
  have hk02 : Kept (fun x => x = p) w w2 := hk1.trans0 hk2
  have hms2 := hx.hs.kept hk02 (Ne.symm h1)
  have hmo2 := hx.ho.kept hk02 (Ne.symm h2)
  have HK02 := Lib.hid hk02
  have n2' : w.heap.size ≤ g := by simpa using n2
  clear c0 c3 c4 f3 f4 hz hk1 hk2 hk02 n2
  simp only [List.setIfInBounds_toArray, List.set_cons_succ, List.set_cons_zero] at hp2
  go_wp2
  go_loopw [29] (fun i wr => ∃ k : Nat, k ≤ fs.length ∧ i = .int .i64 k ∧ IMap wr g (u8F (keepF (fs.take k))) ∧ Kept (fun x => x = g) w2 wr) (fun i wr => fs.length - (intOf i).toNat)
  case atStart => exact ⟨0, Nat.zero_le _, rfl, hkm, Kept.refl _ _⟩
  case round =>
    obtain ⟨k, hkl, rfl, hm, hk⟩ := hrel
    have HM := Lib.hid hm
    have HK := Lib.hid hk
    have lgr := hm.lt
    have szr := hk.size
    have sz2 := HK02.out.size
    clear hm hk
    by_cases hlt : k < fs.length
    · obtain ⟨b, off, hA, hcell⟩ := HF.out (by intro e; simp [e] at hlt)
      have hbp := hap (by intro e; simp [e] at hlt) b off hA
      subst hA
      have hx1 := hcell k fs[k] (by simp [hlt])
      have lb := block_lt_of_cell hx1.1
      simp only at lb
      have kk := (HK02.out.trans HK.out (T := fun x => x = g) (S := fun x => x = p) (by intro x hx e; omega))
      have e1 : wr.cell? ⟨b, off + k * 2, none⟩ = some (.int .i64 fs[k].1) := (World.cell?_of_block (kk.block b lb hbp)).trans hx1.1
      have e2 : wr.cell? ⟨b, off + k * 2 + 1, none⟩ = some (.int .u8 fs[k].2.toNat) := (World.cell?_of_block (kk.block b lb hbp)).trans hx1.2
      have HS := Lib.hid (show keepF (fs.take (k + 1)) = updF (keepF (fs.take k)) fs[k].1 fs[k].2 by rw [List.take_succ_eq_append_getElem hlt, keepF_snoc])
      clear hcell hx1 kk
      generalize fs[k] = x at *
      obtain ⟨fb, fk⟩ := x
      simp only at e1 e2
      go_wp2_with (refine wl_alloc' rfl 117 rfl #[.int .i64 0, .int .u8 0] zeroFate ?_)
      intro g3 w3 n3 m3 hb3 hk3
      go_wp2_with (refine wl_store_row rfl 117 _ _ rfl g3 #[.int .i64 fb, .int .u8 fk.toNat] _ rfl rfl hb3 (zero_of_info infoFate).2 rfl (by simp [Value.oneCell']) ?_)
      intro w4 hb4 hk4
      have hk34 : Kept (fun _ => False) wr w4 := hk3.trans hk4 (by intro x hx e; omega)
      have d0 : w4.cell? ⟨g3, 0, none⟩ = some (.int .i64 fb) := cell_blk hb4 rfl
      have d1 : w4.cell? ⟨g3, 1, none⟩ = some (.int .u8 fk.toNat) := cell_blk hb4 rfl
      obtain ⟨w5, hrun, hm5, hk5, _⟩ := IMap.update (P := Try.prog) (HM.out.kept (w' := w4) hk34 (fun h => h)) Try.underlying115 Try.underlying3 fb (.int .u8 fk.toNat)
      have HK34 := Lib.hid hk34
      have HK5 := Lib.hid hk5
      have HM5 := Lib.hid hm5
      clear hb3 hk3 hb4 hk4 hk34 hm5 hk5
      go_wp2
      go_roundw
      case rel => exact ⟨k + 1, by omega, by go_num, by rw [HS.out, ← u8F_upd]; exact HM5.out, (HK.out.trans0 HK34.out).trans' HK5.out⟩
      case measure => simp [intOf]; omega
    · have HM2 := Lib.hid (show IMap wr g (u8F (keepF fs)) from by have := HM.out; rwa [List.take_of_length_le (by omega)] at this)
      have hk03 : Kept (fun x => x = p) w wr := HK02.out.trans HK.out (by intro x hx e; omega)
      have hp3 := HK.out.heap hp2 (by omega)
      have hms3 := Lib.hid (hms2.kept HK.out (by omega))
      have hmo3 := Lib.hid (hmo2.kept HK.out (by omega))
      have HK03 := Lib.hid hk03
      have c2 : wr.cell? ⟨p, 2, none⟩ = some (.map (some mo)) := cell_blk hp3 rfl
      have hge : ¬ ((k : Int) < (fs.length : Int)) := by omega
      clear hk03 hp2 hms2 hmo2 hkm HM HK HK02 hlt
      go_wp2_with (refine wl_rangeM rfl 112 _ rfl mo rfl hmo3.out Try.underlying112 ?_)
      intro r w4 cnt n4 m4 hit hk4
      have hp4 := hk4.heap hp3 id
      have hms4 := Lib.hid (hms3.out.kept (w' := w4) hk4 (fun h => h))
      have hkm4 := Lib.hid (HM2.out.kept (w' := w4) hk4 (fun h => h))
      have HK04 := Lib.hid (HK03.out.trans0 hk4)
      have HIT := Lib.hid hit
      have lp3 := heap_lt hp3
      have lms3 := hms3.out.lt
      have lmo3 := hmo3.out.lt
      have lms4 := hms4.out.lt
      have hgp : p ≠ g := by omega
      have hgms : ms ≠ g := by omega
      have hgmo : mo ≠ g := by omega
      have hpr : p ≠ r := by omega
      have hmsr : ms ≠ r := by omega
      have hmor : mo ≠ r := by omega
      have hgr : g ≠ r := by omega
      clear c2 hp3 hms3 hmo3 hit hk4 HM2 HK03
      go_wp2
      go_loopw [] (fun wr => ∃ left cnt hh, IterAt wr r mo (blkF D.opn) left cnt ∧ IMap wr ms hh ∧ midT (blkF D.safe) (blkF (D.wake fs).safe) left hh ∧ IMap wr g (u8F (keepF fs)) ∧ Kept (fun x => x = ms ∨ x = r) w4 wr) (fun wr => iterLeft wr r)
      case atStart => exact ⟨_, _, _, HIT.out, hms4.out, midT.start (f := blkF D.opn) (fun k hk => by
        unfold blkF at hk ⊢
        cases ho : D.opn k with
        | none => simp [DevM.wake, ho]
        | some l => simp [ho] at hk), hkm4.out, Kept.refl _ _⟩
      case round =>
        obtain ⟨left, cnt1, hh, hit, hms1, hmid, hkm1, hk⟩ := hrel
        have HL0 := Lib.hid hit.left_eq
        have HT := Lib.hid hit
        have HMS := Lib.hid hms1
        have HMID := Lib.hid hmid
        have HKM := Lib.hid hkm1
        have HK := Lib.hid hk
        have hsz := hk.size
        have hpw := hk.heap hp4 (by omega)
        have hlr := hit.lt
        have lsr := hms1.lt
        have lor := hit.lt_b
        have lgr' := hkm1.lt
        have lpr := heap_lt hpw
        clear hit hms1 hmid hkm1 hk
        go_wp2_with (refine wl_nextM rfl _ rfl r mo rfl HT.out ?_ ?_)
        · intro hno
          have c2 : wr.cell? ⟨p, 2, none⟩ = some (.map (some mo)) := cell_blk hpw rfl
          obtain ⟨w5, hrun, hmap, hk5, _⟩ := HT.out.map.clear (P := Try.prog) Try.underlying112 0
          have HM5 := Lib.hid hmap
          have HK5 := Lib.hid hk5
          clear hmap hk5
          go_wp2
          go_end0
          have hp5 := HK5.out.heap hpw h2
          have hs5 := HMS.out.kept HK5.out h3
          refine ⟨rfl, ⟨h1, h2, h3, hp5, ?_, HM5.out, ?_, ?_, hx.n0, hx.n1, Int.le_refl 0, by show (0:Int) ≤ _; omega⟩, ?_⟩
          · rw [HMID.out.stop hno] at hs5
            exact hs5
          · intro k l hl
            simp only [DevM.wake] at hl
            cases ho : D.opn k with
            | some l' => rw [ho] at hl; cases hl; exact len_mixTo _ _ _ _
            | none => rw [ho] at hl; exact hx.ls k _ hl
          · intro k l hl; cases hl
          · refine ((HK04.out.mono (fun x _ e => .inl e)).trans HK.out ?_).trans HK5.out ?_
            · rintro x hx (e | e)
              · exact .inr (.inl e)
              · omega
            · intro x hx e; exact .inr (.inr e)
        · intro n v w5 cnt2 hln hfn hit5 hlt5 hk5 hen
          obtain ⟨l, hol, rfl⟩ := blkF_some hfn
          have HX := Lib.hid (hx.lo n l hol)
          have hsv : blkF D.safe n = some (blk ((D.safe n).getD (zeros 512))) ∨ blkF D.safe n = none := by
            unfold blkF; cases D.safe n with
            | none => exact .inr rfl
            | some s => exact .inl rfl
          have HO := Lib.hid hol
          have HT5 := Lib.hid hit5
          have HK5 := Lib.hid hk5
          have hp5 := hk5.heap hpw hpr
          have hms5 := Lib.hid (HMS.out.kept hk5 hmsr)
          have hkm5 := Lib.hid (HKM.out.kept hk5 hgr)
          have lms5 := hms5.out.lt
          have lp5 := heap_lt hp5
          have lg5 := hkm5.out.lt
          have lr5 := hit5.lt
          have lo5 := hit5.lt_b
          have HLS : Hid ((((D.safe n).getD (zeros 512) : Bytes)).length = 512) := Lib.hid (by
            cases hs : D.safe n with
            | none => exact len_zeros _
            | some s => exact hx.ls n s hs)
          have HLK : Hid (∀ W, Kept (fun _ => False) w5 W → (Instr.lookup 112 (.map (some ms)) (.int .i64 n) false).run Try.prog W = .ok (.agg (cellsOf ((D.safe n).getD (zeros 512)))) W) := Lib.hid (fun W hW => by
            have := (hms5.out.kept (w' := W) hW (fun h => h)).lookup (P := Try.prog) Try.underlying112 Try.underlying3 (zero512 W) n
            rw [this, HMID.out.at_ hln]
            unfold blkF
            cases D.safe n <;> rfl)
          clear hol hfn hit5 hk5 hsv
          generalize hsd : (D.safe n).getD (zeros 512) = s at *
          have HSD := Lib.hid hsd
          clear hsd
          go_wp2_with (refine wl_alloc' rfl 119 rfl (cellsOf (zeros 512)) zero512 ?_)
          intro g8 w6 n6 m6 hb6 hk6
          go_wp2_with (refine wl_store_row rfl 119 _ _ rfl g8 (cellsOf l) _ rfl rfl hb6 (size512 HX.out) (by simp [size_cellsOf, HX.out, len_zeros]) (one_cellsOf l) ?_)
          intro w7 hb7 hk7
          have hk57 : Kept (fun _ => False) w5 w7 := hk6.trans hk7 (by intro x hx e; omega)
          have sz57 := hk57.size
          have lg8 := heap_lt hb7
          have hp7 := hk57.heap hp5 id
          have c1 : w7.cell? ⟨p, 1, none⟩ = some (.map (some ms)) := cell_blk hp7 rfl
          have lk := HLK.out w7 hk57
          have HK57 := Lib.hid hk57
          clear hb6 hk6 hk7 hk57 hen
          go_wp2_with (refine wl_alloc' rfl 119 rfl (cellsOf (zeros 512)) zero512 ?_)
          intro g9 w8 n8 m8 hb8 hk8
          have hb8' := hk8.heap hb7 id
          go_wp2_with (refine wl_store_row rfl 119 _ _ rfl g9 (cellsOf s) _ rfl rfl hb8 (size512 HLS.out) (by simp [size_cellsOf, HLS.out, len_zeros]) (one_cellsOf s) ?_)
          intro w9 hb9 hk9
          have hb9' : w9.heap[g8]? = some (.cells (cellsOf l) 119 (0, 0)) := hk9.heap hb8' (by omega)
          have hk59 : Kept (fun _ => False) w5 w9 := (HK57.out.trans0 hk8).trans hk9 (by intro x hx e; omega)
          have HK59 := Lib.hid hk59
          clear hb7 hb8 hb8' hk8 hk9 c1 lk hk59 hp7
          go_wp2
          obtain ⟨wo, rfl⟩ : ∃ wo : World, wo = wr := ⟨_, rfl⟩
          have HK00 := HK
          go_loopw [55] (fun i wx => ∃ m : Nat, m ≤ 512 ∧ i = .int .i64 m ∧ wx.heap[g9]? = some (.cells (cellsOf (mixTo (keepOf fs n) s l m)) 119 (0, 0)) ∧ Kept (fun x => x = g9) w9 wx) (fun i wx => 512 - (intOf i).toNat)
          case atStart => exact ⟨0, by omega, rfl, by rw [mixTo_zero _ HLS.out l]; exact hb9, Kept.refl _ _⟩
          case round =>
            obtain ⟨m, hm, rfl, hb, hk⟩ := hrel
            have HB := Lib.hid hb
            have hb8x := hk.heap hb9' (by omega)
            have HK := Lib.hid hk
            have szx := hk.size
            have hkmx := (hkm5.out.kept (w' := w9) HK59.out (fun h => h)).kept hk (by omega)
            have lk := hkmx.lookup (P := Try.prog) Try.underlying115 Try.underlying3 (zeroU8 wr) n
            have ek : (u8F (keepF fs) n).getD (.int .u8 0) = .int .u8 (keepOf fs n).toNat := by unfold u8F keepOf; cases keepF fs n <;> rfl
            rw [ek] at lk
            clear hk hkmx ek
            by_cases hlt : m < 512
            · have i0 : (0 : Int) ≤ (m : Int) := by omega
              have i1 : (m : Int) < 512 := by omega
              have e8 : wr.cell? ⟨g8, m, none⟩ = some (.int .u8 (l.getD m 0).toNat) := cell_blk hb8x (by rw [cellsOf_get, List.getD_eq_getElem?_getD, List.getElem?_eq_getElem (by rw [HX.out]; omega)]; rfl)
              have e9 : wr.cell? ⟨g9, m, none⟩ = some (.int .u8 ((mixTo (keepOf fs n) s l m).getD m 0).toNat) := cell_blk hb (by rw [cellsOf_get, List.getD_eq_getElem?_getD, List.getElem?_eq_getElem (by rw [len_mixTo]; omega)]; rfl)
              have f9 := free_blk hb m
              have hne : g8 ≠ g9 := by omega
              have hbt := bitOf_test (keepOf fs n) m
              clear hb hb8x
              cases hbit : bitOf (keepOf fs n) m
              · rw [hbit] at hbt
                have HBT := Lib.hid (mixTo_no _ s l m hbit)
                clear hbit
                go_wp2
                go_roundw
                case rel => exact ⟨m + 1, by omega, by go_num, by rw [HBT.out]; exact HB.out, HK.out⟩
                case measure => simp [intOf]; omega
              · rw [hbit] at hbt
                have HBT := Lib.hid (mixTo_yes _ s l m hlt hbit)
                clear hbit
                go_wp2
                go_roundw
                case rel => exact ⟨m + 1, by omega, by go_num, by rw [HBT.out]; exact set_blk HB.out m _, HK.out.trans' (Kept.cell wr g9 m _)⟩
                case measure => simp [intOf]; omega
            · obtain rfl : m = 512 := by omega
              have hp9 := HK59.out.heap hp5 (fun h => h)
              have hpx := HK.out.heap hp9 (by omega)
              have c1 : wr.cell? ⟨p, 1, none⟩ = some (.map (some ms)) := cell_blk hpx rfl
              have hmsx := Lib.hid ((hms5.out.kept (w' := w9) HK59.out (fun h => h)).kept HK.out (by omega))
              have hitx := Lib.hid ((HT5.out.kept (w' := w9) HK59.out (fun h => h) (fun h => h)).kept HK.out (by omega) (by omega))
              have hkmx := Lib.hid ((hkm5.out.kept (w' := w9) HK59.out (fun h => h)).kept HK.out (by omega))
              clear lk hb8x hp9
              go_wp2
              refine wp_region_still_tail 6 (by kernel_rfl) (by kernel_rfl) ?_
              simp only [List.take_succ_cons, List.take_zero, List.drop_succ_cons, List.drop_zero]
              iterate 5 still_step
              refine ws_load_row rfl 119 _ rfl g9 rfl (cellsOf (mixTo (keepOf fs n) s l 512)) hb Try.underlying119 rfl (size512 (len_mixTo _ _ _ _)) ?_
              refine wpStill_nil ?_
              obtain ⟨w6, hrun, hmap, hk6, _⟩ := IMap.update (P := Try.prog) (w := wr.drew) hmsx.out Try.underlying112 Try.underlying3 n (blk (mixTo (keepOf fs n) s l 512))
              refine wl_mapUpdate rfl 112 _ _ _ rfl hrun ?_
              have hk6' : Kept (fun x => x = ms) wr w6 := ⟨hk6.os, hk6.tape, hk6.output, hk6.size, hk6.block⟩
              have HM6 := Lib.hid hmap
              have HK6 := Lib.hid hk6'
              clear hmap hk6 hk6' hrun hb
              go_frame
              go_wp2
              go_roundw
              case rel =>
                refine ⟨_, _, _, hitx.out.kept HK6.out (Ne.symm hmsr) (Ne.symm h3), HM6.out, HMID.out.step (by
                  unfold blkF
                  simp only [DevM.wake, HO.out, HSD.out]
                  rfl), hkmx.out.kept HK6.out (Ne.symm hgms), ?_⟩
                have sz5 := HK5.out.size
                have k1 : Kept (fun x => x = r) wo wr := (HK5.out.trans0 HK59.out).trans HK.out (by intro x hx e; omega)
                exact (HK00.out.trans k1 (fun x hx e => .inr e)).trans HK6.out (fun x hx e => .inl e)
              case measure =>
                have e1 := (hitx.out.kept HK6.out (Ne.symm hmsr) (Ne.symm h3)).left_eq
                have e0 := HL0.out
                omega
end
end Go.Proofs.Ytbolbddjmmfepaa
