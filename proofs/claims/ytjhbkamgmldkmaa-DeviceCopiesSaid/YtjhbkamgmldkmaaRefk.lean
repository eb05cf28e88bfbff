/-
  No statement is proved here: the contract of the document's device: Wake.
-/
import Derived.Test.YtjhbkamgmldkmaaRefs
import Derived.Test.YtjhbkamgmldkmaaLent
namespace Go.Proofs.Ytjhbkamgmldkmaa
open Go.RowKit

def midL (f : RowM → RowM) (l : List RowM) (k : Nat) : List RowM := (l.take k).map f ++ l.drop k
theorem midL_get {f : RowM → RowM} {l : List RowM} {k : Nat} (h : k < l.length) : (midL f l k)[k]? = l[k]? := by
  unfold midL
  rw [List.getElem?_append_right (by simp; omega)]
  simp [Nat.min_eq_left (Nat.le_of_lt h)]
theorem midL_set {f : RowM → RowM} {l : List RowM} {k : Nat} {r : RowM} (h : l[k]? = some r) : (midL f l k).set k (f r) = midL f l (k + 1) := by
  have hk := (List.getElem?_eq_some_iff.1 h).1
  have hr := (List.getElem?_eq_some_iff.1 h).2
  unfold midL
  rw [List.set_append_right _ _ (by simp; omega)]
  rw [List.take_succ_eq_append_getElem hk, List.map_append, List.append_assoc, hr]
  have e : k - (List.map f (List.take k l)).length = 0 := by simp; omega
  have hd := List.drop_eq_getElem_cons hk
  rw [hr] at hd
  rw [e, hd]
  simp
theorem midL_len (f : RowM → RowM) (l : List RowM) (k : Nat) : (midL f l k).length = l.length := by simp [midL]; omega
theorem midL_end (f : RowM → RowM) (l : List RowM) : midL f l l.length = l.map f := by simp [midL]
theorem midL_same {f : RowM → RowM} {l : List RowM} {k : Nat} {r : RowM} (h : l[k]? = some r) (e : f r = r) : midL f l k = midL f l (k + 1) := by
  have h2 := midL_set (f := f) h
  have h3 := (midL_get (f := f) (List.getElem?_eq_some_iff.1 h).1).trans h
  rw [e] at h2
  rw [← h2]
  apply List.ext_getElem?
  intro i
  rw [List.getElem?_set]
  split
  · rename_i e; subst e; rw [if_pos (List.getElem?_eq_some_iff.1 h3).1]; exact h3
  · rfl
def wakeRow (fs : Fates) (r : RowM) : RowM := if r.opn then { r with latest := mix (keepOf fs r.n) r.safe r.latest, safe := mix (keepOf fs r.n) r.safe r.latest, opn := false } else r
def RefM.wake (R : RefM) (fs : Fates) : RefM := { R with off := false, armed := 0, rows := R.rows.map (wakeRow fs) }
theorem keepOf_succR {fs : Fates} {k : Nat} {x : Int × UInt8} (h : fs[k]? = some x) (n : Int) : keepOf (fs.take (k + 1)) n = if x.1 = n then x.2 else keepOf (fs.take k) n := by
  have hk := (List.getElem?_eq_some_iff.1 h).1
  have hr := (List.getElem?_eq_some_iff.1 h).2
  rw [List.take_succ_eq_append_getElem hk, hr]
  unfold keepOf
  rw [keepF_snoc]
  unfold updF
  by_cases e : n = x.1
  · simp [e]
  · rw [if_neg e, if_neg (fun e' => e e'.symm)]
theorem mix_at (k : UInt8) (s l : Bytes) {i : Nat} (hi : i < 512) : (mix k s l)[i]? = some (if bitOf k i then bAt l i else bAt s i) := by
  unfold mix
  rw [mixTo_get k s l 512 i hi]
  simp [hi, bAt]
theorem mix_take (k : UInt8) (s l : Bytes) {i : Nat} (hi : i < 512) : (mix k s l).take (i + 1) = (mix k s l).take i ++ [if bitOf k i then bAt l i else bAt s i] := by
  have h := mix_at k s l hi
  have hk := (List.getElem?_eq_some_iff.1 h).1
  rw [List.take_succ_eq_append_getElem hk, (List.getElem?_eq_some_iff.1 h).2]
theorem len_mix (k : UInt8) (s l : Bytes) : (mix k s l).length = 512 := len_mixTo _ _ _ _
section
variable {w w' : World} {q : Nat} {M I : Nat → Prop} {R : RefM} {v : Value} {cs : List RowC}
theorem RefP.mono {I' : Nat → Prop} (h : RefP w q M I R v cs) (hI : ∀ x, I x → I' x) (ha : ∀ x, I' x → ¬ M x) (hl : ∀ x, I' x → x < w.heap.size) : RefP w q M I' R v cs :=
  ⟨h.hq, h.own, h.mv, h.mq, h.len, fun i c r h1 h2 => ⟨(h.rows i c r h1 h2).1, (h.rows i c r h1 h2).2.1, (h.rows i c r h1 h2).2.2.1.mono hI, (h.rows i c r h1 h2).2.2.2.mono hI⟩, ha, h.mlt, hl, h.n0, h.n1, h.a0, h.a1⟩
/-- A row's bytes, both, and that it is not open. -/
theorem RefP.woken {w6 : World} {g n cap k g5 cap5 base : Nat} {c : RowC} {r : RowM} {l : Bytes} (h : RefP w q M I R (.slice (some ⟨g, 0, none⟩) n cap) cs) (hc : cs[k]? = some c) (hr : R.rows[k]? = some r) (k6 : Kept (fun _ => False) w w6)
    (ho : OwnB w6 base g5 cap5 l) (hl : l.length = 512) (n5 : w.heap.size ≤ g5) :
    ∃ cs', cs'.length = cs.length ∧ RefP (((w6.setCell ⟨g, k * 4 + 1, none⟩ (.slice (some ⟨g5, 0, none⟩) 512 cap5)).setCell ⟨g, k * 4 + 2, none⟩ (.slice (some ⟨g5, 0, none⟩) 512 cap5)).setCell ⟨g, k * 4 + 3, none⟩ (.bool false)) q M (fun x => I x ∨ x = g5)
        { R with rows := R.rows.set k { r with latest := l, safe := l, opn := false } } (.slice (some ⟨g, 0, none⟩) n cap) cs' ∧
      Kept (fun x => x = g) w6 (((w6.setCell ⟨g, k * 4 + 1, none⟩ (.slice (some ⟨g5, 0, none⟩) 512 cap5)).setCell ⟨g, k * 4 + 2, none⟩ (.slice (some ⟨g5, 0, none⟩) 512 cap5)).setCell ⟨g, k * 4 + 3, none⟩ (.bool false)) := by
  obtain ⟨cur, _, hh, _⟩ := ho.form
  have hk := (List.getElem?_eq_some_iff.1 hc).1
  have hk' := (List.getElem?_eq_some_iff.1 hr).1
  obtain ⟨h1, q1⟩ := (h.toX k).lv hc hr k6 (BytesV.own ho hl) n5 (heap_lt hh)
  have hc1 : (cs.set k { c with lv := .slice (some ⟨g5, 0, none⟩) 512 cap5 })[k]? = some { c with lv := .slice (some ⟨g5, 0, none⟩) 512 cap5 } := by rw [List.getElem?_set_self hk]
  have hr1 : (R.rows.set k { r with latest := l })[k]? = some { r with latest := l } := by rw [List.getElem?_set_self hk']
  obtain ⟨h2, q2⟩ := h1.sv hc1 hr1 (h1.rows k _ _ hc1 hr1).2.2.1
  have hc2 : ((cs.set k { c with lv := .slice (some ⟨g5, 0, none⟩) 512 cap5 }).set k { c with lv := .slice (some ⟨g5, 0, none⟩) 512 cap5, sv := .slice (some ⟨g5, 0, none⟩) 512 cap5 })[k]? = some { c with lv := .slice (some ⟨g5, 0, none⟩) 512 cap5, sv := .slice (some ⟨g5, 0, none⟩) 512 cap5 } := by rw [List.getElem?_set_self (by simpa using hk)]
  have hr2 : ((R.rows.set k { r with latest := l }).set k { r with latest := l, safe := l })[k]? = some { r with latest := l, safe := l } := by rw [List.getElem?_set_self (by simpa using hk')]
  obtain ⟨h3, q3⟩ := h2.opn false hc2 hr2
  simp only [List.set_set] at h3
  exact ⟨_, by simp, h3, (q1.trans' q2).trans' q3⟩

set_option maxRecDepth 100000 in
set_option maxHeartbeats 2000000 in
theorem rwake_any (h : RefAt w q M I R) (FA : Option Addr) (c : Nat) (fs : Fates) (hfs : RdF w FA fs) (hap : fs ≠ [] → ∀ b off, FA = some ⟨b, off, none⟩ → ¬ M b) (hn : fs.length ≤ 4611686018427387904) :
    Calls Try.prog 22 #[.pointer (some ⟨q, 0, none⟩), .slice FA fs.length c] w fun e w' => ∃ I', e = .returned (.tuple #[]) ∧ RefAt w' q M I' (R.wake fs) ∧ Kept M w w' ∧ ∀ x, I' x → I x ∨ w.heap.size ≤ x := by
  obtain ⟨v, cs, h⟩ := h
  have c2 : w.cell? ⟨q, 2, none⟩ = some (.int .i64 R.armed) := cell_blk h.hq rfl
  have c3 : w.cell? ⟨q, 3, none⟩ = some (.bool R.off) := cell_blk h.hq rfl
  have f2 := free_blk h.hq 2
  have f3 := free_blk h.hq 3
  have hMq := h.mq
  have hmx := row_len h.own
  have k1 : Kept (fun x => x = q) w ((w.setCell ⟨q, 3, none⟩ (.bool false)).setCell ⟨q, 2, none⟩ (.int .i64 0)) := (Kept.cell w q 3 _).trans' (Kept.cell _ q 2 _)
  have HP0 := Lib.hid (h.head k1 (set_blk (set_blk h.hq 3 _) 2 _) (Int.le_refl 0) (by omega))
  have HK0 := Lib.hid (k1.mono (T := M) (fun x _ e => e ▸ hMq))
  obtain ⟨A, cap, rfl, hA⟩ := row_form h.own
  have hRl := Lib.hid h.len
  have HFS := Lib.hid hfs
  have HAP := Lib.hid hap
  clear h k1 hfs hap
  go_enter Try.func22, Try.ntmps22
  go_wp2
  go_loopw [4] (fun i wr => ∃ (k : Nat) (cr : List RowC) (I' : Nat → Prop), k ≤ cs.length ∧ i = .int .i64 k ∧ cr.length = cs.length ∧ RefP wr q M I' { R with armed := 0, off := false, rows := midL (wakeRow fs) R.rows k } (.slice A cs.length cap) cr ∧ Kept M w wr ∧ (∀ x, I' x → I x ∨ w.heap.size ≤ x)) (fun i _ => cs.length - (intOf i).toNat)
  case atStart => exact ⟨0, cs, I, by omega, rfl, rfl, by simpa [midL] using HP0.out, HK0.out, fun _ h => .inl h⟩
  case round =>
    obtain ⟨k, cr, I', hk, rfl, hl, hP, hkr, hI'⟩ := hrel
    have HK := Lib.hid hkr
    have HP := Lib.hid hP
    have HI := Lib.hid hI'
    have HCL := Lib.hid hl
    have c1 : wr.cell? ⟨q, 1, none⟩ = some (.slice A cs.length cap) := cell_blk hP.hq rfl
    clear hkr hI' HP0 HK0
    by_cases hlt : k < cs.length
    · obtain ⟨g, rfl⟩ := hA (by omega)
      have hlt' : k < cr.length := by omega
      have hck : cr[k]? = some cr[k] := by simp [hlt']
      have hlR : k < R.rows.length := by rw [← hRl.out]; exact hlt
      have hrk : R.rows[k]? = some R.rows[k] := by simp [hlR]
      have hrm := (midL_get (f := wakeRow fs) hlR).trans hrk
      generalize R.rows[k] = r at hrk hrm
      generalize cr[k] = cc at hck
      obtain ⟨en, eo, hbl, hbs⟩ := hP.rows k cc r hck hrm
      have d0 : wr.cell? ⟨g, k * 4, none⟩ = some (.int .i64 cc.n) := hP.cell (f := 0) hck (by omega) rfl
      have d3 := hP.cell (f := 3) hck (by omega) rfl
      rw [en] at d0
      rw [eo] at d3
      have HCK := Lib.hid hck
      have HRM := Lib.hid hrm
      have HRK := Lib.hid hrk
      have HM := Lib.hid (hP.mv g rfl).1
      have i0 : (0 : Int) ≤ (k : Int) := by omega
      have i1 : (k : Int) < (cs.length : Int) := by omega
      clear hl hck hrm hrk hlt' hlR en eo
      cases hop : r.opn
      · rw [hop] at d3
        have HSM := Lib.hid (midL_same (f := wakeRow fs) HRK.out (by unfold wakeRow; rw [hop]; rfl))
        clear hP hop hbl hbs
        go_wp2
        go_roundw
        case rel => exact ⟨k + 1, cr, I', by omega, by go_num, HCL.out, by rw [← HSM.out]; exact HP.out, HK.out, HI.out⟩
        case measure => simp [intOf]; omega
      · rw [hop] at d3
        have HSET := Lib.hid (midL_set (f := wakeRow fs) HRK.out)
        have HWR := Lib.hid (show wakeRow fs r = { r with latest := mix (keepOf fs r.n) r.safe r.latest, safe := mix (keepOf fs r.n) r.safe r.latest, opn := false } from by unfold wakeRow; rw [hop]; rfl)
        obtain ⟨hl1, g1, cap1, el1, hg1, hc1⟩ := hbl
        obtain ⟨hl2, g2, cap2, el2, hg2, hc2⟩ := hbs
        have d1 := HP.out.cell (f := 1) HCK.out (by omega) rfl
        have d2 := HP.out.cell (f := 2) HCK.out (by omega) rfl
        rw [el1] at d1
        rw [el2] at d2
        have HB1 := Lib.hid (show RdB wr (some ⟨g1, 0, none⟩) r.latest from fun _ => ⟨g1, 0, rfl, hc1⟩)
        have HB2 := Lib.hid (show RdB wr (some ⟨g2, 0, none⟩) r.safe from fun _ => ⟨g2, 0, rfl, hc2⟩)
        have HL1 := Lib.hid hl1
        have HL2 := Lib.hid hl2
        clear hP hop hl1 hl2 hc1 hc2 hg1 hg2 el1 el2
        clear c2 c3 f2 f3 hA
        go_wp2
        go_loopw [6, 7] (fun kp i wx => ∃ m : Nat, m ≤ fs.length ∧ i = .int .i64 m ∧ kp = .int .u8 (keepOf (fs.take m) r.n).toNat ∧ Same wr wx) (fun kp i _ => fs.length - (intOf i).toNat)
        case atStart => exact ⟨0, Nat.zero_le _, rfl, by simp [keepOf, keepF], Same.refl _⟩
        case round =>
          obtain ⟨m, hm, rfl, rfl, p, rfl⟩ := hrel
          by_cases hlm : m < fs.length
          · obtain ⟨b, off, hFA, hcell⟩ := HFS.out (by intro e; simp [e] at hlm)
            have hbM := HAP.out (by intro e; simp [e] at hlm) b off hFA
            subst hFA
            have hxm : fs[m]? = some fs[m] := by simp [hlm]
            have hx1 := hcell m fs[m] hxm
            have hks := keepOf_succR hxm r.n
            generalize fs[m] = x at hx1 hks hxm
            obtain ⟨fb, fk⟩ := x
            simp only at hx1 hks
            have e1 : wr.cell? ⟨b, off + m * 2, none⟩ = some (.int .i64 fb) := (World.cell?_of_block (HK.out.block b (block_lt_of_cell hx1.1) hbM)).trans hx1.1
            have e2 : wr.cell? ⟨b, off + m * 2 + 1, none⟩ = some (.int .u8 fk.toNat) := (World.cell?_of_block (HK.out.block b (block_lt_of_cell hx1.1) hbM)).trans hx1.2
            have m0 : (0 : Int) ≤ (m : Int) := by omega
            have m1 : (m : Int) < (fs.length : Int) := by omega
            by_cases hfn : fb = r.n
            · rw [if_pos hfn] at hks
              have HKS := Lib.hid hks
              have hb : (fb == r.n) = true := by simp [hfn]
              clear hx1 hcell hbM hxm hks hfn
              go_wp2
              go_quiet (fail)
              go_wp2
              go_roundw
              case rel => exact ⟨m + 1, by omega, by go_num, by rw [HKS.out], _, rfl⟩
              case measure => simp [intOf]; omega
            · rw [if_neg hfn] at hks
              have HKS := Lib.hid hks
              have hb : (fb == r.n) = false := by simp [hfn]
              clear hx1 hcell hbM hxm hks hfn
              go_wp2
              go_quiet (fail)
              go_wp2
              go_roundw
              case rel => exact ⟨m + 1, by omega, by go_num, by rw [HKS.out], _, rfl⟩
              case measure => simp [intOf]; omega
          · have hge : ¬ ((m : Int) < (fs.length : Int)) := by omega
            have HKE := Lib.hid (show keepOf (fs.take m) r.n = keepOf fs r.n by rw [List.take_of_length_le (by omega)])
            rw [HKE.out]
            have Kq : Kept (fun _ => False) wr (wr.drewN p) := (Kept.refl _ _).drewN p
            have d1q := (World.cell?_of_block (Kq.block g (block_lt_of_cell d1) id)).trans d1
            have d2q := (World.cell?_of_block (Kq.block g (block_lt_of_cell d2) id)).trans d2
            have HPq := Lib.hid (HP.out.kept Kq (fun _ _ => id) (fun _ _ => id))
            have HKq := Lib.hid (HK.out.trans0 Kq)
            have HB1q := Lib.hid (HB1.out.kept Kq (fun _ _ _ _ => id))
            have HB2q := Lib.hid (HB2.out.kept Kq (fun _ _ _ _ => id))
            clear Kq d0 d1 d2 d3 HB1 HB2 HP HK c1 HKE
            go_wp2
            generalize wr.drewN p = wq at d1q d2q HPq HKq HB1q HB2q ⊢
            have szq := HKq.out.size
            go_loopw [8, 9] (fun o i wx => ∃ m : Nat, m ≤ 512 ∧ i = .int .i64 m ∧ wx.ownsRow wq.heap.size 5 1 o m (cellsOf ((mix (keepOf fs r.n) r.safe r.latest).take m)).toList ∧ Kept (fun _ => False) wq wx) (fun o i wx => 512 - (intOf i).toNat)
            case atStart => exact ⟨0, by omega, rfl, ⟨rfl, .inl ⟨rfl, rfl⟩⟩, Kept.refl _ _⟩
            case round =>
              obtain ⟨m, hm, rfl, ho, hkx⟩ := hrel
              have HO := Lib.hid ho
              have HKX := Lib.hid hkx
              have HU8 := Lib.hid (show ∀ x, u8.ownBlock = some x → wq.heap.size ≤ x from fun x hx => by
                rcases ho.2 with ⟨rfl, _⟩ | ⟨g, cap, cur, rfl, hb, _⟩
                · cases hx
                · cases hx; exact hb)
              by_cases hlm5 : m < 512
              · have d1 := (World.cell?_of_block (hkx.block g (block_lt_of_cell d1q) id)).trans d1q
                have d2 := (World.cell?_of_block (hkx.block g (block_lt_of_cell d2q) id)).trans d2q
                obtain ⟨b1, o1, E1, t1⟩ := HB1q.out.cell (k := m) (by rw [HL1.out]; exact hlm5)
                obtain ⟨b2, o2, E2, t2⟩ := HB2q.out.cell (k := m) (by rw [HL2.out]; exact hlm5)
                cases E1; cases E2
                have t1x := (World.cell?_of_block (hkx.block _ (block_lt_of_cell t1) id)).trans t1
                have t2x := (World.cell?_of_block (hkx.block _ (block_lt_of_cell t2) id)).trans t2
                rw [Nat.zero_add] at t1x t2x
                have hbt := bitOf_test (keepOf fs r.n) m
                have m0 : (0 : Int) ≤ (m : Int) := by omega
                have m1 : (m : Int) < 512 := by omega
                clear ho hkx t1 t2
                cases hbit : bitOf (keepOf fs r.n) m
                · rw [hbit] at hbt
                  have HA := Lib.hid (ownsRow_kept HO.out ((Kept.refl (fun _ => False) wr).alloc (.cells #[.int .u8 (bAt r.safe m).toNat] 5)) (fun _ _ => id))
                  have hwn : ∀ (j : Nat) (u : Value), [Value.int .u8 (bAt r.safe m).toNat][j]? = some u → (wr.alloc (.cells #[.int .u8 (bAt r.safe m).toNat] 5)).cell? ⟨wr.heap.size, 0 + j, none⟩ = some u := fun j u hu => cell_blk (heap_alloc_new wr _) (by simpa using hu)
                  have HWN := Lib.hid hwn
                  have HKa := Lib.hid (HKX.out.alloc (.cells #[.int .u8 (bAt r.safe m).toNat] 5))
                  have HMT := Lib.hid (mix_take (keepOf fs r.n) r.safe r.latest hlm5)
                  have HBI := Lib.hid hbit
                  clear hwn hbit
                  go_wp2_with (at_builtin; refine wl_append rfl _ _ 35 rfl wq.heap.size 5 Try.underlying35 info5 rfl (by omega) u8 m (cellsOf ((mix (keepOf fs r.n) r.safe r.latest).take m)).toList rfl HA.out wr.heap.size 0 1 1 [.int .u8 (bAt r.safe m).toNat] rfl rfl HWN.out (by simp [Value.oneCell']) (by omega) (by have : maxLen = 9223372036854775807 := rfl; omega) (by omega) HKa.out.size ?_)
                  intro g3 cap3 w3 ho3 hk3 hat3 m3
                  have HO3 := Lib.hid (show w3.ownsRow wq.heap.size 5 1 (.slice (some ⟨g3, 0, none⟩) (m + 1) cap3) (m + 1) (cellsOf ((mix (keepOf fs r.n) r.safe r.latest).take (m + 1))).toList from by
                    rw [HMT.out, HBI.out, cellsOf_append]; exact ho3)
                  have HK3 := Lib.hid (HKa.out.new hk3 HU8.out)
                  clear ho3 hk3 hat3
                  go_wp2
                  go_roundw
                  case rel => exact ⟨m + 1, by omega, by go_num, HO3.out, HK3.out⟩
                  case measure => simp [intOf]; omega
                · rw [hbit] at hbt
                  have HA := Lib.hid (ownsRow_kept HO.out ((Kept.refl (fun _ => False) wr).alloc (.cells #[.int .u8 (bAt r.latest m).toNat] 5)) (fun _ _ => id))
                  have hwn : ∀ (j : Nat) (u : Value), [Value.int .u8 (bAt r.latest m).toNat][j]? = some u → (wr.alloc (.cells #[.int .u8 (bAt r.latest m).toNat] 5)).cell? ⟨wr.heap.size, 0 + j, none⟩ = some u := fun j u hu => cell_blk (heap_alloc_new wr _) (by simpa using hu)
                  have HWN := Lib.hid hwn
                  have HKa := Lib.hid (HKX.out.alloc (.cells #[.int .u8 (bAt r.latest m).toNat] 5))
                  have HMT := Lib.hid (mix_take (keepOf fs r.n) r.safe r.latest hlm5)
                  have HBI := Lib.hid hbit
                  clear hwn hbit
                  go_wp2_with (at_builtin; refine wl_append rfl _ _ 35 rfl wq.heap.size 5 Try.underlying35 info5 rfl (by omega) u8 m (cellsOf ((mix (keepOf fs r.n) r.safe r.latest).take m)).toList rfl HA.out wr.heap.size 0 1 1 [.int .u8 (bAt r.latest m).toNat] rfl rfl HWN.out (by simp [Value.oneCell']) (by omega) (by have : maxLen = 9223372036854775807 := rfl; omega) (by omega) HKa.out.size ?_)
                  intro g3 cap3 w3 ho3 hk3 hat3 m3
                  have HO3 := Lib.hid (show w3.ownsRow wq.heap.size 5 1 (.slice (some ⟨g3, 0, none⟩) (m + 1) cap3) (m + 1) (cellsOf ((mix (keepOf fs r.n) r.safe r.latest).take (m + 1))).toList from by
                    rw [HMT.out, HBI.out, cellsOf_append]; exact ho3)
                  have HK3 := Lib.hid (HKa.out.new hk3 HU8.out)
                  clear ho3 hk3 hat3
                  go_wp2
                  go_roundw
                  case rel => exact ⟨m + 1, by omega, by go_num, HO3.out, HK3.out⟩
                  case measure => simp [intOf]; omega
              · obtain rfl : m = 512 := by omega
                have hge5 : ¬ ((512 : Int) < 512) := by omega
                have HT := Lib.hid (show (mix (keepOf fs r.n) r.safe r.latest).take 512 = mix (keepOf fs r.n) r.safe r.latest from List.take_of_length_le (by rw [len_mix]; exact Nat.le_refl _))
                rw [HT.out] at ho
                obtain ⟨A5, cap5, rfl, hA5⟩ := row_form ho
                obtain ⟨g5, rfl⟩ := hA5 (by omega)
                have hOB : OwnB wr wq.heap.size g5 cap5 (mix (keepOf fs r.n) r.safe r.latest) := by
                  unfold OwnB
                  rw [len_mix]
                  exact ho
                obtain ⟨cs6, hl6, hP6, hk6⟩ := HPq.out.woken HCK.out HRM.out hkx hOB (len_mix _ _ _) (HU8.out g5 rfl)
                have n6 := HU8.out g5 rfl
                rw [← HWR.out, show ({ ({ R with armed := 0, off := false, rows := midL (wakeRow fs) R.rows k } : RefM) with rows := (midL (wakeRow fs) R.rows k).set k (wakeRow fs r) } : RefM) = { R with armed := 0, off := false, rows := midL (wakeRow fs) R.rows (k + 1) } from by rw [HSET.out]] at hP6
                have hPx := HPq.out.kept hkx (fun _ _ => id) (fun _ _ => id)
                have d1 := hPx.cell (f := 1) HCK.out (by omega) rfl
                have d2 := hPx.cell (f := 2) HCK.out (by omega) rfl
                have d3 := hPx.cell (f := 3) HCK.out (by omega) rfl
                have f1 := hPx.free (k * 4 + 1)
                have f2 := hPx.free (k * 4 + 2)
                have f3 := hPx.free (k * 4 + 3)
                have HP6 := Lib.hid hP6
                have HL6 := Lib.hid hl6
                have HK6 := Lib.hid ((HKq.out.trans0 hkx).trans hk6 (fun x _ e => e ▸ HM.out))
                clear ho hkx hOB hP6 hl6 hk6 hPx hA5 HO HU8 HKX HT d1q d2q
                go_wp2
                go_roundw
                case rel => exact ⟨k + 1, cs6, fun x => I' x ∨ x = g5, by omega, by go_num, HL6.out.trans HCL.out, HP6.out, HK6.out, by
                  rintro x (h | rfl)
                  · exact HI.out x h
                  · exact .inr (by omega)⟩
                case measure => simp [intOf]; omega
    · have hge : ¬ ((k : Int) < (cs.length : Int)) := by omega
      have hkk : k = R.rows.length := by rw [← hRl.out]; omega
      have HE := Lib.hid (show midL (wakeRow fs) R.rows k = R.rows.map (wakeRow fs) by rw [hkk, midL_end])
      clear hkk c2 c3 f2 f3
      go_wp2
      go_end0
      have := HP.out
      rw [HE.out] at this
      exact ⟨rfl, I', ⟨_, _, this⟩, HK.out, HI.out⟩
end
end Go.Proofs.Ytjhbkamgmldkmaa
