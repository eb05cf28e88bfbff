/-
  No statement is proved here: the contract of the document's device: Sync, and what Write and Read refuse.
-/
import Derived.Test.YtjhbkamgmldkmaaRefw
namespace Go.Proofs.Ytjhbkamgmldkmaa
open Go.RowKit

def syncRow (r : RowM) : RowM := { r with safe := r.latest, opn := false }
def midS (l : List RowM) (k : Nat) : List RowM := (l.take k).map syncRow ++ l.drop k
theorem midS_get {l : List RowM} {k : Nat} (h : k < l.length) : (midS l k)[k]? = l[k]? := by
  unfold midS
  rw [List.getElem?_append_right (by simp; omega)]
  simp [Nat.min_eq_left (Nat.le_of_lt h)]
theorem midS_set {l : List RowM} {k : Nat} {r : RowM} (h : l[k]? = some r) : (midS l k).set k (syncRow r) = midS l (k + 1) := by
  have hk := (List.getElem?_eq_some_iff.1 h).1
  have hr := (List.getElem?_eq_some_iff.1 h).2
  unfold midS
  rw [List.set_append_right _ _ (by simp; omega)]
  rw [List.take_succ_eq_append_getElem hk, List.map_append, List.append_assoc, hr]
  have e : k - (List.map syncRow (List.take k l)).length = 0 := by simp; omega
  have hd := List.drop_eq_getElem_cons hk
  rw [hr] at hd
  rw [e, hd]
  simp
theorem midS_len (l : List RowM) (k : Nat) : (midS l k).length = l.length := by simp [midS]; omega
theorem midS_end (l : List RowM) : midS l l.length = l.map syncRow := by simp [midS]
def RefM.sync (R : RefM) : RefM := { R with rows := R.rows.map syncRow }
/-- What Sync answers, and what stands behind it. -/
def RefM.syncR (R : RefM) : Int × RefM := if R.off then (8, R) else if R.crashes then (8, R.crash) else (0, R.crash.sync)
section
variable {w w' : World} {q : Nat} {M I : Nat → Prop} {R : RefM} {v : Value} {cs : List RowC}
theorem RefP.kept {S : Nat → Prop} (h : RefP w q M I R v cs) (hk : Kept S w w') (hM : ∀ x, M x → ¬ S x) (hI : ∀ x, I x → ¬ S x) : RefP w' q M I R v cs := by
  have hs := hk.size
  exact ⟨hk.heap h.hq (hM q h.mq), ownsRow_kept h.own hk (fun x hx => hM x (h.mv x hx).1), h.mv, h.mq, h.len, fun i c r h1 h2 => (h.rows i c r h1 h2).kept hk hI, h.apart,
    fun x hx => Nat.lt_of_lt_of_le (h.mlt x hx) hs, fun x hx => Nat.lt_of_lt_of_le (h.ilt x hx) hs, h.n0, h.n1, h.a0, h.a1⟩
set_option maxHeartbeats 1000000 in
theorem rsync_any (h : RefAt w q M I R) :
    Calls Try.prog 40 #[.pointer (some ⟨q, 0, none⟩)] w fun e w' => e = .returned (.int .i64 R.syncR.1) ∧ RefAt w' q M I R.syncR.2 ∧ Kept M w w' := by
  obtain ⟨v, cs, h⟩ := h
  have c3 : w.cell? ⟨q, 3, none⟩ = some (.bool R.off) := cell_blk h.hq rfl
  have H := Lib.hid h
  clear h
  cases ho : R.off
  · rw [ho] at c3
    have HC := Lib.hid (rcrash_any H.out)
    cases hc : R.crashes
    · rw [hc] at HC
      have eS : R.syncR = (0, R.crash.sync) := by simp [RefM.syncR, ho, hc]
      rw [eS]
      clear ho hc eS
      generalize R.crash = R1 at *
      have hMq := H.out.mq
      clear H
      go_enter Try.func40, Try.ntmps40
      go_wp2_with (go_at_call 50; refine HC.out.mono ?_; rintro e w1 ⟨rfl, hP1, hk1⟩)
      have hmx := row_len hP1.own
      obtain ⟨A, cap, rfl, hA⟩ := row_form hP1.own
      have HP1 := Lib.hid hP1
      have HK1 := Lib.hid (hk1.mono (T := M) (fun x _ e => e ▸ hMq))
      clear hP1 hk1
      go_loopw [3] (fun i wr => ∃ (k : Nat) (cr : List RowC), k ≤ cs.length ∧ i = .int .i64 k ∧ cr.length = cs.length ∧ RefP wr q M I { R1 with rows := midS R1.rows k } (.slice A cs.length cap) cr ∧ Kept M w wr) (fun i _ => cs.length - (intOf i).toNat)
      case atStart => exact ⟨0, cs, by omega, rfl, rfl, by simpa [midS] using HP1.out, HK1.out⟩
      case round =>
        obtain ⟨k, cr, hk, rfl, hl, hP, hkr⟩ := hrel
        have HK := Lib.hid hkr
        have HP := Lib.hid hP
        have c1 : wr.cell? ⟨q, 1, none⟩ = some (.slice A cs.length cap) := cell_blk hP.hq rfl
        by_cases hlt : k < cs.length
        · obtain ⟨g, rfl⟩ := hA (by omega)
          have hlt' : k < cr.length := by omega
          have hck : cr[k]? = some cr[k] := by simp [hlt']
          have hlR : k < R1.rows.length := by rw [← HP1.out.len]; exact hlt
          have hrk : R1.rows[k]? = some R1.rows[k] := by simp [hlR]
          have hrm := (midS_get hlR).trans hrk
          generalize R1.rows[k] = r at hrk hrm
          generalize cr[k] = c at hck
          have HSET := Lib.hid (midS_set hrk)
          have cl := hP.cell (f := 1) hck (by omega) rfl
          have c2 := hP.cell (f := 2) hck (by omega) rfl
          have f2 := hP.free (k * 4 + 2)
          have hbv := (hP.rows k c r hck hrm).2.2.1
          obtain ⟨_, g2, cap2, elv, _⟩ := id hbv
          rw [elv] at cl hbv
          have HS := Lib.hid (hP.sv hck hrm hbv)
          have HCK := Lib.hid hck
          have HRM := Lib.hid hrm
          have HLT := Lib.hid hlt'
          have HLR := Lib.hid hlR
          have HM := Lib.hid (hP.mv g rfl).1
          have i0 : (0 : Int) ≤ (k : Int) := by omega
          have i1 : (k : Int) < (cs.length : Int) := by omega
          have HL := Lib.hid hl
          clear hP hkr hl hck hrm hrk hlt' hlR hbv elv
          go_wp2
          go_region
          have kd : Kept (fun _ => False) (wr.setCell ⟨g, k * 4 + 2, none⟩ (.slice (some ⟨g2, 0, none⟩) 512 cap2)) (wr.setCell ⟨g, k * 4 + 2, none⟩ (.slice (some ⟨g2, 0, none⟩) 512 cap2)).drew := (Kept.refl _ _).drew
          have HP5 := Lib.hid (HS.out.1.kept kd (fun _ _ => id) (fun _ _ => id))
          have HK5 := Lib.hid ((HK.out.trans HS.out.2 (fun x _ e => e ▸ HM.out)).trans0 kd)
          clear kd HS cl c2 f2 c1
          generalize (wr.setCell ⟨g, k * 4 + 2, none⟩ (.slice (some ⟨g2, 0, none⟩) 512 cap2)).drew = w5 at HP5 HK5 ⊢
          have hc5 : (cr.set k { n := c.n, lv := c.lv, sv := Value.slice (some { block := g2, off := 0 }) 512 cap2, opn := c.opn })[k]? = some { n := c.n, lv := c.lv, sv := Value.slice (some { block := g2, off := 0 }) 512 cap2, opn := c.opn } := by rw [List.getElem?_set_self HLT.out]
          have hr5 : ((midS R1.rows k).set k { r with safe := r.latest })[k]? = some { r with safe := r.latest } := by rw [List.getElem?_set_self (by rw [midS_len]; exact HLR.out)]
          have HT := Lib.hid (HP5.out.opn false hc5 hr5)
          have c5 := HP5.out.cell (f := 3) hc5 (by omega) rfl
          have f5 := HP5.out.free (k * 4 + 3)
          have q5 : w5.cell? ⟨q, 1, none⟩ = some (.slice (some ⟨g, 0, none⟩) cs.length cap) := cell_blk HP5.out.hq rfl
          have HK6 := Lib.hid (HK5.out.trans HT.out.2 (fun x _ e => e ▸ HM.out))
          have hP6 := HT.out.1
          simp only [List.set_set] at hP6
          rw [show (midS R1.rows k).set k { n := r.n, latest := r.latest, safe := r.latest, opn := false } = midS R1.rows (k + 1) from HSET.out] at hP6
          have HP6 := Lib.hid hP6
          clear hc5 hr5 HT hP6
          go_wp2
          go_roundw
          case rel => exact ⟨k + 1, _, by omega, by go_num, by simp [HL.out], HP6.out, HK6.out⟩
          case measure => simp [intOf]; omega
        · have hge : ¬ ((k : Int) < (cs.length : Int)) := by omega
          have hkk : k = R1.rows.length := by rw [← HP1.out.len]; omega
          subst hkk
          clear hP hkr
          go_wp2
          go_ret
          have := HP.out
          rw [midS_end] at this
          exact ⟨rfl, ⟨_, _, this⟩, HK.out⟩
    · rw [hc] at HC
      have eS : R.syncR = (8, R.crash) := by simp [RefM.syncR, ho, hc]
      rw [eS]
      clear ho hc eS
      have hMq := H.out.mq
      go_enter Try.func40, Try.ntmps40
      go_wp2_with (go_at_call 50; refine HC.out.mono ?_; rintro e w1 ⟨rfl, hP1, hk1⟩)
      go_ret
      exact ⟨rfl, ⟨_, _, hP1⟩, hk1.mono (fun x _ e => e ▸ hMq)⟩
  · rw [ho] at c3
    have eS : R.syncR = (8, R) := by simp [RefM.syncR, ho]
    rw [eS]
    clear eS ho
    go_enter Try.func40, Try.ntmps40
    go_wp2
    go_ret
    exact ⟨rfl, ⟨_, _, H.out⟩, Kept.refl _ _⟩
end
end Go.Proofs.Ytjhbkamgmldkmaa
