/-
  No statement is proved here: a device of the program and the document's device that are alike (plain Lean), and that they stay so.
-/
import Derived.Test.YtjhbkamgmldkmaaRefk
import Derived.Test.YtjhbkamgmldkmaaDev4
namespace Go.Proofs.Ytjhbkamgmldkmaa
open Go.RowKit

/-- The two devices are alike. -/
structure Sim (D : DevM) (R : RefM) : Prop where
  n : D.n = R.n
  armed : D.armed = R.armed
  off : D.down = R.off
  no : ∀ k, lkR R.rows k = none → D.opn k = none ∧ D.safe k = none
  at_ : ∀ k r, lkR R.rows k = some r → D.opn k = (if r.opn then some r.latest else none) ∧ (D.safe k).getD (zeros 512) = r.safe ∧ (r.opn = false → r.latest = r.safe)
theorem lkR_n {l : List RowM} {k : Int} {r : RowM} (h : lkR l k = some r) : r.n = k := by
  have := List.find?_some h
  simpa using this
theorem lkR_map {f : RowM → RowM} (hf : ∀ r, (f r).n = r.n) (l : List RowM) (k : Int) : lkR (l.map f) k = (lkR l k).map f := by
  unfold lkR
  rw [List.find?_map]
  congr 1
  apply congrArg (fun p => List.find? p l)
  funext r
  simp [hf]
theorem sim_new (n : Int) : Sim (newM n) (newR n) := ⟨rfl, rfl, rfl, fun _ _ => ⟨rfl, rfl⟩, fun _ _ h => by simp [newR, lkR] at h⟩
section
variable {D : DevM} {R : RefM}
theorem Sim.mayE (h : Sim D R) (n : Int) : D.mayE n = R.mayE n := by unfold DevM.mayE RefM.mayE; rw [h.off, h.n]
theorem Sim.latest (h : Sim D R) (n : Int) : D.latest n = latR R.rows n := by
  cases hl : lkR R.rows n with
  | none =>
    obtain ⟨h1, h2⟩ := h.no n hl
    unfold DevM.latest
    rw [h1, h2, latR_no hl]
    rfl
  | some r =>
    obtain ⟨h1, h2, h3⟩ := h.at_ n r hl
    unfold DevM.latest
    rw [h1, latR_at hl]
    cases ho : r.opn
    · rw [h2, ← h3 ho]; rfl
    · rfl
theorem Sim.crash (h : Sim D R) : Sim D.crash R.crash ∧ (D.crash.down = (R.crashes || R.off) ∨ (0 < R.armed ∧ D.crash.down = R.crashes)) := by
  unfold DevM.crash RefM.crash RefM.crashes
  rw [h.armed]
  by_cases ha : 0 < R.armed
  · simp only [ha, if_true]
    exact ⟨⟨h.n, rfl, rfl, h.no, h.at_⟩, .inr ⟨trivial, by simp⟩⟩
  · simp only [ha, if_false]
    exact ⟨h, .inl (by simp [h.off])⟩
theorem Sim.crash_up (h : Sim D R) (ho : R.off = false) : D.crash.down = R.crashes := by
  rcases h.crash.2 with h1 | h1
  · rw [h1, ho]; simp
  · exact h1.2
/-- What Write does. -/
def RW (R : RefM) (n : Int) (l : Bytes) (e : Int) (R' : RefM) : Prop :=
  (R.mayE n ≠ 0 ∧ e = R.mayE n ∧ R' = R) ∨ (R.mayE n = 0 ∧ l.length ≠ 512 ∧ e = 2 ∧ R' = R) ∨
    (R.mayE n = 0 ∧ l.length = 512 ∧ ∃ R1, PutR R n l R1 ∧ e = (if R1.crashes then 8 else 0) ∧ R' = R1.crash)
theorem Sim.put (h : Sim D R) {n : Int} {l : Bytes} {R1 : RefM} (hp : PutR R n l R1) : Sim (D.put n l) R1 := by
  refine ⟨h.n.trans hp.hn.symm, h.armed.trans hp.armed.symm, h.off.trans hp.off.symm, fun k hk => ?_, fun k r hk => ?_⟩
  · rw [hp.lk] at hk
    by_cases hkn : k = n
    · rw [if_pos hkn] at hk; cases hk
    · rw [if_neg hkn] at hk
      obtain ⟨h1, h2⟩ := h.no k hk
      exact ⟨by simp [DevM.put, updF, hkn, h1], h2⟩
  · rw [hp.lk] at hk
    by_cases hkn : k = n
    · subst hkn
      rw [if_pos rfl] at hk
      cases hk
      refine ⟨by simp [DevM.put, updF], ?_, fun h => by cases h⟩
      show (D.safe k).getD (zeros 512) = _
      cases hl : lkR R.rows k with
      | none => rw [(h.no k hl).2]; rfl
      | some r => rw [(h.at_ k r hl).2.1]; rfl
    · rw [if_neg hkn] at hk
      obtain ⟨h1, h2, h3⟩ := h.at_ k r hk
      exact ⟨by simp [DevM.put, updF, hkn, h1], h2, h3⟩
theorem mayE_up {R : RefM} {n : Int} (h : R.mayE n = 0) : R.off = false := by
  unfold RefM.mayE at h
  cases ho : R.off
  · rfl
  · rw [ho] at h; simp at h
theorem Sim.write (h : Sim D R) {n : Int} {l : Bytes} {e : Int} {R' : RefM} (hw : RW R n l e R') : (D.write n l).1 = e ∧ Sim (D.write n l).2 R' := by
  unfold DevM.write
  rcases hw with ⟨h1, rfl, rfl⟩ | ⟨h1, h2, rfl, rfl⟩ | ⟨h1, h2, R1, hp, rfl, rfl⟩
  · rw [if_pos (by rw [h.mayE]; exact h1)]; exact ⟨h.mayE n, h⟩
  · rw [if_neg (by rw [h.mayE]; simp [h1]), if_pos h2]; exact ⟨rfl, h⟩
  · rw [if_neg (by rw [h.mayE]; simp [h1]), if_neg (by simp [h2])]
    have hs := h.put hp
    refine ⟨?_, hs.crash.1⟩
    have := hs.crash_up (by rw [hp.off]; exact mayE_up h1)
    simp only [this, errDown]
theorem PutR.rlen {n : Int} {l : Bytes} {e : Int} {R' : RefM} (hw : RW R n l e R') : R'.rows.length ≤ R.rows.length + 1 := by
  have hc : ∀ R : RefM, R.crash.rows = R.rows := fun R => by unfold RefM.crash; split <;> rfl
  rcases hw with ⟨h1, rfl, rfl⟩ | ⟨h1, h2, rfl, rfl⟩ | ⟨h1, h2, R1, hp, rfl, rfl⟩
  · omega
  · omega
  · rw [hc]; exact hp.len
theorem Sim.arm (h : Sim D R) (n : Int) : Sim (D.arm n) (R.arm n) := by
  unfold DevM.arm RefM.arm
  rw [h.off]
  have ho := h.off
  cases hR : R.off
  · rw [hR] at ho; exact ⟨h.n, rfl, by simp [ho, hR], h.no, h.at_⟩
  · exact h
theorem arm_len (R : RefM) (n : Int) : (R.arm n).rows.length = R.rows.length := by unfold RefM.arm; split <;> rfl
theorem Sim.sync0 (h : Sim D R) : Sim D.sync R.sync := by
  refine ⟨h.n, h.armed, h.off, fun k hk => ?_, fun k r hk => ?_⟩
  · rw [show R.sync.rows = R.rows.map syncRow from rfl, lkR_map (f := syncRow) (fun _ => rfl)] at hk
    cases hl : lkR R.rows k with
    | none =>
      obtain ⟨h1, h2⟩ := h.no k hl
      exact ⟨rfl, by simp [DevM.sync, orF, h1, h2]⟩
    | some r => rw [hl] at hk; cases hk
  · rw [show R.sync.rows = R.rows.map syncRow from rfl, lkR_map (f := syncRow) (fun _ => rfl)] at hk
    cases hl : lkR R.rows k with
    | none => rw [hl] at hk; cases hk
    | some r0 =>
      rw [hl] at hk
      simp only [Option.map_some, Option.some.injEq] at hk
      subst hk
      obtain ⟨h1, h2, h3⟩ := h.at_ k r0 hl
      refine ⟨rfl, ?_, fun _ => rfl⟩
      show ((D.opn k).or (D.safe k)).getD (zeros 512) = r0.latest
      rw [h1]
      cases ho : r0.opn
      · simp [h2, h3 ho]
      · simp
theorem Sim.sync (h : Sim D R) (hn : 1 ≤ R.n) : D.syncR.1 = R.syncR.1 ∧ Sim D.syncR.2 R.syncR.2 := by
  unfold DevM.syncR RefM.syncR
  cases ho : R.off
  · have e : D.mayE 0 = 0 := DevM.mayE_ok (by rw [h.off, ho]) (Int.le_refl 0) (by rw [h.n]; omega)
    rw [if_neg (by rw [e]; simp)]
    have hc := h.crash_up ho
    rw [hc]
    cases R.crashes
    · exact ⟨rfl, h.crash.1.sync0⟩
    · exact ⟨rfl, h.crash.1⟩
  · have e : D.mayE 0 = 8 := DevM.mayE_down (by rw [h.off, ho])
    rw [if_pos (by rw [e]; decide), e]
    exact ⟨rfl, h⟩
theorem sync_len (R : RefM) : R.syncR.2.rows.length = R.rows.length := by
  have hc : ∀ R : RefM, R.crash.rows = R.rows := fun R => by unfold RefM.crash; split <;> rfl
  unfold RefM.syncR
  split
  · rfl
  · split
    · show R.crash.rows.length = _; rw [hc]
    · show (R.crash.rows.map syncRow).length = _; rw [hc]; simp
theorem Sim.wake (h : Sim D R) (fs : Fates) : Sim (D.wake fs) (R.wake fs) := by
  have hf : ∀ r, (wakeRow fs r).n = r.n := fun r => by unfold wakeRow; split <;> rfl
  refine ⟨h.n, rfl, rfl, fun k hk => ?_, fun k r hk => ?_⟩
  · rw [show (R.wake fs).rows = R.rows.map (wakeRow fs) from rfl, lkR_map hf] at hk
    cases hl : lkR R.rows k with
    | none =>
      obtain ⟨h1, h2⟩ := h.no k hl
      exact ⟨rfl, by simp [DevM.wake, h1, h2]⟩
    | some r => rw [hl] at hk; cases hk
  · rw [show (R.wake fs).rows = R.rows.map (wakeRow fs) from rfl, lkR_map hf] at hk
    cases hl : lkR R.rows k with
    | none => rw [hl] at hk; cases hk
    | some r0 =>
      rw [hl] at hk
      simp only [Option.map_some, Option.some.injEq] at hk
      subst hk
      obtain ⟨h1, h2, h3⟩ := h.at_ k r0 hl
      have hn := lkR_n hl
      show none = _ ∧ ((match D.opn k with | some b => some (mix (keepOf fs k) ((D.safe k).getD (zeros 512)) b) | none => D.safe k)).getD (zeros 512) = _ ∧ _
      rw [h1]
      unfold wakeRow
      cases ho : r0.opn
      · simp [h2, h3 ho, ho]
      · simp [h2, hn]
theorem wake_len (R : RefM) (fs : Fates) : (R.wake fs).rows.length = R.rows.length := by simp [RefM.wake]
end
end Go.Proofs.Ytjhbkamgmldkmaa
