/-
  No statement is proved here: what PageCells asks of a page of these cells; its loop's state.
-/
import Derived.Test.YtndflnedkpmpfaaDoorPgj
import Derived.Test.YtndflnedkpmpfaaDoorLvr
namespace Go.Proofs.YtndflnedkpmpfaaDoor
open Go.RowKit

section
variable {k : UInt8} {n : Nat} {cs : List Bytes}
theorem Pg_end0 (h : PgOk n cs) : endM (Pg k n cs) ≠ 0 := by rw [Pg_end h]; omega
theorem Pg_check (h : PgOk n cs) : decide (0 < endM (Pg k n cs)) = true := by rw [Pg_end h]; exact decide_eq_true (by omega)
theorem Pg_kindM (h : PgOk n cs) : kindM (Pg k n cs) = k := by unfold kindM; rw [if_neg (Pg_end0 h), Pg_kind]
theorem Pg_nxtM (h : PgOk n cs) : nxtM (Pg k n cs) = n := by unfold nxtM; rw [if_neg (Pg_end0 h), Pg_next h.nxt]
theorem Pg_countM (h : PgOk n cs) : countM (Pg k n cs) = cs.length := by unfold countM; rw [if_neg (Pg_end0 h), Pg_cnt h.cnt]
theorem Pg_roomM (h : PgOk n cs) : roomM (Pg k n cs) = 506 - (encs cs).length := by
  have := h.room
  unfold roomM
  rw [if_neg (Pg_end0 h), Pg_len h.room, Pg_end h]
  omega
theorem Pg_getM (h : PgOk n cs) {i : Nat} (hi : i < cs.length) : getM (Pg k n cs) i = some cs[i] := by rw [getM_cell (Pg_end0 h) (by rw [Pg_cnt h.cnt]; exact hi), Pg_cell h hi]
end
theorem OwnCv.shape {w : World} {base : Nat} {v : Value} {L : List CvD} (h : OwnCv w base v L) : ∃ G cap, v = .slice G L.length cap ∧
    ((G = none ∧ L = [] ∧ cap = 0) ∨ ∃ g, G = some ⟨g, 0, none⟩ ∧ base ≤ g ∧ g < w.heap.size ∧ L.length ≤ cap ∧ cap ≤ 9223372036854775807) ∧
    ∀ k s, L[k]? = some s → ∃ g, G = some ⟨g, 0, none⟩ ∧ g < w.heap.size ∧ w.cell? ⟨g, k, none⟩ = some (cvVal s) := by
  obtain ⟨h1, ⟨h, hl⟩ | ⟨g, cap, cur, hv, hg, hh, hle, hm, hc, ht⟩⟩ := h
  · have h0 : L = [] := List.eq_nil_of_length_eq_zero hl
    subst h0
    exact ⟨_, _, h, .inl ⟨rfl, rfl, rfl⟩, fun k s hk => by simp at hk⟩
  · refine ⟨_, cap, hv, .inr ⟨g, rfl, hg, heap_lt hh, hle, hm⟩, fun k s hk => ⟨g, rfl, heap_lt hh, cell_blk hh ?_⟩⟩
    have hlt := (List.getElem?_eq_some_iff.1 hk).1
    have e : (L.map cvVal)[k]? = some (cvVal s) := by rw [List.getElem?_map, hk]; rfl
    rw [← ht, List.getElem?_take] at e
    split at e
    · rwa [Array.getElem?_toList] at e
    · simp at e
theorem one_cv (L : List CvD) : ∀ u ∈ L.map cvVal, u.oneCell' = true := fun u hu => by
  obtain ⟨s, -, rfl⟩ := List.mem_map.1 hu
  rfl
theorem OwnCv.low {w : World} {base base' : Nat} {v : Value} {L : List CvD} (h : OwnCv w base v L) (hb : base' ≤ base) : OwnCv w base' v L := by
  rcases h with ⟨h0, h | ⟨g, cap, cur, hv, hb', r⟩⟩
  · exact ⟨h0, .inl h⟩
  · exact ⟨h0, .inr ⟨g, cap, cur, hv, Nat.le_trans hb hb', r⟩⟩
section
variable {wz : World} {G A : Option Addr} {L : List CvD} {i : Nat}
theorem cv_take (hV : ∀ k s, L[k]? = some s → ∃ g, G = some ⟨g, 0, none⟩ ∧ wz.cell? ⟨g, k, none⟩ = some (cvVal s)) : ∀ j u, ((L.take i).map cvVal)[j]? = some u → ∃ b off, G = some ⟨b, off, none⟩ ∧ wz.cell? ⟨b, off + j, none⟩ = some u := fun j u hu => by
  rw [List.getElem?_map] at hu
  cases hLt : (L.take i)[j]? with
  | none => rw [hLt] at hu; simp at hu
  | some t =>
    rw [hLt] at hu
    obtain rfl : cvVal t = u := by simpa using hu
    rw [List.getElem?_take] at hLt
    split at hLt
    · obtain ⟨g', e, hc'⟩ := hV j t hLt
      exact ⟨g', 0, e, by rw [Nat.zero_add]; exact hc'⟩
    · simp at hLt
theorem cv_drop (hV : ∀ k s, L[k]? = some s → ∃ g, G = some ⟨g, 0, none⟩ ∧ wz.cell? ⟨g, k, none⟩ = some (cvVal s)) (hA : ∀ g', G = some ⟨g', 0, none⟩ → i < L.length → A = some ⟨g', i, none⟩) :
    ∀ j u, ((L.drop i).map cvVal)[j]? = some u → ∃ b off, A = some ⟨b, off, none⟩ ∧ wz.cell? ⟨b, off + j, none⟩ = some u := fun j u hu => by
  rw [List.getElem?_map] at hu
  cases hLt : (L.drop i)[j]? with
  | none => rw [hLt] at hu; simp at hu
  | some t =>
    rw [hLt] at hu
    obtain rfl : cvVal t = u := by simpa using hu
    rw [List.getElem?_drop] at hLt
    have := (List.getElem?_eq_some_iff.1 hLt).1
    obtain ⟨g', e, hc'⟩ := hV (i + j) t hLt
    exact ⟨g', i, hA g' e (by omega), hc'⟩
end
/-- The state of PageCells's loop: the page in block gp is of the cells told. -/
def CelAt (kind : UInt8) (w : World) (gp : Nat) (v6 v7 v8 : Value) (wr : World) : Prop := ∃ (n : Nat) (L : List CvD),
  v7 = .int .i64 (506 - ((encs (L.map (fun s => s.b))).length : Int)) ∧ v8 = .int .i64 n ∧ PgOk n (L.map (fun s => s.b)) ∧ OwnCv wr (gp + 1) v6 L ∧ RdAll w L ∧
  OwnB wr w.heap.size gp 512 (Pg kind n (L.map (fun s => s.b))) ∧ Kept (fun _ => False) w wr
theorem CelAt.kept {kind : UInt8} {w wr wz : World} {gp : Nat} {v6 v7 v8 : Value} (h : CelAt kind w gp v6 v7 v8 wr) (hk : Kept (fun _ => False) wr wz) : CelAt kind w gp v6 v7 v8 wz := by
  obtain ⟨n, L, h1, h2, h3, h4, h5, h6, h7⟩ := h
  exact ⟨n, L, h1, h2, h3, h4.kept hk (fun _ h => h.elim), h5, h6.kept hk, h7.trans0 hk⟩
section
variable {w : World} {base gp n m : Nat} {kind : UInt8} {cs : List Bytes}
theorem pgCheck (h : OwnB w base gp 512 (Pg kind n cs)) (ok : PgOk n cs) : Calls Tryd.prog 28 #[.slice (some ⟨gp, 0, none⟩) 512 512] w fun e w' => e = .returned (.bool true) ∧ Same w w' := by
  have hl := Pg_len (k := kind) (n := n) ok.room
  have := check_any (some ⟨gp, 0, none⟩) 512 _ w h.rdp (by omega) (by omega) (by decide)
  rwa [hl, Pg_check ok] at this
theorem pgKind (h : OwnB w base gp 512 (Pg kind n cs)) (ok : PgOk n cs) : Calls Tryd.prog 29 #[.slice (some ⟨gp, 0, none⟩) 512 512] w fun e w' => e = .returned (.int .u8 kind.toNat) ∧ Same w w' := by
  have hl := Pg_len (k := kind) (n := n) ok.room
  have := kind_any (some ⟨gp, 0, none⟩) 512 _ w h.rdp (by omega) (by omega) (by decide)
  rwa [hl, Pg_kindM ok] at this
theorem pgCount (h : OwnB w base gp 512 (Pg kind n cs)) (ok : PgOk n cs) (hm : cs.length = m) : Calls Tryd.prog 30 #[.slice (some ⟨gp, 0, none⟩) 512 512] w fun e w' => e = .returned (.int .i64 m) ∧ Same w w' := by
  have hl := Pg_len (k := kind) (n := n) ok.room
  have := count_any (some ⟨gp, 0, none⟩) 512 _ w h.rdp (by omega) (by omega) (by decide)
  rwa [hl, Pg_countM ok, hm] at this
theorem pgRoom (h : OwnB w base gp 512 (Pg kind n cs)) (ok : PgOk n cs) {rm : Int} (hrm : rm = 506 - ((encs cs).length : Int)) : Calls Tryd.prog 31 #[.slice (some ⟨gp, 0, none⟩) 512 512] w fun e w' => e = .returned (.int .i64 rm) ∧ Same w w' := by
  have hl := Pg_len (k := kind) (n := n) ok.room
  have hr := ok.room
  have he := Pg_end (k := kind) ok
  have := room_any (some ⟨gp, 0, none⟩) 512 _ w h.rdp (by omega) (by omega) (by decide) (by omega)
  rwa [hl, Pg_roomM ok, show ((506 - (encs cs).length : Nat) : Int) = rm by omega] at this
theorem pgNext (h : OwnB w base gp 512 (Pg kind n cs)) (ok : PgOk n cs) : Calls Tryd.prog 32 #[.slice (some ⟨gp, 0, none⟩) 512 512] w fun e w' => e = .returned (.int .i64 n) ∧ Same w w' := by
  have hl := Pg_len (k := kind) (n := n) ok.room
  have := next_any (some ⟨gp, 0, none⟩) 512 _ w h.rdp (by omega) (by omega) (by decide)
  rwa [hl, Pg_nxtM ok] at this
theorem pgGet (h : OwnB w base gp 512 (Pg kind n cs)) (ok : PgOk n cs) {i : Nat} {x : Bytes} (hx : cs[i]? = some x) : Calls Tryd.prog 11 #[.slice (some ⟨gp, 0, none⟩) 512 512, .int .i64 i] w fun e w' => Kept (fun _ => False) w w' ∧
    ∃ g cap, e = .returned (.tuple #[.slice (some ⟨g, 0, none⟩) x.length cap, .bool true]) ∧ OwnB w' w.heap.size g cap x := by
  have hl := Pg_len (k := kind) (n := n) ok.room
  obtain ⟨hi, rfl⟩ := List.getElem?_eq_some_iff.1 hx
  have := get_any gp 0 512 _ w h.rdp (by omega) (by omega) (by decide) (i : Int)
  rw [hl, Pg_getM ok hi] at this
  refine this.mono ?_
  rintro e w' ⟨hk, ⟨h0, -⟩ | ⟨g, cap, y, h0, he, ho⟩⟩
  · cases h0
  · cases h0
    exact ⟨hk, g, cap, he, ho⟩
end
end Go.Proofs.YtndflnedkpmpfaaDoor
