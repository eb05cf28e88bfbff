/-
  No statement is proved here: what PageCells asks of a page of these cells; its loop's state.
  No statement is proved here: PageNumbers's pages and spans, with no program in sight.
-/
import Derived.Test.YtndflnedkpmpfaaGreatDoorPgj
import Derived.Test.YtndflnedkpmpfaaGreatDoorLvr
import Derived.Test.YtndflnedkpmpfaaGreatDoorPdf
namespace Go.Proofs.YtndflnedkpmpfaaGreatDoor
open Go.RowKit

section
variable {k : UInt8} {n : Nat} {cs : List Bytes}
theorem Pg_end0 (h : PgOk n cs) : endM (Pg k n cs) ≠ 0 := by rw [Pg_end h]; omega
theorem Pg_check (h : PgOk n cs) : decide (0 < endM (Pg k n cs)) = true := by rw [Pg_end h]; exact decide_eq_true (by omega)
theorem Pg_kindM (h : PgOk n cs) : kindM (Pg k n cs) = k := by unfold kindM; rw [if_neg (Pg_end0 h), Pg_kind]
theorem Pg_nxtM (h : PgOk n cs) : nxtM (Pg k n cs) = n := by unfold nxtM; rw [if_neg (Pg_end0 h), Pg_next h.nxt]
theorem Pg_countM (h : PgOk n cs) : countM (Pg k n cs) = cs.length := by unfold countM; rw [if_neg (Pg_end0 h), Pg_cnt h.cnt]
theorem Pg_roomM (h : PgOk n cs) : roomM (Pg k n cs) = 506 - (encs cs).length := by
  have := h.room
  unfold roomM
  rw [if_neg (Pg_end0 h), Pg_len h.room, Pg_end h]
  omega
theorem Pg_getM (h : PgOk n cs) {i : Nat} (hi : i < cs.length) : getM (Pg k n cs) i = some cs[i] := by rw [getM_cell (Pg_end0 h) (by rw [Pg_cnt h.cnt]; exact hi), Pg_cell h hi]
end
theorem OwnCv.shape {w : World} {base : Nat} {v : Value} {L : List CvD} (h : OwnCv w base v L) : ∃ G cap, v = .slice G L.length cap ∧
    ((G = none ∧ L = [] ∧ cap = 0) ∨ ∃ g, G = some ⟨g, 0, none⟩ ∧ base ≤ g ∧ g < w.heap.size ∧ L.length ≤ cap ∧ cap ≤ 9223372036854775807) ∧
    ∀ k s, L[k]? = some s → ∃ g, G = some ⟨g, 0, none⟩ ∧ g < w.heap.size ∧ w.cell? ⟨g, k, none⟩ = some (cvVal s) := by
  obtain ⟨h1, ⟨h, hl⟩ | ⟨g, cap, cur, hv, hg, hh, hle, hm, hc, ht⟩⟩ := h
  · have h0 : L = [] := List.eq_nil_of_length_eq_zero hl
    subst h0
    exact ⟨_, _, h, .inl ⟨rfl, rfl, rfl⟩, fun k s hk => by simp at hk⟩
  · refine ⟨_, cap, hv, .inr ⟨g, rfl, hg, heap_lt hh, hle, hm⟩, fun k s hk => ⟨g, rfl, heap_lt hh, cell_blk hh ?_⟩⟩
    have hlt := (List.getElem?_eq_some_iff.1 hk).1
    have e : (L.map cvVal)[k]? = some (cvVal s) := by rw [List.getElem?_map, hk]; rfl
    rw [← ht, List.getElem?_take] at e
    split at e
    · rwa [Array.getElem?_toList] at e
    · simp at e
theorem one_cv (L : List CvD) : ∀ u ∈ L.map cvVal, u.oneCell' = true := fun u hu => by
  obtain ⟨s, -, rfl⟩ := List.mem_map.1 hu
  rfl
theorem OwnCv.low {w : World} {base base' : Nat} {v : Value} {L : List CvD} (h : OwnCv w base v L) (hb : base' ≤ base) : OwnCv w base' v L := by
  rcases h with ⟨h0, h | ⟨g, cap, cur, hv, hb', r⟩⟩
  · exact ⟨h0, .inl h⟩
  · exact ⟨h0, .inr ⟨g, cap, cur, hv, Nat.le_trans hb hb', r⟩⟩
section
variable {wz : World} {G A : Option Addr} {L : List CvD} {i : Nat}
theorem cv_take (hV : ∀ k s, L[k]? = some s → ∃ g, G = some ⟨g, 0, none⟩ ∧ wz.cell? ⟨g, k, none⟩ = some (cvVal s)) : ∀ j u, ((L.take i).map cvVal)[j]? = some u → ∃ b off, G = some ⟨b, off, none⟩ ∧ wz.cell? ⟨b, off + j, none⟩ = some u := fun j u hu => by
  rw [List.getElem?_map] at hu
  cases hLt : (L.take i)[j]? with
  | none => rw [hLt] at hu; simp at hu
  | some t =>
    rw [hLt] at hu
    obtain rfl : cvVal t = u := by simpa using hu
    rw [List.getElem?_take] at hLt
    split at hLt
    · obtain ⟨g', e, hc'⟩ := hV j t hLt
      exact ⟨g', 0, e, by rw [Nat.zero_add]; exact hc'⟩
    · simp at hLt
theorem cv_drop (hV : ∀ k s, L[k]? = some s → ∃ g, G = some ⟨g, 0, none⟩ ∧ wz.cell? ⟨g, k, none⟩ = some (cvVal s)) (hA : ∀ g', G = some ⟨g', 0, none⟩ → i < L.length → A = some ⟨g', i, none⟩) :
    ∀ j u, ((L.drop i).map cvVal)[j]? = some u → ∃ b off, A = some ⟨b, off, none⟩ ∧ wz.cell? ⟨b, off + j, none⟩ = some u := fun j u hu => by
  rw [List.getElem?_map] at hu
  cases hLt : (L.drop i)[j]? with
  | none => rw [hLt] at hu; simp at hu
  | some t =>
    rw [hLt] at hu
    obtain rfl : cvVal t = u := by simpa using hu
    rw [List.getElem?_drop] at hLt
    have := (List.getElem?_eq_some_iff.1 hLt).1
    obtain ⟨g', e, hc'⟩ := hV (i + j) t hLt
    exact ⟨g', i, hA g' e (by omega), hc'⟩
end
/-- The state of PageCells's loop: the page in block gp is of the cells told. -/
def CelAt (kind : UInt8) (w : World) (gp : Nat) (v6 v7 v8 : Value) (wr : World) : Prop := ∃ (n : Nat) (L : List CvD),
  v7 = .int .i64 (506 - ((encs (L.map (fun s => s.b))).length : Int)) ∧ v8 = .int .i64 n ∧ PgOk n (L.map (fun s => s.b)) ∧ OwnCv wr (gp + 1) v6 L ∧ RdAll w L ∧
  OwnB wr w.heap.size gp 512 (Pg kind n (L.map (fun s => s.b))) ∧ Kept (fun _ => False) w wr
theorem CelAt.kept {kind : UInt8} {w wr wz : World} {gp : Nat} {v6 v7 v8 : Value} (h : CelAt kind w gp v6 v7 v8 wr) (hk : Kept (fun _ => False) wr wz) : CelAt kind w gp v6 v7 v8 wz := by
  obtain ⟨n, L, h1, h2, h3, h4, h5, h6, h7⟩ := h
  exact ⟨n, L, h1, h2, h3, h4.kept hk (fun _ h => h.elim), h5, h6.kept hk, h7.trans0 hk⟩
section
variable {w : World} {base gp n m : Nat} {kind : UInt8} {cs : List Bytes}
theorem pgCheck (h : OwnB w base gp 512 (Pg kind n cs)) (ok : PgOk n cs) : Calls Tryz.prog 19 #[.slice (some ⟨gp, 0, none⟩) 512 512] w fun e w' => e = .returned (.bool true) ∧ Same w w' := by
  have hl := Pg_len (k := kind) (n := n) ok.room
  have := check_any (some ⟨gp, 0, none⟩) 512 _ w h.rdp (by omega) (by omega) (by decide)
  rwa [hl, Pg_check ok] at this
theorem pgKind (h : OwnB w base gp 512 (Pg kind n cs)) (ok : PgOk n cs) : Calls Tryz.prog 39 #[.slice (some ⟨gp, 0, none⟩) 512 512] w fun e w' => e = .returned (.int .u8 kind.toNat) ∧ Same w w' := by
  have hl := Pg_len (k := kind) (n := n) ok.room
  have := kind_any (some ⟨gp, 0, none⟩) 512 _ w h.rdp (by omega) (by omega) (by decide)
  rwa [hl, Pg_kindM ok] at this
theorem pgCount (h : OwnB w base gp 512 (Pg kind n cs)) (ok : PgOk n cs) (hm : cs.length = m) : Calls Tryz.prog 8 #[.slice (some ⟨gp, 0, none⟩) 512 512] w fun e w' => e = .returned (.int .i64 m) ∧ Same w w' := by
  have hl := Pg_len (k := kind) (n := n) ok.room
  have := count_any (some ⟨gp, 0, none⟩) 512 _ w h.rdp (by omega) (by omega) (by decide)
  rwa [hl, Pg_countM ok, hm] at this
theorem pgRoom (h : OwnB w base gp 512 (Pg kind n cs)) (ok : PgOk n cs) {rm : Int} (hrm : rm = 506 - ((encs cs).length : Int)) : Calls Tryz.prog 6 #[.slice (some ⟨gp, 0, none⟩) 512 512] w fun e w' => e = .returned (.int .i64 rm) ∧ Same w w' := by
  have hl := Pg_len (k := kind) (n := n) ok.room
  have hr := ok.room
  have he := Pg_end (k := kind) ok
  have := room_any (some ⟨gp, 0, none⟩) 512 _ w h.rdp (by omega) (by omega) (by decide) (by omega)
  rwa [hl, Pg_roomM ok, show ((506 - (encs cs).length : Nat) : Int) = rm by omega] at this
theorem pgNext (h : OwnB w base gp 512 (Pg kind n cs)) (ok : PgOk n cs) : Calls Tryz.prog 10 #[.slice (some ⟨gp, 0, none⟩) 512 512] w fun e w' => e = .returned (.int .i64 n) ∧ Same w w' := by
  have hl := Pg_len (k := kind) (n := n) ok.room
  have := next_any (some ⟨gp, 0, none⟩) 512 _ w h.rdp (by omega) (by omega) (by decide)
  rwa [hl, Pg_nxtM ok] at this
theorem pgGet (h : OwnB w base gp 512 (Pg kind n cs)) (ok : PgOk n cs) {i : Nat} {x : Bytes} (hx : cs[i]? = some x) : Calls Tryz.prog 22 #[.slice (some ⟨gp, 0, none⟩) 512 512, .int .i64 i] w fun e w' => Kept (fun _ => False) w w' ∧
    ∃ g cap, e = .returned (.tuple #[.slice (some ⟨g, 0, none⟩) x.length cap, .bool true]) ∧ OwnB w' w.heap.size g cap x := by
  have hl := Pg_len (k := kind) (n := n) ok.room
  obtain ⟨hi, rfl⟩ := List.getElem?_eq_some_iff.1 hx
  have := get_any gp 0 512 _ w h.rdp (by omega) (by omega) (by decide) (i : Int)
  rw [hl, Pg_getM ok hi] at this
  refine this.mono ?_
  rintro e w' ⟨hk, ⟨h0, -⟩ | ⟨g, cap, y, h0, he, ho⟩⟩
  · cases h0
  · cases h0
    exact ⟨hk, g, cap, he, ho⟩
end
end Go.Proofs.YtndflnedkpmpfaaGreatDoor
namespace Go.Proofs.YtndflnedkpmpfaaGreatDoor
open Go.RowKit

def reps (i : Nat) : List Bytes := List.replicate i []
theorem encs_reps : ∀ i, (encs (reps i)).length = 2 * i
  | 0 => rfl
  | i + 1 => by
    show (encs ([] :: reps i)).length = _
    rw [encs_cons, List.length_append, encs_reps i, enc_len]
    simp; omega
theorem reps_len (i : Nat) : (reps i).length = i := by simp [reps]
theorem ok_reps {i n : Nat} (h : i ≤ 253) (hn : n < 4294967296) : PgOk n (reps i) := ⟨by rw [encs_reps]; omega, by rw [reps_len]; omega, hn⟩
theorem ok_nil : PgOk 0 [] := ⟨by simp [encs], by simp, by omega⟩
theorem encs_one (c : Bytes) : (encs [c]).length = c.length + 2 := by rw [encs_cons, encs_nil, List.append_nil, enc_len]
theorem ok_one : PgOk 0 [zeros 504] := ⟨by rw [encs_one, len_zeros]; decide, by simp, by omega⟩
theorem num_ins (i : Nat) (h : i < 253) (n : Nat) (hn : n < 4294967296) : insertM (Pg 0 n (reps i)) i [] = (0, Pg 0 n (reps (i + 1))) := by
  rw [insertM_Pg (ok_reps (by omega) hn), if_neg (by rw [reps_len]; omega), if_neg (by rw [encs_reps, reps_len]; simp; omega)]
  congr 2
  rw [Int.toNat_natCast, List.take_of_length_le (by rw [reps_len]; exact Nat.le_refl _), List.drop_of_length_le (by rw [reps_len]; exact Nat.le_refl _)]
  unfold reps
  rw [List.replicate_succ']
theorem num_full (n : Nat) (hn : n < 4294967296) : insertM (Pg 0 n (reps 253)) 253 [] = (5, Pg 0 n (reps 253)) := by
  rw [insertM_Pg (ok_reps (by omega) hn), if_neg (by rw [reps_len]; omega), if_pos (by rw [encs_reps]; simp)]
theorem num_low (n : Nat) (hn : n < 4294967296) : insertM (Pg 0 n (reps 253)) (-1) [] = (2, Pg 0 n (reps 253)) := by
  rw [insertM_Pg (ok_reps (by omega) hn), if_pos (by omega)]
theorem num_high (n : Nat) (hn : n < 4294967296) : insertM (Pg 0 n (reps 253)) 254 [] = (2, Pg 0 n (reps 253)) := by
  rw [insertM_Pg (ok_reps (by omega) hn), if_pos (by rw [reps_len]; omega)]
theorem num_505 : insertM (Pg 0 0 []) 0 (zeros 505) = (5, Pg 0 0 []) := by
  rw [insertM_Pg ok_nil, if_neg (by simp), if_pos (by rw [len_zeros]; simp [encs])]
theorem num_504 : insertM (Pg 0 0 []) 0 (zeros 504) = (0, Pg 0 0 [zeros 504]) := by
  rw [insertM_Pg ok_nil, if_neg (by simp), if_neg (by rw [len_zeros]; simp [encs])]
  rfl
theorem num_one : insertM (Pg 0 0 [zeros 504]) 1 [] = (5, Pg 0 0 [zeros 504]) := by
  rw [insertM_Pg ok_one, if_neg (by simp), if_pos (by rw [encs_one, len_zeros]; simp)]
theorem num_del : deleteM (Pg 0 0 [zeros 504]) 0 = (true, Pg 0 0 []) := by
  rw [deleteM_Pg ok_one, if_neg (by simp)]
  rfl
theorem num_del0 : deleteM (Pg 0 0 []) 0 = (false, Pg 0 0 []) := by
  rw [deleteM_Pg ok_nil, if_pos (by simp)]
theorem num_next : setNextM (Pg 0 0 (reps 253)) 4294967295 = (true, Pg 0 4294967295 (reps 253)) := by
  rw [setNextM_Pg (ok_reps (by omega) (by omega)), if_neg (by omega)]
  rfl
theorem num_next1 : setNextM (Pg 0 4294967295 (reps 253)) 4294967296 = (false, Pg 0 4294967295 (reps 253)) := by
  rw [setNextM_Pg (ok_reps (by omega) (by omega)), if_pos (by omega)]
theorem num_next2 : setNextM (Pg 0 4294967295 (reps 253)) (-1) = (false, Pg 0 4294967295 (reps 253)) := by
  rw [setNextM_Pg (ok_reps (by omega) (by omega)), if_pos (by omega)]
/-- A page and itself. -/
theorem stD_self (a : Bytes) : ∀ i, stD a a i = ([], -1, 0)
  | 0 => rfl
  | i + 1 => by
    show nextD a a i (stD a a i).1 (stD a a i).2.1 (stD a a i).2.2 = _
    rw [stD_self a i]
    unfold nextD
    rw [if_pos rfl]
theorem diffM_self (a : Bytes) : diffM a a = [] := by
  unfold diffM
  rw [stD_self]
  rfl
/-- The pages of the gaps. -/
def gapB (k : Nat) : Bytes := ((((zeros 512).set 0 1).set (k + 1) 2).set 511 3).set (510 - k) 4
theorem gapB_len (k : Nat) : (gapB k).length = 512 := by unfold gapB; simp only [List.length_set, len_zeros]
/-- Diff's loop, with the pages gone through as lists. -/
def goD : Bytes → Bytes → Nat → Sp → Int → Nat → Sp
  | x :: a, y :: b, i, o, f, t => if x = y then goD a b (i + 1) o f t else if f < 0 ∨ (8 : Int) ≤ (i : Int) - t then goD a b (i + 1) (putD o f t) i (i + 1) else goD a b (i + 1) o f (i + 1)
  | _, _, _, o, f, t => putD o f t
theorem goD_eq (a b : Bytes) (la : a.length = 512) (lb : b.length = 512) : ∀ n i, i + n = 512 → goD (a.drop i) (b.drop i) i (stD a b i).1 (stD a b i).2.1 (stD a b i).2.2 = diffM a b
  | 0, i, h => by
    obtain rfl : i = 512 := by omega
    rw [List.drop_of_length_le (by omega), List.drop_of_length_le (by omega)]
    rfl
  | n + 1, i, h => by
    have ha : i < a.length := by omega
    have hb : i < b.length := by omega
    have ih := goD_eq a b la lb n (i + 1) (by omega)
    rw [List.drop_eq_getElem_cons ha, List.drop_eq_getElem_cons hb]
    rw [← ih]
    show (if a[i] = b[i] then _ else _) = goD _ _ _ (nextD a b i (stD a b i).1 (stD a b i).2.1 (stD a b i).2.2).1 (nextD a b i (stD a b i).1 (stD a b i).2.1 (stD a b i).2.2).2.1 (nextD a b i (stD a b i).1 (stD a b i).2.1 (stD a b i).2.2).2.2
    unfold nextD
    rw [bAt_get ha, bAt_get hb]
    split
    · rfl
    · split <;> rfl
theorem diffM_go (a b : Bytes) (la : a.length = 512) (lb : b.length = 512) : diffM a b = goD a b 0 [] (-1) 0 := (goD_eq a b la lb 512 0 rfl).symm
theorem gap_len (k : Nat) (h : k < 12) : (diffM (zeros 512) (gapB k)).length = if 8 ≤ k then 4 else 2 := by
  rw [diffM_go _ _ (len_zeros _) (gapB_len k)]
  have : ∀ k : Fin 12, (goD (zeros 512) (gapB k) 0 [] (-1) 0).length = if 8 ≤ k.val then 4 else 2 := by decide +kernel
  exact this ⟨k, h⟩
end Go.Proofs.YtndflnedkpmpfaaGreatDoor
