/-
  No statement is proved here: steps of a page's life, as an argument; the document's New.
-/
import Derived.Test.YtndflnedkpmpfaaGreatDoorPsn
namespace Go.Proofs.YtndflnedkpmpfaaGreatDoor
open Go.RowKit

structure D9 where
  op : Int
  slot : Int
  next : Int
  cell : Bytes
instance : Inhabited D9 := ⟨⟨0, 0, 0, []⟩⟩
def d9C (x : D9) (CA : Option Addr) (cc : Nat) : Array Value := #[.int .i64 x.op, .int .i64 x.slot, .int .i64 x.next, .slice CA x.cell.length cc]
def RdD9 (w : World) (A : Option Addr) (l : List D9) : Prop := l ≠ [] → ∃ b off, A = some ⟨b, off, none⟩ ∧ ∀ (i : Nat) x, l[i]? = some x →
  ∃ CA cc, (∀ j v, (d9C x CA cc)[j]? = some v → w.cell? ⟨b, off + i * 4 + j, none⟩ = some v) ∧ RdB w CA x.cell
theorem RdD9.at {w wr : World} {A : Option Addr} {l : List D9} (h : RdD9 w A l) (hk : Kept (fun _ => False) w wr) {k : Nat} {x : D9} (hx : l[k]? = some x) :
    ∃ b off CA cc, A = some ⟨b, off, none⟩ ∧ (∀ j v, (d9C x CA cc)[j]? = some v → wr.cell? ⟨b, off + k * 4 + j, none⟩ = some v) ∧ RdB wr CA x.cell ∧ (x.cell ≠ [] → ∀ b' off', CA = some ⟨b', off', none⟩ → b' < w.heap.size) := by
  obtain ⟨b, off, hA, hc⟩ := h (by rintro rfl; simp at hx)
  obtain ⟨CA, cc, h1, h2⟩ := hc k x hx
  refine ⟨b, off, CA, cc, hA, fun j v hv => ?_, h2.kept hk (fun _ _ _ _ => id), fun hne b' off' e => ?_⟩
  · have := h1 j v hv
    exact (World.cell?_of_block (hk.block b (block_lt_of_cell this) id)).trans this
  · obtain ⟨b2, off2, e2, hc2⟩ := h2 hne
    rw [e] at e2
    cases e2
    obtain ⟨y, ys, hy⟩ := List.exists_cons_of_ne_nil hne
    exact block_lt_of_cell (hc2 0 (.int .u8 y.toNat) (by rw [cellsOf_get, hy]; rfl))
theorem list4 {l : List Value} (h : l.length = 4) : ∃ a b c d, l = [a, b, c, d] := by
  match l, h with | [a, b, c, d], _ => exact ⟨a, b, c, d, rfl⟩
theorem cellsD9 : (Tryz.prog).cellsOf 32 = 4 := by kernel_rfl
section
variable {H : Type} {enc : TypeId × Value → H} {w : World} {base : Nat} {spare : Nat → Bool} {held : Bool}
theorem open_d9 {fuel : Nat} {cs : List Value} {x : DataW H × List MemPlace} (h : DataW.trod enc Tryz.prog w base spare held fuel 33 cs = some x) :
    ∃ (A : Option Addr) (c : Nat) (l : List D9), cs = [.slice A l.length c] ∧ RdD9 w A l := by
  obtain ⟨A, len, c, l, rfl, rfl, hm, hx⟩ := open_list (α := D9) Tryz.underlying33 cellsD9 (by omega) (fun y cs => ∃ CA cc, cs = (d9C y CA cc).toList ∧ RdB w CA y.cell) (fun fuel cs x h => by
    obtain ⟨xs, n, _, _, hl, hxl, hf⟩ := DataW.trod_struct Tryz.underlying32 h
    obtain ⟨c0, c1, c2, c3, rfl⟩ := list4 (hl.trans cellsD9)
    obtain ⟨_, f0⟩ := fld hf 0 _ rfl (by simp [hxl]) 3 rfl 0 rfl 1 cells3
    obtain ⟨_, f1⟩ := fld hf 1 _ rfl (by simp [hxl]) 3 rfl 1 rfl 1 cells3
    obtain ⟨_, f2⟩ := fld hf 2 _ rfl (by simp [hxl]) 3 rfl 2 rfl 1 cells3
    obtain ⟨_, f3⟩ := fld hf 3 _ rfl (by simp [hxl]) 22 rfl 3 rfl 1 cellsB
    obtain ⟨n0, e0, _, _⟩ := DataW.trod_int Tryz.underlying3 f0
    obtain ⟨n1, e1, _, _⟩ := DataW.trod_int Tryz.underlying3 f1
    obtain ⟨n2, e2, _, _⟩ := DataW.trod_int Tryz.underlying3 f2
    obtain ⟨CA, cc, bs, e3, _, hbs⟩ := open_bytes f3
    cases e0; cases e1; cases e2; cases e3
    exact ⟨⟨n0, n1, n2, bs⟩, CA, cc, rfl, hbs⟩) h
  refine ⟨A, c, l, rfl, fun hne => ?_⟩
  obtain ⟨b, off, hA, hc⟩ := hx hne
  refine ⟨b, off, hA, fun i y hy => ?_⟩
  obtain ⟨cs', _, h1, CA, cc, rfl, h2⟩ := hc i y hy
  refine ⟨CA, cc, fun j v hv => ?_, h2⟩
  have hj : j < 4 := by
    have := (Array.getElem?_eq_some_iff.1 hv).1
    simpa [d9C] using this
  have h3 := h1 j hj
  rw [h3, Array.getElem?_toList]
  exact hv
end
theorem newP_Pg (k : UInt8) : newP k = Pg k 0 [] := by
  have hl : (newP k).length = 512 := p0_len
  refine bytes_ext (by rw [hl, Pg_len (by simp [encs])]) fun j hj => ?_
  rw [hl] at hj
  unfold newP Pg
  rw [bAt_set' _ _ _ _ (by rw [len_zeros']; omega), bAt_z, List.append_assoc, bAt_app, hdr_len]
  by_cases h6 : j < 6
  · rw [if_pos h6]
    match j, h6 with
    | 0, _ => rfl
    | 1, _ => rfl
    | 2, _ => rfl
    | 3, _ => rfl
    | 4, _ => rfl
    | 5, _ => rfl
  · rw [if_neg h6, if_neg (by omega), encs_nil, List.nil_append, bAt_z]
set_option maxRecDepth 100000 in
theorem rnew_any (k : UInt8) (w : World) : Calls Tryz.prog 25 #[.int .u8 k.toNat] w fun e w' => ∃ g c, e = .returned (.slice (some ⟨g, 0, none⟩) 512 c) ∧ OwnB w' w.heap.size g c (newP k) ∧ Kept (fun _ => False) w w' := by
  have HP := Lib.hid (fun w => putP_any k 0 none 0 [] w (fun k s h => by simp at h) (by simp) (fun s h => by simp at h))
  go_enter Tryz.func25, Tryz.ntmps25
  go_wp2_with fail
  refine (HP.out _).mono ?_
  rintro e w1 ⟨hk, ⟨hno, -⟩ | ⟨-, g, c, rfl, ho⟩⟩
  · exfalso
    apply hno
    unfold PutOk
    simp [encs]
  · have HO := Lib.hid (show OwnB w1 w.heap.size g c (newP k) from by rw [newP_Pg]; exact ho)
    have HK := Lib.hid hk
    clear ho hk
    go_wp2
    go_ret
    exact ⟨g, c, rfl, HO.out, HK.out⟩
end Go.Proofs.YtndflnedkpmpfaaGreatDoor
