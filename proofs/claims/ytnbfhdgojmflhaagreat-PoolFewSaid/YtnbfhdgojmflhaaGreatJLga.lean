/-
  No statement is proved here: a part of what the claim's last text rests on.
-/
import Derived.Test.YtnbfhdgojmflhaaGreatJGl
import Derived.Test.YtnbfhdgojmflhaaGreatJGx
namespace Go.Proofs.YtnbfhdgojmflhaaGreat
open Go.RowKit
def logC (p : Nat) (lv tv : Value) (L : LogM) : Array Value :=
  #[.pointer (some ⟨p, 0, none⟩), .int .i64 L.first, .int .i64 L.count, .int .i64 L.turn, .int .i64 L.oldest, .int .i64 L.fin, .int .i64 L.safe, lv, tv, .int .i64 L.beg]
def LogQ (w : World) (q p : Nat) (lv tv : Value) (L : LogM) : Prop := w.heap[q]? = some (.cells (logC p lv tv L) 171 (0, 0))
structure LogOk (L : LogM) : Prop where
  f0 : 0 ≤ L.first
  f1 : L.first ≤ 65536
  c0 : 4 ≤ L.count
  c1 : L.count ≤ 65536
  o0 : 1 ≤ L.oldest
  o1 : L.oldest ≤ L.fin
  e1 : L.fin ≤ 3000000000000000000
  s0 : 1 ≤ L.safe
  s1 : L.safe ≤ 3000000000000000000
theorem there_some (w : World) (q p : Nat) (lv tv : Value) (L : LogM) (h : LogQ w q p lv tv L) :
    Calls Tryz.prog 94 #[.pointer (some ⟨q, 0, none⟩)] w fun e w' => e = .returned (.bool true) ∧ w = w' := by
  have c0 : w.cell? ⟨q, 0, none⟩ = some (.pointer (some ⟨p, 0, none⟩)) := cell_blk h rfl
  clear h
  go_enter Tryz.func94, Tryz.ntmps94
  go_wp2
  go_ret
  exact ⟨rfl, rfl⟩
theorem size_any (w : World) (q p : Nat) (lv tv : Value) (L : LogM) (h : LogQ w q p lv tv L) (hok : LogOk L) :
    Calls Tryz.prog 89 #[.pointer (some ⟨q, 0, none⟩)] w fun e w' => e = .returned (.int .i64 (L.count * 408)) ∧ w = w' := by
  have c2 : w.cell? ⟨q, 2, none⟩ = some (.int .i64 L.count) := cell_blk h rfl
  have h1 := hok.c0
  have h2 := hok.c1
  clear h hok
  generalize L.count = C at *
  go_enter Tryz.func89, Tryz.ntmps89
  go_wp2
  go_ret
  exact ⟨rfl, rfl⟩
theorem end_any (w : World) (q p : Nat) (lv tv : Value) (L : LogM) (h : LogQ w q p lv tv L) :
    Calls Tryz.prog 53 #[.pointer (some ⟨q, 0, none⟩)] w fun e w' => e = .returned (.int .i64 L.fin) ∧ w = w' := by
  have HT := Lib.hid (there_some w q p lv tv L h)
  have c5 : w.cell? ⟨q, 5, none⟩ = some (.int .i64 L.fin) := cell_blk h rfl
  clear h
  go_enter Tryz.func53, Tryz.ntmps53
  go_wp2_with (go_at_call 94; refine HT.out.mono ?_; rintro e w' ⟨rfl, rfl⟩)
  go_ret
  exact ⟨rfl, rfl⟩
theorem safe_any (w : World) (q p : Nat) (lv tv : Value) (L : LogM) (h : LogQ w q p lv tv L) :
    Calls Tryz.prog 133 #[.pointer (some ⟨q, 0, none⟩)] w fun e w' => e = .returned (.int .i64 L.safe) ∧ w = w' := by
  have HT := Lib.hid (there_some w q p lv tv L h)
  have c6 : w.cell? ⟨q, 6, none⟩ = some (.int .i64 L.safe) := cell_blk h rfl
  clear h
  go_enter Tryz.func133, Tryz.ntmps133
  go_wp2_with (go_at_call 94; refine HT.out.mono ?_; rintro e w' ⟨rfl, rfl⟩)
  go_ret
  exact ⟨rfl, rfl⟩
theorem sector_any (w : World) (q p : Nat) (lv tv : Value) (L : LogM) (h : LogQ w q p lv tv L) (hok : LogOk L) (a : Int) (h1 : 1 ≤ a) (h2 : a ≤ 4000000000000000000) :
    Calls Tryz.prog 98 #[.pointer (some ⟨q, 0, none⟩), .int .i64 a] w fun e w' => e = .returned (.tuple #[.int .i64 (secB L.first L.count a), .int .i64 (secO L.count a), .int .i64 (secF a)]) ∧ w = w' := by
  have c1 : w.cell? ⟨q, 1, none⟩ = some (.int .i64 L.first) := cell_blk h rfl
  have c2 : w.cell? ⟨q, 2, none⟩ = some (.int .i64 L.count) := cell_blk h rfl
  have k1 := hok.c0
  have k2 := hok.c1
  have k3 := hok.f0
  have k4 := hok.f1
  clear h hok
  unfold secB secO secF
  generalize L.count = C at *
  generalize L.first = F at *
  go_enter Tryz.func98, Tryz.ntmps98
  go_wp2
  have n0 : 0 ≤ (a - 1) / 51 % (C * 8) := Int.emod_nonneg _ (by omega)
  have n1 : (a - 1) / 51 % (C * 8) < C * 8 := Int.emod_lt_of_pos _ (by omega)
  generalize (a - 1) / 51 % (C * 8) = N at *
  have e1 : N.tdiv 8 = N / 8 := Int.tdiv_eq_ediv_of_nonneg n0
  have e2 : N.tmod 8 = N % 8 := Int.tmod_eq_emod_of_nonneg n0
  have e3 : wrap64 (F + wrap64 (N.tdiv 8)) = F + N / 8 := by rw [e1]; unfold wrap64; omega
  have e4 : wrap64 (N.tmod 8 * 64) = N % 8 * 64 := by rw [e2]; unfold wrap64; omega
  rw [e3, e4]
  go_ret3
  exact ⟨rfl, rfl⟩
theorem secO_in {C a : Int} (h0 : 4 ≤ C) : 0 ≤ secO C a ∧ secO C a ≤ 448 := by
  have n0 : 0 ≤ (a - 1) / 51 % (C * 8) := Int.emod_nonneg _ (by omega)
  unfold secO
  omega
theorem secF_in {a : Int} : secF a ≤ a ∧ a ≤ secF a + 50 := by
  unfold secF
  omega
end Go.Proofs.YtnbfhdgojmflhaaGreat
