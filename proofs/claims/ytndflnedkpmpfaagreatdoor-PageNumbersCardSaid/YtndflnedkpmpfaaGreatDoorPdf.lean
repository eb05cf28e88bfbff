/-
  No statement is proved here: the contract of page's Diff.
-/
import Derived.Test.YtndflnedkpmpfaaGreatDoorPdo
namespace Go.Proofs.YtndflnedkpmpfaaGreatDoor
open Go.RowKit

/-- The state of Diff's loop ahead of place i: the spans, where the span under way begins (-1: none is), where it ends. -/
def stD (a b : Bytes) : Nat → Sp × Int × Nat
  | 0 => ([], -1, 0)
  | i + 1 => nextD a b i (stD a b i).1 (stD a b i).2.1 (stD a b i).2.2
theorem stD_inv (a b : Bytes) : ∀ i, DInv a b i (stD a b i).1 (stD a b i).2.1 (stD a b i).2.2
  | 0 => DInv.zero a b
  | i + 1 => (stD_inv a b i).step
def diffM (a b : Bytes) : Sp := putD (stD a b 512).1 (stD a b 512).2.1 (stD a b 512).2.2
theorem diffM_good (a b : Bytes) : DGood a b 512 (diffM a b) := (stD_inv a b 512).done
theorem stD_len (a b : Bytes) : ∀ i, (stD a b i).1.length ≤ i
  | 0 => Nat.le_refl _
  | i + 1 => by
    have ih := stD_len a b i
    show (nextD a b i (stD a b i).1 (stD a b i).2.1 (stD a b i).2.2).1.length ≤ i + 1
    unfold nextD putD
    split
    · exact Nat.le_succ_of_le ih
    · split
      · split
        · simp; exact ih
        · exact Nat.le_succ_of_le ih
      · exact Nat.le_succ_of_le ih

/-- The memory of Diff's loop. -/
def DSt (w : World) (base cf co ca ct cb : Nat) (A B : Option Addr) (ac bc : Nat) (a b : Bytes) (o : Sp) (f : Int) (t : Nat) : Prop :=
  ∃ v L, w.heap[ca]? = some (.cells #[.slice A 512 ac] 22 (0, 0)) ∧ w.heap[cb]? = some (.cells #[.slice B 512 bc] 22 (0, 0)) ∧ w.heap[co]? = some (.cells #[v] 34 (0, 0)) ∧
    w.heap[cf]? = some (.cells #[.int .i64 f] 3 (0, 0)) ∧ w.heap[ct]? = some (.cells #[.int .i64 t] 3 (0, 0)) ∧ OwnSp w base v L ∧ SegsAt w base a b L ∧ L.map (fun s => (s.f, s.t)) = o
theorem cell_of_one' {w : World} {x : Nat} {v : Value} {t : TypeId} {fr : Nat × Nat} (h : w.heap[x]? = some (.cells #[v] t fr)) : w.cell? ⟨x, 0, none⟩ = some v := cell_blk h (by simp)
set_option maxRecDepth 100000 in
set_option maxHeartbeats 1000000 in
theorem put_any (base cf co ca ct cb xa oa xb ob : Nat) (ac bc : Nat) (w : World) (a b : Bytes) (o : Sp) (f : Int) (t : Nat) (h : DSt w base cf co ca ct cb (some ⟨xa, oa, none⟩) (some ⟨xb, ob, none⟩) ac bc a b o f t)
    (hord : ca < cb ∧ cb < co ∧ co < cf ∧ cf < ct ∧ ct < base) (hbs : base ≤ w.heap.size)
    (ha : RdB w (some ⟨xa, oa, none⟩) a) (hb' : RdB w (some ⟨xb, ob, none⟩) b) (la : a.length = 512) (lb : b.length = 512) (hac : 512 ≤ ac) (hac2 : ac ≤ 9223372036854775807) (hbc : 512 ≤ bc) (hbc2 : bc ≤ 9223372036854775807)
    (hf : f = -1 ∨ ∃ n : Nat, f = n ∧ n < t ∧ t ≤ 512) (ho : o.length ≤ 600) :
    Calls Tryz.prog 28 #[.pointer (some ⟨cf, 0, none⟩), .pointer (some ⟨co, 0, none⟩), .pointer (some ⟨ca, 0, none⟩), .pointer (some ⟨ct, 0, none⟩), .pointer (some ⟨cb, 0, none⟩)] w fun e w' => e = .returned (.tuple #[]) ∧
      DSt w' base cf co ca ct cb (some ⟨xa, oa, none⟩) (some ⟨xb, ob, none⟩) ac bc a b (putD o f t) f t ∧ Kept (fun x => x = co ∨ base ≤ x) w w' := by
  obtain ⟨v, L, h1, h2, h3, h4, h5, h6, h7, h8⟩ := h
  rcases hf with rfl | ⟨n, rfl, hn, ht⟩
  · refine (put_no cf co ca ct cb (some ⟨xa, oa, none⟩) (some ⟨xb, ob, none⟩) ac bc t v w ⟨cell_of_one' h4, cell_of_one' h3, cell_of_one' h1, cell_of_one' h5, cell_of_one' h2⟩).mono ?_
    rintro e w' ⟨rfl, rfl⟩
    exact ⟨rfl, ⟨v, L, h1, h2, h3, h4, h5, h6, h7, h8⟩, Kept.refl _ _⟩
  · have hlen : L.length = o.length := by rw [← h8]; simp
    refine (put_some cf co ca ct cb xa oa xb ob ac bc n t base v w a b L ⟨cell_of_one' h4, cell_of_one' h3, cell_of_one' h1, cell_of_one' h5, cell_of_one' h2⟩ h3 (by omega) (by omega) hbs h6 h7 ha hb' la lb hac hac2 hbc hbc2 hn ht (by omega)).mono ?_
    rintro e w' ⟨rfl, v', L', -, g3, g6, g7, g8, hk⟩
    refine ⟨rfl, ⟨v', L', hk.heap h1 (by omega), hk.heap h2 (by omega), g3, hk.heap h4 (by omega), hk.heap h5 (by omega), g6, g7, ?_⟩, hk⟩
    rw [g8, h8]
    unfold putD
    rw [if_pos (by omega)]
    simp
theorem DSt.kept {S : Nat → Prop} {w w' : World} {base cf co ca ct cb : Nat} {A B : Option Addr} {ac bc : Nat} {a b : Bytes} {o : Sp} {f : Int} {t : Nat} (h : DSt w base cf co ca ct cb A B ac bc a b o f t) (hk : Kept S w w') (hS : ∀ x, ¬ S x) : DSt w' base cf co ca ct cb A B ac bc a b o f t := by
  obtain ⟨v, L, h1, h2, h3, h4, h5, h6, h7, h8⟩ := h
  exact ⟨v, L, hk.heap h1 (hS _), hk.heap h2 (hS _), hk.heap h3 (hS _), hk.heap h4 (hS _), hk.heap h5 (hS _), h6.kept hk (fun x h => (hS x h).elim), h7.keep hk (fun x _ _ _ => hS x), h8⟩
/-- A store into 'from'. -/
theorem DSt.setF {w : World} {base cf co ca ct cb : Nat} {A B : Option Addr} {ac bc : Nat} {a b : Bytes} {o : Sp} {f : Int} {t : Nat} (h : DSt w base cf co ca ct cb A B ac bc a b o f t) (hord : ca < cb ∧ cb < co ∧ co < cf ∧ cf < ct ∧ ct < base) (f' : Int) :
    DSt (w.setCell ⟨cf, 0, none⟩ (.int .i64 f')) base cf co ca ct cb A B ac bc a b o f' t := by
  have kc : Kept (fun x => x = cf) w (w.setCell ⟨cf, 0, none⟩ (.int .i64 f')) := Kept.cell _ _ _ _
  obtain ⟨v, L, h1, h2, h3, h4, h5, h6, h7, h8⟩ := h
  exact ⟨v, L, kc.heap h1 (by omega), kc.heap h2 (by omega), kc.heap h3 (by omega), by simpa using set_blk h4 0 (.int .i64 f'), kc.heap h5 (by omega), h6.kept kc (fun x h => by omega), h7.keep kc (fun x _ _ hx => by omega), h8⟩
/-- A store into 'to'. -/
theorem DSt.setT {w : World} {base cf co ca ct cb : Nat} {A B : Option Addr} {ac bc : Nat} {a b : Bytes} {o : Sp} {f : Int} {t : Nat} (h : DSt w base cf co ca ct cb A B ac bc a b o f t) (hord : ca < cb ∧ cb < co ∧ co < cf ∧ cf < ct ∧ ct < base) (t' : Nat) (u : Int) (hu : u = t') :
    DSt (w.setCell ⟨ct, 0, none⟩ (.int .i64 u)) base cf co ca ct cb A B ac bc a b o f t' := by
  subst hu
  have kc : Kept (fun x => x = ct) w (w.setCell ⟨ct, 0, none⟩ (.int .i64 t')) := Kept.cell _ _ _ _
  obtain ⟨v, L, h1, h2, h3, h4, h5, h6, h7, h8⟩ := h
  exact ⟨v, L, kc.heap h1 (by omega), kc.heap h2 (by omega), kc.heap h3 (by omega), kc.heap h4 (by omega), by simpa using set_blk h5 0 (.int .i64 t'), h6.kept kc (fun x h => by omega), h7.keep kc (fun x _ _ hx => by omega), h8⟩
end Go.Proofs.YtndflnedkpmpfaaGreatDoor
