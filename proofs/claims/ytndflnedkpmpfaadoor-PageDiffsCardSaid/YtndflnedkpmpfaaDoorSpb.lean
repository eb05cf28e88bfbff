/-
  No statement is proved here: the verifier's bag of lists of bytes and of spans: putBytes, oneSpan.
-/
import Derived.Test.YtndflnedkpmpfaaDoorSpl
import Derived.Test.YtndflnedkpmpfaaDoorKept
namespace Go.Proofs.YtndflnedkpmpfaaDoor
open Go.RowKit

def bagD (v u : Value) : Array Value := #[.slice none 0 0, .slice none 0 0, .slice none 0 0, .slice none 0 0, v, .slice none 0 0, .slice none 0 0, u, .slice none 0 0, .slice none 0 0, .slice none 0 0, .slice none 0 0, .slice none 0 0, .slice none 0 0, .slice none 0 0, .slice none 0 0, .slice none 0 0, .slice none 0 0]
theorem infoBagD : (Tryd.prog.info? 72).map (fun i => (i.zero, i.size)) = some (some (.agg (bagD (.slice none 0 0) (.slice none 0 0))), 18) := by kernel_rfl
theorem infoSlB : (Tryd.prog.info? 22).map (fun i => (i.zero, i.size, i.bytes)) = some (some (.slice none 0 0), 1, 24) := by kernel_rfl
theorem infoSlS : (Tryd.prog.info? 31).map (fun i => (i.zero, i.size, i.bytes)) = some (some (.slice none 0 0), 1, 24) := by kernel_rfl
theorem row_blk {w : World} {B z n x : Nat} {e : TypeId} {v : Value} {xs : List Value} (h : w.ownsRow B e z v n xs) (hx : v.ownBlock = some x) : B ≤ x ∧ x < w.heap.size ∧ ∃ cur, w.heap[x]? = some (.cells cur e (0, 0)) := by
  rcases h.2 with ⟨rfl, -⟩ | ⟨g, cap, cur, rfl, hb, hh, -⟩
  · simp [Value.ownBlock] at hx
  · have e : g = x := by simpa [Value.ownBlock] using hx
    subst e
    exact ⟨hb, heap_lt hh, cur, hh⟩
/-- The bag, and what lies in it: lists of bytes, lists of spans. -/
def BagD (w : World) (B gb : Nat) (D E : List Value) : Prop := ∃ v u, w.heap[gb]? = some (.cells (bagD v u) 72 (0, 0)) ∧ w.ownsRow B 22 1 v D.length D ∧ w.ownsRow B 31 1 u E.length E ∧ B ≤ gb
theorem BagD.keep {S : Nat → Prop} {w w' : World} {B gb : Nat} {D E : List Value} (h : BagD w B gb D E) (hk : Kept S w w') (hS : ∀ x, B ≤ x → x < w.heap.size → ¬ S x) : BagD w' B gb D E := by
  obtain ⟨v, u, h0, h1, h2, h3⟩ := h
  exact ⟨v, u, hk.heap h0 (hS gb h3 (heap_lt h0)), ownsRow_keep h1 hk (fun x hx => hS x (row_blk h1 hx).1 (row_blk h1 hx).2.1), ownsRow_keep h2 hk (fun x hx => hS x (row_blk h2 hx).1 (row_blk h2 hx).2.1), h3⟩
/-- What a call may change: rows of its own, but none of spans. -/
def Mays (w : World) (B x : Nat) : Prop := B ≤ x ∧ ∀ cur, w.heap[x]? ≠ some (.cells cur 38 (0, 0))
set_option maxHeartbeats 1000000 in
theorem putBytes_D (w : World) (gb B : Nat) (D E : List Value) (h : BagD w B gb D E) (A : Option Addr) (k c : Nat) (hB : B ≤ w.heap.size) (hn : D.length ≤ 1000000) :
    Calls Tryd.prog 43 #[.pointer (some ⟨gb, 0, none⟩), .slice A k c] w fun e w' => e = .returned (.tuple #[]) ∧ BagD w' B gb (D ++ [.slice A k c]) E ∧ Kept (Mays w B) w w' := by
  obtain ⟨v, u, h0, hr, hu, gB⟩ := h
  have hv : v.ownBlock ≠ some gb := fun e => by
    obtain ⟨-, -, cur, h'⟩ := row_blk hr e
    rw [h0] at h'
    cases h'
  have hug : u.ownBlock ≠ some gb := fun e => by
    obtain ⟨-, -, cur, h'⟩ := row_blk hu e
    rw [h0] at h'
    cases h'
  have huv : ∀ x, u.ownBlock = some x → v.ownBlock ≠ some x := fun x e1 e2 => by
    obtain ⟨-, -, cur, h'⟩ := row_blk hr e2
    obtain ⟨-, -, cur', h''⟩ := row_blk hu e1
    rw [h'] at h''
    cases h''
  have HM := Lib.hid (show ∀ x, (x = gb ∨ v.ownBlock = some x) → Mays w B x from fun x hx => by
    rcases hx with rfl | hx
    · refine ⟨gB, fun cur e => ?_⟩
      rw [h0] at e
      cases e
    · obtain ⟨h1, -, cur, h'⟩ := row_blk hr hx
      refine ⟨h1, fun cur' e => ?_⟩
      rw [h'] at e
      cases e)
  have HV := Lib.hid hv
  have HUV := Lib.hid huv
  have HUG := Lib.hid hug
  clear huv hug
  have lb := heap_lt h0
  have c4 : w.cell? ⟨gb, 4, none⟩ = some v := cell_blk h0 (i := 4) rfl
  have ka : Kept (fun _ => False) w (w.alloc (.cells #[.slice A k c] 22)) := (Kept.refl _ _).alloc _
  have HRa := Lib.hid (ownsRow_keep hr ka (fun _ _ => id))
  have HUa := Lib.hid (ownsRow_keep hu ka (fun _ _ => id))
  have HBa := Lib.hid (ka.heap h0 id)
  have HW := Lib.hid (show ∀ (j : Nat) (u : Value), [Value.slice A k c][j]? = some u → (w.alloc (.cells #[.slice A k c] 22)).cell? ⟨w.heap.size, 0 + j, none⟩ = some u from fun j u hu => cell_blk (heap_alloc_new w _) (by simpa using hu))
  have HKa := Lib.hid ka
  clear h0 hr ka hu hv
  go_enter Tryd.func43, Tryd.ntmps43
  go_wp2_with (at_builtin; refine wl_append rfl _ _ 30 rfl B 22 Tryd.underlying30 infoSlB rfl (by omega) v D.length D rfl HRa.out w.heap.size 0 1 1 [Value.slice A k c] rfl rfl HW.out (by simp [Value.oneCell']) (by omega) (by have : maxLen = 9223372036854775807 := rfl; omega) (by omega) (Nat.le_trans hB HKa.out.size) ?_)
  intro g3 cap3 w3 ho3 hk3 hat3 m3
  have hb3 := hk3.heap HBa.out HV.out
  have d4 := cell_blk hb3 (i := 4) rfl
  have f4 := free_blk hb3 4
  have hg3 : g3 ≠ gb := by
    rcases hat3 with e | e
    · rintro rfl; exact HV.out e
    · omega
  have HU3 := Lib.hid (ownsRow_keep HUa.out hk3 HUV.out)
  have HO3 := Lib.hid ho3
  have HB3 := Lib.hid hb3
  have HK3 := Lib.hid ((HKa.out.mono (T := fun x => x = gb ∨ v.ownBlock = some x) (fun _ _ e => e.elim)).trans hk3 (fun x _ e => .inr e))
  clear ho3 hb3 hk3 hat3 HRa HBa HW HKa c4 HUa
  go_wp2
  go_end0
  have kc := Kept.cell w3 gb 4 (.slice (some ⟨g3, 0, none⟩) (D.length + 1) cap3)
  exact ⟨rfl, ⟨_, u, set_blk HB3.out 4 _, by rw [List.length_append]; exact ownsRow_keep HO3.out kc (fun x hx e => by cases hx; exact hg3 e), ownsRow_keep HU3.out kc (fun x hx e => by subst e; exact HUG.out hx), gB⟩, (HK3.out.trans kc (fun x _ e => .inl e)).mono (fun x _ e => HM.out x e)⟩
set_option maxHeartbeats 1000000 in
theorem oneSpan_any (w : World) (gb B : Nat) (D E : List Value) (h : BagD w B gb D E) (q f : Int) (A1 A2 : Option Addr) (n1 n2 c1 c2 : Nat) (hB : B ≤ w.heap.size) (hn : D.length ≤ 999999) :
    Calls Tryd.prog 73 #[.pointer (some ⟨gb, 0, none⟩), .agg #[.int .i64 q, .int .i64 f, .slice A1 n1 c1, .slice A2 n2 c2]] w fun e w' => e = .returned (.tuple #[]) ∧ BagD w' B gb (D ++ [.slice A1 n1 c1, .slice A2 n2 c2]) E ∧ Kept (fun x => B ≤ x) w w' := by
  have H := Lib.hid h
  clear h
  go_enter Tryd.func73, Tryd.ntmps73
  go_wp2_with (refine wl_box rfl 38 _ rfl (.agg #[.int .i64 q, .int .i64 f, .slice A1 n1 c1, .slice A2 n2 c2]) rfl ?_)
  intro px w1 npx mpx hpx kpx
  have HX1 := Lib.hid (show w1.heap[px]? = some (.cells #[.int .i64 q, .int .i64 f, .slice A1 n1 c1, .slice A2 n2 c2] 38 (0, 0)) from hpx)
  have K1 := Lib.hid kpx
  have H1 := Lib.hid (H.out.keep kpx (fun _ _ _ => id))
  have s1 := kpx.size
  clear hpx kpx
  have x2 := cell_blk HX1.out (i := 2) rfl
  go_wp2_with fail
  refine (putBytes_D w1 gb B D E H1.out A1 n1 c1 (by omega) (by omega)).mono ?_
  rintro e w2 ⟨rfl, hb2, hk2⟩
  have HX2 := Lib.hid (hk2.heap HX1.out (fun e => e.2 _ HX1.out))
  have x3 := cell_blk HX2.out (i := 3) rfl
  have H2 := Lib.hid hb2
  have K2 := Lib.hid (K1.out.mono (T := fun x => B ≤ x) (fun _ _ e => e.elim) |>.trans hk2 (fun x _ e => e.1))
  have s2 := hk2.size
  clear hb2 hk2 x2
  go_wp2_with fail
  refine (putBytes_D w2 gb B (D ++ [.slice A1 n1 c1]) E H2.out A2 n2 c2 (by omega) (by simp; omega)).mono ?_
  rintro e w3 ⟨rfl, hb3, hk3⟩
  have H3 := Lib.hid hb3
  have K3 := Lib.hid (K2.out.trans hk3 (fun x _ e => e.1))
  clear hb3 hk3
  go_wp2
  go_end0
  refine ⟨rfl, ?_, K3.out⟩
  have := H3.out
  rwa [List.append_assoc] at this
end Go.Proofs.YtndflnedkpmpfaaDoor
