/-
  No statement is proved here: the verifier's bag of lists of bytes and of spans: putBytes, oneSpan.
  No statement is proved here: the verifier's bag, its 'apart', of whatever is in the bag.
  No statement is proved here: the verifier's putSpans and ApartSpans.
-/
import Derived.Test.YtndflnedkpmpfaaGreatDoorSpl
import Derived.Test.YtndflnedkpmpfaaGreatDoorKept
import Derived.Test.YtndflnedkpmpfaaGreatDoorFlatn
import Derived.Test.YtndflnedkpmpfaaGreatDoorFlatb
import Derived.Test.YtndflnedkpmpfaaGreatDoorFss
namespace Go.Proofs.YtndflnedkpmpfaaGreatDoor
open Go.RowKit

def bagD (v u : Value) : Array Value := #[.slice none 0 0, .slice none 0 0, .slice none 0 0, .slice none 0 0, v, .slice none 0 0, .slice none 0 0, u, .slice none 0 0, .slice none 0 0, .slice none 0 0, .slice none 0 0, .slice none 0 0, .slice none 0 0, .slice none 0 0, .slice none 0 0, .slice none 0 0, .slice none 0 0]
theorem infoBagD : (Tryz.prog.info? 72).map (fun i => (i.zero, i.size)) = some (some (.agg (bagD (.slice none 0 0) (.slice none 0 0))), 18) := by kernel_rfl
theorem infoSlB : (Tryz.prog.info? 22).map (fun i => (i.zero, i.size, i.bytes)) = some (some (.slice none 0 0), 1, 24) := by kernel_rfl
theorem infoSlS : (Tryz.prog.info? 34).map (fun i => (i.zero, i.size, i.bytes)) = some (some (.slice none 0 0), 1, 24) := by kernel_rfl
theorem row_blk {w : World} {B z n x : Nat} {e : TypeId} {v : Value} {xs : List Value} (h : w.ownsRow B e z v n xs) (hx : v.ownBlock = some x) : B ≤ x ∧ x < w.heap.size ∧ ∃ cur, w.heap[x]? = some (.cells cur e (0, 0)) := by
  rcases h.2 with ⟨rfl, -⟩ | ⟨g, cap, cur, rfl, hb, hh, -⟩
  · simp [Value.ownBlock] at hx
  · have e : g = x := by simpa [Value.ownBlock] using hx
    subst e
    exact ⟨hb, heap_lt hh, cur, hh⟩
/-- The bag, and what lies in it: lists of bytes, lists of spans. -/
def BagD (w : World) (B gb : Nat) (D E : List Value) : Prop := ∃ v u, w.heap[gb]? = some (.cells (bagD v u) 72 (0, 0)) ∧ w.ownsRow B 22 1 v D.length D ∧ w.ownsRow B 34 1 u E.length E ∧ B ≤ gb
theorem BagD.keep {S : Nat → Prop} {w w' : World} {B gb : Nat} {D E : List Value} (h : BagD w B gb D E) (hk : Kept S w w') (hS : ∀ x, B ≤ x → x < w.heap.size → ¬ S x) : BagD w' B gb D E := by
  obtain ⟨v, u, h0, h1, h2, h3⟩ := h
  exact ⟨v, u, hk.heap h0 (hS gb h3 (heap_lt h0)), ownsRow_keep h1 hk (fun x hx => hS x (row_blk h1 hx).1 (row_blk h1 hx).2.1), ownsRow_keep h2 hk (fun x hx => hS x (row_blk h2 hx).1 (row_blk h2 hx).2.1), h3⟩
/-- What a call may change: rows of its own, but none of spans. -/
def Mays (w : World) (B x : Nat) : Prop := B ≤ x ∧ ∀ cur, w.heap[x]? ≠ some (.cells cur 46 (0, 0))
set_option maxHeartbeats 1000000 in
theorem putBytes_D (w : World) (gb B : Nat) (D E : List Value) (h : BagD w B gb D E) (A : Option Addr) (k c : Nat) (hB : B ≤ w.heap.size) (hn : D.length ≤ 1000000) :
    Calls Tryz.prog 44 #[.pointer (some ⟨gb, 0, none⟩), .slice A k c] w fun e w' => e = .returned (.tuple #[]) ∧ BagD w' B gb (D ++ [.slice A k c]) E ∧ Kept (Mays w B) w w' := by
  obtain ⟨v, u, h0, hr, hu, gB⟩ := h
  have hv : v.ownBlock ≠ some gb := fun e => by
    obtain ⟨-, -, cur, h'⟩ := row_blk hr e
    rw [h0] at h'
    cases h'
  have hug : u.ownBlock ≠ some gb := fun e => by
    obtain ⟨-, -, cur, h'⟩ := row_blk hu e
    rw [h0] at h'
    cases h'
  have huv : ∀ x, u.ownBlock = some x → v.ownBlock ≠ some x := fun x e1 e2 => by
    obtain ⟨-, -, cur, h'⟩ := row_blk hr e2
    obtain ⟨-, -, cur', h''⟩ := row_blk hu e1
    rw [h'] at h''
    cases h''
  have HM := Lib.hid (show ∀ x, (x = gb ∨ v.ownBlock = some x) → Mays w B x from fun x hx => by
    rcases hx with rfl | hx
    · refine ⟨gB, fun cur e => ?_⟩
      rw [h0] at e
      cases e
    · obtain ⟨h1, -, cur, h'⟩ := row_blk hr hx
      refine ⟨h1, fun cur' e => ?_⟩
      rw [h'] at e
      cases e)
  have HV := Lib.hid hv
  have HUV := Lib.hid huv
  have HUG := Lib.hid hug
  clear huv hug
  have lb := heap_lt h0
  have c4 : w.cell? ⟨gb, 4, none⟩ = some v := cell_blk h0 (i := 4) rfl
  have ka : Kept (fun _ => False) w (w.alloc (.cells #[.slice A k c] 22)) := (Kept.refl _ _).alloc _
  have HRa := Lib.hid (ownsRow_keep hr ka (fun _ _ => id))
  have HUa := Lib.hid (ownsRow_keep hu ka (fun _ _ => id))
  have HBa := Lib.hid (ka.heap h0 id)
  have HW := Lib.hid (show ∀ (j : Nat) (u : Value), [Value.slice A k c][j]? = some u → (w.alloc (.cells #[.slice A k c] 22)).cell? ⟨w.heap.size, 0 + j, none⟩ = some u from fun j u hu => cell_blk (heap_alloc_new w _) (by simpa using hu))
  have HKa := Lib.hid ka
  clear h0 hr ka hu hv
  go_enter Tryz.func44, Tryz.ntmps44
  go_wp2_with (at_builtin; refine wl_append rfl _ _ 28 rfl B 22 Tryz.underlying28 infoSlB rfl (by omega) v D.length D rfl HRa.out w.heap.size 0 1 1 [Value.slice A k c] rfl rfl HW.out (by simp [Value.oneCell']) (by omega) (by have : maxLen = 9223372036854775807 := rfl; omega) (by omega) (Nat.le_trans hB HKa.out.size) ?_)
  intro g3 cap3 w3 ho3 hk3 hat3 m3
  have hb3 := hk3.heap HBa.out HV.out
  have d4 := cell_blk hb3 (i := 4) rfl
  have f4 := free_blk hb3 4
  have hg3 : g3 ≠ gb := by
    rcases hat3 with e | e
    · rintro rfl; exact HV.out e
    · omega
  have HU3 := Lib.hid (ownsRow_keep HUa.out hk3 HUV.out)
  have HO3 := Lib.hid ho3
  have HB3 := Lib.hid hb3
  have HK3 := Lib.hid ((HKa.out.mono (T := fun x => x = gb ∨ v.ownBlock = some x) (fun _ _ e => e.elim)).trans hk3 (fun x _ e => .inr e))
  clear ho3 hb3 hk3 hat3 HRa HBa HW HKa c4 HUa
  go_wp2
  go_end0
  have kc := Kept.cell w3 gb 4 (.slice (some ⟨g3, 0, none⟩) (D.length + 1) cap3)
  exact ⟨rfl, ⟨_, u, set_blk HB3.out 4 _, by rw [List.length_append]; exact ownsRow_keep HO3.out kc (fun x hx e => by cases hx; exact hg3 e), ownsRow_keep HU3.out kc (fun x hx e => by subst e; exact HUG.out hx), gB⟩, (HK3.out.trans kc (fun x _ e => .inl e)).mono (fun x _ e => HM.out x e)⟩
set_option maxHeartbeats 1000000 in
theorem oneSpan_any (w : World) (gb B : Nat) (D E : List Value) (h : BagD w B gb D E) (q f : Int) (A1 A2 : Option Addr) (n1 n2 c1 c2 : Nat) (hB : B ≤ w.heap.size) (hn : D.length ≤ 999999) :
    Calls Tryz.prog 81 #[.pointer (some ⟨gb, 0, none⟩), .agg #[.int .i64 q, .int .i64 f, .slice A1 n1 c1, .slice A2 n2 c2]] w fun e w' => e = .returned (.tuple #[]) ∧ BagD w' B gb (D ++ [.slice A1 n1 c1, .slice A2 n2 c2]) E ∧ Kept (fun x => B ≤ x) w w' := by
  have H := Lib.hid h
  clear h
  go_enter Tryz.func81, Tryz.ntmps81
  go_wp2_with (refine wl_box rfl 46 _ rfl (.agg #[.int .i64 q, .int .i64 f, .slice A1 n1 c1, .slice A2 n2 c2]) rfl ?_)
  intro px w1 npx mpx hpx kpx
  have HX1 := Lib.hid (show w1.heap[px]? = some (.cells #[.int .i64 q, .int .i64 f, .slice A1 n1 c1, .slice A2 n2 c2] 46 (0, 0)) from hpx)
  have K1 := Lib.hid kpx
  have H1 := Lib.hid (H.out.keep kpx (fun _ _ _ => id))
  have s1 := kpx.size
  clear hpx kpx
  have x2 := cell_blk HX1.out (i := 2) rfl
  go_wp2_with fail
  refine (putBytes_D w1 gb B D E H1.out A1 n1 c1 (by omega) (by omega)).mono ?_
  rintro e w2 ⟨rfl, hb2, hk2⟩
  have HX2 := Lib.hid (hk2.heap HX1.out (fun e => e.2 _ HX1.out))
  have x3 := cell_blk HX2.out (i := 3) rfl
  have H2 := Lib.hid hb2
  have K2 := Lib.hid (K1.out.mono (T := fun x => B ≤ x) (fun _ _ e => e.elim) |>.trans hk2 (fun x _ e => e.1))
  have s2 := hk2.size
  clear hb2 hk2 x2
  go_wp2_with fail
  refine (putBytes_D w2 gb B (D ++ [.slice A1 n1 c1]) E H2.out A2 n2 c2 (by omega) (by simp; omega)).mono ?_
  rintro e w3 ⟨rfl, hb3, hk3⟩
  have H3 := Lib.hid hb3
  have K3 := Lib.hid (K2.out.trans hk3 (fun x _ e => e.1))
  clear hb3 hk3
  go_wp2
  go_end0
  refine ⟨rfl, ?_, K3.out⟩
  have := H3.out
  rwa [List.append_assoc] at this
end Go.Proofs.YtndflnedkpmpfaaGreatDoor
namespace Go.Proofs.YtndflnedkpmpfaaGreatDoor
open Go.RowKit

set_option maxRecDepth 100000 in
set_option maxHeartbeats 4000000 in
theorem apart_gen (w : World) (gb : Nat) (v0 v1 v2 v3 v4 v5 v6 v7 v8 v9 v10 v11 v12 v13 v14 v15 v16 v17 : Value) (R : Nat → World → Prop) (h : R 0 w) (hb : ∀ i w', R i w' → w'.heap[gb]? = some (.cells #[v0, v1, v2, v3, v4, v5, v6, v7, v8, v9, v10, v11, v12, v13, v14, v15, v16, v17] 72 (0, 0)))
    (h0 : ∀ w', R 0 w' → Calls Tryz.prog 62 #[v0] w' fun e w2 => e = .returned (.bool true) ∧ R 1 w2)
    (h1 : ∀ w', R 1 w' → Calls Tryz.prog 63 #[v1] w' fun e w2 => e = .returned (.bool true) ∧ R 2 w2)
    (h2 : ∀ w', R 2 w' → Calls Tryz.prog 64 #[v2] w' fun e w2 => e = .returned (.bool true) ∧ R 3 w2)
    (h3 : ∀ w', R 3 w' → Calls Tryz.prog 65 #[v3] w' fun e w2 => e = .returned (.bool true) ∧ R 4 w2)
    (h4 : ∀ w', R 4 w' → Calls Tryz.prog 66 #[v4] w' fun e w2 => e = .returned (.bool true) ∧ R 5 w2)
    (h5 : ∀ w', R 5 w' → Calls Tryz.prog 67 #[v5] w' fun e w2 => e = .returned (.bool true) ∧ R 6 w2)
    (h6 : ∀ w', R 6 w' → Calls Tryz.prog 68 #[v6] w' fun e w2 => e = .returned (.bool true) ∧ R 7 w2)
    (h7 : ∀ w', R 7 w' → Calls Tryz.prog 69 #[v7] w' fun e w2 => e = .returned (.bool true) ∧ R 8 w2)
    (h8 : ∀ w', R 8 w' → Calls Tryz.prog 70 #[v8] w' fun e w2 => e = .returned (.bool true) ∧ R 9 w2)
    (h9 : ∀ w', R 9 w' → Calls Tryz.prog 71 #[v9] w' fun e w2 => e = .returned (.bool true) ∧ R 10 w2)
    (h10 : ∀ w', R 10 w' → Calls Tryz.prog 72 #[v10] w' fun e w2 => e = .returned (.bool true) ∧ R 11 w2)
    (h11 : ∀ w', R 11 w' → Calls Tryz.prog 73 #[v11] w' fun e w2 => e = .returned (.bool true) ∧ R 12 w2)
    (h12 : ∀ w', R 12 w' → Calls Tryz.prog 74 #[v12] w' fun e w2 => e = .returned (.bool true) ∧ R 13 w2)
    (h13 : ∀ w', R 13 w' → Calls Tryz.prog 75 #[v13] w' fun e w2 => e = .returned (.bool true) ∧ R 14 w2)
    (h14 : ∀ w', R 14 w' → Calls Tryz.prog 76 #[v14] w' fun e w2 => e = .returned (.bool true) ∧ R 15 w2)
    (h15 : ∀ w', R 15 w' → Calls Tryz.prog 77 #[v15] w' fun e w2 => e = .returned (.bool true) ∧ R 16 w2)
    (h16 : ∀ w', R 16 w' → Calls Tryz.prog 78 #[v16] w' fun e w2 => e = .returned (.bool true) ∧ R 17 w2)
    (h17 : ∀ w', R 17 w' → Calls Tryz.prog 79 #[v17] w' fun e w2 => e = .returned (.bool true) ∧ R 18 w2) :
    Calls Tryz.prog 45 #[.pointer (some ⟨gb, 0, none⟩)] w fun e w' => e = .returned (.bool true) ∧ R 18 w' := by
  have c0 : w.cell? ⟨gb, 0, none⟩ = some v0 := cell_blk (hb 0 w h) (i := 0) rfl
  have HB := Lib.hid hb
  have R0 := Lib.hid h
  have G0 := Lib.hid h0; have G1 := Lib.hid h1; have G2 := Lib.hid h2; have G3 := Lib.hid h3; have G4 := Lib.hid h4; have G5 := Lib.hid h5; have G6 := Lib.hid h6; have G7 := Lib.hid h7; have G8 := Lib.hid h8; have G9 := Lib.hid h9; have G10 := Lib.hid h10; have G11 := Lib.hid h11; have G12 := Lib.hid h12; have G13 := Lib.hid h13; have G14 := Lib.hid h14; have G15 := Lib.hid h15; have G16 := Lib.hid h16; have G17 := Lib.hid h17
  clear h hb h0 h1 h2 h3 h4 h5 h6 h7 h8 h9 h10 h11 h12 h13 h14 h15 h16 h17
  go_enter Tryz.func45, Tryz.ntmps45
  go_wp2_with (first
    | (go_at_call 62; refine (G0.out _ R0.out).mono ?_; rintro e w1 ⟨rfl, hr1⟩; have R1 := Lib.hid hr1; have c1 : w1.cell? ⟨gb, 1, none⟩ = some v1 := cell_blk (HB.out 1 _ hr1) (i := 1) rfl; clear hr1)
    | (go_at_call 63; refine (G1.out _ R1.out).mono ?_; rintro e w2 ⟨rfl, hr2⟩; have R2 := Lib.hid hr2; have c2 : w2.cell? ⟨gb, 2, none⟩ = some v2 := cell_blk (HB.out 2 _ hr2) (i := 2) rfl; clear hr2)
    | (go_at_call 64; refine (G2.out _ R2.out).mono ?_; rintro e w3 ⟨rfl, hr3⟩; have R3 := Lib.hid hr3; have c3 : w3.cell? ⟨gb, 3, none⟩ = some v3 := cell_blk (HB.out 3 _ hr3) (i := 3) rfl; clear hr3)
    | (go_at_call 65; refine (G3.out _ R3.out).mono ?_; rintro e w4 ⟨rfl, hr4⟩; have R4 := Lib.hid hr4; have c4 : w4.cell? ⟨gb, 4, none⟩ = some v4 := cell_blk (HB.out 4 _ hr4) (i := 4) rfl; clear hr4)
    | (go_at_call 66; refine (G4.out _ R4.out).mono ?_; rintro e w5 ⟨rfl, hr5⟩; have R5 := Lib.hid hr5; have c5 : w5.cell? ⟨gb, 5, none⟩ = some v5 := cell_blk (HB.out 5 _ hr5) (i := 5) rfl; clear hr5)
    | (go_at_call 67; refine (G5.out _ R5.out).mono ?_; rintro e w6 ⟨rfl, hr6⟩; have R6 := Lib.hid hr6; have c6 : w6.cell? ⟨gb, 6, none⟩ = some v6 := cell_blk (HB.out 6 _ hr6) (i := 6) rfl; clear hr6)
    | (go_at_call 68; refine (G6.out _ R6.out).mono ?_; rintro e w7 ⟨rfl, hr7⟩; have R7 := Lib.hid hr7; have c7 : w7.cell? ⟨gb, 7, none⟩ = some v7 := cell_blk (HB.out 7 _ hr7) (i := 7) rfl; clear hr7)
    | (go_at_call 69; refine (G7.out _ R7.out).mono ?_; rintro e w8 ⟨rfl, hr8⟩; have R8 := Lib.hid hr8; have c8 : w8.cell? ⟨gb, 8, none⟩ = some v8 := cell_blk (HB.out 8 _ hr8) (i := 8) rfl; clear hr8)
    | (go_at_call 70; refine (G8.out _ R8.out).mono ?_; rintro e w9 ⟨rfl, hr9⟩; have R9 := Lib.hid hr9; have c9 : w9.cell? ⟨gb, 9, none⟩ = some v9 := cell_blk (HB.out 9 _ hr9) (i := 9) rfl; clear hr9)
    | (go_at_call 71; refine (G9.out _ R9.out).mono ?_; rintro e w10 ⟨rfl, hr10⟩; have R10 := Lib.hid hr10; have c10 : w10.cell? ⟨gb, 10, none⟩ = some v10 := cell_blk (HB.out 10 _ hr10) (i := 10) rfl; clear hr10)
    | (go_at_call 72; refine (G10.out _ R10.out).mono ?_; rintro e w11 ⟨rfl, hr11⟩; have R11 := Lib.hid hr11; have c11 : w11.cell? ⟨gb, 11, none⟩ = some v11 := cell_blk (HB.out 11 _ hr11) (i := 11) rfl; clear hr11)
    | (go_at_call 73; refine (G11.out _ R11.out).mono ?_; rintro e w12 ⟨rfl, hr12⟩; have R12 := Lib.hid hr12; have c12 : w12.cell? ⟨gb, 12, none⟩ = some v12 := cell_blk (HB.out 12 _ hr12) (i := 12) rfl; clear hr12)
    | (go_at_call 74; refine (G12.out _ R12.out).mono ?_; rintro e w13 ⟨rfl, hr13⟩; have R13 := Lib.hid hr13; have c13 : w13.cell? ⟨gb, 13, none⟩ = some v13 := cell_blk (HB.out 13 _ hr13) (i := 13) rfl; clear hr13)
    | (go_at_call 75; refine (G13.out _ R13.out).mono ?_; rintro e w14 ⟨rfl, hr14⟩; have R14 := Lib.hid hr14; have c14 : w14.cell? ⟨gb, 14, none⟩ = some v14 := cell_blk (HB.out 14 _ hr14) (i := 14) rfl; clear hr14)
    | (go_at_call 76; refine (G14.out _ R14.out).mono ?_; rintro e w15 ⟨rfl, hr15⟩; have R15 := Lib.hid hr15; have c15 : w15.cell? ⟨gb, 15, none⟩ = some v15 := cell_blk (HB.out 15 _ hr15) (i := 15) rfl; clear hr15)
    | (go_at_call 77; refine (G15.out _ R15.out).mono ?_; rintro e w16 ⟨rfl, hr16⟩; have R16 := Lib.hid hr16; have c16 : w16.cell? ⟨gb, 16, none⟩ = some v16 := cell_blk (HB.out 16 _ hr16) (i := 16) rfl; clear hr16)
    | (go_at_call 78; refine (G16.out _ R16.out).mono ?_; rintro e w17 ⟨rfl, hr17⟩; have R17 := Lib.hid hr17; have c17 : w17.cell? ⟨gb, 17, none⟩ = some v17 := cell_blk (HB.out 17 _ hr17) (i := 17) rfl; clear hr17)
    | (go_at_call 79; refine (G17.out _ R17.out).mono ?_; rintro e w18 ⟨rfl, hr18⟩; have R18 := Lib.hid hr18; clear hr18))
  go_ret
  exact ⟨rfl, R18.out⟩
end Go.Proofs.YtndflnedkpmpfaaGreatDoor
namespace Go.Proofs.YtndflnedkpmpfaaGreatDoor
open Go.RowKit

def spB (s : SpD) : List Value := [.slice (some ⟨s.g1, 0, none⟩) (s.t - s.f) s.c1, .slice (some ⟨s.g2, 0, none⟩) (s.t - s.f) s.c2]
/-- A row of spans that lies below B, as it reads. -/
def RdSp (w : World) (B : Nat) (A : Option Addr) (L : List SpD) : Prop := ∀ k x, L[k]? = some x → ∃ ga, A = some ⟨ga, 0, none⟩ ∧ ga < B ∧ ga < w.heap.size ∧ ∀ j u, (#[.int .i64 0, .int .i64 x.f, .slice (some ⟨x.g1, 0, none⟩) (x.t - x.f) x.c1, .slice (some ⟨x.g2, 0, none⟩) (x.t - x.f) x.c2] : Array Value)[j]? = some u → w.cell? ⟨ga, k * 4 + j, none⟩ = some u
theorem RdSp.kept {w w' : World} {B : Nat} {A : Option Addr} {L : List SpD} (h : RdSp w B A L) (hk : Kept (fun x => B ≤ x) w w') : RdSp w' B A L := by
  intro k x hx
  obtain ⟨ga, e, h1, h2, h3⟩ := h k x hx
  exact ⟨ga, e, h1, Nat.lt_of_lt_of_le h2 hk.size, fun j u hu => (World.cell?_of_block (hk.block ga h2 (by omega))).trans (h3 j u hu)⟩
set_option maxRecDepth 100000 in
set_option maxHeartbeats 2000000 in
theorem putSpans_any (w : World) (gb B : Nat) (D E : List Value) (h : BagD w B gb D E) (A : Option Addr) (c : Nat) (L : List SpD) (hr : RdSp w B A L) (hB : B ≤ w.heap.size) (hn : D.length + 2 * L.length ≤ 900000) (hE : E.length ≤ 900000) :
    Calls Tryz.prog 52 #[.pointer (some ⟨gb, 0, none⟩), .slice A L.length c] w fun e w' => e = .returned (.tuple #[]) ∧ BagD w' B gb (D ++ L.flatMap spB) (E ++ [.slice A L.length c]) ∧ Kept (fun x => B ≤ x) w w' := by
  obtain ⟨v, u, h0, hr', hu, gB⟩ := h
  have hug : u.ownBlock ≠ some gb := fun e => by
    obtain ⟨-, -, cur, h'⟩ := row_blk hu e
    rw [h0] at h'
    cases h'
  have hvg : v.ownBlock ≠ some gb := fun e => by
    obtain ⟨-, -, cur, h'⟩ := row_blk hr' e
    rw [h0] at h'
    cases h'
  have hvu : ∀ x, v.ownBlock = some x → u.ownBlock ≠ some x := fun x e1 e2 => by
    obtain ⟨-, -, cur, h'⟩ := row_blk hr' e1
    obtain ⟨-, -, cur', h''⟩ := row_blk hu e2
    rw [h'] at h''
    cases h''
  have HUB := Lib.hid (show ∀ x, u.ownBlock = some x → B ≤ x from fun x hx => (row_blk hu hx).1)
  have HV := Lib.hid hvg
  have HVU := Lib.hid hvu
  have HUG := Lib.hid hug
  have HRD := Lib.hid hr
  obtain ⟨n, hLn⟩ : ∃ n, L.length = n := ⟨_, rfl⟩
  have HLN := Lib.hid hLn
  rw [hLn] at hn ⊢
  clear hvu hvg hr hLn
  have lb := heap_lt h0
  have c4 : w.cell? ⟨gb, 7, none⟩ = some u := cell_blk h0 (i := 7) rfl
  have ka : Kept (fun _ => False) w (w.alloc (.cells #[.slice A n c] 34)) := (Kept.refl _ _).alloc _
  have HRa := Lib.hid (ownsRow_keep hr' ka (fun _ _ => id))
  have HUa := Lib.hid (ownsRow_keep hu ka (fun _ _ => id))
  have HBa := Lib.hid (ka.heap h0 id)
  have HW := Lib.hid (show ∀ (j : Nat) (u : Value), [Value.slice A n c][j]? = some u → (w.alloc (.cells #[.slice A n c] 34)).cell? ⟨w.heap.size, 0 + j, none⟩ = some u from fun j u hu => cell_blk (heap_alloc_new w _) (by simpa using hu))
  have HKa := Lib.hid ka
  clear h0 hr' ka hu hug
  go_enter Tryz.func52, Tryz.ntmps52
  go_wp2_with (at_builtin; refine wl_append rfl _ _ 50 rfl B 34 Tryz.underlying50 infoSlS rfl (by omega) u E.length E rfl HUa.out w.heap.size 0 1 1 [Value.slice A n c] rfl rfl HW.out (by simp [Value.oneCell']) (by omega) (by have : maxLen = 9223372036854775807 := rfl; omega) (by omega) (Nat.le_trans hB HKa.out.size) ?_)
  intro g3 cap3 w3 ho3 hk3 hat3 m3
  have hb3 := hk3.heap HBa.out HUG.out
  have d4 := cell_blk hb3 (i := 7) rfl
  have f4 := free_blk hb3 7
  have hg3 : g3 ≠ gb := by
    rcases hat3 with e | e
    · rintro rfl; exact HUG.out e
    · omega
  have HV3 := Lib.hid (ownsRow_keep HRa.out hk3 (fun x e1 e2 => HVU.out x e1 e2))
  have HO3 := Lib.hid ho3
  have HB3 := Lib.hid hb3
  have HK3 := Lib.hid ((HKa.out.mono (T := fun x => B ≤ x) (fun _ _ e => e.elim)).trans hk3 (fun x _ e => HUB.out x e))
  clear ho3 hb3 hk3 hat3 HRa HBa HW HKa c4 HUa
  have kc := Kept.cell w3 gb 7 (.slice (some ⟨g3, 0, none⟩) (E.length + 1) cap3)
  have HBG := Lib.hid (show BagD (w3.setCell ⟨gb, 7, none⟩ (.slice (some ⟨g3, 0, none⟩) (E.length + 1) cap3)) B gb (D ++ []) (E ++ [.slice A n c]) from
    ⟨v, _, set_blk HB3.out 7 _, by rw [List.append_nil]; exact ownsRow_keep HV3.out kc (fun x hx e => by subst e; exact HV.out hx), by rw [List.length_append]; exact ownsRow_keep HO3.out kc (fun x hx e => by cases hx; exact hg3 e), gB⟩)
  have HKG := Lib.hid (HK3.out.trans kc (fun x _ e => by rw [e]; exact gB))
  clear kc
  go_wp2
  go_loopw [4] (fun i wr => ∃ k : Nat, k ≤ n ∧ i = .int .i64 k ∧ BagD wr B gb (D ++ (L.take k).flatMap spB) (E ++ [.slice A n c]) ∧ Kept (fun x => B ≤ x) w wr) (fun i _ => n - (intOf i).toNat)
  case atStart => exact ⟨0, Nat.zero_le _, rfl, HBG.out, HKG.out⟩
  case round =>
    obtain ⟨k, hk, rfl, hb, hkr⟩ := hrel
    have HBr := Lib.hid hb
    have HK := Lib.hid hkr
    have szr := hkr.size
    clear hb hkr HBG HKG d4 f4
    by_cases hlt : k < n
    · have i0 : (0 : Int) ≤ (k : Int) := by omega
      have i1 : (k : Int) < (n : Int) := by omega
      have hk' : k < L.length := by rw [HLN.out]; exact hlt
      have hx : L[k]? = some L[k] := List.getElem?_eq_getElem hk'
      have etk : L.take (k + 1) = L.take k ++ [L[k]] := by rw [List.take_succ_eq_append_getElem hk']
      generalize L[k] = x at hx etk
      obtain ⟨ga, rfl, h1, h2, h3⟩ := (HRD.out.kept HK.out) k x hx
      have HC := Lib.hid h3
      have hDl : (D ++ (L.take k).flatMap spB).length ≤ 999999 := by
        have e : ∀ l : List SpD, (l.flatMap spB).length = 2 * l.length := by
          intro l
          induction l with
          | nil => rfl
          | cons s l ih => rw [List.flatMap_cons, List.length_append, ih, List.length_cons]; simp [spB]; omega
        rw [List.length_append, e, List.length_take]
        omega
      have HDL := Lib.hid hDl
      have HE := Lib.hid (fun (wz : World) (hz : BagD wz B gb (D ++ (L.take k).flatMap spB) (E ++ [.slice (some ⟨ga, 0, none⟩) n c])) (hs : B ≤ wz.heap.size) => oneSpan_any wz gb B _ _ hz 0 x.f (some ⟨x.g1, 0, none⟩) (some ⟨x.g2, 0, none⟩) (x.t - x.f) (x.t - x.f) x.c1 x.c2 hs HDL.out)
      have ETK := Lib.hid etk
      clear h3 hDl hx etk hk'
      go_wp2_with (refine wl_load_mid rfl 46 _ rfl ga (k * 4) rfl _ HC.out Tryz.underlying46 rfl (by kernel_rfl) ?_)
      refine (HE.out _ HBr.out (by omega)).mono ?_
      rintro e w4 ⟨rfl, hb4, hk4⟩
      have HB4 := Lib.hid hb4
      have HK4 := Lib.hid (HK.out.trans hk4 (fun x _ e => e))
      clear hb4 hk4
      go_wp2
      go_roundw
      case rel =>
        refine ⟨k + 1, by omega, by go_num, ?_, HK4.out⟩
        have := HB4.out
        rw [List.append_assoc] at this
        rw [ETK.out, List.flatMap_append]
        simpa [spB] using this
      case measure => simp [intOf]; omega
    · have hge : ¬ ((k : Int) < (n : Int)) := by omega
      obtain rfl : k = n := by omega
      go_wp2
      go_end0
      refine ⟨rfl, ?_, HK.out⟩
      have := HBr.out
      rwa [List.take_of_length_le (by rw [HLN.out]; exact Nat.le_refl _)] at this
end Go.Proofs.YtndflnedkpmpfaaGreatDoor
