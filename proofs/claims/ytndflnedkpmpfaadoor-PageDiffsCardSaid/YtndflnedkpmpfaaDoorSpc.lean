/-
  No statement is proved here: the verifier's putSpans and ApartSpans.
-/
import Derived.Test.YtndflnedkpmpfaaDoorSpb
import Derived.Test.YtndflnedkpmpfaaDoorApg
import Derived.Test.YtndflnedkpmpfaaDoorFlatn
import Derived.Test.YtndflnedkpmpfaaDoorFlatb
import Derived.Test.YtndflnedkpmpfaaDoorFss
namespace Go.Proofs.YtndflnedkpmpfaaDoor
open Go.RowKit

def spB (s : SpD) : List Value := [.slice (some ⟨s.g1, 0, none⟩) (s.t - s.f) s.c1, .slice (some ⟨s.g2, 0, none⟩) (s.t - s.f) s.c2]
/-- A row of spans that lies below B, as it reads. -/
def RdSp (w : World) (B : Nat) (A : Option Addr) (L : List SpD) : Prop := ∀ k x, L[k]? = some x → ∃ ga, A = some ⟨ga, 0, none⟩ ∧ ga < B ∧ ga < w.heap.size ∧ ∀ j u, (#[.int .i64 0, .int .i64 x.f, .slice (some ⟨x.g1, 0, none⟩) (x.t - x.f) x.c1, .slice (some ⟨x.g2, 0, none⟩) (x.t - x.f) x.c2] : Array Value)[j]? = some u → w.cell? ⟨ga, k * 4 + j, none⟩ = some u
theorem RdSp.kept {w w' : World} {B : Nat} {A : Option Addr} {L : List SpD} (h : RdSp w B A L) (hk : Kept (fun x => B ≤ x) w w') : RdSp w' B A L := by
  intro k x hx
  obtain ⟨ga, e, h1, h2, h3⟩ := h k x hx
  exact ⟨ga, e, h1, Nat.lt_of_lt_of_le h2 hk.size, fun j u hu => (World.cell?_of_block (hk.block ga h2 (by omega))).trans (h3 j u hu)⟩
set_option maxRecDepth 100000 in
set_option maxHeartbeats 2000000 in
theorem putSpans_any (w : World) (gb B : Nat) (D E : List Value) (h : BagD w B gb D E) (A : Option Addr) (c : Nat) (L : List SpD) (hr : RdSp w B A L) (hB : B ≤ w.heap.size) (hn : D.length + 2 * L.length ≤ 900000) (hE : E.length ≤ 900000) :
    Calls Tryd.prog 47 #[.pointer (some ⟨gb, 0, none⟩), .slice A L.length c] w fun e w' => e = .returned (.tuple #[]) ∧ BagD w' B gb (D ++ L.flatMap spB) (E ++ [.slice A L.length c]) ∧ Kept (fun x => B ≤ x) w w' := by
  obtain ⟨v, u, h0, hr', hu, gB⟩ := h
  have hug : u.ownBlock ≠ some gb := fun e => by
    obtain ⟨-, -, cur, h'⟩ := row_blk hu e
    rw [h0] at h'
    cases h'
  have hvg : v.ownBlock ≠ some gb := fun e => by
    obtain ⟨-, -, cur, h'⟩ := row_blk hr' e
    rw [h0] at h'
    cases h'
  have hvu : ∀ x, v.ownBlock = some x → u.ownBlock ≠ some x := fun x e1 e2 => by
    obtain ⟨-, -, cur, h'⟩ := row_blk hr' e1
    obtain ⟨-, -, cur', h''⟩ := row_blk hu e2
    rw [h'] at h''
    cases h''
  have HUB := Lib.hid (show ∀ x, u.ownBlock = some x → B ≤ x from fun x hx => (row_blk hu hx).1)
  have HV := Lib.hid hvg
  have HVU := Lib.hid hvu
  have HUG := Lib.hid hug
  have HRD := Lib.hid hr
  obtain ⟨n, hLn⟩ : ∃ n, L.length = n := ⟨_, rfl⟩
  have HLN := Lib.hid hLn
  rw [hLn] at hn ⊢
  clear hvu hvg hr hLn
  have lb := heap_lt h0
  have c4 : w.cell? ⟨gb, 7, none⟩ = some u := cell_blk h0 (i := 7) rfl
  have ka : Kept (fun _ => False) w (w.alloc (.cells #[.slice A n c] 31)) := (Kept.refl _ _).alloc _
  have HRa := Lib.hid (ownsRow_keep hr' ka (fun _ _ => id))
  have HUa := Lib.hid (ownsRow_keep hu ka (fun _ _ => id))
  have HBa := Lib.hid (ka.heap h0 id)
  have HW := Lib.hid (show ∀ (j : Nat) (u : Value), [Value.slice A n c][j]? = some u → (w.alloc (.cells #[.slice A n c] 31)).cell? ⟨w.heap.size, 0 + j, none⟩ = some u from fun j u hu => cell_blk (heap_alloc_new w _) (by simpa using hu))
  have HKa := Lib.hid ka
  clear h0 hr' ka hu hug
  go_enter Tryd.func47, Tryd.ntmps47
  go_wp2_with (at_builtin; refine wl_append rfl _ _ 36 rfl B 31 Tryd.underlying36 infoSlS rfl (by omega) u E.length E rfl HUa.out w.heap.size 0 1 1 [Value.slice A n c] rfl rfl HW.out (by simp [Value.oneCell']) (by omega) (by have : maxLen = 9223372036854775807 := rfl; omega) (by omega) (Nat.le_trans hB HKa.out.size) ?_)
  intro g3 cap3 w3 ho3 hk3 hat3 m3
  have hb3 := hk3.heap HBa.out HUG.out
  have d4 := cell_blk hb3 (i := 7) rfl
  have f4 := free_blk hb3 7
  have hg3 : g3 ≠ gb := by
    rcases hat3 with e | e
    · rintro rfl; exact HUG.out e
    · omega
  have HV3 := Lib.hid (ownsRow_keep HRa.out hk3 (fun x e1 e2 => HVU.out x e1 e2))
  have HO3 := Lib.hid ho3
  have HB3 := Lib.hid hb3
  have HK3 := Lib.hid ((HKa.out.mono (T := fun x => B ≤ x) (fun _ _ e => e.elim)).trans hk3 (fun x _ e => HUB.out x e))
  clear ho3 hb3 hk3 hat3 HRa HBa HW HKa c4 HUa
  have kc := Kept.cell w3 gb 7 (.slice (some ⟨g3, 0, none⟩) (E.length + 1) cap3)
  have HBG := Lib.hid (show BagD (w3.setCell ⟨gb, 7, none⟩ (.slice (some ⟨g3, 0, none⟩) (E.length + 1) cap3)) B gb (D ++ []) (E ++ [.slice A n c]) from
    ⟨v, _, set_blk HB3.out 7 _, by rw [List.append_nil]; exact ownsRow_keep HV3.out kc (fun x hx e => by subst e; exact HV.out hx), by rw [List.length_append]; exact ownsRow_keep HO3.out kc (fun x hx e => by cases hx; exact hg3 e), gB⟩)
  have HKG := Lib.hid (HK3.out.trans kc (fun x _ e => by rw [e]; exact gB))
  clear kc
  go_wp2
  go_loopw [4] (fun i wr => ∃ k : Nat, k ≤ n ∧ i = .int .i64 k ∧ BagD wr B gb (D ++ (L.take k).flatMap spB) (E ++ [.slice A n c]) ∧ Kept (fun x => B ≤ x) w wr) (fun i _ => n - (intOf i).toNat)
  case atStart => exact ⟨0, Nat.zero_le _, rfl, HBG.out, HKG.out⟩
  case round =>
    obtain ⟨k, hk, rfl, hb, hkr⟩ := hrel
    have HBr := Lib.hid hb
    have HK := Lib.hid hkr
    have szr := hkr.size
    clear hb hkr HBG HKG d4 f4
    by_cases hlt : k < n
    · have i0 : (0 : Int) ≤ (k : Int) := by omega
      have i1 : (k : Int) < (n : Int) := by omega
      have hk' : k < L.length := by rw [HLN.out]; exact hlt
      have hx : L[k]? = some L[k] := List.getElem?_eq_getElem hk'
      have etk : L.take (k + 1) = L.take k ++ [L[k]] := by rw [List.take_succ_eq_append_getElem hk']
      generalize L[k] = x at hx etk
      obtain ⟨ga, rfl, h1, h2, h3⟩ := (HRD.out.kept HK.out) k x hx
      have HC := Lib.hid h3
      have hDl : (D ++ (L.take k).flatMap spB).length ≤ 999999 := by
        have e : ∀ l : List SpD, (l.flatMap spB).length = 2 * l.length := by
          intro l
          induction l with
          | nil => rfl
          | cons s l ih => rw [List.flatMap_cons, List.length_append, ih, List.length_cons]; simp [spB]; omega
        rw [List.length_append, e, List.length_take]
        omega
      have HDL := Lib.hid hDl
      have HE := Lib.hid (fun (wz : World) (hz : BagD wz B gb (D ++ (L.take k).flatMap spB) (E ++ [.slice (some ⟨ga, 0, none⟩) n c])) (hs : B ≤ wz.heap.size) => oneSpan_any wz gb B _ _ hz 0 x.f (some ⟨x.g1, 0, none⟩) (some ⟨x.g2, 0, none⟩) (x.t - x.f) (x.t - x.f) x.c1 x.c2 hs HDL.out)
      have ETK := Lib.hid etk
      clear h3 hDl hx etk hk'
      go_wp2_with (refine wl_load_mid rfl 38 _ rfl ga (k * 4) rfl _ HC.out Tryd.underlying38 rfl (by kernel_rfl) ?_)
      refine (HE.out _ HBr.out (by omega)).mono ?_
      rintro e w4 ⟨rfl, hb4, hk4⟩
      have HB4 := Lib.hid hb4
      have HK4 := Lib.hid (HK.out.trans hk4 (fun x _ e => e))
      clear hb4 hk4
      go_wp2
      go_roundw
      case rel =>
        refine ⟨k + 1, by omega, by go_num, ?_, HK4.out⟩
        have := HB4.out
        rw [List.append_assoc] at this
        rw [ETK.out, List.flatMap_append]
        simpa [spB] using this
      case measure => simp [intOf]; omega
    · have hge : ¬ ((k : Int) < (n : Int)) := by omega
      obtain rfl : k = n := by omega
      go_wp2
      go_end0
      refine ⟨rfl, ?_, HK.out⟩
      have := HBr.out
      rwa [List.take_of_length_le (by rw [HLN.out]; exact Nat.le_refl _)] at this
end Go.Proofs.YtndflnedkpmpfaaDoor
