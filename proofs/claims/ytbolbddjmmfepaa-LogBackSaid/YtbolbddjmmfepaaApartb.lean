/-
  No statement is proved here: the verifier's putBytes and ApartBytes.
-/
import Derived.Test.YtbolbddjmmfepaaApart
namespace Go.Proofs.Ytbolbddjmmfepaa
open Go.RowKit

theorem infoSl : (Try.prog.info? 23).map (fun i => (i.zero, i.size, i.bytes)) = some (some (.slice none 0 0), 1, 24) := by kernel_rfl
set_option maxHeartbeats 1000000 in
theorem putBytes_any (w : World) (gb B n : Nat) (v : Value) (xs : List Value) (h0 : w.heap[gb]? = some (.cells (bagC v) 100 (0, 0))) (hr : w.ownsRow B 23 1 v n xs) (hv : v.ownBlock ≠ some gb) (A : Option Addr) (k c : Nat) (hB : B ≤ w.heap.size) (hn : n ≤ 1000000) :
    Calls Try.prog 53 #[.pointer (some ⟨gb, 0, none⟩), .slice A k c] w fun e w' => ∃ v', e = .returned (.tuple #[]) ∧ w'.heap[gb]? = some (.cells (bagC v') 100 (0, 0)) ∧ w'.ownsRow B 23 1 v' (n + 1) (xs ++ [.slice A k c]) ∧ v'.ownBlock ≠ some gb ∧ Kept (fun x => x = gb ∨ v.ownBlock = some x) w w' := by
  have lb := heap_lt h0
  have c4 : w.cell? ⟨gb, 4, none⟩ = some v := cell_blk h0 (i := 4) rfl
  have ka : Kept (fun _ => False) w (w.alloc (.cells #[.slice A k c] 23)) := (Kept.refl _ _).alloc _
  have HRa := Lib.hid (ownsRow_keep hr ka (fun _ _ => id))
  have HBa := Lib.hid (ka.heap h0 id)
  have HW := Lib.hid (show ∀ (j : Nat) (u : Value), [Value.slice A k c][j]? = some u → (w.alloc (.cells #[.slice A k c] 23)).cell? ⟨w.heap.size, 0 + j, none⟩ = some u from fun j u hu => cell_blk (heap_alloc_new w _) (by simpa using hu))
  have HKa := Lib.hid ka
  clear h0 hr ka
  go_enter Try.func53, Try.ntmps53
  go_wp2_with (at_builtin; refine wl_append rfl _ _ 41 rfl B 23 Try.underlying41 infoSl rfl (by omega) v n xs rfl HRa.out w.heap.size 0 1 1 [Value.slice A k c] rfl rfl HW.out (by simp [Value.oneCell']) (by omega) (by have : maxLen = 9223372036854775807 := rfl; omega) (by omega) (Nat.le_trans hB HKa.out.size) ?_)
  intro g3 cap3 w3 ho3 hk3 hat3 m3
  have hb3 := hk3.heap HBa.out hv
  have d4 := cell_blk hb3 (i := 4) rfl
  have f4 := free_blk hb3 4
  have hg3 : g3 ≠ gb := by
    rcases hat3 with e | e
    · rintro rfl; exact hv e
    · omega
  have HO3 := Lib.hid ho3
  have HB3 := Lib.hid hb3
  have HK3 := Lib.hid ((HKa.out.mono (T := fun x => x = gb ∨ v.ownBlock = some x) (fun _ _ e => e.elim)).trans hk3 (fun x _ e => .inr e))
  clear ho3 hb3 hk3 hat3 HRa HBa HW HKa c4
  go_wp2
  go_end0
  exact ⟨_, rfl, set_blk HB3.out 4 _, ownsRow_keep HO3.out (Kept.cell w3 gb 4 _) (fun x hx e => by cases hx; exact hg3 e), fun e => by cases e; exact hg3 rfl, HK3.out.trans (Kept.cell w3 gb 4 _) (fun x _ e => .inl e)⟩
def slV (A : Nat → Option Addr) (N C : Nat → Nat) (k : Nat) : Value := .slice (A k) (N k) (C k)
set_option maxRecDepth 100000 in
set_option maxHeartbeats 2000000 in
/-- ApartBytes, of lists that lie apart: true; it writes them. -/
theorem apartBytes_any (w : World) (B gt ct m : Nat) (A : Nat → Option Addr) (N C : Nat → Nat) (L : Nat → Bytes) (h : FB w B gt m A N C L) (hs : Sep m gt A) (hm : m ≤ 1000) (hN : ∀ k, k < m → N k ≤ 1000000) (hB : B ≤ w.heap.size) :
    Calls Try.prog 21 #[.slice (some ⟨gt, 0, none⟩) m ct] w fun e w' => e = .returned (.bool true) ∧ Kept (OwnS m A) w w' := by
  have H := Lib.hid h
  have HS := Lib.hid hs
  have HN := Lib.hid hN
  have HB := Lib.hid hB
  clear h hs hN hB
  go_enter Try.func21, Try.ntmps21
  go_wp2_with (refine wl_box rfl 100 _ rfl (.agg (bagC (.slice none 0 0))) rfl ?_)
  intro gb w1 n1 m1 hb1 hk1
  have HB1 := Lib.hid (show w1.heap[gb]? = some (.cells (bagC (.slice none 0 0)) 100 (0, 0)) from hb1)
  have HK1 := Lib.hid hk1
  clear hb1 hk1
  go_wp2
  go_loopw [4] (fun i wr => ∃ (k : Nat) (v : Value), k ≤ m ∧ i = .int .i64 k ∧ wr.heap[gb]? = some (.cells (bagC v) 100 (0, 0)) ∧ wr.ownsRow w.heap.size 23 1 v k ((List.range k).map (slV A N C)) ∧ v.ownBlock ≠ some gb ∧ (k = 0 → v = .slice none 0 0) ∧ Kept (fun _ => False) w wr) (fun i _ => m - (intOf i).toNat)
  case atStart => exact ⟨0, .slice none 0 0, Nat.zero_le _, rfl, HB1.out, ⟨rfl, .inl ⟨rfl, rfl⟩⟩, (fun e => by cases e), fun _ => rfl, HK1.out⟩
  case round =>
    obtain ⟨k, v, hk, rfl, hb, hrow, hv, hv0, hkr⟩ := hrel
    have HBr := Lib.hid hb
    have HR := Lib.hid hrow
    have HV := Lib.hid hv
    have HV0 := Lib.hid hv0
    have HK := Lib.hid hkr
    have szr := hkr.size
    have lgb := heap_lt hb
    clear hb hrow hv hv0 hkr
    by_cases hlt : k < m
    · have c1 := (H.out.kept0 HK.out).tab k hlt
      have i0 : (0 : Int) ≤ (k : Int) := by omega
      have i1 : (k : Int) < (m : Int) := by omega
      go_wp2_with fail
      refine (putBytes_any wr gb w.heap.size k v _ HBr.out HR.out HV.out (A k) (N k) (C k) szr (by omega)).mono ?_
      rintro e w2 ⟨v2, rfl, hb2, hr2, hv2, hk2⟩
      have HB2 := Lib.hid hb2
      have HR2 := Lib.hid (show w2.ownsRow w.heap.size 23 1 v2 (k + 1) ((List.range (k + 1)).map (slV A N C)) from by rw [List.range_succ, List.map_append]; exact hr2)
      have HV2 := Lib.hid hv2
      have HK2 := Lib.hid (HK.out.new hk2 (by
        rintro x (rfl | e)
        · exact n1
        · rcases HR.out.2 with ⟨rfl, _⟩ | ⟨g, cap, cur, rfl, hbb, _⟩
          · cases e
          · cases e; exact hbb))
      clear hb2 hr2 hv2 hk2
      go_wp2
      go_roundw
      case rel => exact ⟨k + 1, v2, by omega, by go_num, HB2.out, HR2.out, HV2.out, by omega, HK2.out⟩
      case measure => simp [intOf]; omega
    · have hge : ¬ ((k : Int) < (m : Int)) := by omega
      obtain rfl : k = m := by omega
      have HAP := Lib.hid (apart_any wr gb v (OwnS k A) (fun ⟨j, hj, e⟩ => by have := (H.out.lt hj e).1; omega) HBr.out (fun w' hk' => by
        by_cases h0 : k = 0
        · rw [HV0.out h0]
          exact (flatBytes_nil w').mono (fun _ _ ⟨h1, h2⟩ => ⟨h1, h2.mono (fun _ _ e => e.elim)⟩)
        · obtain ⟨A', c', rfl, hA'⟩ := row_form' HR.out
          obtain ⟨gl, rfl⟩ := hA' (by omega)
          have hrow := ownsRow_keep HR.out hk' (fun _ _ => id)
          have hgl : w.heap.size ≤ gl := by
            rcases HR.out.2 with ⟨h1, _⟩ | ⟨g, cap, cur, h1, hbb, _⟩
            · cases h1
            · cases h1; exact hbb
          have hF := (H.out.kept0 HK.out).kept0 hk'
          refine flatBytes_any w' B gl c' k A N C L ⟨fun j hj => ?_, hF.row⟩ ⟨HS.out.dis, fun j hj e => by have := (H.out.lt hj e).1; omega⟩ hm HN.out (by have := HB.out; have := hk'.size; omega)
          rw [hrow.cellAt j (by omega), List.getElem?_map, List.getElem?_range hj]
          rfl))
      go_wp2_with fail
      refine HAP.out.mono ?_
      rintro e w2 ⟨rfl, hk2⟩
      go_wp2
      go_ret
      exact ⟨rfl, (HK.out.mono (fun _ _ e => e.elim)).trans' hk2⟩
end Go.Proofs.Ytbolbddjmmfepaa
