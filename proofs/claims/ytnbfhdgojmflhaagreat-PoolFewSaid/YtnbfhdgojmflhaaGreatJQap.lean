/-
  No statement is proved here: a part of what the claim's last text rests on.
-/
import Derived.Test.YtnbfhdgojmflhaaGreatJFlatn
import Derived.Test.YtnbfhdgojmflhaaGreatJFlatb
namespace Go.Proofs.YtnbfhdgojmflhaaGreat
open Go.RowKit
def bagC (v : Value) : Array Value := #[.slice none 0 0, .slice none 0 0, .slice none 0 0, .slice none 0 0, v, .slice none 0 0, .slice none 0 0, .slice none 0 0, .slice none 0 0, .slice none 0 0, .slice none 0 0, .slice none 0 0, .slice none 0 0, .slice none 0 0, .slice none 0 0, .slice none 0 0, .slice none 0 0, .slice none 0 0]
set_option maxRecDepth 100000 in
set_option maxHeartbeats 4000000 in
theorem apart_any (w : World) (gb : Nat) (v : Value) (S : Nat → Prop) (hgb : ¬ S gb) (h0 : w.heap[gb]? = some (.cells (bagC v) 139 (0, 0)))
    (hB : ∀ w', Kept (fun _ => False) w w' → Calls Tryz.prog 105 #[v] w' fun e w2 => e = .returned (.bool true) ∧ Kept S w' w2) :
    Calls Tryz.prog 60 #[.pointer (some ⟨gb, 0, none⟩)] w fun e w' => e = .returned (.bool true) ∧ Kept S w w' := by
  have c0 : w.cell? ⟨gb, 0, none⟩ = some (.slice none 0 0) := cell_blk h0 (i := 0) rfl
  have HB := Lib.hid hB
  have K0 := Lib.hid (Kept.refl (fun _ => False) w)
  clear hB
  go_enter Tryz.func60, Tryz.ntmps60
  go_wp2_with (first
    | (go_at_call 101; refine (flatWords_nil _).mono ?_; rintro e w1 ⟨rfl, hk1⟩
       have h1 := hk1.heap h0 id
       have K1 := Lib.hid (K0.out.trans0 hk1)
       have c1 : w1.cell? ⟨gb, 1, none⟩ = some (.slice none 0 0) := cell_blk h1 (i := 1) rfl)
    | (go_at_call 102; refine (flatInts_nil _).mono ?_; rintro e w2 ⟨rfl, hk2⟩
       have h2 := hk2.heap h1 id
       have K2 := Lib.hid (K1.out.trans0 hk2)
       have c2 : w2.cell? ⟨gb, 2, none⟩ = some (.slice none 0 0) := cell_blk h2 (i := 2) rfl)
    | (go_at_call 103; refine (flatLongs_nil _).mono ?_; rintro e w3 ⟨rfl, hk3⟩
       have h3 := hk3.heap h2 id
       have K3 := Lib.hid (K2.out.trans0 hk3)
       have c3 : w3.cell? ⟨gb, 3, none⟩ = some (.slice none 0 0) := cell_blk h3 (i := 3) rfl)
    | (go_at_call 104; refine (flatTexts_nil _).mono ?_; rintro e w4 ⟨rfl, hk4⟩
       have h4 := hk4.heap h3 id
       have K4 := Lib.hid (K3.out.trans0 hk4)
       have c4 : w4.cell? ⟨gb, 4, none⟩ = some v := cell_blk h4 (i := 4) rfl)
    | (go_at_call 105; refine (HB.out _ K4.out).mono ?_; rintro e w5 ⟨rfl, hk5⟩
       have h5 := hk5.heap h4 hgb
       have K5 := Lib.hid ((K4.out.mono (T := S) (fun _ _ e => e.elim)).trans' hk5)
       have c5 : w5.cell? ⟨gb, 5, none⟩ = some (.slice none 0 0) := cell_blk h5 (i := 5) rfl)
    | (go_at_call 106; refine (flatNodes_nil _).mono ?_; rintro e w6 ⟨rfl, hk6⟩
       have h6 := hk6.heap h5 id
       have K6 := Lib.hid (K5.out.trans0 hk6)
       have c6 : w6.cell? ⟨gb, 6, none⟩ = some (.slice none 0 0) := cell_blk h6 (i := 6) rfl)
    | (go_at_call 107; refine (flatFates_nil _).mono ?_; rintro e w7 ⟨rfl, hk7⟩
       have h7 := hk7.heap h6 id
       have K7 := Lib.hid (K6.out.trans0 hk7)
       have c7 : w7.cell? ⟨gb, 7, none⟩ = some (.slice none 0 0) := cell_blk h7 (i := 7) rfl)
    | (go_at_call 108; refine (flatSpans_nil _).mono ?_; rintro e w8 ⟨rfl, hk8⟩
       have h8 := hk8.heap h7 id
       have K8 := Lib.hid (K7.out.trans0 hk8)
       have c8 : w8.cell? ⟨gb, 8, none⟩ = some (.slice none 0 0) := cell_blk h8 (i := 8) rfl)
    | (go_at_call 109; refine (flatDirties_nil _).mono ?_; rintro e w9 ⟨rfl, hk9⟩
       have h9 := hk9.heap h8 id
       have K9 := Lib.hid (K8.out.trans0 hk9)
       have c9 : w9.cell? ⟨gb, 9, none⟩ = some (.slice none 0 0) := cell_blk h9 (i := 9) rfl)
    | (go_at_call 110; refine (flatRecords_nil _).mono ?_; rintro e w10 ⟨rfl, hk10⟩
       have h10 := hk10.heap h9 id
       have K10 := Lib.hid (K9.out.trans0 hk10)
       have c10 : w10.cell? ⟨gb, 10, none⟩ = some (.slice none 0 0) := cell_blk h10 (i := 10) rfl)
    | (go_at_call 111; refine (flatCells_nil _).mono ?_; rintro e w11 ⟨rfl, hk11⟩
       have h11 := hk11.heap h10 id
       have K11 := Lib.hid (K10.out.trans0 hk11)
       have c11 : w11.cell? ⟨gb, 11, none⟩ = some (.slice none 0 0) := cell_blk h11 (i := 11) rfl)
    | (go_at_call 112; refine (flatHelds_nil _).mono ?_; rintro e w12 ⟨rfl, hk12⟩
       have h12 := hk12.heap h11 id
       have K12 := Lib.hid (K11.out.trans0 hk12)
       have c12 : w12.cell? ⟨gb, 12, none⟩ = some (.slice none 0 0) := cell_blk h12 (i := 12) rfl)
    | (go_at_call 113; refine (flatTokens_nil _).mono ?_; rintro e w13 ⟨rfl, hk13⟩
       have h13 := hk13.heap h12 id
       have K13 := Lib.hid (K12.out.trans0 hk13)
       have c13 : w13.cell? ⟨gb, 13, none⟩ = some (.slice none 0 0) := cell_blk h13 (i := 13) rfl)
    | (go_at_call 114; refine (flatExprs_nil _).mono ?_; rintro e w14 ⟨rfl, hk14⟩
       have h14 := hk14.heap h13 id
       have K14 := Lib.hid (K13.out.trans0 hk14)
       have c14 : w14.cell? ⟨gb, 14, none⟩ = some (.slice none 0 0) := cell_blk h14 (i := 14) rfl)
    | (go_at_call 115; refine (flatItems_nil _).mono ?_; rintro e w15 ⟨rfl, hk15⟩
       have h15 := hk15.heap h14 id
       have K15 := Lib.hid (K14.out.trans0 hk15)
       have c15 : w15.cell? ⟨gb, 15, none⟩ = some (.slice none 0 0) := cell_blk h15 (i := 15) rfl)
    | (go_at_call 116; refine (flatShowns_nil _).mono ?_; rintro e w16 ⟨rfl, hk16⟩
       have h16 := hk16.heap h15 id
       have K16 := Lib.hid (K15.out.trans0 hk16)
       have c16 : w16.cell? ⟨gb, 16, none⟩ = some (.slice none 0 0) := cell_blk h16 (i := 16) rfl)
    | (go_at_call 117; refine (flatParts_nil _).mono ?_; rintro e w17 ⟨rfl, hk17⟩
       have h17 := hk17.heap h16 id
       have K17 := Lib.hid (K16.out.trans0 hk17)
       have c17 : w17.cell? ⟨gb, 17, none⟩ = some (.slice none 0 0) := cell_blk h17 (i := 17) rfl)
    | (go_at_call 118; refine (flatCommands_nil _).mono ?_; rintro e w18 ⟨rfl, hk18⟩
       have h18 := hk18.heap h17 id
       have K18 := Lib.hid (K17.out.trans0 hk18)))
  go_ret
  exact ⟨rfl, K18.out⟩
end Go.Proofs.YtnbfhdgojmflhaaGreat
namespace Go.Proofs.YtnbfhdgojmflhaaGreat
open Go.RowKit
theorem infoSl : (Tryz.prog.info? 26).map (fun i => (i.zero, i.size, i.bytes)) = some (some (.slice none 0 0), 1, 24) := by kernel_rfl
set_option maxHeartbeats 1000000 in
theorem putBytes_any (w : World) (gb B n : Nat) (v : Value) (xs : List Value) (h0 : w.heap[gb]? = some (.cells (bagC v) 139 (0, 0))) (hr : w.ownsRow B 26 1 v n xs) (hv : v.ownBlock ≠ some gb) (A : Option Addr) (k c : Nat) (hB : B ≤ w.heap.size) (hn : n ≤ 1000000) :
    Calls Tryz.prog 59 #[.pointer (some ⟨gb, 0, none⟩), .slice A k c] w fun e w' => ∃ v', e = .returned (.tuple #[]) ∧ w'.heap[gb]? = some (.cells (bagC v') 139 (0, 0)) ∧ w'.ownsRow B 26 1 v' (n + 1) (xs ++ [.slice A k c]) ∧ v'.ownBlock ≠ some gb ∧ Kept (fun x => x = gb ∨ v.ownBlock = some x) w w' := by
  have lb := heap_lt h0
  have c4 : w.cell? ⟨gb, 4, none⟩ = some v := cell_blk h0 (i := 4) rfl
  have ka : Kept (fun _ => False) w (w.alloc (.cells #[.slice A k c] 26)) := (Kept.refl _ _).alloc _
  have HRa := Lib.hid (ownsRow_keep hr ka (fun _ _ => id))
  have HBa := Lib.hid (ka.heap h0 id)
  have HW := Lib.hid (show ∀ (j : Nat) (u : Value), [Value.slice A k c][j]? = some u → (w.alloc (.cells #[.slice A k c] 26)).cell? ⟨w.heap.size, 0 + j, none⟩ = some u from fun j u hu => cell_blk (heap_alloc_new w _) (by simpa using hu))
  have HKa := Lib.hid ka
  clear h0 hr ka
  go_enter Tryz.func59, Tryz.ntmps59
  go_wp2_with (at_builtin; refine wl_append rfl _ _ 45 rfl B 26 Tryz.underlying45 infoSl rfl (by omega) v n xs rfl HRa.out w.heap.size 0 1 1 [Value.slice A k c] rfl rfl HW.out (by simp [Value.oneCell']) (by omega) (by have : maxLen = 9223372036854775807 := rfl; omega) (by omega) (Nat.le_trans hB HKa.out.size) ?_)
  intro g3 cap3 w3 ho3 hk3 hat3 m3
  have hb3 := hk3.heap HBa.out hv
  have d4 := cell_blk hb3 (i := 4) rfl
  have f4 := free_blk hb3 4
  have hg3 : g3 ≠ gb := by
    rcases hat3 with e | e
    · rintro rfl; exact hv e
    · omega
  have HO3 := Lib.hid ho3
  have HB3 := Lib.hid hb3
  have HK3 := Lib.hid ((HKa.out.mono (T := fun x => x = gb ∨ v.ownBlock = some x) (fun _ _ e => e.elim)).trans hk3 (fun x _ e => .inr e))
  clear ho3 hb3 hk3 hat3 HRa HBa HW HKa c4
  go_wp2
  go_end0
  exact ⟨_, rfl, set_blk HB3.out 4 _, ownsRow_keep HO3.out (Kept.cell w3 gb 4 _) (fun x hx e => by cases hx; exact hg3 e), fun e => by cases e; exact hg3 rfl, HK3.out.trans (Kept.cell w3 gb 4 _) (fun x _ e => .inl e)⟩
def slV (A : Nat → Option Addr) (N C : Nat → Nat) (k : Nat) : Value := .slice (A k) (N k) (C k)
set_option maxRecDepth 100000 in
set_option maxHeartbeats 2000000 in
theorem apartBytes_any (w : World) (B gt ct m : Nat) (A : Nat → Option Addr) (N C : Nat → Nat) (L : Nat → Bytes) (h : FB w B gt m A N C L) (hs : Sep m gt A) (hm : m ≤ 1000) (hN : ∀ k, k < m → N k ≤ 1000000) (hB : B ≤ w.heap.size) :
    Calls Tryz.prog 17 #[.slice (some ⟨gt, 0, none⟩) m ct] w fun e w' => e = .returned (.bool true) ∧ Kept (OwnS m A) w w' := by
  have H := Lib.hid h
  have HS := Lib.hid hs
  have HN := Lib.hid hN
  have HB := Lib.hid hB
  clear h hs hN hB
  go_enter Tryz.func17, Tryz.ntmps17
  go_wp2_with (refine wl_box rfl 139 _ rfl (.agg (bagC (.slice none 0 0))) rfl ?_)
  intro gb w1 n1 m1 hb1 hk1
  have HB1 := Lib.hid (show w1.heap[gb]? = some (.cells (bagC (.slice none 0 0)) 139 (0, 0)) from hb1)
  have HK1 := Lib.hid hk1
  clear hb1 hk1
  go_wp2
  go_loopw [4] (fun i wr => ∃ (k : Nat) (v : Value), k ≤ m ∧ i = .int .i64 k ∧ wr.heap[gb]? = some (.cells (bagC v) 139 (0, 0)) ∧ wr.ownsRow w.heap.size 26 1 v k ((List.range k).map (slV A N C)) ∧ v.ownBlock ≠ some gb ∧ (k = 0 → v = .slice none 0 0) ∧ Kept (fun _ => False) w wr) (fun i _ => m - (intOf i).toNat)
  case atStart => exact ⟨0, .slice none 0 0, Nat.zero_le _, rfl, HB1.out, ⟨rfl, .inl ⟨rfl, rfl⟩⟩, (fun e => by cases e), fun _ => rfl, HK1.out⟩
  case round =>
    obtain ⟨k, v, hk, rfl, hb, hrow, hv, hv0, hkr⟩ := hrel
    have HBr := Lib.hid hb
    have HR := Lib.hid hrow
    have HV := Lib.hid hv
    have HV0 := Lib.hid hv0
    have HK := Lib.hid hkr
    have szr := hkr.size
    have lgb := heap_lt hb
    clear hb hrow hv hv0 hkr
    by_cases hlt : k < m
    · have c1 := (H.out.kept0 HK.out).tab k hlt
      have i0 : (0 : Int) ≤ (k : Int) := by omega
      have i1 : (k : Int) < (m : Int) := by omega
      go_wp2_with fail
      refine (putBytes_any wr gb w.heap.size k v _ HBr.out HR.out HV.out (A k) (N k) (C k) szr (by omega)).mono ?_
      rintro e w2 ⟨v2, rfl, hb2, hr2, hv2, hk2⟩
      have HB2 := Lib.hid hb2
      have HR2 := Lib.hid (show w2.ownsRow w.heap.size 26 1 v2 (k + 1) ((List.range (k + 1)).map (slV A N C)) from by rw [List.range_succ, List.map_append]; exact hr2)
      have HV2 := Lib.hid hv2
      have HK2 := Lib.hid (HK.out.new hk2 (by
        rintro x (rfl | e)
        · exact n1
        · rcases HR.out.2 with ⟨rfl, _⟩ | ⟨g, cap, cur, rfl, hbb, _⟩
          · cases e
          · cases e; exact hbb))
      clear hb2 hr2 hv2 hk2
      go_wp2
      go_roundw
      case rel => exact ⟨k + 1, v2, by omega, by go_num, HB2.out, HR2.out, HV2.out, by omega, HK2.out⟩
      case measure => simp [intOf]; omega
    · have hge : ¬ ((k : Int) < (m : Int)) := by omega
      obtain rfl : k = m := by omega
      have HAP := Lib.hid (apart_any wr gb v (OwnS k A) (fun ⟨j, hj, e⟩ => by have := (H.out.lt hj e).1; omega) HBr.out (fun w' hk' => by
        by_cases h0 : k = 0
        · rw [HV0.out h0]
          exact (flatBytes_nil w').mono (fun _ _ ⟨h1, h2⟩ => ⟨h1, h2.mono (fun _ _ e => e.elim)⟩)
        · obtain ⟨A', c', rfl, hA'⟩ := row_form' HR.out
          obtain ⟨gl, rfl⟩ := hA' (by omega)
          have hrow := ownsRow_keep HR.out hk' (fun _ _ => id)
          have hgl : w.heap.size ≤ gl := by
            rcases HR.out.2 with ⟨h1, _⟩ | ⟨g, cap, cur, h1, hbb, _⟩
            · cases h1
            · cases h1; exact hbb
          have hF := (H.out.kept0 HK.out).kept0 hk'
          refine flatBytes_any w' B gl c' k A N C L ⟨fun j hj => ?_, hF.row⟩ ⟨HS.out.dis, fun j hj e => by have := (H.out.lt hj e).1; omega⟩ hm HN.out (by have := HB.out; have := hk'.size; omega)
          rw [hrow.cellAt j (by omega), List.getElem?_map, List.getElem?_range hj]
          rfl))
      go_wp2_with fail
      refine HAP.out.mono ?_
      rintro e w2 ⟨rfl, hk2⟩
      go_wp2
      go_ret
      exact ⟨rfl, (HK.out.mono (fun _ _ e => e.elim)).trans' hk2⟩
end Go.Proofs.YtnbfhdgojmflhaaGreat
namespace Go.Proofs.YtnbfhdgojmflhaaGreat
open Go.RowKit
theorem apart2_any {w : World} {B g1 c1 g2 c2 gt ct : Nat} {l1 l2 : Bytes} (h1 : OwnB w B g1 c1 l1) (h2 : OwnB w B g2 c2 l2) (e1 : l1.length = 512) (e2 : l2.length = 512) (hg : w.heap[gt]? = some (.cells #[.slice (some ⟨g1, 0, none⟩) 512 c1, .slice (some ⟨g2, 0, none⟩) 512 c2] 26 (0, 0))) (n12 : g1 ≠ g2) (n1 : gt ≠ g1) (n2 : gt ≠ g2) (hB : B ≤ w.heap.size) :
    Calls Tryz.prog 17 #[.slice (some ⟨gt, 0, none⟩) 2 ct] w fun e w' => e = .returned (.bool true) ∧ Kept (fun x => x = g1 ∨ x = g2) w w' := by
  refine (apartBytes_any w B gt ct 2 (fun k => if k = 0 then some ⟨g1, 0, none⟩ else some ⟨g2, 0, none⟩) (fun _ => 512) (fun k => if k = 0 then c1 else c2) (fun k => if k = 0 then l1 else l2) ⟨fun k hk => ?_, fun k hk => ?_⟩ ⟨fun i j x hi hj hx hy => ?_, fun k hk => ?_⟩ (by decide) (fun k hk => by decide) hB).mono ?_
  · rcases (show k = 0 ∨ k = 1 by omega) with rfl | rfl
    · exact cell_blk hg rfl
    · exact cell_blk hg rfl
  · rcases (show k = 0 ∨ k = 1 by omega) with rfl | rfl
    · have := h1; unfold OwnB at this; rw [e1] at this; exact this
    · have := h2; unfold OwnB at this; rw [e2] at this; exact this
  · rcases (show i = 0 ∨ i = 1 by omega) with rfl | rfl <;> rcases (show j = 0 ∨ j = 1 by omega) with rfl | rfl
    · rfl
    · have a1 : g1 = x := Option.some.inj hx
      have a2 : g2 = x := Option.some.inj hy
      exact absurd (a1.trans a2.symm) n12
    · have a1 : g2 = x := Option.some.inj hx
      have a2 : g1 = x := Option.some.inj hy
      exact absurd (a2.trans a1.symm) n12
    · rfl
  · rcases (show k = 0 ∨ k = 1 by omega) with rfl | rfl
    · intro e; exact n1 (Option.some.inj e).symm
    · intro e; exact n2 (Option.some.inj e).symm
  · rintro e w' ⟨he, hk⟩
    refine ⟨he, hk.mono (fun x _ hx => ?_)⟩
    obtain ⟨k, hk2, e⟩ := hx
    rcases (show k = 0 ∨ k = 1 by omega) with rfl | rfl
    · exact .inl (Option.some.inj e).symm
    · exact .inr (Option.some.inj e).symm
end Go.Proofs.YtnbfhdgojmflhaaGreat
