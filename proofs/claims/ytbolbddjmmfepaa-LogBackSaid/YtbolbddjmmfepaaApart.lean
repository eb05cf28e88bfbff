/-
  No statement is proved here: the verifier's bag of lists of bytes: putBytes, apart, ApartBytes.
-/
import Derived.Test.YtbolbddjmmfepaaFlatn
import Derived.Test.YtbolbddjmmfepaaFlatb
namespace Go.Proofs.Ytbolbddjmmfepaa
open Go.RowKit

def bagC (v : Value) : Array Value := #[.slice none 0 0, .slice none 0 0, .slice none 0 0, .slice none 0 0, v, .slice none 0 0, .slice none 0 0, .slice none 0 0, .slice none 0 0, .slice none 0 0, .slice none 0 0, .slice none 0 0, .slice none 0 0, .slice none 0 0, .slice none 0 0, .slice none 0 0, .slice none 0 0, .slice none 0 0]
theorem infoBag : (Try.prog.info? 100).map (fun i => (i.zero, i.size)) = some (some (.agg (bagC (.slice none 0 0))), 18) := by kernel_rfl
set_option maxRecDepth 100000 in
set_option maxHeartbeats 4000000 in
theorem apart_any (w : World) (gb : Nat) (v : Value) (S : Nat → Prop) (hgb : ¬ S gb) (h0 : w.heap[gb]? = some (.cells (bagC v) 100 (0, 0)))
    (hB : ∀ w', Kept (fun _ => False) w w' → Calls Try.prog 77 #[v] w' fun e w2 => e = .returned (.bool true) ∧ Kept S w' w2) :
    Calls Try.prog 54 #[.pointer (some ⟨gb, 0, none⟩)] w fun e w' => e = .returned (.bool true) ∧ Kept S w w' := by
  have c0 : w.cell? ⟨gb, 0, none⟩ = some (.slice none 0 0) := cell_blk h0 (i := 0) rfl
  have HB := Lib.hid hB
  have K0 := Lib.hid (Kept.refl (fun _ => False) w)
  clear hB
  go_enter Try.func54, Try.ntmps54
  go_wp2_with (first
    | (go_at_call 73; refine (flatWords_nil _).mono ?_; rintro e w1 ⟨rfl, hk1⟩
       have h1 := hk1.heap h0 id
       have K1 := Lib.hid (K0.out.trans0 hk1)
       have c1 : w1.cell? ⟨gb, 1, none⟩ = some (.slice none 0 0) := cell_blk h1 (i := 1) rfl)
    | (go_at_call 74; refine (flatInts_nil _).mono ?_; rintro e w2 ⟨rfl, hk2⟩
       have h2 := hk2.heap h1 id
       have K2 := Lib.hid (K1.out.trans0 hk2)
       have c2 : w2.cell? ⟨gb, 2, none⟩ = some (.slice none 0 0) := cell_blk h2 (i := 2) rfl)
    | (go_at_call 75; refine (flatLongs_nil _).mono ?_; rintro e w3 ⟨rfl, hk3⟩
       have h3 := hk3.heap h2 id
       have K3 := Lib.hid (K2.out.trans0 hk3)
       have c3 : w3.cell? ⟨gb, 3, none⟩ = some (.slice none 0 0) := cell_blk h3 (i := 3) rfl)
    | (go_at_call 76; refine (flatTexts_nil _).mono ?_; rintro e w4 ⟨rfl, hk4⟩
       have h4 := hk4.heap h3 id
       have K4 := Lib.hid (K3.out.trans0 hk4)
       have c4 : w4.cell? ⟨gb, 4, none⟩ = some v := cell_blk h4 (i := 4) rfl)
    | (go_at_call 77; refine (HB.out _ K4.out).mono ?_; rintro e w5 ⟨rfl, hk5⟩
       have h5 := hk5.heap h4 hgb
       have K5 := Lib.hid ((K4.out.mono (T := S) (fun _ _ e => e.elim)).trans' hk5)
       have c5 : w5.cell? ⟨gb, 5, none⟩ = some (.slice none 0 0) := cell_blk h5 (i := 5) rfl)
    | (go_at_call 78; refine (flatNodes_nil _).mono ?_; rintro e w6 ⟨rfl, hk6⟩
       have h6 := hk6.heap h5 id
       have K6 := Lib.hid (K5.out.trans0 hk6)
       have c6 : w6.cell? ⟨gb, 6, none⟩ = some (.slice none 0 0) := cell_blk h6 (i := 6) rfl)
    | (go_at_call 79; refine (flatFates_nil _).mono ?_; rintro e w7 ⟨rfl, hk7⟩
       have h7 := hk7.heap h6 id
       have K7 := Lib.hid (K6.out.trans0 hk7)
       have c7 : w7.cell? ⟨gb, 7, none⟩ = some (.slice none 0 0) := cell_blk h7 (i := 7) rfl)
    | (go_at_call 80; refine (flatSpans_nil _).mono ?_; rintro e w8 ⟨rfl, hk8⟩
       have h8 := hk8.heap h7 id
       have K8 := Lib.hid (K7.out.trans0 hk8)
       have c8 : w8.cell? ⟨gb, 8, none⟩ = some (.slice none 0 0) := cell_blk h8 (i := 8) rfl)
    | (go_at_call 81; refine (flatDirties_nil _).mono ?_; rintro e w9 ⟨rfl, hk9⟩
       have h9 := hk9.heap h8 id
       have K9 := Lib.hid (K8.out.trans0 hk9)
       have c9 : w9.cell? ⟨gb, 9, none⟩ = some (.slice none 0 0) := cell_blk h9 (i := 9) rfl)
    | (go_at_call 82; refine (flatRecords_nil _).mono ?_; rintro e w10 ⟨rfl, hk10⟩
       have h10 := hk10.heap h9 id
       have K10 := Lib.hid (K9.out.trans0 hk10)
       have c10 : w10.cell? ⟨gb, 10, none⟩ = some (.slice none 0 0) := cell_blk h10 (i := 10) rfl)
    | (go_at_call 83; refine (flatCells_nil _).mono ?_; rintro e w11 ⟨rfl, hk11⟩
       have h11 := hk11.heap h10 id
       have K11 := Lib.hid (K10.out.trans0 hk11)
       have c11 : w11.cell? ⟨gb, 11, none⟩ = some (.slice none 0 0) := cell_blk h11 (i := 11) rfl)
    | (go_at_call 84; refine (flatHelds_nil _).mono ?_; rintro e w12 ⟨rfl, hk12⟩
       have h12 := hk12.heap h11 id
       have K12 := Lib.hid (K11.out.trans0 hk12)
       have c12 : w12.cell? ⟨gb, 12, none⟩ = some (.slice none 0 0) := cell_blk h12 (i := 12) rfl)
    | (go_at_call 85; refine (flatTokens_nil _).mono ?_; rintro e w13 ⟨rfl, hk13⟩
       have h13 := hk13.heap h12 id
       have K13 := Lib.hid (K12.out.trans0 hk13)
       have c13 : w13.cell? ⟨gb, 13, none⟩ = some (.slice none 0 0) := cell_blk h13 (i := 13) rfl)
    | (go_at_call 86; refine (flatExprs_nil _).mono ?_; rintro e w14 ⟨rfl, hk14⟩
       have h14 := hk14.heap h13 id
       have K14 := Lib.hid (K13.out.trans0 hk14)
       have c14 : w14.cell? ⟨gb, 14, none⟩ = some (.slice none 0 0) := cell_blk h14 (i := 14) rfl)
    | (go_at_call 87; refine (flatItems_nil _).mono ?_; rintro e w15 ⟨rfl, hk15⟩
       have h15 := hk15.heap h14 id
       have K15 := Lib.hid (K14.out.trans0 hk15)
       have c15 : w15.cell? ⟨gb, 15, none⟩ = some (.slice none 0 0) := cell_blk h15 (i := 15) rfl)
    | (go_at_call 88; refine (flatShowns_nil _).mono ?_; rintro e w16 ⟨rfl, hk16⟩
       have h16 := hk16.heap h15 id
       have K16 := Lib.hid (K15.out.trans0 hk16)
       have c16 : w16.cell? ⟨gb, 16, none⟩ = some (.slice none 0 0) := cell_blk h16 (i := 16) rfl)
    | (go_at_call 89; refine (flatParts_nil _).mono ?_; rintro e w17 ⟨rfl, hk17⟩
       have h17 := hk17.heap h16 id
       have K17 := Lib.hid (K16.out.trans0 hk17)
       have c17 : w17.cell? ⟨gb, 17, none⟩ = some (.slice none 0 0) := cell_blk h17 (i := 17) rfl)
    | (go_at_call 90; refine (flatCommands_nil _).mono ?_; rintro e w18 ⟨rfl, hk18⟩
       have h18 := hk18.heap h17 id
       have K18 := Lib.hid (K17.out.trans0 hk18)))
  go_ret
  exact ⟨rfl, K18.out⟩
end Go.Proofs.Ytbolbddjmmfepaa
