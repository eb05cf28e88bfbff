/-
  No statement is proved here: PageLives's walk.
-/
import Derived.Test.YtndflnedkpmpfaaGreatDoorLvr
namespace Go.Proofs.YtndflnedkpmpfaaGreatDoor
open Go.RowKit

/-- Two lists of bytes of the call's own, alike; or both nil. -/
def AB (w : World) (B n : Nat) (Aa : Option Addr) (ca : Nat) (Ab : Option Addr) (cb : Nat) : Prop :=
  (n = 0 ∧ Aa = none ∧ ca = 0 ∧ Ab = none ∧ cb = 0) ∨ ∃ ga gb l, Aa = some ⟨ga, 0, none⟩ ∧ Ab = some ⟨gb, 0, none⟩ ∧ ga ≠ gb ∧ OwnB w B ga ca l ∧ OwnB w B gb cb l ∧ l.length = n
def obs (Aa Ab : Option Addr) (x : Nat) : Prop := (∃ o, Aa = some ⟨x, o, none⟩) ∨ (∃ o, Ab = some ⟨x, o, none⟩)
section
variable {w w' : World} {B n ca cb : Nat} {Aa Ab : Option Addr}
theorem AB.keep {S : Nat → Prop} (h : AB w B n Aa ca Ab cb) (hk : Kept S w w') (hS : ∀ x, obs Aa Ab x → ¬ S x) : AB w' B n Aa ca Ab cb := by
  rcases h with h | ⟨ga, gb, l, rfl, rfl, hn, h1, h2, hl⟩
  · exact .inl h
  · exact .inr ⟨ga, gb, l, rfl, rfl, hn, h1.keep hk (hS _ (.inl ⟨0, rfl⟩)), h2.keep hk (hS _ (.inr ⟨0, rfl⟩)), hl⟩
theorem AB.low (h : AB w B n Aa ca Ab cb) {x : Nat} (hx : obs Aa Ab x) : B ≤ x := by
  rcases h with ⟨-, rfl, -, rfl, -⟩ | ⟨ga, gb, l, rfl, rfl, hn, h1, h2, hl⟩
  · rcases hx with ⟨o, e⟩ | ⟨o, e⟩ <;> cases e
  · rcases hx with ⟨o, e⟩ | ⟨o, e⟩
    · cases e; exact h1.base_le
    · cases e; exact h2.base_le
theorem AB.step (h : AB w B n Aa ca Ab cb) (hn : n ≤ 1000000) (x : D9) (CA : Option Addr) (cc : Nat) (hS : RdB w CA x.cell) (hcl : x.cell.length ≤ 5000) (hCA : x.cell ≠ [] → ∀ b off, CA = some ⟨b, off, none⟩ → b < B) :
    Calls Tryz.prog 27 #[.slice Aa n ca, .slice Ab n cb, .agg #[.int .i64 x.op, .int .i64 x.slot, .int .i64 x.next, .slice CA x.cell.length cc]] w fun e w' => e = .returned (.bool true) ∧ AB w' B n Aa ca Ab cb ∧ Kept (obs Aa Ab) w w' := by
  rcases h with ⟨rfl, rfl, rfl, rfl, rfl⟩ | ⟨ga, gb, l, rfl, rfl, hne, h1, h2, rfl⟩
  · refine (step_nil x.op x.slot x.next CA cc x.cell w hS hcl).mono ?_
    rintro e w' ⟨rfl, hk⟩
    exact ⟨rfl, .inl ⟨rfl, rfl, rfl, rfl, rfl⟩, hk.mono (fun _ _ h => h.elim)⟩
  · refine (step_any B B ga ca gb cb l x.op x.slot x.next CA cc x.cell w h1 h2 hne hn hS hcl (fun hc b off e => ?_)).mono ?_
    · have := hCA hc b off e
      have := h1.base_le
      have := h2.base_le
      omega
    · rintro e w' ⟨rfl, h3, h4, hk⟩
      refine ⟨rfl, .inr ⟨ga, gb, _, rfl, rfl, hne, h3, h4, stepM_len _ _ _ _ _⟩, hk.mono (fun x _ h => ?_)⟩
      rcases h with rfl | rfl
      · exact .inl ⟨0, rfl⟩
      · exact .inr ⟨0, rfl⟩
theorem AB.tells (h : AB w B 512 Aa ca Ab cb) (s : Int) : Calls Tryz.prog 21 #[.slice Aa 512 ca, .int .i64 s] w fun e w' => e = .returned (.bool true) ∧ Kept (fun _ => False) w w' := by
  rcases h with ⟨e, -⟩ | ⟨ga, gb, l, rfl, rfl, hne, h1, h2, hl⟩
  · omega
  · have hc : 512 ≤ ca ∧ ca ≤ 9223372036854775807 := by
      obtain ⟨cur, -, -, h3, h4, -⟩ := h1.form
      exact ⟨by omega, h4⟩
    have := tells_any ga 0 ca l w h1.rdp (by omega) (by omega) hc.2 s
    rwa [hl] at this
end
theorem copyB_x (A : Option Addr) (c : Nat) (l : Bytes) (w : World) (h : RdB w A l) (hl : l.length ≤ 1000000) :
    Calls Tryz.prog 26 #[.slice A l.length c] w fun e w' => ∃ G cap, e = .returned (.slice G l.length cap) ∧ ((l = [] ∧ G = none ∧ cap = 0) ∨ (l ≠ [] ∧ ∃ g, G = some ⟨g, 0, none⟩ ∧ OwnB w' w.heap.size g cap l)) ∧ Kept (fun _ => False) w w' := by
  by_cases h0 : l = []
  · subst h0
    clear h
    go_enter Tryz.func26, Tryz.ntmps26
    go_wp2_with (at_builtin; refine wl_append0 rfl _ _ 22 rfl w.heap.size 5 Tryz.underlying22 info5 (.slice none 0 0) 0 [] rfl (nil_row _ _ _ _) A c rfl ?_)
    go_ret
    exact ⟨none, 0, rfl, .inl ⟨by simp, rfl, rfl⟩, Kept.refl _ _⟩
  · refine (copyB_any A c l w h hl).mono ?_
    rintro e w' ⟨G, cap, he, ⟨h1, -⟩ | h1, hk⟩
    · exact absurd h1 h0
    · exact ⟨G, cap, he, .inr ⟨h0, h1⟩, hk⟩
set_option maxRecDepth 100000 in
set_option maxHeartbeats 2000000 in
theorem pageLives_any (kind : UInt8) (A : Option Addr) (c : Nat) (start : Bytes) (LA : Option Addr) (lc : Nat) (L : List D9) (w : World) (hs : RdB w A start) (hL : RdD9 w LA L) :
    Calls Tryz.prog 12 #[.int .u8 kind.toNat, .slice A start.length c, .slice LA L.length lc] w fun e w' => e = .returned (.bool true) ∧ Kept (fun _ => False) w w' := by
  have HS := Lib.hid hs
  have HL := Lib.hid hL
  clear hs hL
  have HW := Lib.hid awake_any
  by_cases h1 : 120 < L.length
  · have i1 : (120 : Int) < (L.length : Int) := by omega
    go_enter Tryz.func12, Tryz.ntmps12
    go_wp2_with (go_at_call 15; refine (HW.out _).mono ?_; rintro e w1 ⟨rfl, hk⟩)
    go_ret
    exact ⟨rfl, hk⟩
  · have i1 : ¬ (120 : Int) < (L.length : Int) := by omega
    by_cases h2 : 5000 < start.length
    · have i2 : (5000 : Int) < (start.length : Int) := by omega
      go_enter Tryz.func12, Tryz.ntmps12
      go_wp2_with (go_at_call 15; refine (HW.out _).mono ?_; rintro e w1 ⟨rfl, hk⟩)
      go_ret
      exact ⟨rfl, hk⟩
    · have i2 : ¬ (5000 : Int) < (start.length : Int) := by omega
      go_enter Tryz.func12, Tryz.ntmps12
      go_wp2_with fail
      refine (newP_any kind _).mono ?_
      rintro e w1 ⟨gp, rfl, hp1, hp2, hk1⟩
      have OP1 := Lib.hid (OwnB.of_blk hp2 hp1 (by rw [show (newP kind).length = 512 from p0_len]; decide))
      have K1 := Lib.hid hk1
      clear hp2 hk1
      go_wp2_with fail
      refine (rnew_any kind _).mono ?_
      rintro e w2 ⟨gq, cq, rfl, hq, hk2⟩
      have K12 := Lib.hid hk2
      have K2 := Lib.hid (K1.out.trans0 hk2)
      have z1 := K1.out.size
      have lp1 := OP1.out.lt'
      have bq := hq.base_le
      have hAB0 : AB w2 w.heap.size 512 (some ⟨gp, 0, none⟩) 512 (some ⟨gq, 0, none⟩) cq := by
        have e512 : (newP kind).length = 512 := p0_len
        have h3 := OP1.out.kept hk2
        rw [e512] at h3
        exact .inr ⟨gp, gq, newP kind, rfl, rfl, by omega, h3, hq.low z1, e512⟩
      have PQ2 := Lib.hid hAB0
      have lq := hq.lt'
      have z2 := K12.out.size
      clear hq hk2 hAB0
      go_wp2_with fail
      refine (copyB_x A c start w2 (HS.out.kept K2.out (fun _ _ _ _ => id)) (by omega)).mono ?_
      rintro e w3 ⟨Aa, ca, rfl, ha, hk3⟩
      have K23 := Lib.hid hk3
      have HA3 := Lib.hid ha
      clear ha hk3
      go_wp2_with fail
      refine (copyB_x A c start w3 (HS.out.kept (K2.out.trans0 K23.out) (fun _ _ _ _ => id)) (by omega)).mono ?_
      rintro e w4 ⟨Ab, cb, rfl, hb, hk4⟩
      have K4 := Lib.hid ((K2.out.trans0 K23.out).trans0 hk4)
      have PQ4 := Lib.hid ((PQ2.out.keep K23.out (fun _ _ => id)).keep hk4 (fun _ _ => id))
      have hAB4 : AB w4 w2.heap.size start.length Aa ca Ab cb := by
        rcases HA3.out with ⟨e1, rfl, rfl⟩ | ⟨e1, ga, rfl, ho1⟩
        · rcases hb with ⟨-, rfl, rfl⟩ | ⟨e2, -⟩
          · exact .inl ⟨by rw [e1]; rfl, rfl, rfl, rfl, rfl⟩
          · exact absurd e1 e2
        · rcases hb with ⟨e2, -⟩ | ⟨-, gb, rfl, ho2⟩
          · exact absurd e2 e1
          · have := ho2.base_le
            have := ho1.lt'
            exact .inr ⟨ga, gb, start, rfl, rfl, by omega, ho1.kept hk4, ho2.low K23.out.size, rfl⟩
      have AB4 := Lib.hid hAB4
      have hk4s := Lib.hid hk4.size
      clear hb hk4 hAB4
      have lgp : gp < w2.heap.size := by omega
      have z4 : w2.heap.size ≤ w4.heap.size := by have := K23.out.size; have := hk4s.out; omega
      have hn : start.length ≤ 1000000 := by omega
      have hcell := fun (wz : World) (hz : Kept (fun _ => False) w wz) (k : Nat) (x : D9) (hx : L[k]? = some x) => HL.out.at hz hx
      have HCELL := Lib.hid hcell
      clear hcell HA3
      go_wp2
      go_loopw [11] (fun i wr => ∃ k : Nat, k ≤ L.length ∧ i = .int .i64 k ∧ AB wr w.heap.size 512 (some ⟨gp, 0, none⟩) 512 (some ⟨gq, 0, none⟩) cq ∧ AB wr w2.heap.size start.length Aa ca Ab cb ∧ Kept (fun _ => False) w wr ∧ w2.heap.size ≤ wr.heap.size) (fun i _ => L.length - (intOf i).toNat)
      case atStart => exact ⟨0, Nat.zero_le _, rfl, PQ4.out, AB4.out, K4.out, z4⟩
      case round =>
        obtain ⟨k, hk, rfl, hpq, hab, hkr, hz⟩ := hrel
        have PQ := Lib.hid hpq
        have ABr := Lib.hid hab
        have K := Lib.hid hkr
        clear hpq hab hkr PQ4 AB4 K4 PQ2 OP1
        by_cases hlt : k < L.length
        · have HLT := Lib.hid hlt
          have hx := List.getElem?_eq_getElem hlt
          obtain ⟨b, off, CA, cc, rfl, hc00, hrb00, hCA⟩ := HCELL.out w (Kept.refl _ _) k _ hx
          have HC0 := Lib.hid (fun (wz : World) (hz : Kept (fun _ => False) w wz) j v hv => (World.cell?_of_block (hz.block b (block_lt_of_cell (hc00 j v hv)) id)).trans (hc00 j v hv))
          have HR0 := Lib.hid (fun (wz : World) (hz : Kept (fun _ => False) w wz) => hrb00.kept hz (fun _ _ _ _ => id))
          have hc := HC0.out wr K.out
          have hrb := HR0.out wr K.out
          clear hc00 hrb00
          generalize L[k] = x at *
          have HX := Lib.hid hx
          have c0 : wr.cell? ⟨b, off + k * 4, none⟩ = some (.int .i64 x.op) := hc 0 _ rfl
          have c1 : wr.cell? ⟨b, off + k * 4 + 1, none⟩ = some (.int .i64 x.slot) := hc 1 _ rfl
          have c2 : wr.cell? ⟨b, off + k * 4 + 2, none⟩ = some (.int .i64 x.next) := hc 2 _ rfl
          have c3 : wr.cell? ⟨b, off + k * 4 + 3, none⟩ = some (.slice CA x.cell.length cc) := hc 3 _ rfl
          have i0 : (0 : Int) ≤ (k : Int) := by omega
          have i3 : (k : Int) < (L.length : Int) := by omega
          have HRB := Lib.hid hrb
          have HCA := Lib.hid hCA
          have HCB := Lib.hid (fun (wz : World) (hz : Kept (fun _ => False) w wz) => HC0.out wz hz)
          have HRW := Lib.hid (fun (wz : World) (hz : Kept (fun _ => False) w wz) => HR0.out wz hz)
          clear hx hc hrb hCA
          by_cases h5 : 5000 < x.cell.length
          · have i4 : (5000 : Int) < (x.cell.length : Int) := by omega
            go_wp2_with (go_at_call 15; refine (HW.out _).mono ?_; rintro e w5 ⟨rfl, hk5⟩; have K5 := Lib.hid (K.out.trans0 hk5); clear hk5)
            go_ret
            exact ⟨rfl, K5.out⟩
          · have i4 : ¬ (5000 : Int) < (x.cell.length : Int) := by omega
            go_wp2_with fail
            refine (PQ.out.step (by omega) x CA cc HRB.out (by omega) HCA.out).mono ?_
            rintro e w5 ⟨rfl, hpq5, hk5⟩
            have K5 := Lib.hid (K.out.new hk5 (fun y hy => PQ.out.low hy))
            have PQ5 := Lib.hid hpq5
            have AB5 := Lib.hid (ABr.out.keep hk5 (fun y hy h => by
              have h9 := ABr.out.low hy
              rcases h with ⟨o, e⟩ | ⟨o, e⟩
              · cases e; omega
              · cases e; omega))
            have z5 := hk5.size
            have hd1 := HCB.out w5 K5.out 1 _ rfl
            clear hpq5 hk5
            go_wp2_with fail
            refine (PQ5.out.tells x.slot).mono ?_
            rintro e w6 ⟨rfl, hk6⟩
            have K6 := Lib.hid (K5.out.trans0 hk6)
            have PQ6 := Lib.hid (PQ5.out.keep hk6 (fun _ _ => id))
            have AB6 := Lib.hid (AB5.out.keep hk6 (fun _ _ => id))
            have z6 := hk6.size
            have g0 : w6.cell? ⟨b, off + k * 4, none⟩ = some (.int .i64 x.op) := HCB.out w6 K6.out 0 _ rfl
            have g1 : w6.cell? ⟨b, off + k * 4 + 1, none⟩ = some (.int .i64 x.slot) := HCB.out w6 K6.out 1 _ rfl
            have g2 : w6.cell? ⟨b, off + k * 4 + 2, none⟩ = some (.int .i64 x.next) := HCB.out w6 K6.out 2 _ rfl
            have g3 : w6.cell? ⟨b, off + k * 4 + 3, none⟩ = some (.slice CA x.cell.length cc) := HCB.out w6 K6.out 3 _ rfl
            have HRB6 := Lib.hid (HRW.out w6 K6.out)
            clear hk6
            go_wp2_with fail
            refine (AB6.out.step hn x CA cc HRB6.out (by omega) (fun h b off e => by have := HCA.out h b off e; omega)).mono ?_
            rintro e w7 ⟨rfl, hab7, hk7⟩
            have K7 := Lib.hid (K6.out.new hk7 (fun y hy => by have := AB6.out.low hy; omega))
            have AB7 := Lib.hid hab7
            have PQ7 := Lib.hid (PQ6.out.keep hk7 (fun y hy h => by
              have h9 := AB6.out.low h
              rcases hy with ⟨o, e⟩ | ⟨o, e⟩
              · cases e; omega
              · cases e; omega))
            have z7 := hk7.size
            have hz7 : w2.heap.size ≤ w7.heap.size := by omega
            clear hab7 hk7
            go_wp2
            go_roundw
            case rel => exact ⟨k + 1, HLT.out, by go_num, PQ7.out, AB7.out, K7.out, hz7⟩
            case measure =>
              have := HLT.out
              simp [intOf]; omega
        · have hge : ¬ ((k : Int) < (L.length : Int)) := by omega
          go_wp2_with fail
          refine (HW.out _).mono ?_
          rintro e w5 ⟨rfl, hk5⟩
          have K5 := Lib.hid (K.out.trans0 hk5)
          clear hk5
          go_wp2
          go_ret
          exact ⟨rfl, K5.out⟩
end Go.Proofs.YtndflnedkpmpfaaGreatDoor
