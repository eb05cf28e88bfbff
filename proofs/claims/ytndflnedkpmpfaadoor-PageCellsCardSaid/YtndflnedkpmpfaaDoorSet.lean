/-
  No statement is proved here: contracts of the document's set, SetNext and Delete.
-/
import Derived.Test.YtndflnedkpmpfaaDoorPut
import Derived.Test.YtndflnedkpmpfaaDoorOfg
namespace Go.Proofs.YtndflnedkpmpfaaDoor
open Go.RowKit

theorem over_all {l m : Bytes} (h : l.length = m.length) : over l 0 m = m := by
  unfold over
  rw [List.take_zero, Nat.sub_zero, h, List.take_length, Nat.zero_add, ← h, List.drop_length]
  simp
def outM (k : UInt8) (n : Int) (cs : List Bytes) (l : Bytes) (ok : Bool) : Bytes := if ok then Pg k n.toNat cs else l
set_option maxRecDepth 100000 in
set_option maxHeartbeats 1000000 in
theorem set_any (base g cp : Nat) (l : Bytes) (k : UInt8) (n : Int) (G : Option Addr) (cap : Nat) (L : List CvD) (w : World) (ho : OwnB w base g cp l) (hl : l.length = 512) (h : RdCs w G L) (hL : L.length ≤ 1000) (hb : ∀ s ∈ L, s.b.length ≤ 5000) :
    Calls Tryd.prog 74 #[.slice (some ⟨g, 0, none⟩) 512 cp, .agg #[.int .u8 k.toNat, .int .i64 n, .slice G L.length cap]] w fun e w' => Kept (fun x => x = g) w w' ∧
      ((¬ PutOk n (L.map (fun s => s.b)) ∧ e = .returned (.bool false) ∧ OwnB w' base g cp l) ∨
       (PutOk n (L.map (fun s => s.b)) ∧ e = .returned (.bool true) ∧ OwnB w' base g cp (Pg k n.toNat (L.map (fun s => s.b))))) := by
  have ka := (Kept.refl (fun _ => False) w).alloc (.cells #[.int .u8 k.toNat, .int .i64 n, .slice G L.length cap] 77)
  have KA := Lib.hid ka
  have HP := Lib.hid (putP_any k n G cap L _ (h.kept ka) hL hb)
  have HO := Lib.hid (ho.kept ka)
  have HL := Lib.hid hl
  clear ho h hb ka hl
  go_enter Tryd.func74, Tryd.ntmps74
  go_wp2_with fail
  refine HP.out.mono ?_
  rintro e w2 ⟨hk, ⟨hno, rfl⟩ | ⟨hyes, g2, c2, rfl, ho2⟩⟩
  · have HNO := Lib.hid hno
    have K2 := Lib.hid ((KA.out.trans0 hk).mono (T := fun x => x = g) (fun _ _ h => h.elim))
    have O2 := Lib.hid (HO.out.kept hk)
    clear hno hk
    go_wp2
    go_ret
    exact ⟨K2.out, .inl ⟨HNO.out, rfl, O2.out⟩⟩
  · have HYES := Lib.hid hyes
    have K2 := Lib.hid ((KA.out.trans0 hk).mono (T := fun x => x = g) (fun _ _ h => h.elim))
    have O2 := Lib.hid (HO.out.kept hk)
    have HR2 := Lib.hid ho2.rdp
    have HPL := Lib.hid (Pg_len (k := k) (n := n.toNat) hyes.1)
    clear hyes hk ho2
    obtain ⟨nn, w3, hr, -, ho3, hk3⟩ := run_copyB O2.out 0 (Nat.zero_le _) (some ⟨g, 0, none⟩) (some ⟨g2, 0, none⟩) (fun _ => rfl) (Pg k n.toNat (L.map (fun s => s.b))) HR2.out cp c2 3
    rw [HL.out, HPL.out, Nat.sub_zero] at hr
    rw [over_all (by rw [HL.out, HPL.out])] at ho3
    have K3 := Lib.hid (K2.out.trans' hk3)
    have O3 := Lib.hid ho3
    clear ho3 hk3
    go_wp2
    go_ret
    exact ⟨K3.out, .inr ⟨HYES.out, rfl, O3.out⟩⟩
def toCv (s : CeD) : CvD := ⟨some ⟨s.g, 0, none⟩, s.c, s.b⟩
theorem OwnCs.rd {w : World} {base : Nat} {v : Value} {L : List CeD} (h : OwnCs w base v L) (hc : CsAt w base L) : ∃ G cap, v = .slice G (L.map toCv).length cap ∧ RdCs w G (L.map toCv) := by
  obtain ⟨G, cap, hv, hV⟩ := h.view
  refine ⟨G, cap, by rw [List.length_map]; exact hv, fun k s hs => ?_⟩
  rw [List.getElem?_map] at hs
  cases hL : L[k]? with
  | none => rw [hL] at hs; simp at hs
  | some t =>
    rw [hL] at hs
    have e : toCv t = s := by simpa using hs
    subst e
    obtain ⟨g, hG, -, hcell⟩ := hV k t hL
    exact ⟨g, 0, hG, by rw [Nat.zero_add]; exact hcell, (hc t (List.mem_of_getElem? hL)).rdp⟩
theorem toCv_b (L : List CeD) : (L.map toCv).map (fun s => s.b) = L.map (fun s => s.b) := by
  rw [List.map_map]; rfl
theorem cells_short {l : Bytes} {n : Nat} {s : Bytes} (hl : l.length = 512) (h : s ∈ cellsM l n) : s.length ≤ 5000 := by
  unfold cellsM at h
  obtain ⟨k, -, rfl⟩ := List.mem_map.1 h
  unfold cellM
  rw [List.length_drop, List.length_take]
  omega
set_option maxRecDepth 100000 in
set_option maxHeartbeats 1000000 in
theorem rsetNext512 (base g cp : Nat) (l : Bytes) (x : Int) (w : World) (ho : OwnB w base g cp l) (hl : l.length = 512) :
    Calls Tryd.prog 51 #[.slice (some ⟨g, 0, none⟩) 512 cp, .int .i64 x] w fun e w' => e = .returned (.bool (setNextM l x).1) ∧ OwnB w' base g cp (setNextM l x).2 ∧ Kept (fun x => x = g) w w' := by
  have hcp : 512 ≤ cp ∧ cp ≤ 9223372036854775807 := by
    obtain ⟨cur, -, -, h1, h2, -⟩ := ho.form
    exact ⟨by omega, h2⟩
  have HF := Lib.hid (of512 (some ⟨g, 0, none⟩) cp l w ho.rdp hl hcp.1 hcp.2)
  have HO := Lib.hid ho
  have HL := Lib.hid hl
  clear ho hl hcp
  go_enter Tryd.func51, Tryd.ntmps51
  go_wp2_with fail
  refine HF.out.mono ?_
  rintro e w1 ⟨hk, ⟨he, rfl⟩ | ⟨he, v, L, rfl, hcs, hca, hm⟩⟩
  · have HE := Lib.hid (show setNextM l x = (false, l) from by unfold setNextM; rw [if_pos (.inl he)])
    have HK := Lib.hid hk
    unfold zPage
    clear he hk
    go_wp2
    go_ret
    exact ⟨by rw [HE.out]; rfl, by rw [HE.out]; exact HO.out.kept (HK.out.alloc _), (HK.out.alloc _).mono (fun _ _ h => h.elim)⟩
  · obtain ⟨G, cap, rfl, hrd⟩ := hcs.rd hca
    obtain ⟨hpg, hok⟩ := page_eq he
    have hb : ∀ s ∈ L.map toCv, s.b.length ≤ 5000 := fun s hs => by
      have : s.b ∈ (L.map toCv).map (fun s => s.b) := List.mem_map_of_mem hs
      rw [toCv_b, hm] at this
      exact cells_short HL.out this
    have hL1 : (L.map toCv).length ≤ 1000 := by
      have := hok.cnt
      rw [← hm] at this
      rw [List.length_map] at this ⊢; omega
    have hbs : (L.map toCv).map (fun s => s.b) = cellsM l (bAt l 1).toNat := by rw [toCv_b, hm]
    have HE := Lib.hid (show setNextM l x = if x < 0 ∨ 4294967296 ≤ x then (false, l) else (true, Pg (bAt l 0) x.toNat (cellsM l (bAt l 1).toNat)) from by
      conv => lhs; rw [hpg]
      rw [setNextM_Pg hok, ← hpg])
    have HOK := Lib.hid hok
    have HBS := Lib.hid hbs
    have HRD := Lib.hid hrd
    have HB := Lib.hid hb
    have HK := Lib.hid hk
    generalize L.map toCv = L2 at *
    generalize bAt l 0 = kk at *
    clear he hk hcs hca hm hpg hok hb hrd hbs
    go_wp2_with fail
    have K3 := Lib.hid (HK.out.trans0 (((Kept.refl (fun _ => False) w1).alloc (.cells #[.int .u8 kk.toNat, .int .i64 x, .slice G L2.length cap] 77))))
    refine (set_any base g cp l kk x G cap L2 _ (HO.out.kept K3.out) HL.out (HRD.out.kept ((Kept.refl (fun _ => False) w1).alloc _)) hL1 HB.out).mono ?_
    rintro e w4 ⟨hk4, hres⟩
    have HR := Lib.hid hres
    have HK4 := Lib.hid ((K3.out.mono (T := fun x => x = g) (fun _ _ h => h.elim)).trans' hk4)
    clear hk4 hres
    rcases HR.out with ⟨hno, rfl, ho4⟩ | ⟨hyes, rfl, ho4⟩
    · have HO4 := Lib.hid ho4
      have hxx : x < 0 ∨ 4294967296 ≤ x := by
        rw [HBS.out] at hno
        unfold PutOk at hno
        have h1 := HOK.out.room
        have h2 := HOK.out.cnt
        omega
      have HXX := Lib.hid hxx
      clear hno ho4 hxx
      go_wp2
      go_ret
      exact ⟨by rw [HE.out, if_pos HXX.out]; rfl, by rw [HE.out, if_pos HXX.out]; exact HO4.out, HK4.out⟩
    · have HO4 := Lib.hid ho4
      have hxx : ¬ (x < 0 ∨ 4294967296 ≤ x) := by
        unfold PutOk at hyes
        omega
      have HXX := Lib.hid hxx
      clear hyes ho4 hxx
      go_wp2
      go_ret
      exact ⟨by rw [HE.out, if_neg HXX.out]; rfl, by rw [HE.out, if_neg HXX.out, ← HBS.out]; exact HO4.out, HK4.out⟩
theorem rsetNext_any (base g cp : Nat) (l : Bytes) (x : Int) (w : World) (ho : OwnB w base g cp l) :
    Calls Tryd.prog 51 #[.slice (some ⟨g, 0, none⟩) l.length cp, .int .i64 x] w fun e w' => e = .returned (.bool (setNextM l x).1) ∧ OwnB w' base g cp (setNextM l x).2 ∧ Kept (fun x => x = g) w w' := by
  by_cases hl : l.length = 512
  · rw [hl]; exact rsetNext512 base g cp l x w ho hl
  · have HF := Lib.hid (ofNone (some ⟨g, 0, none⟩) cp l.length w hl)
    have HE := Lib.hid (show setNextM l x = (false, l) from by unfold setNextM; rw [if_pos (.inl (endM_zero_len hl))])
    have HO := Lib.hid ho
    clear ho hl
    go_enter Tryd.func51, Tryd.ntmps51
    go_wp2_with fail
    refine HF.out.mono ?_
    rintro e w1 ⟨hk, rfl⟩
    have HK := Lib.hid hk
    unfold zPage
    clear hk
    go_wp2
    go_ret
    exact ⟨by rw [HE.out]; rfl, by rw [HE.out]; exact HO.out.kept (HK.out.alloc _), (HK.out.alloc _).mono (fun _ _ h => h.elim)⟩
end Go.Proofs.YtndflnedkpmpfaaDoor
