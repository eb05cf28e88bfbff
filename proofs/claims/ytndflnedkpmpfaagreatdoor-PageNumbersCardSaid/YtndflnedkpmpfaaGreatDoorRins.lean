/-
  No statement is proved here: the contract of the document's Insert.
-/
import Derived.Test.YtndflnedkpmpfaaGreatDoorRdel
namespace Go.Proofs.YtndflnedkpmpfaaGreatDoor
open Go.RowKit

theorem OwnCs.shape {w : World} {base : Nat} {v : Value} {L : List CeD} (h : OwnCs w base v L) : ∃ G cap, v = .slice G L.length cap ∧ ((G = none ∧ L = [] ∧ cap = 0) ∨ ∃ g, G = some ⟨g, 0, none⟩ ∧ L.length ≤ cap ∧ cap ≤ 9223372036854775807) ∧
    ∀ k s, L[k]? = some s → ∃ g, G = some ⟨g, 0, none⟩ ∧ g < w.heap.size ∧ w.cell? ⟨g, k, none⟩ = some (ceVal s) := by
  obtain ⟨G, cap, hv, hV⟩ := h.view
  obtain ⟨h1, ⟨h, hl⟩ | ⟨g, cap', cur, hv', hg, hh, hle, hm, -⟩⟩ := h
  · have h0 : L = [] := List.eq_nil_of_length_eq_zero hl
    subst h0
    refine ⟨none, 0, h, .inl ⟨rfl, rfl, rfl⟩, fun k s hk => by simp at hk⟩
  · rw [hv'] at hv
    cases hv
    exact ⟨_, _, hv', .inr ⟨g, rfl, hle, hm⟩, hV⟩
theorem insertM_none {l c : Bytes} {s : Int} (h : endM l = 0) : insertM l s c = (4, l) := insertM_no h
set_option maxRecDepth 100000 in
set_option maxHeartbeats 2000000 in
theorem rinsert512 (base g cp : Nat) (l : Bytes) (s : Int) (CA : Option Addr) (cc : Nat) (cell : Bytes) (w : World) (ho : OwnB w base g cp l) (hl : l.length = 512) (hS : RdB w CA cell) (hcl : cell.length ≤ 5000) :
    Calls Tryz.prog 48 #[.slice (some ⟨g, 0, none⟩) 512 cp, .int .i64 s, .slice CA cell.length cc] w fun e w' => e = .returned (.int .i64 (insertM l s cell).1) ∧ OwnB w' base g cp (insertM l s cell).2 ∧ Kept (fun x => x = g) w w' := by
  have hcp : 512 ≤ cp ∧ cp ≤ 9223372036854775807 := by
    obtain ⟨cur, -, -, h1, h2, -⟩ := ho.form
    exact ⟨by omega, h2⟩
  have HF := Lib.hid (of512 (some ⟨g, 0, none⟩) cp l w ho.rdp hl hcp.1 hcp.2)
  have HO := Lib.hid ho
  have HL := Lib.hid hl
  have HS := Lib.hid hS
  clear ho hl hcp hS
  go_enter Tryz.func48, Tryz.ntmps48
  go_wp2_with fail
  refine HF.out.mono ?_
  rintro e w1 ⟨hk, ⟨he, rfl⟩ | ⟨he, v, L, rfl, hcs, hca, hm⟩⟩
  · have HE := Lib.hid (insertM_none (s := s) (c := cell) he)
    have HK := Lib.hid hk
    unfold zPage
    clear he hk
    go_wp2
    go_ret
    exact ⟨by rw [HE.out]; rfl, by rw [HE.out]; exact HO.out.kept (HK.out.alloc _), (HK.out.alloc _).mono (fun _ _ h => h.elim)⟩
  · obtain ⟨hpg, hok⟩ := page_eq he
    have hE : insertM l s cell = if s < 0 ∨ ((cellsM l (bAt l 1).toNat).length : Int) < s then (2, l) else if 506 < (encs (cellsM l (bAt l 1).toNat)).length + (cell.length + 2) ∨ 255 ≤ (cellsM l (bAt l 1).toNat).length then (5, l) else (0, Pg (bAt l 0) (nextM l) ((cellsM l (bAt l 1).toNat).take s.toNat ++ cell :: (cellsM l (bAt l 1).toNat).drop s.toNat)) := by
      conv => lhs; rw [hpg]
      rw [insertM_Pg hok, ← hpg]
    have hbl : ∀ b ∈ cellsM l (bAt l 1).toNat, b.length ≤ 5000 := fun b hb => cells_short HL.out hb
    rw [← hm] at hE hok hbl
    rw [List.length_map] at hE
    have hlc := hok.cnt
    rw [List.length_map] at hlc
    have HK := Lib.hid hk
    generalize bAt l 0 = kk at *
    generalize nextM l = nn at *
    obtain ⟨G, cap, rfl, hsh, hV⟩ := hcs.shape
    by_cases hs : s < 0 ∨ (L.length : Int) < s
    · have HE := Lib.hid (hE.trans (if_pos hs))
      clear hE he hk hcs hca hm hpg hok hbl hV hsh
      by_cases h0 : s < 0
      · clear hs
        go_wp2
        go_ret
        exact ⟨by rw [HE.out]; rfl, by rw [HE.out]; exact HO.out.kept (HK.out.alloc _), (HK.out.alloc _).mono (fun _ _ h => h.elim)⟩
      · have h1 : (L.length : Int) < s := by omega
        clear hs
        go_wp2
        go_ret
        exact ⟨by rw [HE.out]; rfl, by rw [HE.out]; exact HO.out.kept (HK.out.alloc _), (HK.out.alloc _).mono (fun _ _ h => h.elim)⟩
    · have hE2 := hE.trans (if_neg hs)
      obtain ⟨i, rfl⟩ : ∃ i : Nat, s = i := ⟨s.toNat, by omega⟩
      rw [Int.toNat_natCast] at hE2
      have hi : i ≤ L.length := by omega
      have HE := Lib.hid hE2
      have HCA := Lib.hid hca
      have HOK := Lib.hid hok
      have HBL := Lib.hid hbl
      have ka := (Kept.refl (fun _ => False) w1).alloc (.cells #[.int .u8 kk.toNat, .int .i64 nn, .slice G L.length cap] 74)
      have HX := Lib.hid (heap_alloc_new w1 (.cells #[.int .u8 kk.toNat, .int .i64 nn, .slice G L.length cap] 74))
      have KA := Lib.hid ka
      obtain ⟨bx, hbx⟩ : ∃ bx, bx = (w1.alloc (.cells #[.int .u8 kk.toNat, .int .i64 nn, .slice G L.length cap] 74)).heap.size := ⟨_, rfl⟩
      have zA : w1.heap.size < bx := by rw [hbx]; simp
      have HBX := Lib.hid hbx
      have hn1 : ∀ wz, Kept (fun _ => False) w1 wz → ∀ A : Option Addr, A = G → ∀ j u, ((L.take i).map ceVal)[j]? = some u → ∃ b off, A = some ⟨b, off, none⟩ ∧ wz.cell? ⟨b, off + j, none⟩ = some u := fun wz hz A hA j u hu => by
        rw [List.getElem?_map] at hu
        cases hLt : (L.take i)[j]? with
        | none => rw [hLt] at hu; simp at hu
        | some t =>
          rw [hLt] at hu
          obtain rfl : ceVal t = u := by simpa using hu
          rw [List.getElem?_take] at hLt
          split at hLt
          · obtain ⟨g', e, hg', hc'⟩ := hV j t hLt
            exact ⟨g', 0, hA.trans e, by rw [Nat.zero_add]; exact (World.cell?_of_block (hz.block g' hg' id)).trans hc'⟩
          · simp at hLt
      have hn2 : ∀ wz, Kept (fun _ => False) w1 wz → ∀ A : Option Addr, (∀ g', G = some ⟨g', 0, none⟩ → i < L.length → A = some ⟨g', i, none⟩) → ∀ j u, ((L.drop i).map ceVal)[j]? = some u → ∃ b off, A = some ⟨b, off, none⟩ ∧ wz.cell? ⟨b, off + j, none⟩ = some u := fun wz hz A hA j u hu => by
        rw [List.getElem?_map] at hu
        cases hLt : (L.drop i)[j]? with
        | none => rw [hLt] at hu; simp at hu
        | some t =>
          rw [hLt] at hu
          obtain rfl : ceVal t = u := by simpa using hu
          rw [List.getElem?_drop] at hLt
          have := (List.getElem?_eq_some_iff.1 hLt).1
          obtain ⟨g', e, hg', hc'⟩ := hV (i + j) t hLt
          exact ⟨g', i, hA g' e (by omega), (World.cell?_of_block (hz.block g' hg' id)).trans hc'⟩
      have HN1 := Lib.hid hn1
      have HN2 := Lib.hid hn2
      have h0 : ¬ (i : Int) < 0 := by omega
      have h1 : ¬ (L.length : Int) < (i : Int) := by omega
      have h2 : (0 : Int) ≤ (i : Int) := by omega
      have h4 : (i : Int) ≤ (L.length : Int) := by omega
      clear ka hbx hn1 hn2 hE hE2 he hk hcs hca hm hpg hok hbl hs hV
      obtain ⟨L2, hL2⟩ : ∃ L2, L2 = (L.take i).map toCv ++ ⟨CA, cc, cell⟩ :: (L.drop i).map toCv := ⟨_, rfl⟩
      have hl2 : L2.length = L.length + 1 := by rw [hL2, List.length_append, List.length_cons, List.length_map, List.length_map, List.length_take, List.length_drop]; omega
      have hsub : ∀ s ∈ L2, s = ⟨CA, cc, cell⟩ ∨ ∃ t ∈ L, s = toCv t := fun s hs => by
        rw [hL2] at hs
        rcases List.mem_append.1 hs with h | h
        · obtain ⟨t, ht, rfl⟩ := List.mem_map.1 h
          exact .inr ⟨t, List.mem_of_mem_take ht, rfl⟩
        · rcases List.mem_cons.1 h with h | h
          · exact .inl h
          · obtain ⟨t, ht, rfl⟩ := List.mem_map.1 h
            exact .inr ⟨t, List.mem_of_mem_drop ht, rfl⟩
      have hbs : L2.map (fun s => s.b) = (L.map (fun s => s.b)).take i ++ cell :: (L.map (fun s => s.b)).drop i := by
        rw [hL2, List.map_append, List.map_cons, toCv_b, toCv_b, List.map_take, List.map_drop]
      have hcvL : L2.map cvVal = (L.take i).map ceVal ++ .slice CA cell.length cc :: (L.drop i).map ceVal := by
        rw [hL2, List.map_append, List.map_cons, List.map_map, List.map_map]; rfl
      have HSUB := Lib.hid hsub
      have HBS := Lib.hid hbs
      have HCVL := Lib.hid hcvL
      have HL2N := Lib.hid hl2
      have hl3 : L2.length ≤ 1000 := by omega
      clear hL2 hsub hbs hcvL hl2
      rcases hsh with ⟨rfl, rfl, rfl⟩ | ⟨gc, rfl, hcap, hcap2⟩
      · obtain rfl : i = 0 := by simpa using hi
        have HXz := Lib.hid (show (w1.alloc (.cells #[.int .u8 kk.toNat, .int .i64 nn, .slice none 0 0] 74)).heap[w1.heap.size]? = some (.cells #[.int .u8 kk.toNat, .int .i64 nn, .slice none 0 0] 74 (0, 0)) from HX.out)
        have KAz := Lib.hid (show Kept (fun _ => False) w1 (w1.alloc (.cells #[.int .u8 kk.toNat, .int .i64 nn, .slice none 0 0] 74)) from KA.out)
        have HBXz := Lib.hid (show bx = (w1.alloc (.cells #[.int .u8 kk.toNat, .int .i64 nn, .slice none 0 0] 74)).heap.size from HBX.out)
        clear HX KA HBX HN1 HN2
        have HX := HXz
        have KA := KAz
        have HBX := HBXz
        clear HXz KAz HBXz
        have HNW := Lib.hid (show ∀ (j : Nat) (u : Value), [Value.slice CA cell.length cc][j]? = some u → ∃ b off, (some ⟨w1.heap.size + 1, 0, none⟩ : Option Addr) = some ⟨b, off, none⟩ ∧ ((w1.alloc (.cells #[.int .u8 kk.toNat, .int .i64 nn, .slice none 0 0] 74)).alloc (.cells #[.slice CA cell.length cc] 22)).cell? ⟨b, off + j, none⟩ = some u from fun j u hu => ⟨_, 0, rfl, by
          have := cell_blk (heap_alloc_new (w1.alloc (.cells #[.int .u8 kk.toNat, .int .i64 nn, .slice none 0 0] 74)) (.cells #[.slice CA cell.length cc] 22)) (i := j) (v := u) (by simpa using hu)
          simpa using this⟩)
        have ka2 := (Kept.refl (fun _ => False) (w1.alloc (.cells #[.int .u8 kk.toNat, .int .i64 nn, .slice none 0 0] 74))).alloc (.cells #[.slice CA cell.length cc] 22)
        have KA2 := Lib.hid ka2
        have hz2a : bx ≤ ((w1.alloc (.cells #[.int .u8 kk.toNat, .int .i64 nn, .slice none 0 0] 74)).alloc (.cells #[.slice CA cell.length cc] 22)).heap.size := by rw [HBX.out]; exact ka2.size
        clear ka2
        go_wp2_with (at_builtin; refine wl_appendC rfl _ _ rfl bx (.slice none 0 0) 0 [] rfl (World.ownsRow_nil _ _ _ _) _ 1 1 [.slice CA cell.length cc] rfl rfl HNW.out (by simp [Value.oneCell']) (by omega) hz2a ?_)
        intro v2 w3 ho2 hk2
        have HK3 := Lib.hid (KA2.out.new hk2 (fun x e => by simp [Value.ownBlock] at e))
        have HO2 := Lib.hid (show w3.ownsRow bx 22 1 v2 1 [.slice CA cell.length cc] from by simpa using ho2)
        clear ho2 hk2
        obtain ⟨G2, n2, cc2, hv2⟩ : ∃ G n c, v2 = .slice G n c := by
          rcases HO2.out.2 with ⟨e, -⟩ | ⟨g', c', -, e, -⟩
          · exact ⟨_, _, _, e⟩
          · exact ⟨_, _, _, e⟩
        subst hv2
        have hz3 : bx ≤ w3.heap.size := by rw [HBX.out]; exact HK3.out.size
        have HX3 := Lib.hid (HK3.out.heap HX.out id)
        have c23 := cell_blk HX3.out (i := 2) rfl
        have HA3 := Lib.hid (KA.out.trans0 HK3.out)
        go_wp2_with (at_builtin; refine wl_appendC rfl _ _ rfl bx (.slice G2 n2 cc2) 1 [.slice CA cell.length cc] rfl HO2.out _ 0 _ [] rfl rfl (fun j u hu => by simp at hu) (by simp) (by omega) hz3 ?_)
        intro v3 w4 ho3 hk3
        have HK4 := Lib.hid (HK3.out.new hk3 (fun x e => by
          rcases HO2.out.2 with ⟨e', -⟩ | ⟨g', c', -, e', hb', -⟩
          · rw [e'] at e; cases e
          · rw [e'] at e; cases e; rw [← HBX.out]; exact hb'))
        have hcv : OwnCv w4 bx v3 L2 := by
          unfold OwnCv
          rw [HCVL.out, HL2N.out]
          simpa using ho3
        have HA4 := Lib.hid (KA.out.trans0 HK4.out)
        have hra : RdAll w4 L2 := fun s hs => by
          rcases HSUB.out s hs with rfl | ⟨t, htL, rfl⟩
          · exact HS.out.kept (HK.out.trans0 HA4.out) (fun _ _ _ _ => id)
          · exact (((HCA.out t htL).rdp).kept HA4.out (fun _ _ _ _ => id))
        obtain ⟨G3, c3, rfl, -⟩ := hcv.rd hra
        have HX4 := Lib.hid (HK4.out.heap HX.out id)
        have HCV := Lib.hid hcv
        have HRA := Lib.hid hra
        clear ho3 hk3 hcv hra
        go_wp2_with (refine wl_store1 rfl 28 _ _ rfl w1.heap.size 2 (.slice G3 L2.length c3) _ rfl rfl HX4.out (by kernel_rfl) (by simp) rfl ?_)
        intro w5 hb5 hk5
        have HB5 := Lib.hid (show w5.heap[w1.heap.size]? = some (.cells #[.int .u8 kk.toNat, .int .i64 nn, .slice G3 L2.length c3] 74 (0, 0)) from by simpa using hb5)
        have hcv5 : OwnCv w5 bx _ L2 := HCV.out.kept hk5 (fun x e => by omega)
        have HK5 := Lib.hid ((HK.out.trans0 HA4.out).new hk5 (fun x e => by have := HK.out.size; omega))
        have HA5 := Lib.hid (HA4.out.new hk5 (fun x e => by omega))
        obtain ⟨G4, c4, he4, hrd5⟩ := hcv5.rd (fun s hs => by
          rcases HSUB.out s hs with rfl | ⟨t, htL, rfl⟩
          · exact HS.out.kept HK5.out (fun _ _ _ _ => id)
          · exact (((HCA.out t htL).rdp).kept HA5.out (fun _ _ _ _ => id)))
        cases he4
        have HRD5 := Lib.hid hrd5
        clear hb5 hcv5 hrd5 hk5
        go_wp2_with (refine wl_load_row rfl 74 _ rfl w1.heap.size rfl #[.int .u8 kk.toNat, .int .i64 nn, .slice G3 L2.length c3] HB5.out Tryz.underlying74 rfl (by kernel_rfl) ?_)
        have hb6 : ∀ s ∈ L2, s.b.length ≤ 5000 := fun s hs => by
          rcases HSUB.out s hs with rfl | ⟨t, htL, rfl⟩
          · exact hcl
          · exact HBL.out t.b (List.mem_map_of_mem htL)
        refine (set_any base g cp l kk nn G3 c3 _ w5 (HO.out.kept HK5.out) HL.out HRD5.out hl3 hb6).mono ?_
        rintro e w6 ⟨hk6, hres⟩
        have HK6 := Lib.hid ((HK5.out.mono (T := fun x => x = g) (fun _ _ h => h.elim)).trans' hk6)
        have HR := Lib.hid hres
        have henc : (encs (L2.map (fun s => s.b))).length = (encs (([] : List CeD).map (fun s => s.b))).length + (cell.length + 2) := by
          have h9 := congrArg (fun x => (encs x).length) (List.take_append_drop 0 (([] : List CeD).map (fun s => s.b)))
          simp only [encs_app, List.length_append] at h9
          rw [HBS.out, encs_app, encs_cons, List.length_append, List.length_append, enc_len]
          omega
        have HENC := Lib.hid henc
        clear hk6 hres hb6 henc
        rcases HR.out with ⟨hno, rfl, ho6⟩ | ⟨hyes, rfl, ho6⟩
        · have hfull : 506 < (encs (([] : List CeD).map (fun s => s.b))).length + (cell.length + 2) ∨ 255 ≤ ([] : List CeD).length := by
            unfold PutOk at hno
            rw [HENC.out, List.length_map, HL2N.out] at hno
            have h4 := HOK.out.nxt
            omega
          have HE5 := Lib.hid (HE.out.trans (if_pos hfull))
          have HO6 := Lib.hid ho6
          clear ho6 HR hno hfull
          go_wp2
          go_ret
          refine ⟨?_, ?_, HK6.out⟩
          · rw [HE5.out]; rfl
          · rw [HE5.out]; exact HO6.out
        · have hfull : ¬ (506 < (encs (([] : List CeD).map (fun s => s.b))).length + (cell.length + 2) ∨ 255 ≤ ([] : List CeD).length) := by
            unfold PutOk at hyes
            rw [HENC.out, List.length_map, HL2N.out] at hyes
            omega
          have HE5 := Lib.hid (HE.out.trans (if_neg hfull))
          rw [HBS.out, Int.toNat_natCast] at ho6
          have HO6 := Lib.hid ho6
          clear ho6 HR hyes hfull
          go_wp2
          go_ret
          refine ⟨?_, ?_, HK6.out⟩
          · rw [HE5.out]; rfl
          · rw [HE5.out]; exact HO6.out
      · have h3 : (i : Int) ≤ (cap : Int) := by omega
        by_cases h7 : cap = i
        · have h8 := h7.symm
          clear h7
          subst h8
          go_wp2_with (at_builtin; refine wl_appendC rfl _ _ rfl bx (.slice none 0 0) 0 [] rfl (World.ownsRow_nil _ _ _ _) _ _ _ ((L.take i).map ceVal) (by rw [List.length_map, List.length_take] <;> omega) rfl (HN1.out _ KA.out _ rfl) (one_ce _) (by omega) (Nat.le_of_eq HBX.out) ?_)
          intro v1 w2 ho1 hk1
          have HO1 := Lib.hid (show w2.ownsRow bx 22 1 v1 i ((L.take i).map ceVal) from by simpa using ho1)
          have HK2 := Lib.hid (hk1.mono (T := fun _ => False) (fun x _ e => by simp [Value.ownBlock] at e))
          clear ho1 hk1
          obtain ⟨G1, n1, cc1, hv1⟩ : ∃ G n c, v1 = .slice G n c := by
            rcases HO1.out.2 with ⟨e, -⟩ | ⟨g', c', -, e, -⟩
            · exact ⟨_, _, _, e⟩
            · exact ⟨_, _, _, e⟩
          subst hv1
          have hz2 : bx ≤ w2.heap.size := by rw [HBX.out]; exact HK2.out.size
          have ka2 := (Kept.refl (fun _ => False) w2).alloc (.cells #[.slice CA cell.length cc] 22)
          have KA2 := Lib.hid ka2
          have HO1a := Lib.hid (ownsRow_keep HO1.out ka2 (fun _ _ => id))
          have hz2a : bx ≤ (w2.alloc (.cells #[.slice CA cell.length cc] 22)).heap.size := Nat.le_trans hz2 ka2.size
          clear ka2
          go_wp2_with (at_builtin; refine wl_appendC rfl _ _ rfl bx (.slice G1 n1 cc1) i ((L.take i).map ceVal) rfl HO1a.out _ 1 1 [.slice CA cell.length cc] rfl rfl (fun j u hu => ⟨_, 0, rfl, cell_blk (heap_alloc_new w2 _) (by simpa using hu)⟩) (by simp [Value.oneCell']) (by omega) hz2a ?_)
          intro v2 w3 ho2 hk2
          have HK3 := Lib.hid ((HK2.out.trans0 KA2.out).new hk2 (fun x e => by
            rcases HO1.out.2 with ⟨e', -⟩ | ⟨g', c', -, e', hb', -⟩
            · rw [e'] at e; cases e
            · rw [e'] at e; cases e; rw [← HBX.out]; exact hb'))
          have HO2 := Lib.hid (show w3.ownsRow bx 22 1 v2 (i + 1) ((L.take i).map ceVal ++ [.slice CA cell.length cc]) from by simpa [List.map_take] using ho2)
          clear ho2 hk2
          obtain ⟨G2, n2, cc2, hv2⟩ : ∃ G n c, v2 = .slice G n c := by
            rcases HO2.out.2 with ⟨e, -⟩ | ⟨g', c', -, e, -⟩
            · exact ⟨_, _, _, e⟩
            · exact ⟨_, _, _, e⟩
          subst hv2
          have hz3 : bx ≤ w3.heap.size := by rw [HBX.out]; exact HK3.out.size
          have HX3 := Lib.hid (HK3.out.heap HX.out id)
          have c23 := cell_blk HX3.out (i := 2) rfl
          have HA3 := Lib.hid (KA.out.trans0 HK3.out)
          go_wp2_with (at_builtin; refine wl_appendC rfl _ _ rfl bx (.slice G2 n2 cc2) (i + 1) ((L.take i).map ceVal ++ [.slice CA cell.length cc]) rfl HO2.out _ _ _ ((L.drop i).map ceVal) (by rw [List.length_map, List.length_drop] <;> omega) rfl (HN2.out _ HA3.out _ (by first | (intro g' e h; cases e; rfl) | (intro g' e h; exfalso; omega) | (intro g' e; cases e))) (one_ce _) (by omega) hz3 ?_)
          intro v3 w4 ho3 hk3
          have HK4 := Lib.hid (HK3.out.new hk3 (fun x e => by
            rcases HO2.out.2 with ⟨e', -⟩ | ⟨g', c', -, e', hb', -⟩
            · rw [e'] at e; cases e
            · rw [e'] at e; cases e; rw [← HBX.out]; exact hb'))
          have hcv : OwnCv w4 bx v3 L2 := by
            unfold OwnCv
            rw [HCVL.out, HL2N.out]
            first
              | (rw [show L.length + 1 = i + 1 + (L.length - i) by omega]; simpa [List.map_take, List.map_drop] using ho3)
              | (rw [show L.length + 1 = i + 1 by omega]; simpa [List.map_take, List.map_drop] using ho3)
          have HA4 := Lib.hid (KA.out.trans0 HK4.out)
          have hra : RdAll w4 L2 := fun s hs => by
            rcases HSUB.out s hs with rfl | ⟨t, htL, rfl⟩
            · exact HS.out.kept (HK.out.trans0 HA4.out) (fun _ _ _ _ => id)
            · exact (((HCA.out t htL).rdp).kept HA4.out (fun _ _ _ _ => id))
          obtain ⟨G3, c3, rfl, -⟩ := hcv.rd hra
          have HX4 := Lib.hid (HK4.out.heap HX.out id)
          have HCV := Lib.hid hcv
          have HRA := Lib.hid hra
          clear ho3 hk3 hcv hra
          go_wp2_with (refine wl_store1 rfl 28 _ _ rfl w1.heap.size 2 (.slice G3 L2.length c3) _ rfl rfl HX4.out (by kernel_rfl) (by simp) rfl ?_)
          intro w5 hb5 hk5
          have HB5 := Lib.hid (show w5.heap[w1.heap.size]? = some (.cells #[.int .u8 kk.toNat, .int .i64 nn, .slice G3 L2.length c3] 74 (0, 0)) from by simpa using hb5)
          have hcv5 : OwnCv w5 bx _ L2 := HCV.out.kept hk5 (fun x e => by omega)
          have HK5 := Lib.hid ((HK.out.trans0 HA4.out).new hk5 (fun x e => by have := HK.out.size; omega))
          have HA5 := Lib.hid (HA4.out.new hk5 (fun x e => by omega))
          obtain ⟨G4, c4, he4, hrd5⟩ := hcv5.rd (fun s hs => by
            rcases HSUB.out s hs with rfl | ⟨t, htL, rfl⟩
            · exact HS.out.kept HK5.out (fun _ _ _ _ => id)
            · exact (((HCA.out t htL).rdp).kept HA5.out (fun _ _ _ _ => id)))
          cases he4
          have HRD5 := Lib.hid hrd5
          clear hb5 hcv5 hrd5 hk5
          go_wp2_with (refine wl_load_row rfl 74 _ rfl w1.heap.size rfl #[.int .u8 kk.toNat, .int .i64 nn, .slice G3 L2.length c3] HB5.out Tryz.underlying74 rfl (by kernel_rfl) ?_)
          have hb6 : ∀ s ∈ L2, s.b.length ≤ 5000 := fun s hs => by
            rcases HSUB.out s hs with rfl | ⟨t, htL, rfl⟩
            · exact hcl
            · exact HBL.out t.b (List.mem_map_of_mem htL)
          refine (set_any base g cp l kk nn G3 c3 _ w5 (HO.out.kept HK5.out) HL.out HRD5.out hl3 hb6).mono ?_
          rintro e w6 ⟨hk6, hres⟩
          have HK6 := Lib.hid ((HK5.out.mono (T := fun x => x = g) (fun _ _ h => h.elim)).trans' hk6)
          have HR := Lib.hid hres
          have henc : (encs (L2.map (fun s => s.b))).length = (encs (L.map (fun s => s.b))).length + (cell.length + 2) := by
            have h9 := congrArg (fun x => (encs x).length) (List.take_append_drop i (L.map (fun s => s.b)))
            simp only [encs_app, List.length_append] at h9
            rw [HBS.out, encs_app, encs_cons, List.length_append, List.length_append, enc_len]
            omega
          have HENC := Lib.hid henc
          clear hk6 hres hb6 henc
          rcases HR.out with ⟨hno, rfl, ho6⟩ | ⟨hyes, rfl, ho6⟩
          · have hfull : 506 < (encs (L.map (fun s => s.b))).length + (cell.length + 2) ∨ 255 ≤ L.length := by
              unfold PutOk at hno
              rw [HENC.out, List.length_map, HL2N.out] at hno
              have h4 := HOK.out.nxt
              omega
            have HE5 := Lib.hid (HE.out.trans (if_pos hfull))
            have HO6 := Lib.hid ho6
            clear ho6 HR hno hfull
            go_wp2
            go_ret
            refine ⟨?_, ?_, HK6.out⟩
            · rw [HE5.out]; rfl
            · rw [HE5.out]; exact HO6.out
          · have hfull : ¬ (506 < (encs (L.map (fun s => s.b))).length + (cell.length + 2) ∨ 255 ≤ L.length) := by
              unfold PutOk at hyes
              rw [HENC.out, List.length_map, HL2N.out] at hyes
              omega
            have HE5 := Lib.hid (HE.out.trans (if_neg hfull))
            rw [HBS.out, Int.toNat_natCast] at ho6
            have HO6 := Lib.hid ho6
            clear ho6 HR hyes hfull
            go_wp2
            go_ret
            refine ⟨?_, ?_, HK6.out⟩
            · rw [HE5.out]; rfl
            · rw [HE5.out]; exact HO6.out
        · skip
          go_wp2_with (at_builtin; refine wl_appendC rfl _ _ rfl bx (.slice none 0 0) 0 [] rfl (World.ownsRow_nil _ _ _ _) _ _ _ ((L.take i).map ceVal) (by rw [List.length_map, List.length_take] <;> omega) rfl (HN1.out _ KA.out _ rfl) (one_ce _) (by omega) (Nat.le_of_eq HBX.out) ?_)
          intro v1 w2 ho1 hk1
          have HO1 := Lib.hid (show w2.ownsRow bx 22 1 v1 i ((L.take i).map ceVal) from by simpa using ho1)
          have HK2 := Lib.hid (hk1.mono (T := fun _ => False) (fun x _ e => by simp [Value.ownBlock] at e))
          clear ho1 hk1
          obtain ⟨G1, n1, cc1, hv1⟩ : ∃ G n c, v1 = .slice G n c := by
            rcases HO1.out.2 with ⟨e, -⟩ | ⟨g', c', -, e, -⟩
            · exact ⟨_, _, _, e⟩
            · exact ⟨_, _, _, e⟩
          subst hv1
          have hz2 : bx ≤ w2.heap.size := by rw [HBX.out]; exact HK2.out.size
          have ka2 := (Kept.refl (fun _ => False) w2).alloc (.cells #[.slice CA cell.length cc] 22)
          have KA2 := Lib.hid ka2
          have HO1a := Lib.hid (ownsRow_keep HO1.out ka2 (fun _ _ => id))
          have hz2a : bx ≤ (w2.alloc (.cells #[.slice CA cell.length cc] 22)).heap.size := Nat.le_trans hz2 ka2.size
          clear ka2
          go_wp2_with (at_builtin; refine wl_appendC rfl _ _ rfl bx (.slice G1 n1 cc1) i ((L.take i).map ceVal) rfl HO1a.out _ 1 1 [.slice CA cell.length cc] rfl rfl (fun j u hu => ⟨_, 0, rfl, cell_blk (heap_alloc_new w2 _) (by simpa using hu)⟩) (by simp [Value.oneCell']) (by omega) hz2a ?_)
          intro v2 w3 ho2 hk2
          have HK3 := Lib.hid ((HK2.out.trans0 KA2.out).new hk2 (fun x e => by
            rcases HO1.out.2 with ⟨e', -⟩ | ⟨g', c', -, e', hb', -⟩
            · rw [e'] at e; cases e
            · rw [e'] at e; cases e; rw [← HBX.out]; exact hb'))
          have HO2 := Lib.hid (show w3.ownsRow bx 22 1 v2 (i + 1) ((L.take i).map ceVal ++ [.slice CA cell.length cc]) from by simpa [List.map_take] using ho2)
          clear ho2 hk2
          obtain ⟨G2, n2, cc2, hv2⟩ : ∃ G n c, v2 = .slice G n c := by
            rcases HO2.out.2 with ⟨e, -⟩ | ⟨g', c', -, e, -⟩
            · exact ⟨_, _, _, e⟩
            · exact ⟨_, _, _, e⟩
          subst hv2
          have hz3 : bx ≤ w3.heap.size := by rw [HBX.out]; exact HK3.out.size
          have HX3 := Lib.hid (HK3.out.heap HX.out id)
          have c23 := cell_blk HX3.out (i := 2) rfl
          have HA3 := Lib.hid (KA.out.trans0 HK3.out)
          go_wp2_with (at_builtin; refine wl_appendC rfl _ _ rfl bx (.slice G2 n2 cc2) (i + 1) ((L.take i).map ceVal ++ [.slice CA cell.length cc]) rfl HO2.out _ _ _ ((L.drop i).map ceVal) (by rw [List.length_map, List.length_drop] <;> omega) rfl (HN2.out _ HA3.out _ (by first | (intro g' e h; cases e; rfl) | (intro g' e h; exfalso; omega) | (intro g' e; cases e))) (one_ce _) (by omega) hz3 ?_)
          intro v3 w4 ho3 hk3
          have HK4 := Lib.hid (HK3.out.new hk3 (fun x e => by
            rcases HO2.out.2 with ⟨e', -⟩ | ⟨g', c', -, e', hb', -⟩
            · rw [e'] at e; cases e
            · rw [e'] at e; cases e; rw [← HBX.out]; exact hb'))
          have hcv : OwnCv w4 bx v3 L2 := by
            unfold OwnCv
            rw [HCVL.out, HL2N.out]
            first
              | (rw [show L.length + 1 = i + 1 + (L.length - i) by omega]; simpa [List.map_take, List.map_drop] using ho3)
              | (rw [show L.length + 1 = i + 1 by omega]; simpa [List.map_take, List.map_drop] using ho3)
          have HA4 := Lib.hid (KA.out.trans0 HK4.out)
          have hra : RdAll w4 L2 := fun s hs => by
            rcases HSUB.out s hs with rfl | ⟨t, htL, rfl⟩
            · exact HS.out.kept (HK.out.trans0 HA4.out) (fun _ _ _ _ => id)
            · exact (((HCA.out t htL).rdp).kept HA4.out (fun _ _ _ _ => id))
          obtain ⟨G3, c3, rfl, -⟩ := hcv.rd hra
          have HX4 := Lib.hid (HK4.out.heap HX.out id)
          have HCV := Lib.hid hcv
          have HRA := Lib.hid hra
          clear ho3 hk3 hcv hra
          go_wp2_with (refine wl_store1 rfl 28 _ _ rfl w1.heap.size 2 (.slice G3 L2.length c3) _ rfl rfl HX4.out (by kernel_rfl) (by simp) rfl ?_)
          intro w5 hb5 hk5
          have HB5 := Lib.hid (show w5.heap[w1.heap.size]? = some (.cells #[.int .u8 kk.toNat, .int .i64 nn, .slice G3 L2.length c3] 74 (0, 0)) from by simpa using hb5)
          have hcv5 : OwnCv w5 bx _ L2 := HCV.out.kept hk5 (fun x e => by omega)
          have HK5 := Lib.hid ((HK.out.trans0 HA4.out).new hk5 (fun x e => by have := HK.out.size; omega))
          have HA5 := Lib.hid (HA4.out.new hk5 (fun x e => by omega))
          obtain ⟨G4, c4, he4, hrd5⟩ := hcv5.rd (fun s hs => by
            rcases HSUB.out s hs with rfl | ⟨t, htL, rfl⟩
            · exact HS.out.kept HK5.out (fun _ _ _ _ => id)
            · exact (((HCA.out t htL).rdp).kept HA5.out (fun _ _ _ _ => id)))
          cases he4
          have HRD5 := Lib.hid hrd5
          clear hb5 hcv5 hrd5 hk5
          go_wp2_with (refine wl_load_row rfl 74 _ rfl w1.heap.size rfl #[.int .u8 kk.toNat, .int .i64 nn, .slice G3 L2.length c3] HB5.out Tryz.underlying74 rfl (by kernel_rfl) ?_)
          have hb6 : ∀ s ∈ L2, s.b.length ≤ 5000 := fun s hs => by
            rcases HSUB.out s hs with rfl | ⟨t, htL, rfl⟩
            · exact hcl
            · exact HBL.out t.b (List.mem_map_of_mem htL)
          refine (set_any base g cp l kk nn G3 c3 _ w5 (HO.out.kept HK5.out) HL.out HRD5.out hl3 hb6).mono ?_
          rintro e w6 ⟨hk6, hres⟩
          have HK6 := Lib.hid ((HK5.out.mono (T := fun x => x = g) (fun _ _ h => h.elim)).trans' hk6)
          have HR := Lib.hid hres
          have henc : (encs (L2.map (fun s => s.b))).length = (encs (L.map (fun s => s.b))).length + (cell.length + 2) := by
            have h9 := congrArg (fun x => (encs x).length) (List.take_append_drop i (L.map (fun s => s.b)))
            simp only [encs_app, List.length_append] at h9
            rw [HBS.out, encs_app, encs_cons, List.length_append, List.length_append, enc_len]
            omega
          have HENC := Lib.hid henc
          clear hk6 hres hb6 henc
          rcases HR.out with ⟨hno, rfl, ho6⟩ | ⟨hyes, rfl, ho6⟩
          · have hfull : 506 < (encs (L.map (fun s => s.b))).length + (cell.length + 2) ∨ 255 ≤ L.length := by
              unfold PutOk at hno
              rw [HENC.out, List.length_map, HL2N.out] at hno
              have h4 := HOK.out.nxt
              omega
            have HE5 := Lib.hid (HE.out.trans (if_pos hfull))
            have HO6 := Lib.hid ho6
            clear ho6 HR hno hfull
            go_wp2
            go_ret
            refine ⟨?_, ?_, HK6.out⟩
            · rw [HE5.out]; rfl
            · rw [HE5.out]; exact HO6.out
          · have hfull : ¬ (506 < (encs (L.map (fun s => s.b))).length + (cell.length + 2) ∨ 255 ≤ L.length) := by
              unfold PutOk at hyes
              rw [HENC.out, List.length_map, HL2N.out] at hyes
              omega
            have HE5 := Lib.hid (HE.out.trans (if_neg hfull))
            rw [HBS.out, Int.toNat_natCast] at ho6
            have HO6 := Lib.hid ho6
            clear ho6 HR hyes hfull
            go_wp2
            go_ret
            refine ⟨?_, ?_, HK6.out⟩
            · rw [HE5.out]; rfl
            · rw [HE5.out]; exact HO6.out
set_option maxRecDepth 100000 in
theorem rinsert_any (base g cp : Nat) (l : Bytes) (s : Int) (CA : Option Addr) (cc : Nat) (cell : Bytes) (w : World) (ho : OwnB w base g cp l) (hS : RdB w CA cell) (hcl : cell.length ≤ 5000) :
    Calls Tryz.prog 48 #[.slice (some ⟨g, 0, none⟩) l.length cp, .int .i64 s, .slice CA cell.length cc] w fun e w' => e = .returned (.int .i64 (insertM l s cell).1) ∧ OwnB w' base g cp (insertM l s cell).2 ∧ Kept (fun x => x = g) w w' := by
  by_cases hl : l.length = 512
  · rw [hl]; exact rinsert512 base g cp l s CA cc cell w ho hl hS hcl
  · have HF := Lib.hid (ofNone (some ⟨g, 0, none⟩) cp l.length w hl)
    have HE := Lib.hid (insertM_none (s := s) (c := cell) (endM_zero_len hl))
    have HO := Lib.hid ho
    clear ho hl hS
    go_enter Tryz.func48, Tryz.ntmps48
    go_wp2_with fail
    refine HF.out.mono ?_
    rintro e w1 ⟨hk, rfl⟩
    have HK := Lib.hid hk
    unfold zPage
    clear hk
    go_wp2
    go_ret
    exact ⟨by rw [HE.out]; rfl, by rw [HE.out]; exact HO.out.kept (HK.out.alloc _), (HK.out.alloc _).mono (fun _ _ h => h.elim)⟩
end Go.Proofs.YtndflnedkpmpfaaGreatDoor
