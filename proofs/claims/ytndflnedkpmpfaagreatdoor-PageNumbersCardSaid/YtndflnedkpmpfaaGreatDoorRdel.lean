/-
  No statement is proved here: rows of cells appended; the contract of the document's Delete.
-/
import Derived.Test.YtndflnedkpmpfaaGreatDoorSet
namespace Go.Proofs.YtndflnedkpmpfaaGreatDoor
open Go.RowKit

/-- 'append(l, m...)' of rows of bytes, onto nil or a row of the call's own; m may be of none. -/
theorem wl_appendC {w : World} {ops : Array Oper} {rest : List Oper} {o : Oper} {a : Act} {Q : Exit → Act → World → Prop} (hgd : o.guard = none) (s x : Operand)
    (ho : o.op = .call { callee := .builtin .append, args := #[s, x], argTypes := #[28, 28] }) (base : Nat) (v : Value) (n : Nat) (xs : List Value) (hs : a.eval s = v) (hown : w.ownsRow base 22 1 v n xs)
    (A : Option Addr) (m c : Nat) (news : List Value) (hl : news.length = m) (hx : a.eval x = .slice A m c) (hnews : ∀ j u, news[j]? = some u → ∃ b off, A = some ⟨b, off, none⟩ ∧ w.cell? ⟨b, off + j, none⟩ = some u) (h1 : ∀ u ∈ news, u.oneCell' = true)
    (h63 : n + m ≤ 1000000) (hbase : base ≤ w.heap.size)
    (k : ∀ v' w', w'.ownsRow base 22 1 v' (n + m) (xs ++ news) → Kept (fun x => v.ownBlock = some x) w w' → wpList Tryz.prog ops Q rest (a.put o.dst v') w') : wpList Tryz.prog ops Q (o :: rest) a w := by
  have e63 : maxLen = 9223372036854775807 := rfl
  by_cases h0 : m = 0
  · subst h0
    have hn : news = [] := List.eq_nil_of_length_eq_zero hl
    subst hn
    refine wl_append0 hgd s x 28 ho base 22 Tryz.underlying28 infoCs v n xs hs hown A c hx ?_
    exact k v w (by simpa using hown) (Kept.refl _ _)
  · have hp : 0 < news.length := by omega
    obtain ⟨b, off, rfl, -⟩ := hnews 0 news[0] (List.getElem?_eq_getElem hp)
    refine wl_append hgd s x 28 ho base 22 Tryz.underlying28 infoCs rfl (by omega) v n xs hs hown b off m c news hx (by rw [hl, Nat.mul_one]) (fun j u hu => by
      obtain ⟨b', off', e, hc⟩ := hnews j u hu
      cases e
      exact hc) h1 (by omega) (by omega) (by omega) hbase ?_
    intro g cap w' ho' hk' _ _
    exact k _ w' ho' hk'
/-- A row of cells of any origin, of the call's own. -/
def OwnCv (w : World) (base : Nat) (v : Value) (L : List CvD) : Prop := w.ownsRow base 22 1 v L.length (L.map cvVal)
def RdAll (w : World) (L : List CvD) : Prop := ∀ s ∈ L, RdB w s.A s.b
theorem RdAll.kept {w w' : World} {L : List CvD} (h : RdAll w L) (hk : Kept (fun _ => False) w w') : RdAll w' L := fun s hs => (h s hs).kept hk (fun _ _ _ _ => id)
theorem OwnCv.kept {S : Nat → Prop} {w w' : World} {base : Nat} {v : Value} {L : List CvD} (h : OwnCv w base v L) (hk : Kept S w w') (hS : ∀ x, S x → x < base) : OwnCv w' base v L := by
  rcases h with ⟨h0, h | ⟨g, cap, cur, hv, hb, hh, r⟩⟩
  · exact ⟨h0, .inl h⟩
  · exact ⟨h0, .inr ⟨g, cap, cur, hv, hb, hk.heap hh (fun e => by have := hS g e; omega), r⟩⟩
theorem OwnCv.rd {w : World} {base : Nat} {v : Value} {L : List CvD} (h : OwnCv w base v L) (hc : RdAll w L) : ∃ G cap, v = .slice G L.length cap ∧ RdCs w G L := by
  obtain ⟨h1, ⟨h, hl⟩ | ⟨g, cap, cur, hv, hg, hh, hle, -, hcc, ht⟩⟩ := h
  · have h0 : L = [] := List.eq_nil_of_length_eq_zero hl
    subst h0
    exact ⟨_, _, h, fun k s hk => by simp at hk⟩
  · refine ⟨_, cap, hv, fun k s hk => ⟨g, 0, rfl, cell_blk hh ?_, hc s (List.mem_of_getElem? hk)⟩⟩
    have hlt := (List.getElem?_eq_some_iff.1 hk).1
    have e : (L.map cvVal)[k]? = some (cvVal s) := by rw [List.getElem?_map, hk]; rfl
    rw [← ht, List.getElem?_take] at e
    rw [Nat.zero_add]
    split at e
    · rwa [Array.getElem?_toList] at e
    · simp at e
theorem OwnCs.full {w : World} {base : Nat} {v : Value} {L : List CeD} (h : OwnCs w base v L) (h0 : L ≠ []) : ∃ g cap, v = .slice (some ⟨g, 0, none⟩) L.length cap ∧ base ≤ g ∧ g < w.heap.size ∧ L.length ≤ cap ∧ cap ≤ 9223372036854775807 ∧ ∀ k s, L[k]? = some s → w.cell? ⟨g, k, none⟩ = some (ceVal s) := by
  obtain ⟨G, cap, hv, hV⟩ := h.view
  obtain ⟨h1, ⟨h, hl⟩ | ⟨g, cap, cur, hv', hg, hh, hle, hm, -⟩⟩ := h
  · exact absurd (List.eq_nil_of_length_eq_zero hl) h0
  · rw [hv'] at hv
    cases hv
    refine ⟨g, cap, hv', hg, heap_lt hh, hle, hm, fun k s hk => ?_⟩
    obtain ⟨g', e, -, hc⟩ := hV k s hk
    cases e
    exact hc
theorem one_ce (L : List CeD) : ∀ u ∈ L.map ceVal, u.oneCell' = true := fun u hu => by
  obtain ⟨s, -, rfl⟩ := List.mem_map.1 hu
  rfl
theorem OwnB.lt' {w : World} {B g c : Nat} {l : Bytes} (h : OwnB w B g c l) : g < w.heap.size := by
  obtain ⟨cur, -, hh, -⟩ := h.form
  exact heap_lt hh
theorem encs_del {cs : List Bytes} {i : Nat} (h : i < cs.length) : (encs (cs.take i ++ cs.drop (i + 1))).length ≤ (encs cs).length := by
  have h1 := congrArg List.length (encs_split h)
  rw [List.length_append, List.length_append] at h1
  rw [encs_app, List.length_append]
  omega
set_option maxRecDepth 100000 in
set_option maxHeartbeats 1000000 in
theorem rdelete512 (base g cp : Nat) (l : Bytes) (s : Int) (w : World) (ho : OwnB w base g cp l) (hl : l.length = 512) :
    Calls Tryz.prog 49 #[.slice (some ⟨g, 0, none⟩) 512 cp, .int .i64 s] w fun e w' => e = .returned (.bool (deleteM l s).1) ∧ OwnB w' base g cp (deleteM l s).2 ∧ Kept (fun x => x = g) w w' := by
  have hcp : 512 ≤ cp ∧ cp ≤ 9223372036854775807 := by
    obtain ⟨cur, -, -, h1, h2, -⟩ := ho.form
    exact ⟨by omega, h2⟩
  have HF := Lib.hid (of512 (some ⟨g, 0, none⟩) cp l w ho.rdp hl hcp.1 hcp.2)
  have HO := Lib.hid ho
  have HL := Lib.hid hl
  clear ho hl hcp
  go_enter Tryz.func49, Tryz.ntmps49
  go_wp2_with fail
  refine HF.out.mono ?_
  rintro e w1 ⟨hk, ⟨he, rfl⟩ | ⟨he, v, L, rfl, hcs, hca, hm⟩⟩
  · have HE := Lib.hid (show deleteM l s = (false, l) from by unfold deleteM countM; rw [if_pos he, if_pos (by omega)])
    have HK := Lib.hid hk
    unfold zPage
    clear he hk
    by_cases h0 : s < 0
    · go_wp2
      go_ret
      exact ⟨by rw [HE.out]; rfl, by rw [HE.out]; exact HO.out.kept (HK.out.alloc _), (HK.out.alloc _).mono (fun _ _ h => h.elim)⟩
    · have h1 : (0 : Int) ≤ s := by omega
      go_wp2
      go_ret
      exact ⟨by rw [HE.out]; rfl, by rw [HE.out]; exact HO.out.kept (HK.out.alloc _), (HK.out.alloc _).mono (fun _ _ h => h.elim)⟩
  · obtain ⟨hpg, hok⟩ := page_eq he
    have hE : deleteM l s = if s < 0 ∨ ((cellsM l (bAt l 1).toNat).length : Int) ≤ s then (false, l) else (true, Pg (bAt l 0) (nextM l) ((cellsM l (bAt l 1).toNat).take s.toNat ++ (cellsM l (bAt l 1).toNat).drop (s.toNat + 1))) := by
      conv => lhs; rw [hpg]
      rw [deleteM_Pg hok, ← hpg]
    have hbl : ∀ b ∈ cellsM l (bAt l 1).toNat, b.length ≤ 5000 := fun b hb => cells_short HL.out hb
    rw [← hm] at hE hok hbl
    rw [List.length_map] at hE
    have hlc := hok.cnt
    rw [List.length_map] at hlc
    have HK := Lib.hid hk
    generalize bAt l 0 = kk at *
    generalize nextM l = nn at *
    by_cases hs : s < 0 ∨ (L.length : Int) ≤ s
    · have HE := Lib.hid (hE.trans (if_pos hs))
      obtain ⟨G, cap, rfl, -⟩ := hcs.view
      clear hE he hk hcs hca hm hpg hok hbl
      by_cases h0 : s < 0
      · clear hs
        go_wp2
        go_ret
        exact ⟨by rw [HE.out]; rfl, by rw [HE.out]; exact HO.out.kept (HK.out.alloc _), (HK.out.alloc _).mono (fun _ _ h => h.elim)⟩
      · have h1 : (L.length : Int) ≤ s := by omega
        clear hs
        go_wp2
        go_ret
        exact ⟨by rw [HE.out]; rfl, by rw [HE.out]; exact HO.out.kept (HK.out.alloc _), (HK.out.alloc _).mono (fun _ _ h => h.elim)⟩
    · have hE2 := hE.trans (if_neg hs)
      obtain ⟨i, rfl⟩ : ∃ i : Nat, s = i := ⟨s.toNat, by omega⟩
      rw [Int.toNat_natCast] at hE2
      have hi : i < L.length := by omega
      obtain ⟨gc, cap, rfl, hgc1, hgc2, hcap, hcap2, hcell⟩ := hcs.full (by intro e; subst e; simp at hi)
      have HE := Lib.hid hE2
      have HCL := Lib.hid hcell
      have HCA := Lib.hid hca
      have HOK := Lib.hid hok
      have HBL := Lib.hid hbl
      clear hE hE2 he hk hcs hca hm hpg hok hbl hcell hs
      have ka := (Kept.refl (fun _ => False) w1).alloc (.cells #[.int .u8 kk.toNat, .int .i64 nn, .slice (some ⟨gc, 0, none⟩) L.length cap] 74)
      have HX := Lib.hid (heap_alloc_new w1 (.cells #[.int .u8 kk.toNat, .int .i64 nn, .slice (some ⟨gc, 0, none⟩) L.length cap] 74))
      have KA := Lib.hid ka
      obtain ⟨bx, hbx⟩ : ∃ bx, bx = (w1.alloc (.cells #[.int .u8 kk.toNat, .int .i64 nn, .slice (some ⟨gc, 0, none⟩) L.length cap] 74)).heap.size := ⟨_, rfl⟩
      have zA : w1.heap.size < bx := by rw [hbx]; simp
      have HBX := Lib.hid hbx
      clear hbx
      have h0 : ¬ (i : Int) < 0 := by omega
      have h1 : ¬ (L.length : Int) ≤ (i : Int) := by omega
      have h2 : (0 : Int) ≤ (i : Int) := by omega
      have h3 : (i : Int) ≤ (cap : Int) := by omega
      obtain ⟨i2, hi2⟩ : ∃ i2, i2 = i + 1 := ⟨_, rfl⟩
      have wi2 : IntKind.i64.wrap ((i : Int) + 1) = (i2 : Int) := by rw [hi2, IntKind.wrap_i64] <;> omega
      have h4 : (i2 : Int) ≤ (L.length : Int) := by omega
      have h5 : i2 ≤ L.length := by omega
      have h6 : (0 : Int) ≤ (i2 : Int) := by omega
      have HI2 := Lib.hid hi2
      have HC1 := Lib.hid (fun (wz : World) (hz : Kept (fun _ => False) w1 wz) (k : Nat) (s : CeD) (hs : L[k]? = some s) => (World.cell?_of_block (hz.block gc hgc2 id)).trans (HCL.out k s hs))
      clear ka hi2
      go_wp2_with (at_builtin; refine wl_appendC rfl _ _ rfl bx (.slice none 0 0) 0 [] rfl (World.ownsRow_nil _ _ _ _) (some ⟨gc, 0, none⟩) i cap ((L.take i).map ceVal) (by rw [List.length_map, List.length_take]; omega) rfl (fun j u hu => by
        rw [List.getElem?_map] at hu
        cases hL : (L.take i)[j]? with
        | none => rw [hL] at hu; simp at hu
        | some t =>
          rw [hL] at hu
          obtain rfl : ceVal t = u := by simpa using hu
          rw [List.getElem?_take] at hL
          split at hL
          · exact ⟨gc, 0, rfl, by rw [Nat.zero_add]; exact HC1.out _ KA.out j t hL⟩
          · simp at hL) (one_ce _) (by omega) (Nat.le_of_eq HBX.out) ?_)
      intro v1 w2 ho1 hk1
      have HO1 := Lib.hid (show w2.ownsRow bx 22 1 v1 i ((L.take i).map ceVal) from by simpa using ho1)
      have HK2 := Lib.hid (hk1.mono (T := fun _ => False) (fun x _ e => by simp [Value.ownBlock] at e))
      have HX2 := Lib.hid (HK2.out.heap HX.out id)
      have c22 := cell_blk HX2.out (i := 2) rfl
      clear ho1 hk1
      obtain ⟨G1, n1, cc1, hv1⟩ : ∃ G n c, v1 = .slice G n c := by
        rcases HO1.out.2 with ⟨e, -⟩ | ⟨g', c', -, e, -⟩
        · exact ⟨_, _, _, e⟩
        · exact ⟨_, _, _, e⟩
      subst hv1
      have HZ2 := Lib.hid (show bx ≤ w2.heap.size from by rw [HBX.out]; exact HK2.out.size)
      have hn : ∀ A : Option Addr, (¬ cap = i2 → A = some ⟨gc, i2, none⟩) → ∀ j u, ((L.drop i2).map ceVal)[j]? = some u → ∃ b off, A = some ⟨b, off, none⟩ ∧ w2.cell? ⟨b, off + j, none⟩ = some u := fun A hA j u hu => by
        rw [List.getElem?_map] at hu
        cases hL : (L.drop i2)[j]? with
        | none => rw [hL] at hu; simp at hu
        | some t =>
          rw [hL] at hu
          obtain rfl : ceVal t = u := by simpa using hu
          rw [List.getElem?_drop] at hL
          have := (List.getElem?_eq_some_iff.1 hL).1
          exact ⟨gc, i2, hA (by omega), HC1.out _ (KA.out.trans0 HK2.out) _ t hL⟩
      have HN := Lib.hid hn
      clear hn
      by_cases h7 : cap = i2
      · have h8 := h7.symm
        clear h7
        subst h8
        go_wp2_with (at_builtin; refine wl_appendC rfl _ _ rfl bx (.slice G1 n1 cc1) i ((L.take i).map ceVal) rfl HO1.out _ _ _ ((L.drop i2).map ceVal) (by rw [List.length_map, List.length_drop] <;> omega) rfl (HN.out _ (by first | exact fun _ => rfl | exact fun h => (h rfl).elim | exact fun h => (h trivial).elim)) (one_ce _) (by omega) HZ2.out ?_)
        intro v2 w3 ho2 hk2
        have HK3 := Lib.hid (HK2.out.new hk2 (fun x e => by
          rcases HO1.out.2 with ⟨e', -⟩ | ⟨g', c', -, e', hb', -⟩
          · rw [e'] at e; cases e
          · rw [e'] at e; cases e; rw [← HBX.out]; exact hb'))
        have hcv : OwnCv w3 bx v2 ((L.take i ++ L.drop i2).map toCv) := by
          unfold OwnCv
          rw [List.length_map, List.length_append, List.length_take, List.length_drop, Nat.min_eq_left (by omega), List.map_map, show cvVal ∘ toCv = ceVal from rfl, List.map_append]
          first
            | simpa [List.map_take, List.map_drop] using ho2
            | (rw [show L.length - i2 = 0 by omega]; simpa [List.map_take, List.map_drop] using ho2)
        obtain ⟨L2, hL2⟩ : ∃ L2, L2 = (L.take i ++ L.drop i2).map toCv := ⟨_, rfl⟩
        rw [← hL2] at hcv
        have HL2 := Lib.hid hL2
        have hl2 : L2.length ≤ 1000 := by rw [hL2, List.length_map, List.length_append, List.length_take, List.length_drop]; omega
        have hsub : ∀ s ∈ L2, ∃ t ∈ L, s = toCv t := fun s hs => by
          rw [hL2] at hs
          obtain ⟨t, ht, rfl⟩ := List.mem_map.1 hs
          refine ⟨t, ?_, rfl⟩
          rcases List.mem_append.1 ht with h | h
          · exact List.mem_of_mem_take h
          · exact List.mem_of_mem_drop h
        have HSUB := Lib.hid hsub
        clear hL2 hsub
        have HA3 := Lib.hid (KA.out.trans0 HK3.out)
        obtain ⟨G2, c2, rfl, hrd⟩ := hcv.rd (fun s hs => by
          obtain ⟨t, htL, rfl⟩ := HSUB.out s hs
          exact (((HCA.out t htL).rdp).kept HA3.out (fun _ _ _ _ => id)))
        have HX3 := Lib.hid (HK3.out.heap HX.out id)
        have HCV := Lib.hid hcv
        clear ho2 hk2 hcv hrd
        go_wp2_with (refine wl_store1 rfl 28 _ _ rfl w1.heap.size 2 (.slice G2 L2.length c2) _ rfl rfl HX3.out (by kernel_rfl) (by simp) rfl ?_)
        intro w4 hb4 hk4
        have HB4 := Lib.hid (show w4.heap[w1.heap.size]? = some (.cells #[.int .u8 kk.toNat, .int .i64 nn, .slice G2 L2.length c2] 74 (0, 0)) from by simpa using hb4)
        have hcv4 : OwnCv w4 bx _ L2 := HCV.out.kept hk4 (fun x e => by omega)
        obtain ⟨G3, c3, he3, hrd4⟩ := hcv4.rd (fun s hs => by
          obtain ⟨t, htL, rfl⟩ := HSUB.out s hs
          have hlt := (HCA.out t htL).lt'
          exact ((((HCA.out t htL).rdp).kept HA3.out (fun _ _ _ _ => id))).kept hk4 (fun b off e _ hb => by
            cases e
            omega))
        cases he3
        have HRD4 := Lib.hid hrd4
        have HK4 := Lib.hid ((HK.out.trans0 HA3.out).new hk4 (fun x e => by have := HK.out.size; omega))
        clear hb4 hcv4 hrd4 hk4
        go_wp2_with (refine wl_load_row rfl 74 _ rfl w1.heap.size rfl #[.int .u8 kk.toNat, .int .i64 nn, .slice G2 L2.length c2] HB4.out Tryz.underlying74 rfl (by kernel_rfl) ?_)
        have hbs : L2.map (fun s => s.b) = (L.map (fun s => s.b)).take i ++ (L.map (fun s => s.b)).drop (i + 1) := by
          rw [HL2.out, toCv_b, List.map_append, List.map_take, List.map_drop, HI2.out]
        have HBS := Lib.hid hbs
        have hb5 : ∀ s ∈ L2, s.b.length ≤ 5000 := fun s hs => by
          obtain ⟨t, htL, rfl⟩ := HSUB.out s hs
          exact HBL.out t.b (List.mem_map_of_mem htL)
        refine (set_any base g cp l kk nn G2 c2 _ w4 (HO.out.kept HK4.out) HL.out HRD4.out hl2 hb5).mono ?_
        rintro e w5 ⟨hk5, hres⟩
        have HK5 := Lib.hid ((HK4.out.mono (T := fun x => x = g) (fun _ _ h => h.elim)).trans' hk5)
        have HR := Lib.hid hres
        clear hk5 hres hbs hb5
        rcases HR.out with ⟨hno, -, -⟩ | ⟨-, rfl, ho5⟩
        · exfalso
          apply hno
          rw [HBS.out]
          have h1 := encs_del (cs := L.map (fun s => s.b)) (i := i) (by rw [List.length_map]; exact hi)
          have h2 := HOK.out.room
          have h3 := HOK.out.cnt
          have h4 := HOK.out.nxt
          refine ⟨by omega, ?_, by omega, by omega⟩
          rw [List.length_append, List.length_take, List.length_drop]; omega
        · have HO5 := Lib.hid ho5
          clear ho5 HR
          go_wp2
          go_ret
          have hpp := HO5.out
          rw [HBS.out, Int.toNat_natCast] at hpp
          refine ⟨?_, ?_, HK5.out⟩
          · rw [HE.out]; rfl
          · rw [HE.out]; exact hpp
      · skip
        go_wp2_with (at_builtin; refine wl_appendC rfl _ _ rfl bx (.slice G1 n1 cc1) i ((L.take i).map ceVal) rfl HO1.out _ _ _ ((L.drop i2).map ceVal) (by rw [List.length_map, List.length_drop] <;> omega) rfl (HN.out _ (by first | exact fun _ => rfl | exact fun h => (h rfl).elim | exact fun h => (h trivial).elim)) (one_ce _) (by omega) HZ2.out ?_)
        intro v2 w3 ho2 hk2
        have HK3 := Lib.hid (HK2.out.new hk2 (fun x e => by
          rcases HO1.out.2 with ⟨e', -⟩ | ⟨g', c', -, e', hb', -⟩
          · rw [e'] at e; cases e
          · rw [e'] at e; cases e; rw [← HBX.out]; exact hb'))
        have hcv : OwnCv w3 bx v2 ((L.take i ++ L.drop i2).map toCv) := by
          unfold OwnCv
          rw [List.length_map, List.length_append, List.length_take, List.length_drop, Nat.min_eq_left (by omega), List.map_map, show cvVal ∘ toCv = ceVal from rfl, List.map_append]
          first
            | simpa [List.map_take, List.map_drop] using ho2
            | (rw [show L.length - i2 = 0 by omega]; simpa [List.map_take, List.map_drop] using ho2)
        obtain ⟨L2, hL2⟩ : ∃ L2, L2 = (L.take i ++ L.drop i2).map toCv := ⟨_, rfl⟩
        rw [← hL2] at hcv
        have HL2 := Lib.hid hL2
        have hl2 : L2.length ≤ 1000 := by rw [hL2, List.length_map, List.length_append, List.length_take, List.length_drop]; omega
        have hsub : ∀ s ∈ L2, ∃ t ∈ L, s = toCv t := fun s hs => by
          rw [hL2] at hs
          obtain ⟨t, ht, rfl⟩ := List.mem_map.1 hs
          refine ⟨t, ?_, rfl⟩
          rcases List.mem_append.1 ht with h | h
          · exact List.mem_of_mem_take h
          · exact List.mem_of_mem_drop h
        have HSUB := Lib.hid hsub
        clear hL2 hsub
        have HA3 := Lib.hid (KA.out.trans0 HK3.out)
        obtain ⟨G2, c2, rfl, hrd⟩ := hcv.rd (fun s hs => by
          obtain ⟨t, htL, rfl⟩ := HSUB.out s hs
          exact (((HCA.out t htL).rdp).kept HA3.out (fun _ _ _ _ => id)))
        have HX3 := Lib.hid (HK3.out.heap HX.out id)
        have HCV := Lib.hid hcv
        clear ho2 hk2 hcv hrd
        go_wp2_with (refine wl_store1 rfl 28 _ _ rfl w1.heap.size 2 (.slice G2 L2.length c2) _ rfl rfl HX3.out (by kernel_rfl) (by simp) rfl ?_)
        intro w4 hb4 hk4
        have HB4 := Lib.hid (show w4.heap[w1.heap.size]? = some (.cells #[.int .u8 kk.toNat, .int .i64 nn, .slice G2 L2.length c2] 74 (0, 0)) from by simpa using hb4)
        have hcv4 : OwnCv w4 bx _ L2 := HCV.out.kept hk4 (fun x e => by omega)
        obtain ⟨G3, c3, he3, hrd4⟩ := hcv4.rd (fun s hs => by
          obtain ⟨t, htL, rfl⟩ := HSUB.out s hs
          have hlt := (HCA.out t htL).lt'
          exact ((((HCA.out t htL).rdp).kept HA3.out (fun _ _ _ _ => id))).kept hk4 (fun b off e _ hb => by
            cases e
            omega))
        cases he3
        have HRD4 := Lib.hid hrd4
        have HK4 := Lib.hid ((HK.out.trans0 HA3.out).new hk4 (fun x e => by have := HK.out.size; omega))
        clear hb4 hcv4 hrd4 hk4
        go_wp2_with (refine wl_load_row rfl 74 _ rfl w1.heap.size rfl #[.int .u8 kk.toNat, .int .i64 nn, .slice G2 L2.length c2] HB4.out Tryz.underlying74 rfl (by kernel_rfl) ?_)
        have hbs : L2.map (fun s => s.b) = (L.map (fun s => s.b)).take i ++ (L.map (fun s => s.b)).drop (i + 1) := by
          rw [HL2.out, toCv_b, List.map_append, List.map_take, List.map_drop, HI2.out]
        have HBS := Lib.hid hbs
        have hb5 : ∀ s ∈ L2, s.b.length ≤ 5000 := fun s hs => by
          obtain ⟨t, htL, rfl⟩ := HSUB.out s hs
          exact HBL.out t.b (List.mem_map_of_mem htL)
        refine (set_any base g cp l kk nn G2 c2 _ w4 (HO.out.kept HK4.out) HL.out HRD4.out hl2 hb5).mono ?_
        rintro e w5 ⟨hk5, hres⟩
        have HK5 := Lib.hid ((HK4.out.mono (T := fun x => x = g) (fun _ _ h => h.elim)).trans' hk5)
        have HR := Lib.hid hres
        clear hk5 hres hbs hb5
        rcases HR.out with ⟨hno, -, -⟩ | ⟨-, rfl, ho5⟩
        · exfalso
          apply hno
          rw [HBS.out]
          have h1 := encs_del (cs := L.map (fun s => s.b)) (i := i) (by rw [List.length_map]; exact hi)
          have h2 := HOK.out.room
          have h3 := HOK.out.cnt
          have h4 := HOK.out.nxt
          refine ⟨by omega, ?_, by omega, by omega⟩
          rw [List.length_append, List.length_take, List.length_drop]; omega
        · have HO5 := Lib.hid ho5
          clear ho5 HR
          go_wp2
          go_ret
          have hpp := HO5.out
          rw [HBS.out, Int.toNat_natCast] at hpp
          refine ⟨?_, ?_, HK5.out⟩
          · rw [HE.out]; rfl
          · rw [HE.out]; exact hpp
theorem deleteM_none {l : Bytes} {s : Int} (h : endM l = 0) : deleteM l s = (false, l) := by unfold deleteM countM; rw [if_pos h, if_pos (by omega)]
set_option maxRecDepth 100000 in
theorem rdelete_any (base g cp : Nat) (l : Bytes) (s : Int) (w : World) (ho : OwnB w base g cp l) :
    Calls Tryz.prog 49 #[.slice (some ⟨g, 0, none⟩) l.length cp, .int .i64 s] w fun e w' => e = .returned (.bool (deleteM l s).1) ∧ OwnB w' base g cp (deleteM l s).2 ∧ Kept (fun x => x = g) w w' := by
  by_cases hl : l.length = 512
  · rw [hl]; exact rdelete512 base g cp l s w ho hl
  · have HF := Lib.hid (ofNone (some ⟨g, 0, none⟩) cp l.length w hl)
    have HE := Lib.hid (deleteM_none (s := s) (endM_zero_len hl))
    have HO := Lib.hid ho
    clear ho hl
    go_enter Tryz.func49, Tryz.ntmps49
    go_wp2_with fail
    refine HF.out.mono ?_
    rintro e w1 ⟨hk, rfl⟩
    have HK := Lib.hid hk
    unfold zPage
    clear hk
    by_cases h0 : s < 0
    · go_wp2
      go_ret
      exact ⟨by rw [HE.out]; rfl, by rw [HE.out]; exact HO.out.kept (HK.out.alloc _), (HK.out.alloc _).mono (fun _ _ h => h.elim)⟩
    · have h1 : (0 : Int) ≤ s := by omega
      go_wp2
      go_ret
      exact ⟨by rw [HE.out]; rfl, by rw [HE.out]; exact HO.out.kept (HK.out.alloc _), (HK.out.alloc _).mono (fun _ _ h => h.elim)⟩
end Go.Proofs.YtndflnedkpmpfaaGreatDoor
