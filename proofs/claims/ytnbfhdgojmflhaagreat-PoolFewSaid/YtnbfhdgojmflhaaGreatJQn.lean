/-
  No statement is proved here: a part of what the claim's last text rests on.
-/
import Derived.Shelf.SlSortCmp.Whole1
import Derived.Shelf.SlSortCmp.NoneTotal
import Derived.Test.YtnbfhdgojmflhaaGreatJQk
namespace Go.Proofs.YtnbfhdgojmflhaaGreat
open Go.Shelf
def sortF_ren : Go.Shelf.Ren := ⟨fun | 6 => 131 | 15 => 168 | 14 => 167 | 28 => 182 | 29 => 183 | 20 => 174 | 21 => 175 | 22 => 176 | 23 => 177 | 24 => 178 | 25 => 179 | 26 => 180 | 27 => 181 | 46 => 186 | 47 => 187 | 48 => 188 | 49 => 189 | 50 => 190 | 57 => 192 | n => n, fun | 22 => 102 | 24 => 109 | 25 => 218 | 3 => 3 | 39 => 213 | 0 => 0 | 53 => 211 | 55 => 230 | 4 => 4 | 46 => 300 | 45 => 299 | 50 => 185 | 5 => 5 | 9 => 9 | 66 => 308 | 70 => 312 | 76 => 315 | 77 => 316 | n => n, fun | n => n⟩
theorem sortF : Go.Proofs.SlLaysF.n6 Tryz.prog sortF_ren := {
  mixed := by kernel_rfl
  f6 := ⟨Tryz.f131.name, by decide, Tryz.func131.trans (congrArg some (by kernel_rfl))⟩
  f14 := ⟨Tryz.f167.name, by decide, Tryz.func167.trans (congrArg some (by kernel_rfl))⟩
  f15 := Tryz.func168.trans (congrArg some (by kernel_rfl))
  f20 := ⟨Tryz.f174.name, by decide, Tryz.func174.trans (congrArg some (by kernel_rfl))⟩
  f21 := ⟨Tryz.f175.name, by decide, Tryz.func175.trans (congrArg some (by kernel_rfl))⟩
  f22 := ⟨Tryz.f176.name, by decide, Tryz.func176.trans (congrArg some (by kernel_rfl))⟩
  f23 := ⟨Tryz.f177.name, by decide, Tryz.func177.trans (congrArg some (by kernel_rfl))⟩
  f24 := ⟨Tryz.f178.name, by decide, Tryz.func178.trans (congrArg some (by kernel_rfl))⟩
  f25 := ⟨Tryz.f179.name, by decide, Tryz.func179.trans (congrArg some (by kernel_rfl))⟩
  f26 := ⟨Tryz.f180.name, by decide, Tryz.func180.trans (congrArg some (by kernel_rfl))⟩
  f27 := ⟨Tryz.f181.name, by decide, Tryz.func181.trans (congrArg some (by kernel_rfl))⟩
  f28 := Tryz.func182.trans (congrArg some (by kernel_rfl))
  f29 := Tryz.func183.trans (congrArg some (by kernel_rfl))
  f46 := ⟨Tryz.f186.name, by decide, Tryz.func186.trans (congrArg some (by kernel_rfl))⟩
  f47 := Tryz.func187.trans (congrArg some (by kernel_rfl))
  f48 := Tryz.func188.trans (congrArg some (by kernel_rfl))
  f49 := ⟨Tryz.f189.name, by decide, Tryz.func189.trans (congrArg some (by kernel_rfl))⟩
  f50 := ⟨Tryz.f190.name, by decide, Tryz.func190.trans (congrArg some (by kernel_rfl))⟩
  f57 := ⟨Tryz.f192.name, by decide, Tryz.func192.trans (congrArg some (by kernel_rfl))⟩
  t0 := Tryz.underlying0
  a0 := Tryz.isAgg0
  z0 := Tryz.sizeOf0
  v0 := Tryz.zeroValue0
  t3 := Tryz.underlying3
  a3 := Tryz.isAgg3
  z3 := Tryz.sizeOf3
  v3 := Tryz.zeroValue3
  t4 := Tryz.underlying4
  a4 := Tryz.isAgg4
  z4 := Tryz.sizeOf4
  v4 := Tryz.zeroValue4
  t5 := Tryz.underlying5
  a5 := Tryz.isAgg5
  z5 := Tryz.sizeOf5
  v5 := Tryz.zeroValue5
  t9 := Tryz.underlying9
  a9 := Tryz.isAgg9
  z9 := Tryz.sizeOf9
  v9 := Tryz.zeroValue9
  t22 := Tryz.underlying102
  a22 := Tryz.isAgg102
  z22 := Tryz.sizeOf102
  v22 := Tryz.zeroValue102
  a24 := Tryz.isAgg109
  z24 := Tryz.sizeOf109
  t25 := Tryz.underlying218
  a25 := Tryz.isAgg218
  z25 := Tryz.sizeOf218
  v25 := Tryz.zeroValue218
  t39 := Tryz.underlying213
  a39 := Tryz.isAgg213
  z39 := Tryz.sizeOf213
  v39 := Tryz.zeroValue213
  t45 := Tryz.underlying299
  a45 := Tryz.isAgg299
  z45 := Tryz.sizeOf299
  v45 := Tryz.zeroValue299
  t46 := Tryz.underlying300
  a46 := Tryz.isAgg300
  z46 := Tryz.sizeOf300
  v46 := Tryz.zeroValue300
  t50 := Tryz.underlying185
  a50 := Tryz.isAgg185
  z50 := Tryz.sizeOf185
  v50 := Tryz.zeroValue185
  t53 := Tryz.underlying211
  a53 := Tryz.isAgg211
  z53 := Tryz.sizeOf211
  v53 := Tryz.zeroValue211
  t55 := Tryz.underlying230
  a55 := Tryz.isAgg230
  z55 := Tryz.sizeOf230
  v55 := Tryz.zeroValue230
  t66 := Tryz.underlying308
  a66 := Tryz.isAgg308
  z66 := Tryz.sizeOf308
  v66 := Tryz.zeroValue308
  t70 := Tryz.underlying312
  a70 := Tryz.isAgg312
  z70 := Tryz.sizeOf312
  v70 := Tryz.zeroValue312
  t76 := Tryz.underlying315
  a76 := Tryz.isAgg315
  z76 := Tryz.sizeOf315
  v76 := Tryz.zeroValue315
  t77 := Tryz.underlying316
  a77 := Tryz.isAgg316
  z77 := Tryz.sizeOf316
  v77 := Tryz.zeroValue316 }
end Go.Proofs.YtnbfhdgojmflhaaGreat
namespace Go.Proofs.YtnbfhdgojmflhaaGreat
open Go.RowKit Go.Sort Go.Shelf Go.Lib
section
variable {α : Type} [Inhabited α] {enc : α → Value}
theorem heap_sortedV {w : World} {g n : Nat} {os : Array Obj} {cur : Array Value} {e : TypeId} {fr : Nat × Nat} (d : Array α) (hb : w.heap[g]? = some (.cells cur e fr)) :
    (grow (putRow enc (Sort.ahead w n) g 0 d) os).heap[g]? = some (.cells (putCells enc 0 d cur) e fr) := by
  have hg : g < w.heap.size := (Array.getElem?_eq_some_iff.1 hb).1
  rw [heap_grow_old _ _ (by simpa using hg)]
  simp [putRow, mapBlock, Sort.ahead, Array.getElem?_modify, hb, onCells]
theorem heap_sortedO {w : World} {g n : Nat} {os : Array Obj} (d : Array α) {k : Nat} (hk : k < w.heap.size) (hne : g ≠ k) : (grow (putRow enc (Sort.ahead w n) g 0 d) os).heap[k]? = w.heap[k]? := by
  rw [heap_grow_old _ _ (by simpa using hk)]
  simp [putRow, mapBlock, Sort.ahead, Array.getElem?_modify, hne]
theorem kept_sortedV {w : World} {g n : Nat} {os : Array Obj} (d : Array α) : Kept (fun z => z = g) w (grow (putRow enc (Sort.ahead w n) g 0 d) os) :=
  ⟨rfl, rfl, rfl, by simp, fun k hk hne => heap_sortedO d hk (fun e => hne e.symm)⟩
theorem take_putCellsV (cur : Array Value) (ts : List α) (h : ts.length ≤ cur.size) : (putCells enc 0 ts.toArray cur).toList.take ts.length = ts.map enc := by
  apply List.ext_getElem?
  intro j
  by_cases hj : j < ts.length
  · rw [List.getElem?_take_of_lt hj, Array.getElem?_toList]
    simp [putCells, hj, show j < cur.size by omega]
  · rw [List.getElem?_take_eq_none (by omega), List.getElem?_eq_none (by simp; omega)]
end
section
variable {w w' w1 : World} {a : Adr} {P : PoolM} {L : LogM} {D : DevM}
set_option maxRecDepth 100000 in
theorem rows1_any (W : World) {k1 k2 : Nat} {p1 p2 : Int} (h1 : W.cell? ⟨k1, 0, none⟩ = some (.int .i64 p1)) (h2 : W.cell? ⟨k2, 0, none⟩ = some (.int .i64 p2)) (b1 : 0 ≤ p1) (b2 : p1 ≤ 65536) (b3 : 0 ≤ p2) (b4 : p2 ≤ 65536) :
    Calls Tryz.prog 132 #[.pointer (some ⟨k1, 0, none⟩), .pointer (some ⟨k2, 0, none⟩)] W fun e w' => e = .returned (.int .i64 (p1 - p2)) ∧ ∃ q, w' = W.drewN q := by
  have e2 : IntKind.i64.wrap (p1 - p2) = p1 - p2 := by rw [IntKind.wrap_i64]; omega
  go_enter Tryz.func132, Tryz.ntmps132
  go_wp2_with fail
  go_quiet (fail)
  go_wp2
  go_ret
  exact ⟨rfl, _, rfl⟩
theorem PoolM.pageAt_eq (P : PoolM) {i : Nat} (h : i < P.ring.length) : P.pageAt i = P.ring[i].page := by
  unfold PoolM.pageAt
  rw [List.getD_eq_getElem?_getD, List.getElem?_eq_getElem h]
  rfl
def ptrAt (xs : List FrD) (i : Nat) : Value := ptrV ((xs.map (·.k)).getD i 0)
theorem ptrAt_eq {xs : List FrD} {i : Nat} {x : FrD} (h : xs[i]? = some x) : ptrAt xs i = ptrV x.k := by
  unfold ptrAt
  rw [List.getD_eq_getElem?_getD, List.getElem?_map, h]
  rfl
set_option maxRecDepth 100000 in
theorem sort_frames (h : PoolS w a P L D) (hn : PoolN P) (is : List Nat) (his : ∀ i ∈ is, i < a.xs.length) {base g cap m : Nat} (hg : ¬ a.K g) (hm : m = is.length) (hm2 : m ≤ 1024)
    (ho : w.ownsRow base 109 1 (.slice (some ⟨g, 0, none⟩) m cap) m (is.map (ptrAt a.xs))) :
    Calls Tryz.prog 131 #[.slice (some ⟨g, 0, none⟩) m cap, .func (.func 132) #[] #[]] w fun e w' => e = .returned (.tuple #[]) ∧ Kept (fun z => z = g) w w' ∧
      w'.ownsRow base 109 1 (.slice (some ⟨g, 0, none⟩) m cap) m ((is.mergeSort (fun i j => decide (P.pageAt i ≤ P.pageAt j))).map (ptrAt a.xs)) := by
  obtain ⟨hlen, ho⟩ := ho
  rcases ho with ⟨e0, _⟩ | ⟨g', cap', cur, e0, hb, hh, h1, h2, h3, h4⟩
  · cases e0
  cases e0
  have hfin := h.len
  by_cases hz : a.xs.length = 0
  · have hm0 : m = 0 := by
      rw [hm]
      cases is with
      | nil => rfl
      | cons i _ => have := his i (by simp); omega
    have his0 : is = [] := List.length_eq_zero_iff.1 (by omega)
    subst hm0; subst his0
    refine (AnyF.slices_SortFunc_none (P := Tryz.prog) { sortF with } (some ⟨g, 0, none⟩) cap _ w).mono ?_
    rintro e w' ⟨he, rfl⟩
    exact ⟨he, Kept.refl _ _, ⟨by simp, .inr ⟨g, cap, cur, rfl, hb, hh, h1, h2, h3, by simp⟩⟩⟩
  · obtain ⟨n, hnn⟩ : ∃ n, n = a.xs.length := ⟨_, rfl⟩
    have n0 : 0 < n := by omega
    haveI : Inhabited (Fin n) := ⟨⟨0, n0⟩⟩
    have toF : ∀ i, i % n < n := fun i => Nat.mod_lt _ n0
    obtain ⟨F, hF⟩ : ∃ F : Nat → Fin n, F = fun i => ⟨i % n, toF i⟩ := ⟨_, rfl⟩
    obtain ⟨enc, henc⟩ : ∃ enc : Fin n → Value, enc = fun i => ptrAt a.xs i.val := ⟨_, rfl⟩
    obtain ⟨cf, hcf⟩ : ∃ cf : Fin n → Fin n → Int, cf = fun i j => P.pageAt i.val - P.pageAt j.val := ⟨_, rfl⟩
    have hlt : ∀ x y : Fin n, ltOf cf x y = decide (P.pageAt x.val < P.pageAt y.val) := fun x y => by
      unfold ltOf; rw [hcf]; dsimp only; congr 1; exact propext ⟨fun h => by omega, fun h => by omega⟩
    have hO : SWO (ltOf cf) := ⟨fun x => by rw [hlt]; simp, fun x y z h1 h2 => by rw [hlt] at *; simp at *; omega, fun x y z h1 h2 => by rw [hlt] at *; simp at *; omega⟩
    have hpg : ∀ x : Fin n, ∃ y, a.xs[x.val]? = some y ∧ y.m.page = P.pageAt x.val ∧ 0 ≤ y.m.page ∧ y.m.page ≤ 65536 ∧ enc x = .pointer (some ⟨y.k, 0, none⟩) := fun x => by
      have hx : x.val < a.xs.length := by have := x.isLt; omega
      have hy : a.xs[x.val]? = some a.xs[x.val] := List.getElem?_eq_getElem hx
      have hr := h.ringAt hy
      have hl : x.val < P.ring.length := (List.getElem?_eq_some_iff.1 hr).1
      have hp := hn.pg _ (List.mem_of_getElem? hr)
      have := hn.fb; have := hn.f0
      refine ⟨_, hy, ?_, hp.1, by omega, by rw [henc]; exact ptrAt_eq hy⟩
      rw [PoolM.pageAt_eq P hl]
      exact congrArg FrM.page (List.getElem?_eq_some_iff.1 hr).2.symm
    have hT : ∀ x y : Fin n, ltOf cf x y = false → ltOf cf y x = false → x = y := fun x y e1 e2 => by
      rw [hlt] at e1 e2
      simp at e1 e2
      obtain ⟨u, hu, hu2, _⟩ := hpg x
      obtain ⟨v, hv, hv2, _⟩ := hpg y
      have hnd : (a.xs.map (fun x => x.m.page)).Nodup := by rw [h.pagesX]; exact hn.nd
      have e3 : v.m.page = u.m.page := by omega
      refine Fin.ext (nodup_get hnd (x := u.m.page) (by rw [List.getElem?_map, hu]; rfl) (by rw [List.getElem?_map, hv]; exact congrArg some e3))
    have hmod : ∀ i ∈ is, (F i).val = i := fun i hi => by rw [hF]; exact Nat.mod_eq_of_lt (by have := his i hi; omega)
    have henc2 : (is.map F).map enc = is.map (ptrAt a.xs) := by
      rw [List.map_map]
      refine List.map_congr_left (fun i hi => ?_)
      show enc (F i) = _
      rw [henc]; dsimp only; rw [hmod i hi]
    have h1c : OneCell enc := fun x => by obtain ⟨_, _, _, _, _, e⟩ := hpg x; rw [e]; rfl
    have hd : (is.map F).toArray.size = m := by simp [hm]
    have hH : Holds enc w g 0 (is.map F).toArray := by
      intro j hj
      have hj' : j < is.length := by simpa using hj
      refine ⟨?_, by simp [World.frozen?, hh]⟩
      have e5 : (cur.toList.take (m * 1))[j]? = (is.map (ptrAt a.xs))[j]? := by rw [h4]
      rw [List.getElem?_take_of_lt (by omega), ← henc2] at e5
      simp only [World.cell?, hh, Nat.zero_add]
      simp only [Option.isSome_none, Bool.false_eq_true, if_false]
      rw [← Array.getElem?_toList, e5]
      simp [hj']
    have eg : ∀ args w, (callFunc 132 args).run Tryz.prog w = .ok (.enter 132 args) w := enters_of Tryz.func132 (by kernel_rfl) rfl
    have hcmp : CmpReads Tryz.prog 132 #[] enc cf g 0 (is.map F).toArray.size w := fun m0 os dk _ x y => by
      obtain ⟨u, hu, hu2, hu3, hu4, hu5⟩ := hpg x
      obtain ⟨v, hv, hv2, hv3, hv4, hv5⟩ := hpg y
      have hum := List.mem_of_getElem? hu
      have hvm := List.mem_of_getElem? hv
      have cu : (sortWorld enc w g 0 m0 dk os).heap[u.k]? = some (.cells (frC u) 113 (0, 0)) := by
        unfold sortWorld
        rw [heap_sortedO dk (h.tk hum).lt (fun e => hg (.inr (.inr (.inr (.inr ⟨u, hum, .inl e⟩)))))]
        exact (h.fr u hum).1
      have cv : (sortWorld enc w g 0 m0 dk os).heap[v.k]? = some (.cells (frC v) 113 (0, 0)) := by
        unfold sortWorld
        rw [heap_sortedO dk (h.tk hvm).lt (fun e => hg (.inr (.inr (.inr (.inr ⟨v, hvm, .inl e⟩)))))]
        exact (h.fr v hvm).1
      have := rows1_any (sortWorld enc w g 0 m0 dk os) (p1 := u.m.page) (p2 := v.m.page) (cell_blk cu rfl) (cell_blk cv rfl) hu3 hu4 hv3 hv4
      rw [hu5, hv5, hcf]
      dsimp only
      rw [← hu2, ← hv2]
      exact this
    have hcon := Any.slices_SortFunc_total sortF enc h1c cf hO 132 #[] g 0 cap (is.map F).toArray w eg hcmp.lays hH (heap_lt hh) (by rw [hd]; omega) hT
    rw [hd] at hcon
    refine hcon.mono ?_
    rintro e w' ⟨he, n1, os, rfl⟩
    have hms : (is.map F).toArray.toList.mergeSort (fun x y => !(ltOf cf) y x) = (is.mergeSort (fun i j => decide (P.pageAt i ≤ P.pageAt j))).map F := by
      rw [List.toList_toArray]
      refine (List.map_mergeSort (fun i hi j hj => ?_)).symm
      rw [hlt, hmod i hi, hmod j hj]
      by_cases c : P.pageAt j < P.pageAt i
      · simp [c]
      · simp [c]; omega
    have hperm : (is.mergeSort (fun i j => decide (P.pageAt i ≤ P.pageAt j))).Perm is := List.mergeSort_perm ..
    have hmod2 : ∀ i ∈ is.mergeSort (fun i j => decide (P.pageAt i ≤ P.pageAt j)), enc (F i) = ptrAt a.xs i := fun i hi => by
      rw [henc]; dsimp only; rw [hmod i (hperm.mem_iff.1 hi)]
    rw [hms]
    refine ⟨he, kept_sortedV _, ⟨by rw [List.length_map, hperm.length_eq]; omega, .inr ⟨g, cap, _, rfl, hb, heap_sortedV _ hh, h1, h2, by simp [putCells, h3], ?_⟩⟩⟩
    have hl2 : m * 1 = ((is.mergeSort (fun i j => decide (P.pageAt i ≤ P.pageAt j))).map F).length := by rw [List.length_map, hperm.length_eq]; omega
    rw [hl2, take_putCellsV cur _ (by omega), List.map_map]
    exact List.map_congr_left (fun i hi => hmod2 i hi)
end
end Go.Proofs.YtnbfhdgojmflhaaGreat
