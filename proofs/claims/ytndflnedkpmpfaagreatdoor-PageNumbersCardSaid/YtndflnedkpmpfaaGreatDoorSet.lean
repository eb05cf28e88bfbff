/-
  No statement is proved here: the contract of the document's Put.
  No statement is proved here: contracts of the document's set, SetNext and Delete.
-/
import Derived.Test.YtndflnedkpmpfaaGreatDoorApz
import Derived.Test.YtndflnedkpmpfaaGreatDoorOfg
namespace Go.Proofs.YtndflnedkpmpfaaGreatDoor
open Go.RowKit

/-- A cell that is only read. -/
structure CvD where
  A : Option Addr
  c : Nat
  b : Bytes
def cvVal (s : CvD) : Value := .slice s.A s.b.length s.c
def RdCs (w : World) (G : Option Addr) (L : List CvD) : Prop := ∀ k s, L[k]? = some s → ∃ g off, G = some ⟨g, off, none⟩ ∧ w.cell? ⟨g, off + k, none⟩ = some (cvVal s) ∧ RdB w s.A s.b
theorem RdCs.kept {w w' : World} {G : Option Addr} {L : List CvD} (h : RdCs w G L) (hk : Kept (fun _ => False) w w') : RdCs w' G L := fun k s hs => by
  obtain ⟨g, off, hG, hc, hb⟩ := h k s hs
  exact ⟨g, off, hG, (World.cell?_of_block (hk.block _ (block_lt_of_cell hc) id)).trans hc, hb.kept hk (fun _ _ _ _ => id)⟩
/-- These cells, with this number, make a page. -/
def PutOk (n : Int) (cs : List Bytes) : Prop := (encs cs).length ≤ 506 ∧ cs.length ≤ 255 ∧ 0 ≤ n ∧ n < 4294967296
def u8m (v : Int) : UInt8 := UInt8.ofNat (v % 256).toNat
theorem u8m_int (v : Int) : ((u8m v).toNat : Int) = v % 256 := by
  unfold u8m
  rw [UInt8.toNat_ofNat']
  omega
theorem u8m_nat (v : Int) (m : Nat) (h : v = m) : u8m v = UInt8.ofNat m := by
  apply UInt8.toNat_inj.1
  have := u8m_int v
  rw [UInt8.toNat_ofNat']
  omega
def hdI (k : UInt8) (m : Nat) (n : Int) : Bytes := [k, u8m m, u8m (n / 16777216), u8m (n / 65536), u8m (n / 256), u8m n]
theorem hdI_hdr {k : UInt8} {m : Nat} {n : Int} (h : 0 ≤ n) : hdI k m n = hdr k m n.toNat := by
  unfold hdI hdr
  rw [u8m_nat (m : Int) m rfl, u8m_nat (n / 16777216) (n.toNat / 16777216) (by omega), u8m_nat (n / 65536) (n.toNat / 65536) (by omega), u8m_nat (n / 256) (n.toNat / 256) (by omega), u8m_nat n n.toNat (by omega)]
theorem hdI_cells (k : UInt8) (m : Nat) (n : Int) : cellsOf (hdI k m n) = #[.int .u8 k.toNat, .int .u8 ((m : Int) % 256), .int .u8 (n / 16777216 % 256), .int .u8 (n / 65536 % 256), .int .u8 (n / 256 % 256), .int .u8 (n % 256)] := by
  simp [cellsOf, hdI, u8m_int]
theorem len_cells (m : Nat) : cellsOf [UInt8.ofNat (m / 256), UInt8.ofNat m] = #[.int .u8 ((m : Int) / 256 % 256), .int .u8 ((m : Int) % 256)] := by
  rw [← u8m_nat ((m : Int) / 256) (m / 256) (by omega), ← u8m_nat (m : Int) m rfl]
  simp [cellsOf, u8m_int]
set_option maxRecDepth 100000 in
set_option maxHeartbeats 1000000 in
theorem putP_any (k : UInt8) (n : Int) (G : Option Addr) (cap : Nat) (L : List CvD) (w : World) (h : RdCs w G L) (hL : L.length ≤ 1000) (hb : ∀ s ∈ L, s.b.length ≤ 5000) :
    Calls Tryz.prog 46 #[.agg #[.int .u8 k.toNat, .int .i64 n, .slice G L.length cap]] w fun e w' => Kept (fun _ => False) w w' ∧
      ((¬ PutOk n (L.map (fun s => s.b)) ∧ e = .returned (.tuple #[.slice none 0 0, .bool false])) ∨
       (PutOk n (L.map (fun s => s.b)) ∧ ∃ g c, e = .returned (.tuple #[.slice (some ⟨g, 0, none⟩) 512 c, .bool true]) ∧ OwnB w' w.heap.size g c (Pg k n.toNat (L.map (fun s => s.b))))) := by
  have H := Lib.hid h
  have HB := Lib.hid hb
  clear h hb
  go_enter Tryz.func46, Tryz.ntmps46
  go_wp2
  have K2 := Lib.hid (((Kept.refl (fun _ => False) w).alloc (.cells #[.int .u8 k.toNat, .int .i64 n, .slice G L.length cap] 74)).alloc (.cells #[.int .u8 k.toNat, .int .u8 ((L.length : Int) % 256), .int .u8 (n / 16777216 % 256), .int .u8 (n / 65536 % 256), .int .u8 (n / 256 % 256), .int .u8 (n % 256)] 5))
  have B2 := Lib.hid (show ((w.alloc (.cells #[.int .u8 k.toNat, .int .i64 n, .slice G L.length cap] 74)).alloc (.cells #[.int .u8 k.toNat, .int .u8 ((L.length : Int) % 256), .int .u8 (n / 16777216 % 256), .int .u8 (n / 65536 % 256), .int .u8 (n / 256 % 256), .int .u8 (n % 256)] 5)).heap[w.heap.size + 1]? = some (.cells (cellsOf (hdI k L.length n)) 5 (0, 0)) from by
    rw [hdI_cells]
    have := heap_alloc_new (w.alloc (.cells #[.int .u8 k.toNat, .int .i64 n, .slice G L.length cap] 74)) (.cells #[.int .u8 k.toNat, .int .u8 ((L.length : Int) % 256), .int .u8 (n / 16777216 % 256), .int .u8 (n / 65536 % 256), .int .u8 (n / 256 % 256), .int .u8 (n % 256)] 5)
    simpa using this)
  have C2 := Lib.hid (show ((w.alloc (.cells #[.int .u8 k.toNat, .int .i64 n, .slice G L.length cap] 74)).alloc (.cells #[.int .u8 k.toNat, .int .u8 ((L.length : Int) % 256), .int .u8 (n / 16777216 % 256), .int .u8 (n / 65536 % 256), .int .u8 (n / 256 % 256), .int .u8 (n % 256)] 5)).heap[w.heap.size]? = some (.cells #[.int .u8 k.toNat, .int .i64 n, .slice G L.length cap] 74 (0, 0)) from ((Kept.refl (fun _ => False) (w.alloc (.cells #[.int .u8 k.toNat, .int .i64 n, .slice G L.length cap] 74))).alloc (.cells #[.int .u8 k.toNat, .int .u8 ((L.length : Int) % 256), .int .u8 (n / 16777216 % 256), .int .u8 (n / 65536 % 256), .int .u8 (n / 256 % 256), .int .u8 (n % 256)] 5)).heap (heap_alloc_new w _) id)
  generalize ((w.alloc (.cells #[.int .u8 k.toNat, .int .i64 n, .slice G L.length cap] 74)).alloc (.cells #[.int .u8 k.toNat, .int .u8 ((L.length : Int) % 256), .int .u8 (n / 16777216 % 256), .int .u8 (n / 65536 % 256), .int .u8 (n / 256 % 256), .int .u8 (n % 256)] 5)) = w2 at *
  obtain ⟨b1, hb1⟩ : ∃ b1, b1 = w.heap.size := ⟨_, rfl⟩
  obtain ⟨b2, hb2⟩ : ∃ b2, b2 = w.heap.size + 1 := ⟨_, rfl⟩
  rw [← hb2, ← hb1]
  have H1 := Lib.hid hb1
  have H2 := Lib.hid hb2
  have hlt : b1 < b2 := by omega
  have hw1 : w.heap.size ≤ b2 := by omega
  have hbz : b2 < w2.heap.size := by
    have := B2.out
    rw [← hb2] at this
    exact heap_lt this
  have O2 := Lib.hid (OwnB.of_blk (base := b2) (by have := B2.out; rwa [← hb2] at this) (Nat.le_refl b2) (by show 6 ≤ maxLen; decide))
  have c2 := cell_blk (by have := C2.out; rwa [← hb1] at this) (i := 2) rfl
  have CC := Lib.hid c2
  clear hb1 hb2 c2
  go_loopw [5, 6] (fun out i wr => ∃ (j g c m : Nat), j ≤ L.length ∧ i = .int .i64 j ∧ out = .slice (some ⟨g, 0, none⟩) m c ∧ m = (hdI k L.length n ++ encs ((L.map (fun s => s.b)).take j)).length ∧ m ≤ 6 + j * 5002 ∧ OwnB wr b2 g c (hdI k L.length n ++ encs ((L.map (fun s => s.b)).take j)) ∧ Kept (fun _ => False) w wr ∧ wr.cell? ⟨b1, 2, none⟩ = some (.slice G L.length cap) ∧ b2 ≤ wr.heap.size) (fun out i _ => L.length - (intOf i).toNat)
  case atStart => exact ⟨0, b2, 6, 6, Nat.zero_le _, rfl, rfl, rfl, Nat.le_refl _, by rw [List.take_zero, encs_nil, List.append_nil]; exact O2.out, K2.out, CC.out, by omega⟩
  case round =>
    obtain ⟨j, g, c, m, hj, rfl, rfl, hm, hm2, ho, hk, hc, hz⟩ := hrel
    obtain ⟨X, hX⟩ : ∃ X, X = hdI k L.length n ++ encs ((L.map (fun s => s.b)).take j) := ⟨_, rfl⟩
    rw [← hX] at hm ho
    subst hm
    have HX := Lib.hid hX
    have HO := Lib.hid ho
    have HK := Lib.hid hk
    have bg := ho.base_le
    clear ho hk hX B2 C2 O2
    by_cases hlt2 : j < L.length
    · have hs := List.getElem?_eq_getElem hlt2
      obtain ⟨g0, off, rfl, hce, hrb⟩ := (H.out.kept HK.out) j _ hs
      have hbl := HB.out _ (List.getElem_mem hlt2)
      have hcs : (L.map (fun s => s.b))[j]? = some (L[j]).b := by rw [List.getElem?_map, hs]; rfl
      generalize L[j] = s at *
      unfold cvVal at hce
      have HBL := Lib.hid hbl
      have HS := Lib.hid hs
      have HRB := Lib.hid hrb
      have HCS := Lib.hid hcs
      have i0 : (0 : Int) ≤ (j : Int) := by omega
      have i1 : (j : Int) < (L.length : Int) := by omega
      clear hrb hcs hs hbl
      have ka := (Kept.refl (fun _ => False) wr).alloc (.cells #[.int .u8 ((s.b.length : Int) / 256 % 256), .int .u8 ((s.b.length : Int) % 256)] 5)
      have HOa := Lib.hid (HO.out.kept ka)
      have HKa := Lib.hid (HK.out.trans0 ka)
      have HSa := Lib.hid (show RdB (wr.alloc (.cells #[.int .u8 ((s.b.length : Int) / 256 % 256), .int .u8 ((s.b.length : Int) % 256)] 5)) (some ⟨wr.heap.size, 0, none⟩) [UInt8.ofNat (s.b.length / 256), UInt8.ofNat s.b.length] from RdB.of_blk (by rw [len_cells]; exact heap_alloc_new wr _))
      have hza := ka.size
      have lgb : b1 < wr.heap.size := by omega
      have hca := (World.cell?_of_block (ka.block _ (block_lt_of_cell hc) id)).trans hc
      have hcea := (World.cell?_of_block (ka.block _ (block_lt_of_cell hce) id)).trans hce
      have lg0 := block_lt_of_cell hce
      clear ka
      go_wp2_with (at_builtin; refine wl_appendB rfl _ _ rfl b2 g c X [UInt8.ofNat (s.b.length / 256), UInt8.ofNat s.b.length] rfl HOa.out (some ⟨wr.heap.size, 0, none⟩) 2 rfl HSa.out (by simp; omega) (by omega) ?_)
      intro g3 c3 w3 ho3 hk3 hat3 m3
      have hst3 : b1 < g := by omega
      obtain ⟨Y, hY⟩ : ∃ Y, Y = X ++ [UInt8.ofNat (s.b.length / 256), UInt8.ofNat s.b.length] := ⟨_, rfl⟩
      rw [← hY] at ho3
      have HY := Lib.hid hY
      have HYL := Lib.hid (show Y.length = X.length + 2 from by rw [hY, List.length_append]; rfl)
      have HO3 := Lib.hid ho3
      have HK3 := Lib.hid (HKa.out.new hk3 (fun x e => by omega))
      have hc3 := (World.cell?_of_block (hk3.block b1 (block_lt_of_cell hca) (by omega))).trans hca
      have bg3 := ho3.base_le
      have hz3 := hk3.size
      obtain ⟨g0', off', hgg, hce3, hrb3⟩ := (H.out.kept HK3.out) j s HS.out
      cases hgg
      unfold cvVal at hce3
      have HRB3 := Lib.hid hrb3
      clear ho3 hk3 hat3 hce hcea hca hc hrb3 HOa HKa HSa HO hza hY
      go_wp2_with (at_builtin; refine wl_appendB rfl _ _ rfl b2 g3 c3 Y s.b (by rw [HYL.out]; rfl) HO3.out s.A s.c rfl HRB3.out (by rw [HYL.out]; have := HBL.out; omega) (by omega) ?_)
      intro g4 c4 w4 ho4 hk4 hat4 m4
      have HK4 := Lib.hid (HK3.out.new hk4 (fun x e => by omega))
      have hc4 := (World.cell?_of_block (hk4.block b1 (block_lt_of_cell hc3) (by omega))).trans hc3
      have hz4 := hk4.size
      have hjl : j < (L.map (fun s => s.b)).length := by rw [List.length_map]; exact hlt2
      have hcj : (L.map (fun s => s.b))[j] = s.b := by have := HCS.out; rw [List.getElem?_eq_getElem hjl] at this; exact Option.some.inj this
      have hen : hdI k L.length n ++ encs ((L.map (fun s => s.b)).take (j + 1)) = Y ++ s.b := by
        rw [encs_take_succ hjl, hcj, HY.out, HX.out]
        simp [enc, List.append_assoc]
      have HO4 := Lib.hid (show OwnB w4 b2 g4 c4 (hdI k L.length n ++ encs ((L.map (fun s => s.b)).take (j + 1))) from by rw [hen]; exact ho4)
      have HM4 := Lib.hid (show X.length + 2 + s.b.length = (hdI k L.length n ++ encs ((L.map (fun s => s.b)).take (j + 1))).length from by rw [hen, List.length_append, HYL.out])
      have HLT := Lib.hid hlt2
      clear ho4 hk4 hat4 hen hjl hcj
      simp only [HYL.out]
      go_wp2
      go_roundw
      case rel => exact ⟨j + 1, g4, c4, X.length + 2 + s.b.length, HLT.out, by go_num, rfl, HM4.out, by have := HBL.out; omega, HO4.out, HK4.out, hc4, by omega⟩
      case measure =>
        have := HLT.out
        simp [intOf]; omega
    · have hge : ¬ ((j : Int) < (L.length : Int)) := by omega
      obtain rfl : j = L.length := by omega
      have hXe : X = hdI k L.length n ++ encs (L.map (fun s => s.b)) := by
        rw [HX.out]
        rw [List.take_of_length_le (by rw [List.length_map]; exact Nat.le_refl _)]
      have hXl : X.length = 6 + (encs (L.map (fun s => s.b))).length := by rw [hXe, List.length_append]; rfl
      have HXE := Lib.hid hXe
      have HXL := Lib.hid hXl
      clear hXe hlt2
      by_cases p1 : 512 < X.length
      · have HNO := Lib.hid (show ¬ PutOk n (L.map (fun s => s.b)) from by unfold PutOk; rw [List.length_map]; omega)
        have q1 : (512 : Int) < (X.length : Int) := by omega
        clear hXl
        go_wp2
        go_ret2
        exact ⟨HK.out, .inl ⟨HNO.out, rfl⟩⟩
      · have q1 : ¬ (512 : Int) < (X.length : Int) := by omega
        by_cases p2 : 255 < L.length
        · have HNO := Lib.hid (show ¬ PutOk n (L.map (fun s => s.b)) from by unfold PutOk; rw [List.length_map]; omega)
          have q2 : (255 : Int) < (L.length : Int) := by omega
          clear hXl
          go_wp2
          go_ret2
          exact ⟨HK.out, .inl ⟨HNO.out, rfl⟩⟩
        · have q2 : ¬ (255 : Int) < (L.length : Int) := by omega
          by_cases p3 : n < 0
          · have HNO := Lib.hid (show ¬ PutOk n (L.map (fun s => s.b)) from by unfold PutOk; rw [List.length_map]; omega)
            clear hXl
            go_wp2
            go_ret2
            exact ⟨HK.out, .inl ⟨HNO.out, rfl⟩⟩
          · by_cases p4 : 4294967295 < n
            · have HNO := Lib.hid (show ¬ PutOk n (L.map (fun s => s.b)) from by unfold PutOk; rw [List.length_map]; omega)
              clear hXl
              go_wp2
              go_ret2
              exact ⟨HK.out, .inl ⟨HNO.out, rfl⟩⟩
            · have HYES := Lib.hid (show PutOk n (L.map (fun s => s.b)) from by unfold PutOk; rw [List.length_map]; omega)
              obtain ⟨z, hz0⟩ : ∃ z, z = 512 - X.length := ⟨_, rfl⟩
              have hzi : IntKind.i64.wrap (512 - (X.length : Int)) = (z : Int) := by rw [IntKind.wrap_i64] <;> omega
              have hxz : X.length + z = 512 := by omega
              have HXZ := Lib.hid hxz
              have HZ0 := Lib.hid hz0
              have hz5 : z ≤ 1000000 := by omega
              have hx5 : X.length ≤ 1000000 := by omega
              clear hXl hz0 hxz
              go_wp2_with (at_builtin; refine wl_appendZ rfl _ _ rfl b2 g c X rfl HO.out z rfl hz5 hx5 hz ?_)
              intro g5 c5 w5 ho5 hk5 hat5
              have HK5 := Lib.hid (HK.out.new hk5 (fun x e => by omega))
              have hpg : X ++ zeros z = Pg k n.toNat (L.map (fun s => s.b)) := by
                unfold Pg
                rw [HXE.out, hdI_hdr HYES.out.2.2.1, List.length_map, HZ0.out, HXL.out]
                congr 2
                omega
              rw [hpg] at ho5
              have HO5 := Lib.hid ho5
              clear ho5 hk5 hat5 hpg
              simp only [HXZ.out]
              go_wp2
              go_ret2
              exact ⟨HK5.out, .inr ⟨HYES.out, g5, c5, rfl, HO5.out.low hw1⟩⟩
end Go.Proofs.YtndflnedkpmpfaaGreatDoor
namespace Go.Proofs.YtndflnedkpmpfaaGreatDoor
open Go.RowKit

theorem over_all {l m : Bytes} (h : l.length = m.length) : over l 0 m = m := by
  unfold over
  rw [List.take_zero, Nat.sub_zero, h, List.take_length, Nat.zero_add, ← h, List.drop_length]
  simp
def outM (k : UInt8) (n : Int) (cs : List Bytes) (l : Bytes) (ok : Bool) : Bytes := if ok then Pg k n.toNat cs else l
set_option maxRecDepth 100000 in
set_option maxHeartbeats 1000000 in
theorem set_any (base g cp : Nat) (l : Bytes) (k : UInt8) (n : Int) (G : Option Addr) (cap : Nat) (L : List CvD) (w : World) (ho : OwnB w base g cp l) (hl : l.length = 512) (h : RdCs w G L) (hL : L.length ≤ 1000) (hb : ∀ s ∈ L, s.b.length ≤ 5000) :
    Calls Tryz.prog 80 #[.slice (some ⟨g, 0, none⟩) 512 cp, .agg #[.int .u8 k.toNat, .int .i64 n, .slice G L.length cap]] w fun e w' => Kept (fun x => x = g) w w' ∧
      ((¬ PutOk n (L.map (fun s => s.b)) ∧ e = .returned (.bool false) ∧ OwnB w' base g cp l) ∨
       (PutOk n (L.map (fun s => s.b)) ∧ e = .returned (.bool true) ∧ OwnB w' base g cp (Pg k n.toNat (L.map (fun s => s.b))))) := by
  have ka := (Kept.refl (fun _ => False) w).alloc (.cells #[.int .u8 k.toNat, .int .i64 n, .slice G L.length cap] 74)
  have KA := Lib.hid ka
  have HP := Lib.hid (putP_any k n G cap L _ (h.kept ka) hL hb)
  have HO := Lib.hid (ho.kept ka)
  have HL := Lib.hid hl
  clear ho h hb ka hl
  go_enter Tryz.func80, Tryz.ntmps80
  go_wp2_with fail
  refine HP.out.mono ?_
  rintro e w2 ⟨hk, ⟨hno, rfl⟩ | ⟨hyes, g2, c2, rfl, ho2⟩⟩
  · have HNO := Lib.hid hno
    have K2 := Lib.hid ((KA.out.trans0 hk).mono (T := fun x => x = g) (fun _ _ h => h.elim))
    have O2 := Lib.hid (HO.out.kept hk)
    clear hno hk
    go_wp2
    go_ret
    exact ⟨K2.out, .inl ⟨HNO.out, rfl, O2.out⟩⟩
  · have HYES := Lib.hid hyes
    have K2 := Lib.hid ((KA.out.trans0 hk).mono (T := fun x => x = g) (fun _ _ h => h.elim))
    have O2 := Lib.hid (HO.out.kept hk)
    have HR2 := Lib.hid ho2.rdp
    have HPL := Lib.hid (Pg_len (k := k) (n := n.toNat) hyes.1)
    clear hyes hk ho2
    obtain ⟨nn, w3, hr, -, ho3, hk3⟩ := run_copyB O2.out 0 (Nat.zero_le _) (some ⟨g, 0, none⟩) (some ⟨g2, 0, none⟩) (fun _ => rfl) (Pg k n.toNat (L.map (fun s => s.b))) HR2.out cp c2 3
    rw [HL.out, HPL.out, Nat.sub_zero] at hr
    rw [over_all (by rw [HL.out, HPL.out])] at ho3
    have K3 := Lib.hid (K2.out.trans' hk3)
    have O3 := Lib.hid ho3
    clear ho3 hk3
    go_wp2
    go_ret
    exact ⟨K3.out, .inr ⟨HYES.out, rfl, O3.out⟩⟩
def toCv (s : CeD) : CvD := ⟨some ⟨s.g, 0, none⟩, s.c, s.b⟩
theorem OwnCs.rd {w : World} {base : Nat} {v : Value} {L : List CeD} (h : OwnCs w base v L) (hc : CsAt w base L) : ∃ G cap, v = .slice G (L.map toCv).length cap ∧ RdCs w G (L.map toCv) := by
  obtain ⟨G, cap, hv, hV⟩ := h.view
  refine ⟨G, cap, by rw [List.length_map]; exact hv, fun k s hs => ?_⟩
  rw [List.getElem?_map] at hs
  cases hL : L[k]? with
  | none => rw [hL] at hs; simp at hs
  | some t =>
    rw [hL] at hs
    have e : toCv t = s := by simpa using hs
    subst e
    obtain ⟨g, hG, -, hcell⟩ := hV k t hL
    exact ⟨g, 0, hG, by rw [Nat.zero_add]; exact hcell, (hc t (List.mem_of_getElem? hL)).rdp⟩
theorem toCv_b (L : List CeD) : (L.map toCv).map (fun s => s.b) = L.map (fun s => s.b) := by
  rw [List.map_map]; rfl
theorem cells_short {l : Bytes} {n : Nat} {s : Bytes} (hl : l.length = 512) (h : s ∈ cellsM l n) : s.length ≤ 5000 := by
  unfold cellsM at h
  obtain ⟨k, -, rfl⟩ := List.mem_map.1 h
  unfold cellM
  rw [List.length_drop, List.length_take]
  omega
set_option maxRecDepth 100000 in
set_option maxHeartbeats 1000000 in
theorem rsetNext512 (base g cp : Nat) (l : Bytes) (x : Int) (w : World) (ho : OwnB w base g cp l) (hl : l.length = 512) :
    Calls Tryz.prog 50 #[.slice (some ⟨g, 0, none⟩) 512 cp, .int .i64 x] w fun e w' => e = .returned (.bool (setNextM l x).1) ∧ OwnB w' base g cp (setNextM l x).2 ∧ Kept (fun x => x = g) w w' := by
  have hcp : 512 ≤ cp ∧ cp ≤ 9223372036854775807 := by
    obtain ⟨cur, -, -, h1, h2, -⟩ := ho.form
    exact ⟨by omega, h2⟩
  have HF := Lib.hid (of512 (some ⟨g, 0, none⟩) cp l w ho.rdp hl hcp.1 hcp.2)
  have HO := Lib.hid ho
  have HL := Lib.hid hl
  clear ho hl hcp
  go_enter Tryz.func50, Tryz.ntmps50
  go_wp2_with fail
  refine HF.out.mono ?_
  rintro e w1 ⟨hk, ⟨he, rfl⟩ | ⟨he, v, L, rfl, hcs, hca, hm⟩⟩
  · have HE := Lib.hid (show setNextM l x = (false, l) from by unfold setNextM; rw [if_pos (.inl he)])
    have HK := Lib.hid hk
    unfold zPage
    clear he hk
    go_wp2
    go_ret
    exact ⟨by rw [HE.out]; rfl, by rw [HE.out]; exact HO.out.kept (HK.out.alloc _), (HK.out.alloc _).mono (fun _ _ h => h.elim)⟩
  · obtain ⟨G, cap, rfl, hrd⟩ := hcs.rd hca
    obtain ⟨hpg, hok⟩ := page_eq he
    have hb : ∀ s ∈ L.map toCv, s.b.length ≤ 5000 := fun s hs => by
      have : s.b ∈ (L.map toCv).map (fun s => s.b) := List.mem_map_of_mem hs
      rw [toCv_b, hm] at this
      exact cells_short HL.out this
    have hL1 : (L.map toCv).length ≤ 1000 := by
      have := hok.cnt
      rw [← hm] at this
      rw [List.length_map] at this ⊢; omega
    have hbs : (L.map toCv).map (fun s => s.b) = cellsM l (bAt l 1).toNat := by rw [toCv_b, hm]
    have HE := Lib.hid (show setNextM l x = if x < 0 ∨ 4294967296 ≤ x then (false, l) else (true, Pg (bAt l 0) x.toNat (cellsM l (bAt l 1).toNat)) from by
      conv => lhs; rw [hpg]
      rw [setNextM_Pg hok, ← hpg])
    have HOK := Lib.hid hok
    have HBS := Lib.hid hbs
    have HRD := Lib.hid hrd
    have HB := Lib.hid hb
    have HK := Lib.hid hk
    generalize L.map toCv = L2 at *
    generalize bAt l 0 = kk at *
    clear he hk hcs hca hm hpg hok hb hrd hbs
    go_wp2_with fail
    have K3 := Lib.hid (HK.out.trans0 (((Kept.refl (fun _ => False) w1).alloc (.cells #[.int .u8 kk.toNat, .int .i64 x, .slice G L2.length cap] 74))))
    refine (set_any base g cp l kk x G cap L2 _ (HO.out.kept K3.out) HL.out (HRD.out.kept ((Kept.refl (fun _ => False) w1).alloc _)) hL1 HB.out).mono ?_
    rintro e w4 ⟨hk4, hres⟩
    have HR := Lib.hid hres
    have HK4 := Lib.hid ((K3.out.mono (T := fun x => x = g) (fun _ _ h => h.elim)).trans' hk4)
    clear hk4 hres
    rcases HR.out with ⟨hno, rfl, ho4⟩ | ⟨hyes, rfl, ho4⟩
    · have HO4 := Lib.hid ho4
      have hxx : x < 0 ∨ 4294967296 ≤ x := by
        rw [HBS.out] at hno
        unfold PutOk at hno
        have h1 := HOK.out.room
        have h2 := HOK.out.cnt
        omega
      have HXX := Lib.hid hxx
      clear hno ho4 hxx
      go_wp2
      go_ret
      exact ⟨by rw [HE.out, if_pos HXX.out]; rfl, by rw [HE.out, if_pos HXX.out]; exact HO4.out, HK4.out⟩
    · have HO4 := Lib.hid ho4
      have hxx : ¬ (x < 0 ∨ 4294967296 ≤ x) := by
        unfold PutOk at hyes
        omega
      have HXX := Lib.hid hxx
      clear hyes ho4 hxx
      go_wp2
      go_ret
      exact ⟨by rw [HE.out, if_neg HXX.out]; rfl, by rw [HE.out, if_neg HXX.out, ← HBS.out]; exact HO4.out, HK4.out⟩
theorem rsetNext_any (base g cp : Nat) (l : Bytes) (x : Int) (w : World) (ho : OwnB w base g cp l) :
    Calls Tryz.prog 50 #[.slice (some ⟨g, 0, none⟩) l.length cp, .int .i64 x] w fun e w' => e = .returned (.bool (setNextM l x).1) ∧ OwnB w' base g cp (setNextM l x).2 ∧ Kept (fun x => x = g) w w' := by
  by_cases hl : l.length = 512
  · rw [hl]; exact rsetNext512 base g cp l x w ho hl
  · have HF := Lib.hid (ofNone (some ⟨g, 0, none⟩) cp l.length w hl)
    have HE := Lib.hid (show setNextM l x = (false, l) from by unfold setNextM; rw [if_pos (.inl (endM_zero_len hl))])
    have HO := Lib.hid ho
    clear ho hl
    go_enter Tryz.func50, Tryz.ntmps50
    go_wp2_with fail
    refine HF.out.mono ?_
    rintro e w1 ⟨hk, rfl⟩
    have HK := Lib.hid hk
    unfold zPage
    clear hk
    go_wp2
    go_ret
    exact ⟨by rw [HE.out]; rfl, by rw [HE.out]; exact HO.out.kept (HK.out.alloc _), (HK.out.alloc _).mono (fun _ _ h => h.elim)⟩
end Go.Proofs.YtndflnedkpmpfaaGreatDoor
