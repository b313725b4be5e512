/- Package wots: Digits. -/
import Derived.Test.YtpgakdioaebikaaDoorWotsP
import Derived.Test.YtpgakdioaebikaaDoorFlat
import Derived.Test.YtpgakdioaebikaaDoorEq
namespace Go.Proofs.YtpgakdioaebikaaDoor
open Go.RowKit Go.Shelf

/-- The first k digits are there, the rest is zero. -/
def dgs (m : List UInt8) (k : Nat) : List Nat := (List.range k).map (wdg m) ++ List.replicate (68 - k) 0
/-- The digits and the last j of the checksum's. -/
def dgc (m : List UInt8) (j : Nat) : List Nat := (List.range 64).map (wdg m) ++ (List.replicate (4 - j) 0 ++ (List.range j).map fun i => wdg m (68 - j + i))
theorem dgs_cons (m : List UInt8) (k : Nat) (h : k < 68) : dgs m k = (List.range k).map (wdg m) ++ 0 :: List.replicate (68 - (k + 1)) 0 := by
  unfold dgs; rw [show 68 - k = (68 - (k + 1)) + 1 from by omega]; rfl
theorem dgs_succ (m : List UInt8) (k : Nat) : dgs m (k + 1) = (List.range k).map (wdg m) ++ wdg m k :: List.replicate (68 - (k + 1)) 0 := by
  unfold dgs; rw [List.range_succ, List.map_append, List.append_assoc]; rfl
theorem iv64_length (l : List Nat) : (iv64 l).length = l.length := by simp [iv64]
theorem iv64_append (a b : List Nat) : iv64 (a ++ b) = iv64 a ++ iv64 b := by simp [iv64]
theorem dgs_new (m : List UInt8) (k : Nat) (h : k < 68) : (iv64 (dgs m k)).toArray[k]? = some (.int .i64 0) := by
  rw [dgs_cons m k h, iv64_append, List.getElem?_toArray, List.getElem?_append_right (by simp [iv64])]
  simp [iv64]
theorem dgs_set (m : List UInt8) (k : Nat) (h : k < 68) (y : Int) (hy : ((wdg m k : Nat) : Int) = y) : (iv64 (dgs m k)).toArray.setIfInBounds k (.int .i64 y) = (iv64 (dgs m (k + 1))).toArray := by
  subst hy
  rw [dgs_cons m k h, dgs_succ, iv64_append, iv64_append, List.setIfInBounds_toArray, List.set_append_right _ _ (by simp [iv64])]
  simp [iv64]
theorem dgs_end (m : List UInt8) : dgs m 64 = dgc m 0 := by unfold dgs dgc; simp
theorem dgc_end (m : List UInt8) : dgc m 4 = wdigits m := by
  unfold dgc wdigits
  rw [show (68 : Nat) = 64 + 4 from rfl, List.range_add, List.map_append]
  simp [List.map_map]
theorem dgc_new (m : List UInt8) (j : Nat) (h : j < 4) : (iv64 (dgc m j)).toArray[67 - j]? = some (.int .i64 0) := by
  match j, h with
  | 0, _ | 1, _ | 2, _ | 3, _ => simp [dgc, iv64, List.range_succ, List.replicate]
theorem dgc_set (m : List UInt8) (j : Nat) (h : j < 4) (y : Int) (hy : ((wdg m (67 - j) : Nat) : Int) = y) : (iv64 (dgc m j)).toArray.setIfInBounds (67 - j) (.int .i64 y) = (iv64 (dgc m (j + 1))).toArray := by
  subst hy
  match j, h with
  | 0, _ | 1, _ | 2, _ | 3, _ => simp [dgc, iv64, List.range_succ, List.replicate]
theorem and3' : ∀ x : Fin 256, bits BinOp.and IntKind.i64 ((x.val : Nat) : Int) 3 = ((x.val % 4 : Nat) : Int) := by decide +kernel
theorem and3 (n : Nat) (z : Int) (h : n < 256) (hz : z = (n : Int)) : bits BinOp.and IntKind.i64 z 3 = ((n % 4 : Nat) : Int) := by subst hz; exact and3' ⟨n, h⟩
set_option maxHeartbeats 2000000 in
set_option maxRecDepth 100000 in
theorem digits_any (m : List UInt8) (w : World) (hm : m.length = 16) :
    Calls Tryd.prog 10 #[.agg (bv m).toArray] w fun e w' => ∃ g, e = .returned (.slice (some ⟨g, 0, none⟩) 68 68) ∧ w.heap.size ≤ g ∧ w'.heap[g]? = some (.cells (iv64 (wdigits m)).toArray 43 (0, 0)) ∧ Below w.heap.size w w' := by
  go_enter Tryd.func10, Tryd.ntmps10
  go_wp2
  go_loopw [4, 5, 7] (fun sm _ i wr => ∃ k : Nat, k ≤ 64 ∧ i = .int .i64 k ∧ sm = .int .i64 (wsum m k : Nat) ∧ wr.heap[w.heap.size]? = some (.cells (bv m).toArray 23 (0, 0)) ∧
      wr.heap[w.heap.size + 1]? = some (.cells (iv64 (dgs m k)).toArray 43 (0, 0)) ∧ Below w.heap.size w wr) (fun _ _ i _ => 64 - (intOf i).toNat)
  case atStart => exact ⟨0, by omega, rfl, rfl, (heap_alloc_old _ _ (by simp)).trans (heap_alloc_new _ _), heap_at _ _ _ (by simp), ((Below.refl _ w).alloc (Nat.le_refl _) _).alloc (by simp) _⟩
  case round =>
    obtain ⟨k, hk, rfl, rfl, hM, hO, hB⟩ := hrel
    have hsl := wsum_le m k
    by_cases hlt : k < 64
    · have hq : k / 4 < m.length := by omega
      obtain ⟨x, hx⟩ : ∃ x, x = m[k / 4] := ⟨_, rfl⟩
      have hgd : m.getD (k / 4) 0 = x := by rw [hx]; simp [List.getD_eq_getElem?_getD, hq]
      have hxl := x.toNat_lt
      have hc : wr.cell? ⟨w.heap.size, k / 4, none⟩ = some (.int .u8 (x.toNat : Int)) := by rw [cell_of_row _ _ _ _ _ _ hM, List.getElem?_toArray, bv_at hq, hx]; rfl
      have hc0 : wr.cell? ⟨w.heap.size + 1, k, none⟩ = some (.int .i64 0) := by rw [cell_of_row _ _ _ _ _ _ hO]; exact dgs_new m k (by omega)
      have hf0 : wr.frozen? ⟨w.heap.size + 1, k, none⟩ = false := frozen_of_row _ _ _ _ _ hO
      obtain ⟨q, hqq⟩ : ∃ q, q = k / 4 := ⟨_, rfl⟩
      rw [← hqq] at hc
      have hd1 : (k : Int) / 4 = (q : Int) := by omega
      have hq16 : (q : Int) < 16 := by omega
      have hwd : wd m k = x.toNat / 4 ^ (3 - k % 4) % 4 := by unfold wd; rw [hgd]
      have hwg : wdg m k = wd m k := if_pos hlt
      have hr : k % 4 = 0 ∨ k % 4 = 1 ∨ k % 4 = 2 ∨ k % 4 = 3 := by omega
      have HM := Lib.hid hM
      have HO := Lib.hid hO
      have HWG := Lib.hid hwg
      obtain ⟨sm, hsm⟩ : ∃ sm, sm = wsum m k := ⟨_, rfl⟩
      have HSM := Lib.hid hsm
      rw [← hsm] at hsl ⊢
      have hki : (k : Int) < 64 := by omega
      clear hM hO hx hgd hq hqq hwg hm hsm
      rcases hr with hr | hr | hr | hr
      · rw [hr] at hwd
        have hd2 : (k : Int) % 4 = 0 := by omega
        obtain ⟨d, hd⟩ : ∃ d, d = wd m k := ⟨_, rfl⟩
        have hd3 : d ≤ 3 := by rw [hd]; exact wd_le m k
        have e0 := and3 (x.toNat / 64) ((x.toNat : Int) / 64) (by omega) (by omega)
        rw [← hd] at hwd
        have hh : x.toNat / 64 % 4 = d := by simp at hwd; omega
        rw [hh] at e0
        have HD := Lib.hid hd
        clear hwd hr hd hh
        go_wp2
        go_roundw
        case rel => exact ⟨k + 1, by omega, by simp, by rw [show wsum m (k + 1) = wsum m k + (3 - wd m k) from rfl, ← HSM.out, ← HD.out]; go_num, (heap_setCell_other _ _ _ _ (by show _ ≠ w.heap.size + 1; omega)).trans HM.out, (heap_setCell_same _ _ _ _ _ _ HO.out).trans (by rw [dgs_set m k (by omega) _ (by rw [HWG.out, HD.out])]), hB.setCell (by show _ ≤ w.heap.size + 1; omega) _⟩
        case measure => simp [intOf]; omega
      · rw [hr] at hwd
        have hd2 : (k : Int) % 4 = 1 := by omega
        obtain ⟨d, hd⟩ : ∃ d, d = wd m k := ⟨_, rfl⟩
        have hd3 : d ≤ 3 := by rw [hd]; exact wd_le m k
        have e0 := and3 (x.toNat / 16) ((x.toNat : Int) / 16) (by omega) (by omega)
        rw [← hd] at hwd
        have hh : x.toNat / 16 % 4 = d := by simp at hwd; omega
        rw [hh] at e0
        have HD := Lib.hid hd
        clear hwd hr hd hh
        go_wp2
        go_roundw
        case rel => exact ⟨k + 1, by omega, by simp, by rw [show wsum m (k + 1) = wsum m k + (3 - wd m k) from rfl, ← HSM.out, ← HD.out]; go_num, (heap_setCell_other _ _ _ _ (by show _ ≠ w.heap.size + 1; omega)).trans HM.out, (heap_setCell_same _ _ _ _ _ _ HO.out).trans (by rw [dgs_set m k (by omega) _ (by rw [HWG.out, HD.out])]), hB.setCell (by show _ ≤ w.heap.size + 1; omega) _⟩
        case measure => simp [intOf]; omega
      · rw [hr] at hwd
        have hd2 : (k : Int) % 4 = 2 := by omega
        obtain ⟨d, hd⟩ : ∃ d, d = wd m k := ⟨_, rfl⟩
        have hd3 : d ≤ 3 := by rw [hd]; exact wd_le m k
        have e0 := and3 (x.toNat / 4) ((x.toNat : Int) / 4) (by omega) (by omega)
        rw [← hd] at hwd
        have hh : x.toNat / 4 % 4 = d := by simp at hwd; omega
        rw [hh] at e0
        have HD := Lib.hid hd
        clear hwd hr hd hh
        go_wp2
        go_roundw
        case rel => exact ⟨k + 1, by omega, by simp, by rw [show wsum m (k + 1) = wsum m k + (3 - wd m k) from rfl, ← HSM.out, ← HD.out]; go_num, (heap_setCell_other _ _ _ _ (by show _ ≠ w.heap.size + 1; omega)).trans HM.out, (heap_setCell_same _ _ _ _ _ _ HO.out).trans (by rw [dgs_set m k (by omega) _ (by rw [HWG.out, HD.out])]), hB.setCell (by show _ ≤ w.heap.size + 1; omega) _⟩
        case measure => simp [intOf]; omega
      · rw [hr] at hwd
        have hd2 : (k : Int) % 4 = 3 := by omega
        obtain ⟨d, hd⟩ : ∃ d, d = wd m k := ⟨_, rfl⟩
        have hd3 : d ≤ 3 := by rw [hd]; exact wd_le m k
        have e0 := and3 (x.toNat) ((x.toNat : Int)) (by omega) (by omega)
        rw [← hd] at hwd
        have hh : x.toNat % 4 = d := by simp at hwd; omega
        rw [hh] at e0
        have HD := Lib.hid hd
        clear hwd hr hd hh
        go_wp2
        go_roundw
        case rel => exact ⟨k + 1, by omega, by simp, by rw [show wsum m (k + 1) = wsum m k + (3 - wd m k) from rfl, ← HSM.out, ← HD.out]; go_num, (heap_setCell_other _ _ _ _ (by show _ ≠ w.heap.size + 1; omega)).trans HM.out, (heap_setCell_same _ _ _ _ _ _ HO.out).trans (by rw [dgs_set m k (by omega) _ (by rw [HWG.out, HD.out])]), hB.setCell (by show _ ≤ w.heap.size + 1; omega) _⟩
        case measure => simp [intOf]; omega
    · obtain rfl : k = 64 := by omega
      rw [dgs_end] at hO
      have hS := wsum64 m
      have hd0 := wdg_le m 64
      have hd1 := wdg_le m 65
      have hd2 := wdg_le m 66
      have hd3 := wdg_le m 67
      obtain ⟨sm, hsm⟩ : ∃ sm, sm = wsum m 64 := ⟨_, rfl⟩
      have e0 := and3 sm (sm : Int) (by omega) rfl
      have e1 := and3 (sm / 4) ((sm : Int) / 4) (by omega) (by omega)
      have e2 := and3 (sm / 16) ((sm : Int) / 16) (by omega) (by omega)
      have e3 := and3 (sm / 64) ((sm : Int) / 64) (by omega) (by omega)
      rw [show sm % 4 = wdg m 67 from by omega] at e0
      rw [show sm / 4 % 4 = wdg m 66 from by omega] at e1
      rw [show sm / 16 % 4 = wdg m 65 from by omega] at e2
      rw [show sm / 64 % 4 = wdg m 64 from by omega] at e3
      have hsl2 : sm ≤ 192 := by omega
      rw [← hsm]
      have HM := Lib.hid hM
      have HO := Lib.hid hO
      clear hM hO hsm hS hd0 hd1 hd2 hd3
      go_wp2
      go_loopw [6, 30] (fun _ i wx => ∃ j : Nat, j ≤ 4 ∧ i = .int .i64 j ∧ wx.heap[w.heap.size + 1]? = some (.cells (iv64 (dgc m j)).toArray 43 (0, 0)) ∧ Below w.heap.size w wx) (fun _ i _ => 4 - (intOf i).toNat)
      case atStart => exact ⟨0, by omega, rfl, HO.out, hB⟩
      case round =>
        clear HM HO hB
        obtain ⟨j, hj, rfl, hO, hB⟩ := hrel
        by_cases hlt : j < 4
        · have hc0 : wr.cell? ⟨w.heap.size + 1, 67 - j, none⟩ = some (.int .i64 0) := by rw [cell_of_row _ _ _ _ _ _ hO]; exact dgc_new m j (by omega)
          have hf0 : wr.frozen? ⟨w.heap.size + 1, 67 - j, none⟩ = false := frozen_of_row _ _ _ _ _ hO
          have HO := Lib.hid hO
          have hset := Lib.hid (dgc_set m j hlt)
          clear hO
          match j, hlt, hc0, hf0, HO, hset with
          | 0, _, hc0, hf0, HO, hset =>
            go_wp2
            go_roundw
            case rel => exact ⟨1, by omega, by simp, (heap_setCell_same _ _ _ _ _ _ HO.out).trans (by rw [← hset.out _ rfl]), hB.setCell (by show _ ≤ w.heap.size + 1; omega) _⟩
            case measure => simp [intOf]
          | 1, _, hc0, hf0, HO, hset =>
            go_wp2
            go_roundw
            case rel => exact ⟨2, by omega, by simp, (heap_setCell_same _ _ _ _ _ _ HO.out).trans (by rw [← hset.out _ rfl]), hB.setCell (by show _ ≤ w.heap.size + 1; omega) _⟩
            case measure => simp [intOf]
          | 2, _, hc0, hf0, HO, hset =>
            go_wp2
            go_roundw
            case rel => exact ⟨3, by omega, by simp, (heap_setCell_same _ _ _ _ _ _ HO.out).trans (by rw [← hset.out _ rfl]), hB.setCell (by show _ ≤ w.heap.size + 1; omega) _⟩
            case measure => simp [intOf]
          | 3, _, hc0, hf0, HO, hset =>
            go_wp2
            go_roundw
            case rel => exact ⟨4, by omega, by simp, (heap_setCell_same _ _ _ _ _ _ HO.out).trans (by rw [← hset.out _ rfl]), hB.setCell (by show _ ≤ w.heap.size + 1; omega) _⟩
            case measure => simp [intOf]
        · obtain rfl : j = 4 := by omega
          rw [dgc_end] at hO
          have HO := Lib.hid hO
          clear hO
          go_wp2
          go_ret
          exact ⟨w.heap.size + 1, rfl, by omega, HO.out, hB⟩
end Go.Proofs.YtpgakdioaebikaaDoor
