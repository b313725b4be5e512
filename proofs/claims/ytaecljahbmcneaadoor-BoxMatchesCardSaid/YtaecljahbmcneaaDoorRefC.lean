/- The reference of chapter 02: All, short, Same, Short. -/
import Derived.Test.YtaecljahbmcneaaDoorShaG
namespace Go.Proofs.YtaecljahbmcneaaDoor
open Go.RowKit Go.Shelf

set_option maxHeartbeats 1000000 in
set_option maxRecDepth 100000 in
theorem all_any (d : List UInt8) (w : World) (hd : d.length = 32) :
    Calls Tryd.prog 70 #[.agg (bv d).toArray] w fun e w' => ∃ A c, e = .returned (.slice A 32 c) ∧ w'.ownsRow w.heap.size 5 1 (.slice A 32 c) 32 (bv d) ∧ Below w.heap.size w w' := by
  have hB0 : Below w.heap.size w (w.alloc (.cells (bv d).toArray 78)) := (Below.refl _ w).alloc (Nat.le_refl _) _
  have HR := Lib.hid (heap_alloc_new w (.cells (bv d).toArray 78))
  go_enter Tryd.func70, Tryd.ntmps70
  go_wp2
  go_loopw [3, 4] (fun v i wr => ∃ (k : Nat) (A : Option Addr) (c : Nat), k ≤ 32 ∧ i = .int .i64 k ∧ v = .slice A k c ∧ wr.ownsRow (w.heap.size + 1) 5 1 (.slice A k c) k (bv (d.take k)) ∧ wr.heap[w.heap.size]? = some (.cells (bv d).toArray 78 (0, 0)) ∧ Below w.heap.size w wr) (fun _ i _ => 32 - (intOf i).toNat)
  case atStart => exact ⟨0, none, 0, by omega, rfl, rfl, World.ownsRow_nil _ _ _ _, HR.out, hB0⟩
  case round =>
    obtain ⟨k, A, c, hk, rfl, rfl, hown, hrow, hB⟩ := hrel
    have hz : w.heap.size < wr.heap.size := (Array.getElem?_eq_some_iff.1 hrow).1
    by_cases hlt : k < 32
    · have hck : wr.cell? ⟨w.heap.size, k, none⟩ = some (.int .u8 ((d[k]'(by omega)).toNat : Int)) := by rw [cell_of_row _ _ _ _ _ _ hrow, List.getElem?_toArray, bv_at (by omega)]; rfl
      obtain ⟨x, hx⟩ : ∃ x, x = d[k]'(by omega) := ⟨_, rfl⟩
      rw [← hx] at hck
      have HX := Lib.hid hx
      have HROW := Lib.hid hrow
      clear hx hrow
      have hk32 : (k : Int) < 32 := by omega
      go_wp2_with (at_builtin; go_must (refine wpList_app1 rfl _ _ 48 rfl (w.heap.size + 1) 5 1 (.int .u8 0) Tryd.underlying48 info5 rfl (by decide) _ _ _ _ hown rfl rfl rfl (by omega) (by omega) ?_); intro A1 c1 w1 hown1 hg1 hat1)
      have e : bv (d.take k) ++ [.int .u8 (x.toNat : Int)] = bv (d.take (k + 1)) := by rw [List.take_succ_eq_append_getElem (by omega), bv_append, HX.out]; rfl
      rw [e] at hown1
      go_roundw
      case rel => exact ⟨k + 1, A1, c1, by omega, by simp, rfl, hown1, block_kept HROW.out hg1 (fun e => by have := own_ge hown _ e.symm; omega), below_grown hB hg1 (by omega) (fun k e => by have := own_ge hown k e; omega)⟩
      case measure => simp [intOf]; omega
    · obtain rfl : k = 32 := by omega
      go_wp2
      go_ret
      rw [List.take_of_length_le (by omega)] at hown
      exact ⟨A, c, rfl, own_lower hown (by omega), hB⟩

/-- The first k of n bytes are copied; the others are zero. -/
def cpy (d : List UInt8) (n k : Nat) : List UInt8 := d.take k ++ List.replicate (n - k) 0
theorem cpy_length (d : List UInt8) (n k : Nat) (hk : k ≤ n) (hd : n ≤ d.length) : (cpy d n k).length = n := by unfold cpy; simp; omega
theorem cpy_set (d : List UInt8) (n k : Nat) (hk : k < n) (hd : n ≤ d.length) (y : Int) (hy : ((d[k]'(by omega)).toNat : Int) = y) : (bv (cpy d n k)).toArray.setIfInBounds k (.int .u8 y) = (bv (cpy d n (k + 1))).toArray := by
  subst hy
  have e1 : n - k = (n - (k + 1)) + 1 := by omega
  have e2 : (bv (d.take k)).length = k := by rw [bv_length, List.length_take]; omega
  have e3 : cpy d n k = d.take k ++ 0 :: List.replicate (n - (k + 1)) 0 := by unfold cpy; rw [e1]; rfl
  have e4 : cpy d n (k + 1) = d.take k ++ d[k]'(by omega) :: List.replicate (n - (k + 1)) 0 := by unfold cpy; rw [List.take_succ_eq_append_getElem (by omega), List.append_assoc]; rfl
  rw [e3, e4]
  simp only [bv_append, List.setIfInBounds_toArray]
  rw [List.set_append_right _ _ (by omega), e2, Nat.sub_self]
  rfl
theorem cpy_at (d : List UInt8) (n k : Nat) (hk : k < n) (hd : n ≤ d.length) : (bv (cpy d n k)).toArray[k]? = some (.int .u8 0) := by
  have e1 : n - k = (n - (k + 1)) + 1 := by omega
  have e2 : (bv (d.take k)).length = k := by rw [bv_length, List.length_take]; omega
  have e3 : cpy d n k = d.take k ++ 0 :: List.replicate (n - (k + 1)) 0 := by unfold cpy; rw [e1]; rfl
  rw [e3, bv_append, List.getElem?_toArray, List.getElem?_append_right (by omega), e2, Nat.sub_self]
  rfl
theorem cpy_end (d : List UInt8) (n : Nat) : cpy d n n = d.take n := by simp [cpy]
theorem cpy_zero (d : List UInt8) (n : Nat) : cpy d n 0 = List.replicate n 0 := by simp [cpy]

set_option maxHeartbeats 1000000 in
set_option maxRecDepth 100000 in
theorem rshort_any (d : List UInt8) (w : World) (hd : d.length = 32) :
    Calls Tryd.prog 68 #[.agg (bv d).toArray] w fun e w' => e = .returned (.agg (bv (d.take 16)).toArray) ∧ Below w.heap.size w w' := by
  have hB0 : Below w.heap.size w ((w.alloc (.cells (bv d).toArray 78)).alloc (.cells (List.replicate 16 (Value.int .u8 0)).toArray 34)) := ((Below.refl _ w).alloc (Nat.le_refl _) _).alloc (by simp) _
  have hrow : ((w.alloc (.cells (bv d).toArray 78)).alloc (.cells (List.replicate 16 (Value.int .u8 0)).toArray 34)).heap[w.heap.size]? = some (.cells (bv d).toArray 78 (0, 0)) := (heap_alloc_old _ _ (by simp)).trans (heap_alloc_new _ _)
  have hres : ((w.alloc (.cells (bv d).toArray 78)).alloc (.cells (List.replicate 16 (Value.int .u8 0)).toArray 34)).heap[w.heap.size + 1]? = some (.cells (List.replicate 16 (Value.int .u8 0)).toArray 34 (0, 0)) := heap_at _ _ _ (by simp)
  have htl : (bv (d.take 16)).length = 16 := by rw [bv_length, List.length_take, hd]; rfl
  have HROW := Lib.hid hrow
  have HRES := Lib.hid hres
  clear hrow hres
  go_enter Tryd.func68, Tryd.ntmps68
  go_wp2_with (refine wpList_storeB (old := List.replicate 16 (Value.int .u8 0)) (t := 34) rfl 34 (.tmp 3) (.tmp 5) rfl size32 (by first | exact heap_at _ _ _ (by simp) | exact heap_at _ _ _ rfl) (bv_one (List.replicate 16 0)) (by rfl) (by rfl) rfl rfl ?_; intro w1 h1 hg1 hz1)
  have q0 : w1.heap[w.heap.size]? = some (.cells (bv d).toArray 78 (0, 0)) := block_kept ((heap_alloc_old _ _ (by simp; omega)).trans HROW.out) hg1 (by simp; omega)
  have q1 : w1.heap[w.heap.size + 1]? = some (.cells (List.replicate 16 (Value.int .u8 0)).toArray 34 (0, 0)) := block_kept ((heap_alloc_old _ _ (by simp)).trans HRES.out) hg1 (by simp)
  have q2 : w1.heap[w.heap.size + 1 + 1]? = some (.cells (bv (cpy d 16 0)).toArray 34 (0, 0)) := by rw [cpy_zero]; exact h1
  have hB1 : Below w.heap.size w w1 := (hB0.alloc hB0.size _).grown hg1 (by simp; omega) (fun k e => by cases e; omega)
  clear hB0 HROW HRES h1 hg1 hz1
  go_loopw [4] (fun i wr => ∃ k : Nat, k ≤ 16 ∧ i = .int .i64 k ∧ wr.heap[w.heap.size]? = some (.cells (bv d).toArray 78 (0, 0)) ∧ wr.heap[w.heap.size + 1]? = some (.cells (List.replicate 16 (Value.int .u8 0)).toArray 34 (0, 0)) ∧ wr.heap[w.heap.size + 1 + 1]? = some (.cells (bv (cpy d 16 k)).toArray 34 (0, 0)) ∧ Below w.heap.size w wr) (fun i _ => 16 - (intOf i).toNat)
  case atStart => exact ⟨0, by omega, rfl, q0, q1, q2, hB1⟩
  case round =>
    clear q0 q1 q2 hB1
    obtain ⟨k, hk, rfl, h0, h1, h2, hB⟩ := hrel
    by_cases hlt : k < 16
    · have c0 : wr.cell? ⟨w.heap.size, k, none⟩ = some (.int .u8 ((d[k]'(by omega)).toNat : Int)) := by rw [cell_of_row _ _ _ _ _ _ h0, List.getElem?_toArray, bv_at (by omega)]; rfl
      have c2 : wr.cell? ⟨w.heap.size + 1 + 1, k, none⟩ = some (.int .u8 0) := by rw [cell_of_row _ _ _ _ _ _ h2]; exact cpy_at d 16 k hlt (by omega)
      have f2 : wr.frozen? ⟨w.heap.size + 1 + 1, k, none⟩ = false := frozen_of_row _ _ _ _ _ h2
      obtain ⟨x, hx⟩ : ∃ x, x = d[k]'(by omega) := ⟨_, rfl⟩
      rw [← hx] at c0
      have HX := Lib.hid hx
      have H0 := Lib.hid h0
      have H1 := Lib.hid h1
      have H2 := Lib.hid h2
      clear hx h0 h1 h2
      have hk16 : (k : Int) < 16 := by omega
      have hk32 : (k : Int) < 32 := by omega
      go_wp2
      go_roundw
      case rel =>
        refine ⟨k + 1, by omega, by simp, ?_, ?_, ?_, hB.setCell (by show _ ≤ w.heap.size + 1 + 1; omega) _⟩
        · rw [heap_setCell_other _ _ _ _ (by show _ ≠ w.heap.size + 1 + 1; omega)]; exact H0.out
        · rw [heap_setCell_other _ _ _ _ (by show _ ≠ w.heap.size + 1 + 1; omega)]; exact H1.out
        · rw [heap_setCell_same _ _ _ _ _ _ H2.out, cpy_set d 16 k hlt (by omega) _ (by rw [HX.out])]
      case measure => simp [intOf]; omega
    · have hk16 : k = 16 := by omega
      subst hk16
      rw [cpy_end] at h2
      have H1 := Lib.hid h1
      have H2 := Lib.hid h2
      clear h0 h1 h2
      go_wp2_with (first
        | (refine wpList_loadB rfl 34 (.tmp 3) rfl Tryd.underlying34 size32 H2.out htl rfl rfl ?_)
        | (refine wpList_storeB rfl 34 (.tmp 2) (.tmp 15) rfl size32 H1.out (bv_one (d.take 16)) htl (by rfl) rfl rfl ?_; intro w5 h5 hg5 hz5))
      refine ret_agg rfl Tryd.underlying34 size32 rfl h5 htl rfl rfl ?_
      exact ⟨rfl, hB.grown hg5 hB.size (fun k e => by cases e; omega)⟩
end Go.Proofs.YtaecljahbmcneaaDoor
