/- Package wots: Public. -/
import Derived.Test.YtpgakdioaebikaaDoorWotsB
namespace Go.Proofs.YtpgakdioaebikaaDoor
open Go.RowKit Go.Shelf

set_option maxHeartbeats 2000000 in
set_option maxRecDepth 100000 in
theorem key_pub (f : Nat → List UInt8) (g0 g1 : Nat) (w : World) (hf : ∀ k, k < 68 → (f k).length = 16)
    (hend : ∀ (k : Nat) (W : World), k < 68 → Below w.heap.size w W → Calls Tryd.prog 28 #[.int .i64 (k : Int), .pointer (some ⟨g0, 0, none⟩), .pointer (some ⟨g1, 0, none⟩)] W fun e W' => e = .returned (.agg (bv (f k)).toArray) ∧ Below W.heap.size W W') (hL : Laid w) :
    Calls Tryd.prog 22 #[.func (.func 28) #[] #[.pointer (some ⟨g0, 0, none⟩), .pointer (some ⟨g1, 0, none⟩)]] w fun e w' => e = .returned (.agg (bv (wkey f)).toArray) ∧ Below w.heap.size w w' := by
  have HE := Lib.hid hend
  have HS0 := Lib.hid (heap_alloc_new w (.cells Z16.toArray 23))
  clear hend
  go_enter Tryd.func22, Tryd.ntmps22
  go_wp2
  go_loopw [3, 4, 5, 6] (fun b _ _ i wr => ∃ (j : Nat) (A : Option Addr) (c : Nat) (xs : List UInt8), j ≤ 68 ∧ i = .int .i64 j ∧ b = .slice A xs.length c ∧ Hid (xs = wjoin f j) ∧ xs.length = 16 * j ∧ wr.ownsRow (w.heap.size + 1) 5 1 (.slice A xs.length c) xs.length (bv xs) ∧
      wr.heap[w.heap.size]? = some (.cells Z16.toArray 23 (0, 0)) ∧ Below w.heap.size w wr) (fun _ _ _ i _ => 68 - (intOf i).toNat)
  case atStart => exact ⟨0, none, 0, [], by omega, rfl, rfl, Lib.hid rfl, rfl, World.ownsRow_nil _ _ _ _, HS0.out, below_al _ _⟩
  case round =>
    obtain ⟨j, A, c, xs, hj, rfl, rfl, hX, hxl, hown, hS, hB⟩ := hrel
    have HS := Lib.hid hS
    have hz : w.heap.size < wr.heap.size := (Array.getElem?_eq_some_iff.1 hS).1
    have HXL := Lib.hid hxl
    have hx2 : xs.length ≤ 1088 := by omega
    clear hS HS0 hxl
    by_cases hlt : j < 68
    · have hv := hf j hlt
      obtain ⟨v, hvv⟩ : ∃ v, v = f j := ⟨_, rfl⟩
      have hcall := HE.out j wr hlt hB
      rw [← hvv] at hcall hv
      have HC := Lib.hid hcall
      have HV := Lib.hid hvv
      have hji : (j : Int) < 68 := by omega
      clear hcall hvv
      go_wp2_with (first
        | (go_at_call 28; refine HC.out.mono ?_; rintro e w1 ⟨rfl, hB1⟩; have own1 := own_below hown hB1; have HS1 := Lib.hid (block_below HS.out hB1); have hBw1 := bt hB hB1; have hz1 : w.heap.size + 1 ≤ w1.heap.size := (by have := hB1.size; omega))
        | (refine wpList_storeB rfl 23 (.tmp 5) (.tmp 11) rfl size32 (heap_alloc_new w1 _) (bv_one v) (by rw [bv_length, hv]) (by rfl) rfl rfl ?_; intro w2 h2 hg2 hz2; have hB2 := below_put hg2; have r2 := rd_block h2 hv; have own2 := own_below own1 hB2; have HS2 := Lib.hid (block_below HS1.out hB2); have hBw2 := bt hBw1 hB2; have hz2' : w.heap.size + 1 ≤ w2.heap.size := (by have := hB2.size; omega); clear h2 hg2 hz2)
        | (at_builtin; refine wpList_app rfl _ _ 41 rfl (w.heap.size + 1) 5 1 1 _ Tryd.underlying41 info5 rfl (by decide) (by decide) _ _ _ (bv v) _ _ _ own2 r2.cells rfl rfl (by rw [bv_length, hv]) (bv_one _) hz2' (by omega) ?_; intro A3 c3 w3 hown3 hg3 _; rw [← bv_append] at hown3))
      have hl3 : xs.length + 16 = (xs ++ v).length := by rw [List.length_append, hv]
      rw [hl3] at hown3
      go_roundw
      case rel => exact ⟨j + 1, A3, c3, xs ++ v, by omega, by simp, by rw [hl3], Lib.hid (by rw [hX.out, HV.out]; rfl), by rw [← hl3, HXL.out]; omega, hown3, block_kept HS2.out hg3 (fun e => by have := own_ge own2 _ e.symm; omega), hBw2.grown hg3 (by omega) (fun q e => by have := own_ge own2 q e; omega)⟩
      case measure => simp [intOf]; omega
    · obtain rfl : j = 68 := by omega
      have hdl := digest_length 4 [xs]
      have hkd : wkey f = digest 4 [xs] := by unfold wkey; rw [hX.out]
      have HKD := Lib.hid hkd
      have hl := Lib.hid (hL.below hB)
      have rx : Rd wr A xs.length xs := ⟨rfl, own_cells hown⟩
      clear hkd
      go_wp2_with (first
        | (go_at_call 20; go_must (refine (digest_any 4 _ _ _ [xs] _ (rdL_one rx) (by omega) (by intro p hp; simp at hp; subst hp; omega) (hl.out.below (below_al _ _))).mono ?_); rintro e w4 ⟨rfl, hB4⟩; have hB34 := bt (below_al _ _) hB4; have HS4 := Lib.hid (block_below HS.out hB34))
        | (refine wpList_storeB rfl 23 (.tmp 2) (.tmp 18) rfl size32 HS4.out (bv_one (digest 4 [xs])) (by rw [bv_length, hdl]) (by rfl) rfl rfl ?_; intro w5 h5 hg5 hz5; clear hz5))
      refine ret_agg rfl Tryd.underlying23 size32 rfl h5 (by rw [bv_length, hdl]) rfl rfl ?_
      exact ⟨by rw [HKD.out], (bt hB hB34).grown hg5 (bt hB hB34).size (fun q e => by cases e; omega)⟩

set_option maxHeartbeats 2000000 in
set_option maxRecDepth 100000 in
theorem pubc_any (seed : List UInt8) (index : Int) (k g0 g1 : Nat) (w : World) (hs : seed.length = 16) (h0 : -9223372036854775808 ≤ index) (h1 : index < 9223372036854775808) (hk : k < 68) (hg0 : w.heap[g0]? = some (.cells (bv seed).toArray 23 (0, 0))) (hg1 : w.heap[g1]? = some (.cells #[.int .i64 index] 3 (0, 0))) (hL : Laid w) :
    Calls Tryd.prog 28 #[.int .i64 (k : Int), .pointer (some ⟨g0, 0, none⟩), .pointer (some ⟨g1, 0, none⟩)] w fun e w' => e = .returned (.agg (bv (wadv k (wstart seed index k) 3)).toArray) ∧ Below w.heap.size w w' := by
  have hB0 := below_al w (.cells Z16.toArray 23)
  have HS0 := Lib.hid (heap_alloc_new w (.cells Z16.toArray 23))
  have HG0 := Lib.hid (block_below hg0 hB0)
  have c1 : (w.alloc (.cells Z16.toArray 23)).cell? ⟨g1, 0, none⟩ = some (.int .i64 index) := by rw [cell_of_row _ _ _ _ _ _ (block_below hg1 hB0)]; rfl
  have HL0 := Lib.hid (hL.below hB0)
  have hsl : (bv seed).length = 16 := by rw [bv_length, hs]
  have hel := wadv_length k (wstart seed index k) 3 (wstart_length _ _ _)
  have hST := Lib.hid (start_any seed index k (w.alloc (.cells Z16.toArray 23)) hs h0 h1 (by omega) HL0.out)
  have hstl := wstart_length seed index k
  obtain ⟨s0, hs0⟩ : ∃ s0, s0 = wstart seed index k := ⟨_, rfl⟩
  rw [← hs0] at hST hstl hel ⊢
  clear hs0 hg0 hg1 hs
  go_enter Tryd.func28, Tryd.ntmps28
  go_upto_region 1 with (fail)
  change Code.wp _ _ _ _ (w.alloc (.cells Z16.toArray 23))
  obtain ⟨wd, hwd⟩ : ∃ x, x = w.alloc (.cells Z16.toArray 23) := ⟨_, rfl⟩
  rw [← hwd] at hB0 HS0 HG0 c1 HL0 hST ⊢
  clear hwd
  go_wp2_with (first
    | (refine wpList_loadB rfl 23 (.tmp 1) rfl Tryd.underlying23 size32 HG0.out hsl rfl rfl ?_)
    | (go_at_call 29; refine hST.out.mono ?_; rintro e w1 ⟨rfl, hB1⟩; have hBw1 := bt hB0 hB1; have HS1 := Lib.hid (block_below HS0.out hB1); have HL1 := Lib.hid (hL.below hBw1))
    | (go_at_call 24; go_must (refine (advance_any k s0 3 _ (by omega) hstl (by omega) HL1.out).mono ?_); rintro e w2 ⟨rfl, hB2⟩; have hBw2 := bt hBw1 hB2; have HS2 := Lib.hid (block_below HS1.out hB2))
    | (refine wpList_storeB rfl 23 (.tmp 4) (.tmp 10) rfl size32 HS2.out (bv_one (wadv k s0 3)) (by rw [bv_length, hel]) (by rfl) rfl rfl ?_; intro w5 h5 hg5 hz5; clear hz5))
  refine ret_agg rfl Tryd.underlying23 size32 rfl h5 (by rw [bv_length, hel]) rfl rfl ?_
  exact ⟨rfl, hBw2.grown hg5 hBw2.size (fun q e => by cases e; omega)⟩

set_option maxHeartbeats 2000000 in
set_option maxRecDepth 100000 in
theorem public_any (seed : List UInt8) (index : Int) (w : World) (hs : seed.length = 16) (h0 : -9223372036854775808 ≤ index) (h1 : index < 9223372036854775808) (hL : Laid w) :
    Calls Tryd.prog 14 #[.agg (bv seed).toArray, .int .i64 index] w fun e w' => e = .returned (.agg (bv (wpublic seed index)).toArray) ∧ Below w.heap.size w w' := by
  have hmf : ∀ (fn : Fn) (first cap : Array Value) (w : World), (Instr.makeFunc fn first cap).run Tryd.prog w = .ok (.func fn first cap) w := fun _ _ _ _ => rfl
  have hpl := wkey_length fun k => wadv k (wstart seed index k) 3
  have hB0 : Below w.heap.size w (((w.alloc (.cells (bv seed).toArray 23)).alloc (.cells #[.int .i64 index] 3)).alloc (.cells Z16.toArray 23)) := bt (bt (below_al _ _) (below_al _ _)) (below_al _ _)
  have hg0 : (((w.alloc (.cells (bv seed).toArray 23)).alloc (.cells #[.int .i64 index] 3)).alloc (.cells Z16.toArray 23)).heap[w.heap.size]? = some (.cells (bv seed).toArray 23 (0, 0)) := (heap_alloc_old _ _ (by simp; omega)).trans ((heap_alloc_old _ _ (by simp)).trans (heap_alloc_new _ _))
  have hg1 : (((w.alloc (.cells (bv seed).toArray 23)).alloc (.cells #[.int .i64 index] 3)).alloc (.cells Z16.toArray 23)).heap[w.heap.size + 1]? = some (.cells #[.int .i64 index] 3 (0, 0)) := (heap_alloc_old _ _ (by simp)).trans (heap_at _ _ _ (by simp))
  have HS : Hid ((((w.alloc (.cells (bv seed).toArray 23)).alloc (.cells #[.int .i64 index] 3)).alloc (.cells Z16.toArray 23)).heap[w.heap.size + 1 + 1]? = some (.cells Z16.toArray 23 (0, 0))) := heap_at _ _ _ (by simp)
  have HKY := Lib.hid (key_pub (fun k => wadv k (wstart seed index k) 3) w.heap.size (w.heap.size + 1) _ (fun k _ => wadv_length _ _ _ (wstart_length _ _ _)) (fun k W hk hW => pubc_any seed index k _ _ W hs h0 h1 hk (block_below hg0 hW) (block_below hg1 hW) ((hL.below hB0).below hW)) (hL.below hB0))
  have hz : (w.heap.size + 1 + 1) = (w.heap.size + 2) := rfl
  clear hg0 hg1 hz
  unfold wpublic
  go_enter Tryd.func14, Tryd.ntmps14
  go_upto_region 1 with (fail)
  change Code.wp _ _ _ _ (((w.alloc (.cells (bv seed).toArray 23)).alloc (.cells #[.int .i64 index] 3)).alloc (.cells Z16.toArray 23))
  obtain ⟨wd, hwd⟩ : ∃ x, x = (((w.alloc (.cells (bv seed).toArray 23)).alloc (.cells #[.int .i64 index] 3)).alloc (.cells Z16.toArray 23)) := ⟨_, rfl⟩
  rw [← hwd] at hB0 HS HKY ⊢
  clear hwd
  go_wp2_with (first
    | (go_at_call 22; refine HKY.out.mono ?_; rintro e w1 ⟨rfl, hB1⟩; have HS1 := Lib.hid (block_below HS.out hB1))
    | (refine wpList_storeB rfl 23 (.tmp 4) (.tmp 6) rfl size32 HS1.out (bv_one (wkey fun k => wadv k (wstart seed index k) 3)) (by rw [bv_length, hpl]) (by rfl) rfl rfl ?_; intro w5 h5 hg5 hz5; clear hz5))
  refine ret_agg rfl Tryd.underlying23 size32 rfl h5 (by rw [bv_length, hpl]) rfl rfl ?_
  exact ⟨rfl, (bt hB0 hB1).grown hg5 (bt hB0 hB1).size (fun q e => by cases e; omega)⟩
end Go.Proofs.YtpgakdioaebikaaDoor
