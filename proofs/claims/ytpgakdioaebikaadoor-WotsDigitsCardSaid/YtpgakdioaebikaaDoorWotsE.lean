/- Package wots: Sign. -/
import Derived.Test.YtpgakdioaebikaaDoorWotsD
import Derived.Test.YtpgakdioaebikaaDoorFlatB
namespace Go.Proofs.YtpgakdioaebikaaDoor
open Go.RowKit Go.Shelf

theorem info23 : (Tryd.prog.info? 23).map (fun i => (i.zero, i.size, i.bytes)) = some (some (.agg Z16.toArray), 16, 16) := by kernel_rfl
def wsigs (seed : List UInt8) (index : Int) (m : List UInt8) (k : Nat) : List (List UInt8) := (List.range k).map (wsigk seed index m)
theorem wsigs_succ (seed : List UInt8) (index : Int) (m : List UInt8) (k : Nat) : wsigs seed index m (k + 1) = wsigs seed index m k ++ [wsigk seed index m k] := by simp [wsigs, List.range_succ]
theorem wsigs_length (seed : List UInt8) (index : Int) (m : List UInt8) (k : Nat) : (wsigs seed index m k).length = k := by simp [wsigs]
theorem wsigs_each (seed : List UInt8) (index : Int) (m : List UInt8) (k : Nat) : ∀ x ∈ wsigs seed index m k, (bv x).length = 16 := by
  intro x hx
  obtain ⟨i, _, rfl⟩ := List.mem_map.1 hx
  rw [bv_length, wsigk_length]
set_option maxHeartbeats 2000000 in
set_option maxRecDepth 100000 in
theorem sign_any (seed : List UInt8) (index : Int) (m : List UInt8) (w : World) (hs : seed.length = 16) (h0 : -9223372036854775808 ≤ index) (h1 : index < 9223372036854775808) (hm : m.length = 16) (hL : Laid w) :
    Calls Tryd.prog 17 #[.agg (bv seed).toArray, .int .i64 index, .agg (bv m).toArray] w fun e w' => ∃ A c, e = .returned (.slice A 68 c) ∧ RdF bv 16 w' A 68 (wsign seed index m) ∧ Below w.heap.size w w' := by
  have hB0 : Below w.heap.size w ((w.alloc (.cells (bv seed).toArray 23)).alloc (.cells (bv m).toArray 23)) := bt (below_al _ _) (below_al _ _)
  have HG0 : Hid (((w.alloc (.cells (bv seed).toArray 23)).alloc (.cells (bv m).toArray 23)).heap[w.heap.size]? = some (.cells (bv seed).toArray 23 (0, 0))) := (heap_alloc_old _ _ (by simp)).trans (heap_alloc_new _ _)
  have HG1 : Hid (((w.alloc (.cells (bv seed).toArray 23)).alloc (.cells (bv m).toArray 23)).heap[w.heap.size + 1]? = some (.cells (bv m).toArray 23 (0, 0))) := heap_at _ _ _ (by simp)
  have ud := Tryd.underlying23
  have hml : (bv m).length = 16 := by rw [bv_length, hm]
  have hsl : (bv seed).length = 16 := by rw [bv_length, hs]
  go_enter Tryd.func17, Tryd.ntmps17
  go_wp2_with (first
    | (refine wpList_loadB rfl 23 (.tmp 5) rfl ud size32 HG1.out hml rfl rfl ?_)
    | (go_at_call 10; go_must (refine (digits_any m _ hm).mono ?_); rintro e w1 ⟨gd, rfl, hgdl, hgd, hB1⟩; have HD1 := Lib.hid hgd; have HG2 := Lib.hid (block_below HG0.out hB1); have hBw1 := bt hB0 hB1; have hz1 : gd < w1.heap.size := (Array.getElem?_eq_some_iff.1 hgd).1; clear hgd hgdl))
  go_loopw [7, 8, 9, 13] (fun v _ _ i wr => ∃ (j : Nat) (A : Option Addr) (c : Nat), j ≤ 68 ∧ i = .int .i64 j ∧ v = .slice A j c ∧ wr.ownsRow w1.heap.size 23 16 (.slice A j c) j ((wsigs seed index m j).flatMap bv) ∧ Below w1.heap.size w1 wr) (fun _ _ _ i _ => 68 - (intOf i).toNat)
  case atStart => exact ⟨0, none, 0, by omega, rfl, rfl, World.ownsRow_nil _ _ _ _, Below.refl _ _⟩
  case round =>
    obtain ⟨j, A, c, hj, rfl, rfl, hown, hG⟩ := hrel
    have hBr := bt hBw1 hG
    by_cases hlt : j < 68
    · have hd3 := wdg_le m j
      have c0 : wr.cell? ⟨gd, j, none⟩ = _ := cell_row (block_below HD1.out hG) (iv64_at _ _ _ (wdigits_at m j hlt))
      have HS := Lib.hid (block_below HG2.out hG)
      have HLr := Lib.hid (hL.below hBr)
      have hsucc := Lib.hid (wsigs_succ seed index m j)
      have hsg : wsigk seed index m j = wadv j (wstart seed index j) (wdg m j) := rfl
      have hgl := wsigk_length seed index m j
      have hstl := wstart_length seed index j
      have HST := Lib.hid (start_any seed index j)
      obtain ⟨g, hg⟩ : ∃ g, g = wsigk seed index m j := ⟨_, rfl⟩
      rw [← hg] at hgl hsucc hsg
      obtain ⟨s0, hs0⟩ : ∃ s0, s0 = wstart seed index j := ⟨_, rfl⟩
      rw [← hs0] at hsg hstl HST
      obtain ⟨d, hd⟩ : ∃ d, d = wdg m j := ⟨_, rfl⟩
      rw [← hd] at hsg hd3 c0
      have HAD := Lib.hid (advance_any j s0 d)
      rw [← hsg] at HAD
      have hji : (j : Int) < 68 := by omega
      have hone := bv_one g
      clear hg hs0 hd hsg
      go_wp2_with (first
        | (refine wpList_loadB rfl 23 (.tmp 3) rfl ud size32 HS.out hsl rfl rfl ?_)
        | (go_at_call 29; go_must (refine (HST.out _ hs h0 h1 (by omega) HLr.out).mono ?_); rintro e w2 ⟨rfl, hB2⟩; have own2 := own_below hown hB2; have HL2 := Lib.hid (HLr.out.below hB2); have hG2 := bt hG hB2)
        | (go_at_call 24; go_must (refine (HAD.out _ (by omega) hstl (by omega) HL2.out).mono ?_); rintro e w3 ⟨rfl, hB3⟩; have own3 := own_below own2 hB3; have hG3 := bt hG2 hB3)
        | (refine wpList_build1 rfl 24 23 (.tmp 25) rfl 16 16 _ Tryd.underlying24 info23 (by decide) (by decide) (bv g) rfl (by rw [bv_length, hgl]) ?_)
        | (at_builtin; go_must (refine wpList_appF (s := 16) (g := w3.heap.size) rfl _ _ 24 rfl w1.heap.size 23 16 _ Tryd.underlying24 info23 rfl (by decide) (by decide) _ _ _ (bv g) (own_below own3 (below_al _ _)) (heap_alloc_new _ _) rfl rfl (by rw [bv_length, hgl]) hone (Nat.le_trans hG3.size (by simp)) (by omega) ?_); intro A4 c4 w4 hown4 hg4 _))
      rw [← flat_snoc, ← hsucc.out] at hown4
      go_roundw
      case rel => exact ⟨j + 1, A4, c4, by omega, by simp, rfl, hown4, (bt hG3 (below_al _ _)).grown hg4 (Nat.le_trans hG3.size (by simp)) (own_ge own3)⟩
      case measure => simp [intOf]; omega
    · obtain rfl : j = 68 := by omega
      go_wp2
      go_ret
      exact ⟨A, c, rfl, ⟨wsign_length _ _ _, wsigs_each _ _ _ _, own_cells hown⟩, hBr⟩
end Go.Proofs.YtpgakdioaebikaaDoor
