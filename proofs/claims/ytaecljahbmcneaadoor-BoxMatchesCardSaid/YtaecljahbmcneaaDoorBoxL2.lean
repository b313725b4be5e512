/- BoxMatches. -/
import Derived.Test.YtaecljahbmcneaaDoorRegInv
import Derived.Test.YtaecljahbmcneaaDoorOpenB
import Derived.Test.YtaecljahbmcneaaDoorBoxE
import Derived.Test.YtaecljahbmcneaaDoorRBoxC
namespace Go.Proofs.YtaecljahbmcneaaDoor
open Go.RowKit Go.Shelf

set_option maxHeartbeats 4000000 in
set_option maxRecDepth 100000 in
theorem matches_any (key : List UInt8) (nonce : Int) (s : ByteArray) (n : Int) (c : ByteArray) (tag : List UInt8) (w : World) (hk : key.length = 16) (mn : (Lit.int .i64 nonce).wf = true) (_ms : s.size ≤ maxLen) (ht : tag.length = 16) (n0 : -9223372036854775808 ≤ n) (n1 : n < 9223372036854775808) (_hc : (c.size : Int) ≤ 9223372036854775807) (hL : Laid w) :
    Calls Tryd.prog 4 #[.agg (bv key).toArray, .int .i64 nonce, .string s, .agg (boxv n c tag).toArray] w fun e w' => e = .returned (.bool true) ∧ Below w.heap.size w w' := by
  obtain ⟨h0, h1⟩ : -9223372036854775808 ≤ nonce ∧ nonce < 9223372036854775808 := by
    simp [Lit.wf, IntKind.min, IntKind.max, IntKind.signed, IntKind.bits] at mn
    omega
  have hB0 : Below w.heap.size w ((w.alloc (.cells (bv key).toArray 34)).alloc (.cells (boxv n c tag).toArray 36)) := bt (below_al _ _) (below_al _ _)
  have HK := Lib.hid hk
  have HSN := Lib.hid (sanity_any ((w.alloc (.cells (bv key).toArray 34)).alloc (.cells (boxv n c tag).toArray 36)) (hL.below hB0))
  have HKW : Hid (((w.alloc (.cells (bv key).toArray 34)).alloc (.cells (boxv n c tag).toArray 36)).heap[w.heap.size]? = some (.cells (bv key).toArray 34 (0, 0))) := (heap_alloc_old _ _ (by simp)).trans (heap_alloc_new _ _)
  have HBW : Hid (((w.alloc (.cells (bv key).toArray 34)).alloc (.cells (boxv n c tag).toArray 36)).heap[w.heap.size + 1]? = some (.cells (boxv n c tag).toArray 36 (0, 0))) := heap_at _ _ _ (by simp)
  have ud := Tryd.underlying34
  have ub := Tryd.underlying36
  have hxl := boxv_length n c tag ht
  clear mn
  by_cases hm : s.size ≤ 300 ∧ c.size ≤ 300
  · obtain ⟨hm1, hm2⟩ := hm
    have hmi : decide ((300 : Int) < (s.size : Int)) = false := by rw [decide_eq_false_iff_not]; omega
    have hmi' : ¬ ((300 : Int) < (s.size : Int)) := by omega
    have hmj : ¬ ((300 : Int) < (c.size : Int)) := by omega
    have HO := Lib.hid (open_any key n c tag)
    have HR := Lib.hid (ropen_any key n c tag)
    have hs9 : s.size ≤ 900000 := by omega
    have hc9 : c.size ≤ 900000 := by omega
    have HS := Lib.hid (seal_any key nonce s)
    have HT := Lib.hid (rseal_any key nonce s)
    have hbl := btag_length key nonce (crypt key nonce s.data.toList)
    generalize btag key nonce (crypt key nonce s.data.toList) = T at *
    generalize crypts key nonce s = C at *
    generalize bopens key n c tag = so at *
    generalize bopene key n c tag = eo at *
    go_enter Tryd.func4, Tryd.ntmps4
    go_upto_region 2 with (first
      | (go_at_call 19; go_must (refine HSN.out.mono ?_); rintro e w1 ⟨rfl, hB1⟩; have HK1 := Lib.hid (block_below HKW.out hB1); have HX1 := Lib.hid (block_below HBW.out hB1); obtain ⟨a0, a1, _⟩ := box_cell HX1.out; have hBw1 := bt hB0 hB1; have hl1 := Lib.hid (hL.below hBw1)))
    go_upto_region 6 with (first
      | (refine wpList_loadB rfl 34 (.tmp 4) rfl ud size32 HK1.out (by rw [bv_length, HK.out]) rfl rfl ?_)
      | (refine wpList_loadB rfl 36 (.tmp 7) rfl ub size36 HX1.out hxl rfl rfl ?_)
      | (go_at_call 20; go_must (refine (HO.out w1 HK.out ht n0 n1 hc9 hl1.out).mono ?_); rintro e w2 ⟨rfl, hB2⟩; have HK2 := Lib.hid (block_below HK1.out hB2); have HX2 := Lib.hid (block_below HX1.out hB2); have hBw2 := bt hBw1 hB2)
      | (refine wpList_loadB rfl 34 (.tmp 4) rfl ud size32 HK2.out (by rw [bv_length, HK.out]) rfl rfl ?_)
      | (refine wpList_loadB rfl 36 (.tmp 7) rfl ub size36 HX2.out hxl rfl rfl ?_)
      | (go_at_call 21; go_must (refine (HR.out w2 HK.out ht n0 n1 hc9).mono ?_); rintro e w3 ⟨rfl, hB3⟩; have HK3 := Lib.hid (block_below HK2.out hB3); have hBw3 := bt hBw2 hB3; have hl3 := Lib.hid (hL.below hBw3)))
    have hBq : Below w3.heap.size w3 w3.drew := Below.drew (Below.refl _ _)
    have RK := Lib.hid (range_kept (row_range HK3.out) hBq)
    have LD := Lib.hid (hl3.out.below hBq)
    have zk : (Tryd.prog.info? 34).map (·.size) = some (bv key).length := by rw [bv_length, hk]; exact size32
    have heq := fun W => run_eqlBox W nonce C T hbl
    have hg := guard36
    clear HO HR HK1 HK2 HX1 HX2 HSN HKW HBW hB2 hB3 hl1 hl3 a0 a1 hmi hmi' hmj
    try go_frame
    refine wp_region_held_drew (S := fun w' => w'.rangeAt w.heap.size 0 (bv key)) (by kernel_rfl) RK.out (fun hHeld => ?_)
    try go_frame
    refine takeD (i := 0) (oi := _) (v := ?_) (some 37) rfl rfl (by kernel_rfl) (by kernel_rfl) (by kernel_rfl) (fun _ _ _ h => h) (Or.inl ⟨by rfl, ?_⟩) (by assumption) ?_
    rotate_left
    · intro w hSw; (try dsimp only at hSw); go_simp; (try with_reducible rfl)
    try go_frame
    refine takeD (i := 1) (oi := _) (v := ?_) (some 38) rfl rfl (by kernel_rfl) (by kernel_rfl) (by kernel_rfl) (fun _ _ _ h => h) (Or.inl ⟨by rfl, ?_⟩) (by assumption) ?_
    rotate_left
    · intro w hSw; (try dsimp only at hSw); go_simp; (try with_reducible rfl)
    try go_frame
    refine takeD (i := 2) (oi := _) (v := _) (some 39) rfl rfl (by kernel_rfl) (by kernel_rfl) (by kernel_rfl) (fun _ _ _ h => h) (yieldsIf_load_mid (by rfl) 34 (.tmp 4) rfl (w.heap.size) 0 rfl (bv key) _ (fun w hSw => hSw) ud rfl zk) (by assumption) ?_
    try go_frame
    refine takeD (i := 3) (oi := _) (v := ?_) (some 40) rfl rfl (by kernel_rfl) (by kernel_rfl) (by kernel_rfl) (fun _ _ _ h => h) (Or.inl ⟨by rfl, ?_⟩) (by assumption) ?_
    rotate_left
    · intro w hSw; (try dsimp only at hSw); go_simp; (try with_reducible rfl)
    try go_frame
    refine takeD (i := 4) (oi := _) (v := ?_) (some 41) rfl rfl (by kernel_rfl) (by kernel_rfl) (by kernel_rfl) (fun _ _ _ h => h) (Or.inl ⟨by rfl, ?_⟩) (by assumption) ?_
    rotate_left
    · intro w hSw; (try dsimp only at hSw); go_simp; (try with_reducible rfl)
    try go_frame
    refine takeD (i := 6) (oi := _) (v := _) (some 43) rfl rfl (by kernel_rfl) (by kernel_rfl) (by kernel_rfl) (fun _ _ _ h => h) (yieldsIf_load_mid (by rfl) 34 (.tmp 4) rfl (w.heap.size) 0 rfl (bv key) _ (fun w hSw => hSw) ud rfl zk) (by assumption) ?_
    try go_frame
    refine takeD (i := 7) (oi := _) (v := ?_) (some 44) rfl rfl (by kernel_rfl) (by kernel_rfl) (by kernel_rfl) (fun _ _ _ h => h) (Or.inl ⟨by rfl, ?_⟩) (by assumption) ?_
    rotate_left
    · intro w hSw; (try dsimp only at hSw); go_simp; (try with_reducible rfl)
    try go_frame
    refine takeD (i := 8) (oi := _) (v := ?_) (some 45) rfl rfl (by kernel_rfl) (by kernel_rfl) (by kernel_rfl) (fun _ _ _ h => h) (Or.inl ⟨by rfl, ?_⟩) (by assumption) ?_
    rotate_left
    · intro w hSw; (try dsimp only at hSw); go_simp; (try with_reducible rfl)
    try go_frame
    refine wpAnyH_ready (rs := [5]) (by kernel_rfl) (by simp) ?_
    refine AllReadyH.cons (o := _) rfl (fun K hK => ?_) AllReadyH.nil
    go_simp
    (go_at_call 22; refine (HS.out _ HK.out h0 h1 hs9 LD.out).mono ?_; rintro e w4 ⟨rfl, hB4⟩)
    refine hK.out _ _ (range_kept RK.out hB4) (fun hHeld => ?_)
    clear hK K
    try (show wpAnyH _ _ _ _ _ _ _ (Act.put _ (some 42) _) _)
    try go_frame
    refine wpAnyH_ready (rs := [9]) (by kernel_rfl) (by simp) ?_
    refine AllReadyH.cons (o := _) rfl (fun K hK => ?_) AllReadyH.nil
    go_simp
    (go_at_call 23; refine (HT.out _ HK.out h0 h1 hs9).mono ?_; rintro e w5 ⟨rfl, hB5⟩)
    refine hK.out _ _ (range_kept (range_kept RK.out hB4) hB5) (fun hHeld => ?_)
    clear hK K
    try (show wpAnyH _ _ _ _ _ _ _ (Act.put _ (some 46) _) _)
    try go_frame
    refine takeD (i := 10) (oi := _) (v := ?_) (some 47) rfl rfl (by kernel_rfl) (by kernel_rfl) (by kernel_rfl) (fun _ _ _ h => h) (Or.inl ⟨by rfl, ?_⟩) (by assumption) ?_
    rotate_left
    · intro w hSw; (try dsimp only at hSw); go_simp; (try with_reducible rfl)
    try go_frame
    refine takeD (i := 11) (oi := _) (v := ?_) (some 48) rfl rfl (by kernel_rfl) (by kernel_rfl) (by kernel_rfl) (fun _ _ _ h => h) (Or.inl ⟨by rfl, ?_⟩) (by assumption) ?_
    rotate_left
    · intro w hSw; (try dsimp only at hSw); go_simp; (try with_reducible rfl)
    try go_frame
    refine takeD (i := 12) (oi := _) (v := ?_) (some 49) rfl rfl (by kernel_rfl) (by kernel_rfl) (by kernel_rfl) (fun _ _ _ h => h) (Or.inl ⟨by rfl, ?_⟩) (by assumption) ?_
    rotate_left
    · intro w hSw; (try dsimp only at hSw); go_simp; (try with_reducible rfl)
    try go_frame
    refine takeD (i := 13) (oi := _) (v := ?_) (some 50) rfl rfl (by kernel_rfl) (by kernel_rfl) (by kernel_rfl) (fun _ _ _ h => h) (Or.inl ⟨by rfl, ?_⟩) (by assumption) ?_
    rotate_left
    · intro w hSw; (try dsimp only at hSw); go_simp; (try with_reducible rfl)
    try go_frame
    refine takeD (i := 14) (oi := _) (v := ?_) (some 51) rfl rfl (by kernel_rfl) (by kernel_rfl) (by kernel_rfl) (fun _ _ _ h => h) (Or.inl ⟨by rfl, ?_⟩) (by assumption) ?_
    rotate_left
    · intro w hSw; (try dsimp only at hSw); go_simp; (try with_reducible rfl)
    try go_frame
    refine takeD (i := 15) (oi := _) (v := ?_) (some 52) rfl rfl (by kernel_rfl) (by kernel_rfl) (by kernel_rfl) (fun _ _ _ h => h) (Or.inl ⟨by rfl, ?_⟩) (by assumption) ?_
    rotate_left
    · intro w hSw; (try dsimp only at hSw); go_simp; (try with_reducible rfl)
    try go_frame
    refine takeD (i := 16) (oi := _) (v := ?_) (some 53) rfl rfl (by kernel_rfl) (by kernel_rfl) (by kernel_rfl) (fun _ _ _ h => h) (Or.inl ⟨by rfl, ?_⟩) (by assumption) ?_
    rotate_left
    · intro w hSw; (try dsimp only at hSw); go_simp; (try with_reducible rfl)
    try go_frame
    refine takeD (i := 17) (oi := _) (v := ?_) (some 54) rfl rfl (by kernel_rfl) (by kernel_rfl) (by kernel_rfl) (fun _ _ _ h => h) (Or.inl ⟨by rfl, ?_⟩) (by assumption) ?_
    rotate_left
    · intro w hSw; (try dsimp only at hSw); go_simp; (try with_reducible rfl)
    try go_frame
    refine takeD (i := 18) (oi := _) (v := ?_) (some 55) rfl rfl (by kernel_rfl) (by kernel_rfl) (by kernel_rfl) (fun _ _ _ h => h) (Or.inl ⟨by rfl, ?_⟩) (by assumption) ?_
    rotate_left
    · intro w hSw; (try dsimp only at hSw); go_simp; (try with_reducible rfl)
    try go_frame
    refine takeD (i := 19) (oi := _) (v := ?_) (some 56) rfl rfl (by kernel_rfl) (by kernel_rfl) (by kernel_rfl) (fun _ _ _ h => h) (Or.inl ⟨by rfl, ?_⟩) (by assumption) ?_
    rotate_left
    · intro w hSw; (try dsimp only at hSw); go_simp; (try with_reducible rfl)
    try go_frame
    refine takeD (i := 20) (oi := _) (v := ?_) (some 57) rfl rfl (by kernel_rfl) (by kernel_rfl) (by kernel_rfl) (fun _ _ _ h => h) (Or.inl ⟨by rfl, ?_⟩) (by assumption) ?_
    rotate_left
    · intro w hSw; (try dsimp only at hSw); go_simp; (try with_reducible rfl)
    try go_frame
    refine takeD (i := 21) (oi := _) (v := ?_) (some 58) rfl rfl (by kernel_rfl) (by kernel_rfl) (by kernel_rfl) (fun _ _ _ h => h) (Or.inl ⟨by rfl, ?_⟩) (by assumption) ?_
    rotate_left
    · intro w hSw; (try dsimp only at hSw); go_simp; (try with_reducible rfl)
    try go_frame
    refine takeD (i := 22) (oi := _) (v := ?_) (some 8) rfl rfl (by kernel_rfl) (by kernel_rfl) (by kernel_rfl) (fun _ _ _ h => h) (Or.inl ⟨by rfl, ?_⟩) (by assumption) ?_
    rotate_left
    · intro w hSw; (try dsimp only at hSw); go_simp; (try with_reducible rfl)
    try go_frame
    refine wpAnyH_done (by kernel_rfl) ?_ _
    go_wp2_with fail
    go_ret
    exact ⟨rfl, bt hBw3 (bt hBq (bt hB4 hB5))⟩
  · by_cases hm3 : 300 < s.size
    · have hmi : (300 : Int) < (s.size : Int) := by omega
      clear hm
      go_enter Tryd.func4, Tryd.ntmps4
      go_wp2_with (first
        | (go_at_call 19; go_must (refine HSN.out.mono ?_); rintro e w1 ⟨rfl, hB1⟩; have hBw1 := bt hB0 hB1))
      go_ret
      exact ⟨rfl, hBw1⟩
    · have hmi : ¬ ((300 : Int) < (s.size : Int)) := by omega
      have hmj : (300 : Int) < (c.size : Int) := by omega
      clear hm
      go_enter Tryd.func4, Tryd.ntmps4
      go_wp2_with (first
        | (go_at_call 19; go_must (refine HSN.out.mono ?_); rintro e w1 ⟨rfl, hB1⟩; obtain ⟨a0, a1, _⟩ := box_cell (block_below HBW.out hB1); have hBw1 := bt hB0 hB1))
      go_ret
      exact ⟨rfl, hBw1⟩
end Go.Proofs.YtaecljahbmcneaaDoor
