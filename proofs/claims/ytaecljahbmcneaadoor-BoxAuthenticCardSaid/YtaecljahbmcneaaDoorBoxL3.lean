/- BoxAuthentic. -/
import Derived.Test.YtaecljahbmcneaaDoorMacReg
import Derived.Test.YtaecljahbmcneaaDoorOpenB
namespace Go.Proofs.YtaecljahbmcneaaDoor
open Go.RowKit Go.Shelf

set_option maxHeartbeats 8000000 in
set_option maxRecDepth 100000 in
theorem authentic_any (key : List UInt8) (nonce : Int) (c : ByteArray) (tag : List UInt8) (w : World) (hk : key.length = 16) (ht : tag.length = 16) (h0 : -9223372036854775808 ≤ nonce) (h1 : nonce < 9223372036854775808) (_hs : (c.size : Int) ≤ 9223372036854775807) (hL : Laid w) :
    Calls Tryd.prog 7 #[.agg (bv key).toArray, .agg (boxv nonce c tag).toArray] w fun e w' => e = .returned (.bool true) ∧ Below w.heap.size w w' := by
  have hB0 : Below w.heap.size w ((w.alloc (.cells (bv key).toArray 34)).alloc (.cells (boxv nonce c tag).toArray 36)) := below_two _ _ _
  have HK := Lib.hid hk
  have HSN := Lib.hid (sanity_any ((w.alloc (.cells (bv key).toArray 34)).alloc (.cells (boxv nonce c tag).toArray 36)) (hL.below hB0))
  have HKW : Hid (((w.alloc (.cells (bv key).toArray 34)).alloc (.cells (boxv nonce c tag).toArray 36)).heap[w.heap.size]? = some (.cells (bv key).toArray 34 (0, 0))) := (heap_alloc_old _ _ (by simp)).trans (heap_alloc_new _ _)
  have HBW : Hid (((w.alloc (.cells (bv key).toArray 34)).alloc (.cells (boxv nonce c tag).toArray 36)).heap[w.heap.size + 1]? = some (.cells (boxv nonce c tag).toArray 36 (0, 0))) := heap_at _ _ _ (by simp)
  have ud := Tryd.underlying34
  have ub := Tryd.underlying36
  by_cases hm : c.size ≤ 300
  · have hmi : ¬ ((300 : Int) < (c.size : Int)) := by omega
    have hs9 : c.size ≤ 900000 := by omega
    go_enter Tryd.func7, Tryd.ntmps7
    go_upto_region 5 with (first
      | (go_at_call 19; go_must (refine HSN.out.mono ?_); rintro e w1 ⟨rfl, hB1⟩; have hK1 := block_below HKW.out hB1; have hX1 := block_below HBW.out hB1; have hBw1 := bt hB0 hB1; have hl1 := Lib.hid (hL.below hBw1); have rk1 := rd_block hK1 hk; obtain ⟨a0, a1, ra⟩ := box_cell hX1)
      | (go_at_call 26; go_must (refine (derive_any _ _ _ key ⟨authL.toArray⟩ _ _ _ [] _ rk1 (RdL.nil _) (by omega) (by decide) (by omega) (by simp) hl1.out).mono ?_); rintro e w2 ⟨rfl, hB2⟩)
      | (refine wpList_storeB rfl 34 (.tmp 6) (.tmp 17) rfl size32 (heap_alloc_new w2 _) (bv_one (derive key authL [])) (by rw [bv_length, derive_len]) (by rfl) rfl rfl ?_; intro w3 h3 hg3 hz3;
         have hB3 := below_put hg3; have r3 := rd_block h3 (derive_len key authL []); clear h3 hg3 hz3))
    obtain ⟨wd, rfl⟩ : ∃ wd : World, wd = w3 := ⟨_, rfl⟩
    have hBwd := bt hBw1 (bt hB2 hB3)
    have b0 := cell_kept (bt hB2 hB3) a0
    have b1 := cell_kept (bt hB2 hB3) a1
    have rg := Lib.hid (range_kept ra (bt hB2 hB3))
    have HKd := Lib.hid (block_below hK1 (bt hB2 hB3))
    have HXd := Lib.hid (block_below hX1 (bt hB2 hB3))
    have hLd := Lib.hid (hL.below hBwd)
    clear hB1 hB2 hB3 hK1 hX1 hl1 rk1 a0 a1 ra hBw1 HSN HKW HBW
    have hel := encInt_le nonce
    have hbl := encBytes_le c.data.toList
    rw [size_bytes] at hbl
    go_frame
    go_cut [7] from 7 (fun v W => ∃ kb, v = .pointer (some ⟨kb, 0, none⟩) ∧ W.heap[kb]? = some (.cells (bv (btag key nonce c.data.toList)).toArray 34 (0, 0)) ∧ Below wd.heap.size wd W)
    case first =>
      refine wp_region_held_drew (S := fun W => W.cell? ⟨w.heap.size + 1, 0, none⟩ = some (.int .i64 nonce) ∧ W.cell? ⟨w.heap.size + 1, 1, none⟩ = some (.string c)) (by kernel_rfl) ⟨cell_kept (dr0 _) b0, cell_kept (dr0 _) b1⟩ (fun hHeld => ?_)
      try go_frame
      refine takeD (i := 0) (oi := _) (v := ?_) (some 18) rfl rfl (by kernel_rfl) (by kernel_rfl) (by kernel_rfl) (fun _ _ _ h => h) (Or.inl ⟨by rfl, ?_⟩) (by assumption) ?_
      rotate_left
      · intro w hSw; (try dsimp only at hSw); go_simp; (try with_reducible rfl)
      try go_frame
      refine takeD (i := 2) (oi := _) (v := ?_) (some 20) rfl rfl (by kernel_rfl) (by kernel_rfl) (by kernel_rfl) (fun _ _ _ h => h) (Or.inl ⟨by rfl, ?_⟩) (by assumption) ?_
      rotate_left
      · intro w hSw; (try dsimp only at hSw); go_simp; (try with_reducible rfl)
      try go_frame
      refine takeD (i := 3) (oi := _) (v := ?_) (some 21) rfl rfl (by kernel_rfl) (by kernel_rfl) (by kernel_rfl) (fun _ _ _ h => h) (Or.inl ⟨by rfl, ?_⟩) (by assumption) ?_
      rotate_left
      · intro w hSw; (try dsimp only at hSw); go_simp; (try with_reducible rfl)
      try go_frame
      refine takeD (i := 6) (oi := _) (v := ?_) (some 24) rfl rfl (by kernel_rfl) (by kernel_rfl) (by kernel_rfl) (fun _ _ _ h => h) (Or.inl ⟨by rfl, ?_⟩) (by assumption) ?_
      rotate_left
      · intro w hSw; (try dsimp only at hSw); go_simp; (try with_reducible rfl)
      try go_frame
      refine takeD (i := 7) (oi := _) (v := ?_) (some 25) rfl rfl (by kernel_rfl) (by kernel_rfl) (by kernel_rfl) (fun _ _ _ h => h) (Or.inl ⟨by rfl, ?_⟩) (by assumption) ?_
      rotate_left
      · intro w hSw; (try dsimp only at hSw); go_simp; (try with_reducible rfl)
      try go_frame
      refine mac_region wd _ _ _ (derive key authL []) nonce c 7 18 19 21 22 23 25 26 27 28 _ _ _ _ _ _ _ _ (by simp) rfl (by kernel_rfl) (by kernel_rfl) (by kernel_rfl) (by kernel_rfl) (by kernel_rfl)
        rfl rfl rfl rfl rfl rfl rfl rfl rfl rfl rfl rfl rfl rfl rfl rfl rfl rfl rfl rfl rfl rfl rfl rfl
        (fun _ _ => by kernel_rfl) (fun _ _ => by kernel_rfl) rfl (fun _ _ => by kernel_rfl) rfl (fun _ _ => by kernel_rfl) (fun _ _ => by kernel_rfl) rfl rfl rfl rfl r3 h0 h1 hs9 hLd.out rfl (by decide) (by decide) ?_ ?_ wd.drew (dr0 _)
      · intro W hW; exact ⟨cell_kept hW b0, cell_kept hW b1⟩
      · intro vB vI vP vY vQ k W hk hA hW
        go_frame
        go_wp2_with fail
        go_meet
        exact ⟨k, rfl, hA, hW⟩
    case rest =>
      obtain ⟨kb, rfl, hkb, hBc⟩ := hcut
      have hBw := bt hBwd hBc
      have HKc := Lib.hid (block_below HKd.out hBc)
      have HXc := Lib.hid (block_below HXd.out hBc)
      have HTc := Lib.hid hkb
      have hlc := Lib.hid (hL.below hBw)
      have hxl := boxv_length nonce c tag ht
      clear hkb
      by_cases hcase : btag key nonce c.data.toList = tag
      · have HE1 := Lib.hid (show bopens key nonce c tag = crypts key nonce c from if_pos hcase)
        have HE2 := Lib.hid (show bopene key nonce c tag = 0 from if_pos hcase)
        have hop := open_any key nonce c tag wc HK.out ht h0 h1 hs9 hlc.out
        rw [HE1.out, HE2.out] at hop
        have HOP := Lib.hid hop
        have hne := fun W => run_neq16 W (btag key nonce c.data.toList) tag (btag_length _ _ _) ht
        rw [show decide (btag key nonce c.data.toList = tag) = true from decide_eq_true hcase] at hne
        have hcs := crypts_size key nonce c
        have hci : ((crypts key nonce c).size : Int) = (c.size : Int) := by omega
        generalize crypts key nonce c = C at *
        generalize btag key nonce c.data.toList = T at *
        have hg := guard16
        have hTl : (bv T).length = 16 := by rw [bv_length, hcase, ht]
        clear hop hcase HE1 HE2 hcs
        go_wp2_with (first
          | (refine wpList_loadB rfl 34 (.tmp 2) rfl ud size32 HKc.out (by rw [bv_length, HK.out]) rfl rfl ?_)
          | (refine wpList_loadB rfl 36 (.tmp 3) rfl ub size36 HXc.out hxl rfl rfl ?_)
          | (go_at_call 20; refine HOP.out.mono ?_; rintro e w5 ⟨rfl, hB5⟩; have HT5 := Lib.hid (block_below HTc.out hB5); obtain ⟨a0, a1, ra⟩ := box_cell (block_below HXc.out hB5); have RA := Lib.hid ra; clear ra)
          | (refine wpList_loadB rfl 34 (.tmp 7) rfl ud size32 HT5.out hTl rfl rfl ?_)
          | (refine wpList_load_mid rfl 34 (.tmp 36) rfl (w.heap.size + 1) 2 rfl (bv tag) _ RA.out ud rfl (by rw [bv_length, ht]; exact size32) ?_))
        go_ret
        exact ⟨rfl, bt hBw hB5⟩
      · have HE1 := Lib.hid (show bopens key nonce c tag = ⟨#[]⟩ from if_neg hcase)
        have HE2 := Lib.hid (show bopene key nonce c tag = 8 from if_neg hcase)
        have hop := open_any key nonce c tag wc HK.out ht h0 h1 hs9 hlc.out
        rw [HE1.out, HE2.out] at hop
        have HOP := Lib.hid hop
        have hne := fun W => run_neq16 W (btag key nonce c.data.toList) tag (btag_length _ _ _) ht
        rw [show decide (btag key nonce c.data.toList = tag) = false from decide_eq_false hcase] at hne
        have hTl : (bv (btag key nonce c.data.toList)).length = 16 := by rw [bv_length, btag_length]
        generalize btag key nonce c.data.toList = T at *
        have hg := guard16
        clear hop hcase HE1 HE2
        go_wp2_with (first
          | (refine wpList_loadB rfl 34 (.tmp 2) rfl ud size32 HKc.out (by rw [bv_length, HK.out]) rfl rfl ?_)
          | (refine wpList_loadB rfl 36 (.tmp 3) rfl ub size36 HXc.out hxl rfl rfl ?_)
          | (go_at_call 20; refine HOP.out.mono ?_; rintro e w5 ⟨rfl, hB5⟩; have HT5 := Lib.hid (block_below HTc.out hB5); obtain ⟨a0, a1, ra⟩ := box_cell (block_below HXc.out hB5); have RA := Lib.hid ra; clear ra)
          | (refine wpList_loadB rfl 34 (.tmp 7) rfl ud size32 HT5.out hTl rfl rfl ?_)
          | (refine wpList_load_mid rfl 34 (.tmp 36) rfl (w.heap.size + 1) 2 rfl (bv tag) _ RA.out ud rfl (by rw [bv_length, ht]; exact size32) ?_))
        go_ret
        exact ⟨rfl, bt hBw hB5⟩
  · have hmi : (300 : Int) < (c.size : Int) := by omega
    go_enter Tryd.func7, Tryd.ntmps7
    go_wp2_with (first
      | (go_at_call 19; go_must (refine HSN.out.mono ?_); rintro e w1 ⟨rfl, hB1⟩; have hX1 := block_below HBW.out hB1; have hBw1 := bt hB0 hB1; obtain ⟨a0, a1, ra⟩ := box_cell hX1))
    go_ret
    exact ⟨rfl, hBw1⟩
end Go.Proofs.YtaecljahbmcneaaDoor
