/- The reference of chapter 06: Seal and Open. -/
import Derived.Test.YtaecljahbmcneaaDoorRBoxB
namespace Go.Proofs.YtaecljahbmcneaaDoor
open Go.RowKit Go.Shelf

set_option maxHeartbeats 2000000 in
set_option maxRecDepth 100000 in
theorem rseal_any (key : List UInt8) (nonce : Int) (s : ByteArray) (w : World) (hk : key.length = 16) (h0 : -9223372036854775808 ≤ nonce) (h1 : nonce < 9223372036854775808) (hs : s.size ≤ 900000) :
    Calls Tryd.prog 23 #[.agg (bv key).toArray, .int .i64 nonce, .string s] w fun e w' => e = .returned (.agg (boxv nonce (crypts key nonce s) (btag key nonce (crypt key nonce s.data.toList))).toArray) ∧ Below w.heap.size w w' := by
  obtain ⟨c, hc⟩ : ∃ c, c = crypts key nonce s := ⟨_, rfl⟩
  have hcl : crypt key nonce s.data.toList = c.data.toList := by rw [hc]; rfl
  have hcs : c.size ≤ 900000 := by rw [hc, crypts_size]; exact hs
  have hck : (⟨(crypt key nonce s.data.toList).toArray⟩ : ByteArray) = c := hc.symm
  rw [hcl, ← hc]
  have HCL := Lib.hid hck
  have HK := Lib.hid hk
  have hB0 : Below w.heap.size w ((w.alloc (.cells (bv key).toArray 34)).alloc (.cells Z18.toArray 36)) := ((Below.refl _ w).alloc (Nat.le_refl _) _).alloc (by simp) _
  have HS : Hid (((w.alloc (.cells (bv key).toArray 34)).alloc (.cells Z18.toArray 36)).heap[w.heap.size]? = some (.cells (bv key).toArray 34 (0, 0))) := (heap_alloc_old _ _ (by simp)).trans (heap_alloc_new _ _)
  have HO : Hid (((w.alloc (.cells (bv key).toArray 34)).alloc (.cells Z18.toArray 36)).heap[w.heap.size + 1]? = some (.cells Z18.toArray 36 (0, 0))) := heap_at _ _ _ (by simp)
  clear hc hcl hck hk
  go_enter Tryd.func23, Tryd.ntmps23
  go_wp2_with (first
    | (refine wpList_loadB rfl 34 (.tmp 3) rfl Tryd.underlying34 size32 HS.out (by rw [bv_length, HK.out]) rfl rfl ?_)
    | (go_at_call 50; go_must (refine (rapply_any key nonce s _ HK.out h0 h1 hs).mono ?_); rw [HCL.out]; rintro e w3 ⟨rfl, hB3⟩; have HS3 := Lib.hid (block_below HS.out hB3); have HO3 := Lib.hid (block_below HO.out hB3); have hBw3 := hB0.trans (hB3.mono hB0.size))
    | (refine wpList_loadB rfl 34 (.tmp 3) rfl Tryd.underlying34 size32 HS3.out (by rw [bv_length, HK.out]) rfl rfl ?_)
    | (go_at_call 49; go_must (refine (rtag_any key nonce c _ HK.out h0 h1 hcs).mono ?_); rintro e w4 ⟨rfl, hB4⟩; have HO4 := Lib.hid (block_below HO3.out hB4); have hBw4 := hBw3.trans (hB4.mono hBw3.size))
    | (refine wpList_boxed rfl _ _ _ rfl nonce c (btag key nonce c.data.toList) (btag_length _ _ _) rfl rfl rfl ?_)
    | (refine wpList_storeB rfl 36 (.tmp 6) (.tmp 18) rfl size36 HO4.out (boxv_one nonce c (btag key nonce c.data.toList)) (boxv_length _ _ _ (btag_length _ _ _)) (by rfl) rfl rfl ?_; intro w5 h5 hg5 hz5; clear hz5))
  refine ret_agg rfl Tryd.underlying36 size36 rfl h5 (boxv_length _ _ _ (btag_length _ _ _)) rfl rfl ?_
  exact ⟨rfl, hBw4.grown hg5 hBw4.size (fun k e => by cases e; omega)⟩


set_option maxHeartbeats 4000000 in
set_option maxRecDepth 100000 in
theorem ropen_any (key : List UInt8) (nonce : Int) (c : ByteArray) (tag : List UInt8) (w : World) (hk : key.length = 16) (ht : tag.length = 16) (h0 : -9223372036854775808 ≤ nonce) (h1 : nonce < 9223372036854775808) (hs : c.size ≤ 900000) :
    Calls Tryd.prog 21 #[.agg (bv key).toArray, .agg (boxv nonce c tag).toArray] w fun e w' => e = .returned (.tuple #[.string (bopens key nonce c tag), .int .i64 (bopene key nonce c tag)]) ∧ Below w.heap.size w w' := by
  have hB0 : Below w.heap.size w ((w.alloc (.cells (bv key).toArray 34)).alloc (.cells (boxv nonce c tag).toArray 36)) := ((Below.refl _ w).alloc (Nat.le_refl _) _).alloc (by simp) _
  have HF0 : Hid _ := Lib.hid (four_new (w := w) (key := key) (tag := tag) (nonce := nonce) (c := c) (t := 34) (u := 36))
  have ud := Tryd.underlying34
  have zk : (Tryd.prog.info? 34).map (·.size) = some (bv key).length := by rw [bv_length, hk]; exact size32
  have zt : (Tryd.prog.info? 34).map (·.size) = some (bv tag).length := by rw [bv_length, ht]; exact size32
  have hne := fun W => run_neq16 W (btag key nonce c.data.toList) tag (btag_length _ _ _) ht
  have hg := guard16
  go_enter Tryd.func21, Tryd.ntmps21
  go_upto_region 1 with (fail)
  obtain ⟨wd, hwd⟩ : ∃ x, x = ((w.alloc (.cells (bv key).toArray 34)).alloc (.cells (boxv nonce c tag).toArray 36)) := ⟨_, rfl⟩
  rw [← hwd] at hB0 HF0 ⊢
  have c0 := HF0.out.2.2.1
  have c1 := HF0.out.2.2.2
  have HRK := Lib.hid HF0.out.1
  clear hwd
  by_cases hcase : btag key nonce c.data.toList = tag
  · have HE1 := Lib.hid (show bopens key nonce c tag = crypts key nonce c from if_pos hcase)
    have HE2 := Lib.hid (show bopene key nonce c tag = 0 from if_pos hcase)
    have e3 : decide (btag key nonce c.data.toList = tag) = true := decide_eq_true hcase
    simp only [e3, Bool.not_true] at hne
    clear hcase e3
    go_wp2_with (first
      | (refine wpList_load_mid rfl 34 (.tmp 2) rfl w.heap.size 0 rfl (bv key) _ HRK.out ud rfl zk ?_)
      | (go_at_call 49; go_must (refine (rtag_any key nonce c _ hk h0 h1 hs).mono ?_); rintro e w3 ⟨rfl, hB3⟩)
      | (refine wpList_storeB rfl 34 (.tmp 6) (.tmp 12) rfl size32 (heap_alloc_new w3 _) (bv_one (btag key nonce c.data.toList)) (by rw [bv_length, btag_length]) (by rfl) rfl rfl ?_; intro w4 h4 hg4 hz4;
         have hB4 := below_put hg4; have H4 := Lib.hid h4; have hB34 := bt hB3 hB4; have HF4 := Lib.hid (four HF0.out hB34); have hBw4 := bt hB0 hB34; have HRT := Lib.hid HF4.out.2.1; have HRK4 := Lib.hid HF4.out.1; have d0 := HF4.out.2.2.1; have d1 := HF4.out.2.2.2; clear h4 hg4 hz4 c0 c1)
      | (refine wpList_loadB rfl 34 (.tmp 6) rfl ud size32 H4.out (by rw [bv_length, btag_length]) rfl rfl ?_)
      | (refine wpList_load_mid rfl 34 (.tmp 14) rfl (w.heap.size + 1) 2 rfl (bv tag) _ HRT.out ud rfl zt ?_)
      | (refine wpList_load_mid rfl 34 (.tmp 2) rfl w.heap.size 0 rfl (bv key) _ HRK4.out ud rfl zk ?_)
      | (go_at_call 50; go_must (refine (rapply_any key nonce c _ hk h0 h1 hs).mono ?_); rintro e w5 ⟨rfl, hB5⟩))
    refine bodyPost_ret (results_tmp2 rfl _ _ _) rfl ?_
    exact ⟨by rw [HE1.out, HE2.out]; rfl, bt hBw4 hB5⟩
  · have HE1 := Lib.hid (show bopens key nonce c tag = ⟨#[]⟩ from if_neg hcase)
    have HE2 := Lib.hid (show bopene key nonce c tag = 8 from if_neg hcase)
    have e3 : decide (btag key nonce c.data.toList = tag) = false := decide_eq_false hcase
    simp only [e3, Bool.not_false] at hne
    clear hcase e3
    go_wp2_with (first
      | (refine wpList_load_mid rfl 34 (.tmp 2) rfl w.heap.size 0 rfl (bv key) _ HRK.out ud rfl zk ?_)
      | (go_at_call 49; go_must (refine (rtag_any key nonce c _ hk h0 h1 hs).mono ?_); rintro e w3 ⟨rfl, hB3⟩)
      | (refine wpList_storeB rfl 34 (.tmp 6) (.tmp 12) rfl size32 (heap_alloc_new w3 _) (bv_one (btag key nonce c.data.toList)) (by rw [bv_length, btag_length]) (by rfl) rfl rfl ?_; intro w4 h4 hg4 hz4;
         have hB4 := below_put hg4; have H4 := Lib.hid h4; have hB34 := bt hB3 hB4; have HF4 := Lib.hid (four HF0.out hB34); have hBw4 := bt hB0 hB34; have HRT := Lib.hid HF4.out.2.1; clear h4 hg4 hz4 c0 c1)
      | (refine wpList_loadB rfl 34 (.tmp 6) rfl ud size32 H4.out (by rw [bv_length, btag_length]) rfl rfl ?_)
      | (refine wpList_load_mid rfl 34 (.tmp 14) rfl (w.heap.size + 1) 2 rfl (bv tag) _ HRT.out ud rfl zt ?_))
    refine bodyPost_ret (results_tmp2 rfl _ _ _) rfl ?_
    exact ⟨by rw [HE1.out, HE2.out]; rfl, hBw4⟩
end Go.Proofs.YtaecljahbmcneaaDoor
