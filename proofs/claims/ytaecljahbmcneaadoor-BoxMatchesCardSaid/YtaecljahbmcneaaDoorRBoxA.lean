/- The reference of chapter 06: Tag. -/
import Derived.Test.YtaecljahbmcneaaDoorBoxD
import Derived.Test.YtaecljahbmcneaaDoorRefF
import Derived.Test.YtaecljahbmcneaaDoorRefH
namespace Go.Proofs.YtaecljahbmcneaaDoor
open Go.RowKit Go.Shelf

set_option maxHeartbeats 2000000 in
set_option maxRecDepth 100000 in
theorem rtag_any (key : List UInt8) (nonce : Int) (s : ByteArray) (w : World) (hk : key.length = 16) (h0 : -9223372036854775808 ≤ nonce) (h1 : nonce < 9223372036854775808) (hs : s.size ≤ 900000) :
    Calls Tryd.prog 49 #[.agg (bv key).toArray, .int .i64 nonce, .string s] w fun e w' => e = .returned (.agg (bv (btag key nonce s.data.toList)).toArray) ∧ Below w.heap.size w w' := by
  have hel := encInt_le nonce
  have hbl := encBytes_le s.data.toList
  rw [size_bytes] at hbl
  have hB0 : Below w.heap.size w ((w.alloc (.cells (bv key).toArray 34)).alloc (.cells Z16.toArray 34)) := ((Below.refl _ w).alloc (Nat.le_refl _) _).alloc (by simp) _
  have rk : Rd ((w.alloc (.cells (bv key).toArray 34)).alloc (.cells Z16.toArray 34)) (some ⟨w.heap.size, 0, none⟩) 16 key := rd_block ((heap_alloc_old _ _ (by simp)).trans (heap_alloc_new _ _)) hk
  have HS : Hid (((w.alloc (.cells (bv key).toArray 34)).alloc (.cells Z16.toArray 34)).heap[w.heap.size + 1]? = some (.cells Z16.toArray 34 (0, 0))) := heap_at _ _ _ (by simp)
  clear hk
  go_enter Tryd.func49, Tryd.ntmps49
  go_wp2_with (first
    | (go_at_call 55; go_must (refine (rderive_any _ _ _ key ⟨authL.toArray⟩ _ _ _ [] _ rk (RdL.nil _) (by omega) (by decide) (by omega) (by simp)).mono ?_); rintro e w1 ⟨rfl, hB1⟩; have HS1 := Lib.hid (block_below HS.out hB1); have hBw1 := hB0.trans (hB1.mono hB0.size); have hz1 : w.heap.size + 2 ≤ w1.heap.size := (by have := hB1.size; simp at this; omega))
    | (refine wpList_storeB rfl 34 (.tmp 7) (.tmp 10) rfl size32 (heap_alloc_new w1 _) (bv_one (derive key authL [])) (by rw [bv_length, derive_len]) (by rfl) rfl rfl ?_; intro w2 h2 hg2 hz2;
       have hB2 := below_put hg2; have r2 := rd_block h2 (derive_len key authL []); have HS2 := Lib.hid (block_below HS1.out hB2); have hBw2 := hBw1.trans (hB2.mono hBw1.size); have HZ2 : w1.heap.size < w2.heap.size := (by rw [hz2]; simp);
       have own0 := own_new w2 w2.heap.size 5 1 0 [] (Nat.le_refl _) rfl (by simp [maxLen]); clear h2 hg2 hz2)
    | (go_at_call 45; go_must (refine (rint_any nonce _ h0 (by omega)).mono ?_); rintro e w3 ⟨A3, c3, rfl, hown3, hB3⟩; have hB23 := bt (below_al _ _) hB3; have own3 := own_below own0 hB3)
    | (at_builtin; refine wpList_app rfl _ _ 48 rfl w2.heap.size 5 1 1 _ Tryd.underlying48 info5 rfl (by decide) (by decide) _ _ _ (bv (encInt nonce)) _ _ _ own3 (own_cells hown3) rfl rfl (by rw [bv_length]; simp) (bv_one _) hB23.size (by omega) ?_; intro A4 c4 w4 hown4 hg4 _; simp only [Nat.zero_add, List.nil_append] at hown4; have hB24 := hB23.grown hg4 hB23.size (own_ge own3))
    | (go_at_call 44; go_must (refine (rbytes_any s _ (by omega)).mono ?_); rintro e w5 ⟨A5, c5, rfl, hown5, hB5⟩; have hB25 := bt hB24 hB5; have own5 := own_below hown4 hB5)
    | (at_builtin; refine wpList_app rfl _ _ 48 rfl w2.heap.size 5 1 1 _ Tryd.underlying48 info5 rfl (by decide) (by decide) _ _ _ (bv (encBytes s.data.toList)) _ _ _ own5 (own_cells hown5) rfl rfl (by rw [bv_length]; simp) (bv_one _) hB25.size (by omega) ?_; intro A6 c6 w6 hown6 hg6 _; rw [← bv_append] at hown6; have hB26 := hB25.grown hg6 hB25.size (own_ge own5); have r6 := r2.below hB26; have HS6 := Lib.hid (block_below HS2.out hB26); have hBw6 := hBw2.trans (hB26.mono hBw2.size))
    | (go_at_call 63; go_must (refine (rmac_any _ _ _ (derive key authL []) _ _ _ (encInt nonce ++ encBytes s.data.toList) _ r6 ⟨by simp, own_cells hown6⟩ (by omega) (by omega)).mono ?_); rintro e w7 ⟨rfl, hB7⟩; have HS7 := Lib.hid (block_below HS6.out hB7); have hBw7 := hBw6.trans (hB7.mono hBw6.size))
    | (refine wpList_storeB rfl 34 (.tmp 6) (.tmp 20) rfl size32 HS7.out (bv_one (mac (derive key authL []) (encInt nonce ++ encBytes s.data.toList))) (by rw [bv_length, mac_length]) (by rfl) rfl rfl ?_; intro w8 h8 hg8 hz8; clear hz8))
  refine ret_agg rfl Tryd.underlying34 size32 rfl h8 (by rw [bv_length, mac_length]) rfl rfl ?_
  exact ⟨rfl, hBw7.grown hg8 hBw7.size (fun k e => by cases e; omega)⟩
end Go.Proofs.YtaecljahbmcneaaDoor
