/- BoxRoundTrip. -/
import Derived.Test.YtaecljahbmcneaaDoorBoxS
import Derived.Test.YtaecljahbmcneaaDoorOpenB
namespace Go.Proofs.YtaecljahbmcneaaDoor
open Go.RowKit Go.Shelf

set_option maxHeartbeats 2000000 in
set_option maxRecDepth 100000 in
theorem roundTrip_any (key : List UInt8) (nonce : Int) (s : ByteArray) (w : World) (hk : key.length = 16) (mn : (Lit.int .i64 nonce).wf = true) (_ms : s.size ≤ maxLen) (hL : Laid w) :
    Calls Tryd.prog 5 #[.agg (bv key).toArray, .int .i64 nonce, .string s] w fun e w' => e = .returned (.bool true) ∧ Below w.heap.size w w' := by
  obtain ⟨h0, h1⟩ : -9223372036854775808 ≤ nonce ∧ nonce < 9223372036854775808 := by
    simp [Lit.wf, IntKind.min, IntKind.max, IntKind.signed, IntKind.bits] at mn
    omega
  have HK := Lib.hid hk
  have HSN := Lib.hid (sanity_any (w.alloc (.cells (bv key).toArray 34)) (hL.below (below_al _ _)))
  have hKw := heap_alloc_new w (.cells (bv key).toArray 34)
  have HKW := Lib.hid hKw
  clear hk hKw mn
  by_cases hm : s.size ≤ 300
  · have hmi : ¬ ((300 : Int) < (s.size : Int)) := by omega
    have hs9 : s.size ≤ 900000 := by omega
    have HSL := Lib.hid (seal_any key nonce s)
    have HOP := Lib.hid (open_any key nonce (crypts key nonce s) (btag key nonce (crypt key nonce s.data.toList)))
    have hbl := btag_length key nonce (crypt key nonce s.data.toList)
    have g := bopen_good key nonce s
    have hcs := crypts_size key nonce s
    rw [g.1, g.2] at HOP
    generalize btag key nonce (crypt key nonce s.data.toList) = T at *
    generalize crypts key nonce s = C at *
    clear g
    have hcs9 : C.size ≤ 900000 := by omega
    have hss : (s.toList == s.toList) = true := beq_self_eq_true _
    have ud := Tryd.underlying34
    have ub := Tryd.underlying36
    go_enter Tryd.func5, Tryd.ntmps5
    go_upto_region 5 with (first
      | (go_at_call 19; go_must (refine HSN.out.mono ?_); rintro e w1 ⟨rfl, hB1⟩; have HK1 := Lib.hid (block_below HKW.out hB1); have hBw1 := bt (below_al _ _) hB1; have hl1 := Lib.hid (hL.below hBw1))
      | (refine wpList_loadB rfl 34 (.tmp 3) rfl ud size32 HK1.out (by rw [bv_length, HK.out]) rfl rfl ?_)
      | (go_at_call 22; go_must (refine (HSL.out w1 HK.out h0 h1 hs9 hl1.out).mono ?_); rintro e w2 ⟨rfl, hB2⟩; have HK2 := Lib.hid (block_below HK1.out hB2); have hBw2 := bt hBw1 hB2)
      | (refine wpList_storeB rfl 36 (.tmp 8) (.tmp 19) rfl size36 (heap_alloc_new w2 _) (boxv_one nonce C T) (boxv_length _ _ _ hbl) (by rfl) rfl rfl ?_; intro w3 h3 hg3 hz3; have hB3 := below_put hg3; have HK3 := Lib.hid (block_below HK2.out hB3); have H3 := Lib.hid h3; have hBw3 := bt hBw2 hB3; have hl3 := Lib.hid (hL.below hBw3); clear h3 hg3 hz3))
    go_wp2_with (first
      | (refine wpList_loadB rfl 34 (.tmp 3) rfl ud size32 HK3.out (by rw [bv_length, HK.out]) rfl rfl ?_)
      | (refine wpList_loadB rfl 36 (.tmp 8) rfl ub size36 H3.out (boxv_length _ _ _ hbl) rfl rfl ?_)
      | (go_at_call 20; go_must (refine (HOP.out w3 HK.out hbl h0 h1 hcs9 hl3.out).mono ?_); rintro e w4 ⟨rfl, hB4⟩; obtain ⟨a0, a1, ra⟩ := box_cell (block_below H3.out hB4); have hBw4 := bt hBw3 hB4; clear ra))
    go_ret
    exact ⟨rfl, hBw4⟩
  · have hmi : (300 : Int) < (s.size : Int) := by omega
    go_enter Tryd.func5, Tryd.ntmps5
    go_wp2_with (first
      | (go_at_call 19; go_must (refine HSN.out.mono ?_); rintro e w1 ⟨rfl, hB1⟩; have hBw1 := bt (below_al _ _) hB1))
    go_ret
    exact ⟨rfl, hBw1⟩
end Go.Proofs.YtaecljahbmcneaaDoor
