/- BoxTampered: another nonce. -/
import Derived.Test.YtaecljahbmcneaaDoorMacReg
import Derived.Test.YtaecljahbmcneaaDoorOpenB
namespace Go.Proofs.YtaecljahbmcneaaDoor
open Go.RowKit Go.Shelf

set_option maxHeartbeats 4000000 in
set_option maxRecDepth 100000 in
theorem tampered1 (key : List UInt8) (nonce : Int) (s : ByteArray) (at_ : Nat) (by_ : UInt8) (what : Int) (w : World) (hk : key.length = 16) (h0 : -9223372036854775808 ≤ nonce) (h1 : nonce < 9223372036854775808) (hm : s.size ≤ 300) (hby : by_ ≠ 0) (hw0 : 0 ≤ what) (hw1 : what ≤ 255) (hr : what % 3 = 1) (hL : Laid w) :
    Calls Tryd.prog 8 #[.agg (bv key).toArray, .int .i64 nonce, .string s, .int .u16 at_, .int .u8 (by_.toNat : Int), .int .u8 what] w fun e w' => e = .returned (.bool true) ∧ Below w.heap.size w w' := by
  have HK := Lib.hid hk
  have HSN := Lib.hid (sanity_any (w.alloc (.cells (bv key).toArray 34)) (hL.below (below_al _ _)))
  have HKW := Lib.hid (heap_alloc_new w (.cells (bv key).toArray 34))
  have ud := Tryd.underlying34
  have ub := Tryd.underlying36
  have hmi : ¬ ((300 : Int) < (s.size : Int)) := by omega
  have hs9 : s.size ≤ 900000 := by omega
  have hbi : (((by_.toNat : Int)) == 0) = false := by
    have : by_.toNat ≠ 0 := fun e => hby (UInt8.toNat_inj.1 (by simpa using e))
    rw [beq_eq_false_iff_ne]; omega
  have hri : ((what % 3) == 0) = false := by rw [hr]; rfl
  have hri1 : ((what % 3) == 1) = true := by rw [hr]; rfl
  have HSL := Lib.hid (seal_any key nonce s)
  have hbl := btag_length key nonce (crypt key nonce s.data.toList)
  have hcs := crypts_size key nonce s
  generalize btag key nonce (crypt key nonce s.data.toList) = T at *
  generalize crypts key nonce s = C at *
  have hbu := by_.toNat_lt
  clear hby hr
  go_enter Tryd.func8, Tryd.ntmps8
  go_upto_region 15 with (first
    | (go_at_call 19; go_must (refine HSN.out.mono ?_); rintro e w1 ⟨rfl, hB1⟩; have HK1 := Lib.hid (block_below HKW.out hB1); have hBw1 := bt (below_al _ _) hB1; have hl1 := Lib.hid (hL.below hBw1))
    | (refine wpList_loadB rfl 34 (.tmp 6) rfl ud size32 HK1.out (by rw [bv_length, HK.out]) rfl rfl ?_)
    | (go_at_call 22; go_must (refine (HSL.out w1 HK.out h0 h1 hs9 hl1.out).mono ?_); rintro e w2 ⟨rfl, hB2⟩; have HK2 := Lib.hid (block_below HK1.out hB2); have hBw2 := bt hBw1 hB2)
    | (refine wpList_storeB rfl 36 (.tmp 14) (.tmp 35) rfl size36 (heap_alloc_new w2 _) (boxv_one nonce C T) (boxv_length _ _ _ hbl) (by rfl) rfl rfl ?_; intro w3 h3 hg3 hz3; have hB3 := below_put hg3; have HK3 := Lib.hid (block_below HK2.out hB3); have H3 := Lib.hid h3; have hBw3 := bt hBw2 hB3; have z3 : w2.heap.size < w3.heap.size := (Array.getElem?_eq_some_iff.1 h3).1; clear h3 hg3 hz3)
    | (refine wpList_loadB rfl 36 (.tmp 14) rfl ub size36 H3.out (boxv_length _ _ _ hbl) rfl rfl ?_)
    | (refine wpList_storeB rfl 36 (.tmp 15) (.tmp 36) rfl size36 (heap_alloc_new w3 _) (boxv_one nonce C T) (boxv_length _ _ _ hbl) (by rfl) rfl rfl ?_; intro w4 h4 hg4 hz4; have hB4 := below_put hg4; have HK4 := Lib.hid (block_below HK3.out hB4); have HO4 := Lib.hid (block_below H3.out hB4); have H4 := Lib.hid h4; have hBw4 := bt hBw3 hB4; have z4 : w3.heap.size < w4.heap.size := (Array.getElem?_eq_some_iff.1 h4).1; clear h4 hg4 hz4))
  obtain ⟨b0, b1, _⟩ := box_cell H4.out
  have b2 := frozen_of_row _ _ 0 _ _ H4.out
  go_upto_region 21 with (fail)
  obtain ⟨n', hn'⟩ : ∃ n', n' = wrap64 (nonce + (by_.toNat : Int)) := ⟨_, rfl⟩
  obtain ⟨w7, hw7⟩ : ∃ x, x = w4.setCell ⟨w3.heap.size, 0, none⟩ (.int .i64 (wrap64 (nonce + (by_.toNat : Int)))) := ⟨_, rfl⟩
  rw [← hw7]
  obtain ⟨C', hC'⟩ : ∃ C', C' = C := ⟨_, rfl⟩
  have hg7 : w4.grownBy w7 (some w3.heap.size) := by rw [hw7]; exact grown_set _ _ _ _
  have HX7 : Hid (w7.heap[w3.heap.size]? = some (.cells (boxv n' C' T).toArray 36 (0, 0))) := by
    rw [hw7, hC', hn']
    exact heap_set_fr _ _ _ _ _ _ _ H4.out
  have hc9 : C'.size ≤ 900000 := by rw [hC']; omega
  have hn0 : -9223372036854775808 ≤ n' := by rw [hn']; unfold wrap64; omega
  have hn1 : n' < 9223372036854775808 := by rw [hn']; unfold wrap64; omega
  have HK7 := Lib.hid (block_kept HK4.out hg7 (by have := (Array.getElem?_eq_some_iff.1 HK3.out).1; simp; omega))
  have HO7 := Lib.hid (block_kept HO4.out hg7 (by simp; omega))
  have hBw7 := hBw4.grown hg7 hBw4.size (fun j e => by cases e; exact hBw3.size)
  clear hw7 hg7 hC' hn' b0 b1 b2 H4 HO4 HK4 hbu hcs
  have hl7 := Lib.hid (hL.below hBw7)
  have rk7 := rd_block HK7.out hk
  have hel := encInt_le n'
  have hbl' := encBytes_le C'.data.toList
  rw [size_bytes] at hbl'
  go_upto_region 22 with (first
    | (go_at_call 26; go_must (refine (derive_any _ _ _ key ⟨authL.toArray⟩ _ _ _ [] _ rk7 (RdL.nil _) (by omega) (by decide) (by omega) (by simp) hl7.out).mono ?_); rintro e w8 ⟨rfl, hB8⟩)
    | (refine wpList_storeB rfl 34 (.tmp 19) (.tmp 108) rfl size32 (heap_alloc_new w8 _) (bv_one (derive key authL [])) (by rw [bv_length, derive_len]) (by rfl) rfl rfl ?_; intro w9 h9 hg9 hz9;
       have hB9 := below_put hg9; have r9 := rd_block h9 (derive_len key authL []); clear h9 hg9 hz9))
  obtain ⟨wd, rfl⟩ : ∃ wd : World, wd = w9 := ⟨_, rfl⟩
  have hB79 := bt hB8 hB9
  have hBwd := bt hBw7 hB79
  have HKd := Lib.hid (block_below HK7.out hB79)
  have HXd := Lib.hid (block_below HX7.out hB79)
  have HOd := Lib.hid (block_below HO7.out hB79)
  have hLd := Lib.hid (hL.below hBwd)
  obtain ⟨b0, b1, _⟩ := box_cell HXd.out
  clear hB8 hB9 hB79 hl7 rk7 HK7 HX7 HO7
  go_frame
  go_cut [20] from 20 (fun v W => ∃ kb, v = .pointer (some ⟨kb, 0, none⟩) ∧ W.heap[kb]? = some (.cells (bv (btag key n' C'.data.toList)).toArray 34 (0, 0)) ∧ Below wd.heap.size wd W)
  case first =>
   as_aux_lemma =>
    refine wp_region_held_drew (S := fun W => W.cell? ⟨w3.heap.size, 0, none⟩ = some (.int .i64 n') ∧ W.cell? ⟨w3.heap.size, 1, none⟩ = some (.string C')) (by kernel_rfl) ⟨cell_kept (dr0 _) b0, cell_kept (dr0 _) b1⟩ (fun hHeld => ?_)
    try go_frame
    refine takeD (i := 0) (oi := _) (v := ?_) (some 109) rfl rfl (by kernel_rfl) (by kernel_rfl) (by kernel_rfl) (fun _ _ _ h => h) (Or.inl ⟨by rfl, ?_⟩) (by assumption) ?_
    rotate_left
    · intro w hSw; (try dsimp only at hSw); go_simp; (try with_reducible rfl)
    try go_frame
    refine takeD (i := 2) (oi := _) (v := ?_) (some 111) rfl rfl (by kernel_rfl) (by kernel_rfl) (by kernel_rfl) (fun _ _ _ h => h) (Or.inl ⟨by rfl, ?_⟩) (by assumption) ?_
    rotate_left
    · intro w hSw; (try dsimp only at hSw); go_simp; (try with_reducible rfl)
    try go_frame
    refine takeD (i := 3) (oi := _) (v := ?_) (some 112) rfl rfl (by kernel_rfl) (by kernel_rfl) (by kernel_rfl) (fun _ _ _ h => h) (Or.inl ⟨by rfl, ?_⟩) (by assumption) ?_
    rotate_left
    · intro w hSw; (try dsimp only at hSw); go_simp; (try with_reducible rfl)
    try go_frame
    refine takeD (i := 6) (oi := _) (v := ?_) (some 115) rfl rfl (by kernel_rfl) (by kernel_rfl) (by kernel_rfl) (fun _ _ _ h => h) (Or.inl ⟨by rfl, ?_⟩) (by assumption) ?_
    rotate_left
    · intro w hSw; (try dsimp only at hSw); go_simp; (try with_reducible rfl)
    try go_frame
    refine takeD (i := 7) (oi := _) (v := ?_) (some 116) rfl rfl (by kernel_rfl) (by kernel_rfl) (by kernel_rfl) (fun _ _ _ h => h) (Or.inl ⟨by rfl, ?_⟩) (by assumption) ?_
    rotate_left
    · intro w hSw; (try dsimp only at hSw); go_simp; (try with_reducible rfl)
    try go_frame
    refine mac_region wd _ _ _ (derive key authL []) n' C' 20 109 110 112 113 114 116 117 118 119 _ _ _ _ _ _ _ _ (by simp) rfl (by kernel_rfl) (by kernel_rfl) (by kernel_rfl) (by kernel_rfl) (by kernel_rfl)
      rfl rfl rfl rfl rfl rfl rfl rfl rfl rfl rfl rfl rfl rfl rfl rfl rfl rfl rfl rfl rfl rfl rfl rfl
      (fun _ _ => by kernel_rfl) (fun _ _ => by kernel_rfl) rfl (fun _ _ => by kernel_rfl) rfl (fun _ _ => by kernel_rfl) (fun _ _ => by kernel_rfl) rfl rfl rfl rfl r9 hn0 hn1 hc9 hLd.out rfl (by decide) (by decide) ?_ ?_ wd.drew (dr0 _)
    · intro W hW; exact ⟨cell_kept hW b0, cell_kept hW b1⟩
    · intro vB vI vP vY vQ k W hk hA hW
      go_frame
      go_wp2_with fail
      go_meet
      exact ⟨k, rfl, hA, hW⟩
  case rest =>
   as_aux_lemma =>
    obtain ⟨kb, rfl, hkb, hBc⟩ := hcut
    have hBw := bt hBwd hBc
    have HKc := Lib.hid (block_below HKd.out hBc)
    have HXc := Lib.hid (block_below HXd.out hBc)
    have HOc := Lib.hid (block_below HOd.out hBc)
    have HTc := Lib.hid hkb
    have hlc := Lib.hid (hL.below hBw)
    have hxl := boxv_length n' C' T hbl
    have hop := open_any key n' C' T wc HK.out hbl hn0 hn1 hc9 hlc.out
    have heq := fun W => run_eql16 W (btag key n' C'.data.toList) T (btag_length _ _ _) hbl
    have hTl : (bv (btag key n' C'.data.toList)).length = 16 := by rw [bv_length, btag_length]
    have hg := guard16
    clear hkb b0 b1
    by_cases hcase : btag key n' C'.data.toList = T
    · as_aux_lemma =>
      have HE1 := Lib.hid (show bopens key n' C' T = crypts key n' C' from if_pos hcase)
      have HE2 := Lib.hid (show bopene key n' C' T = 0 from if_pos hcase)
      rw [HE1.out, HE2.out] at hop
      rw [show decide (btag key n' C'.data.toList = T) = true from decide_eq_true hcase] at heq
      have HOP := Lib.hid hop
      generalize btag key n' C'.data.toList = T' at *
      clear hop hcase HE1 HE2
      go_wp2_with (first
        | (refine wpList_loadB rfl 34 (.tmp 6) rfl ud size32 HKc.out (by rw [bv_length, HK.out]) rfl rfl ?_)
        | (refine wpList_loadB rfl 36 (.tmp 15) rfl ub size36 HXc.out hxl rfl rfl ?_)
        | (go_at_call 20; refine HOP.out.mono ?_; rintro e w5' ⟨rfl, hB5'⟩; have HT5 := Lib.hid (block_below HTc.out hB5'); obtain ⟨a0, a1, ra⟩ := box_cell (block_below HOc.out hB5'); have RA := Lib.hid ra; clear ra)
        | (refine wpList_wantedB rfl ?_; refine wpList_loadB rfl 34 (.tmp 20) rfl ud size32 HT5.out hTl rfl rfl ?_)
        | (refine wpList_wantedB rfl ?_; refine wpList_load_mid rfl 34 (.tmp 131) rfl w2.heap.size 2 rfl (bv T) _ RA.out ud rfl (by rw [bv_length, hbl]; exact size32) ?_))
      go_ret
      exact ⟨rfl, bt hBw hB5'⟩
    · as_aux_lemma =>
      have HE1 := Lib.hid (show bopens key n' C' T = ⟨#[]⟩ from if_neg hcase)
      have HE2 := Lib.hid (show bopene key n' C' T = 8 from if_neg hcase)
      rw [HE1.out, HE2.out] at hop
      rw [show decide (btag key n' C'.data.toList = T) = false from decide_eq_false hcase] at heq
      have HOP := Lib.hid hop
      generalize btag key n' C'.data.toList = T' at *
      clear hop hcase HE1 HE2
      go_wp2_with (first
        | (refine wpList_loadB rfl 34 (.tmp 6) rfl ud size32 HKc.out (by rw [bv_length, HK.out]) rfl rfl ?_)
        | (refine wpList_loadB rfl 36 (.tmp 15) rfl ub size36 HXc.out hxl rfl rfl ?_)
        | (go_at_call 20; refine HOP.out.mono ?_; rintro e w5' ⟨rfl, hB5'⟩; have HT5 := Lib.hid (block_below HTc.out hB5'); obtain ⟨a0, a1, ra⟩ := box_cell (block_below HOc.out hB5'); have RA := Lib.hid ra; clear ra)
        | (refine wpList_wantedB rfl ?_; refine wpList_loadB rfl 34 (.tmp 20) rfl ud size32 HT5.out hTl rfl rfl ?_)
        | (refine wpList_wantedB rfl ?_; refine wpList_load_mid rfl 34 (.tmp 131) rfl w2.heap.size 2 rfl (bv T) _ RA.out ud rfl (by rw [bv_length, hbl]; exact size32) ?_))
      go_ret
      exact ⟨rfl, bt hBw hB5'⟩
end Go.Proofs.YtaecljahbmcneaaDoor
