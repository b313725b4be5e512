/- BoxTampered: another tag. -/
import Derived.Test.YtaecljahbmcneaaDoorBoxL4
import Derived.Test.YtaecljahbmcneaaDoorBoxL4b
namespace Go.Proofs.YtaecljahbmcneaaDoor
open Go.RowKit Go.Shelf

set_option maxHeartbeats 4000000 in
set_option maxRecDepth 100000 in
theorem tampered2 (key : List UInt8) (nonce : Int) (s : ByteArray) (at_ : Nat) (by_ : UInt8) (what : Int) (w : World) (hk : key.length = 16) (h0 : -9223372036854775808 ≤ nonce) (h1 : nonce < 9223372036854775808) (hm : s.size ≤ 300) (hat : at_ ≤ 65535) (hby : by_ ≠ 0) (hw0 : 0 ≤ what) (hw1 : what ≤ 255) (hr : what % 3 = 2) (hL : Laid w) :
    Calls Tryd.prog 8 #[.agg (bv key).toArray, .int .i64 nonce, .string s, .int .u16 at_, .int .u8 (by_.toNat : Int), .int .u8 what] w fun e w' => e = .returned (.bool true) ∧ Below w.heap.size w w' := by
  have HK := Lib.hid hk
  have HSN := Lib.hid (sanity_any (w.alloc (.cells (bv key).toArray 34)) (hL.below (below_al _ _)))
  have HKW := Lib.hid (heap_alloc_new w (.cells (bv key).toArray 34))
  have ud := Tryd.underlying34
  have ub := Tryd.underlying36
  have hmi : ¬ ((300 : Int) < (s.size : Int)) := by omega
  have hs9 : s.size ≤ 900000 := by omega
  have hbi : (((by_.toNat : Int)) == 0) = false := by
    have : by_.toNat ≠ 0 := fun e => hby (UInt8.toNat_inj.1 (by simpa using e))
    rw [beq_eq_false_iff_ne]; omega
  have hri : ((what % 3) == 0) = false := by rw [hr]; rfl
  have hri1 : ((what % 3) == 1) = false := by rw [hr]; rfl
  have hri2 : ((what % 3) == 2) = true := by rw [hr]; rfl
  have HSL := Lib.hid (seal_any key nonce s)
  have hbl := btag_length key nonce (crypt key nonce s.data.toList)
  have hcs := crypts_size key nonce s
  have HBT := Lib.hid (show btag key nonce (crypts key nonce s).data.toList = btag key nonce (crypt key nonce s.data.toList) from rfl)
  generalize btag key nonce (crypt key nonce s.data.toList) = T at *
  generalize crypts key nonce s = C at *
  have HBY := Lib.hid hby
  clear hby hr
  go_enter Tryd.func8, Tryd.ntmps8
  go_upto_region 15 with (first
    | (go_at_call 19; go_must (refine HSN.out.mono ?_); rintro e w1 ⟨rfl, hB1⟩; have HK1 := Lib.hid (block_below HKW.out hB1); have hBw1 := bt (below_al _ _) hB1; have hl1 := Lib.hid (hL.below hBw1))
    | (refine wpList_loadB rfl 34 (.tmp 6) rfl ud size32 HK1.out (by rw [bv_length, HK.out]) rfl rfl ?_)
    | (go_at_call 22; go_must (refine (HSL.out w1 HK.out h0 h1 hs9 hl1.out).mono ?_); rintro e w2 ⟨rfl, hB2⟩; have HK2 := Lib.hid (block_below HK1.out hB2); have hBw2 := bt hBw1 hB2)
    | (refine wpList_storeB rfl 36 (.tmp 14) (.tmp 35) rfl size36 (heap_alloc_new w2 _) (boxv_one nonce C T) (boxv_length _ _ _ hbl) (by rfl) rfl rfl ?_; intro w3 h3 hg3 hz3; have hB3 := below_put hg3; have HK3 := Lib.hid (block_below HK2.out hB3); have H3 := Lib.hid h3; have hBw3 := bt hBw2 hB3; have z3 : w2.heap.size < w3.heap.size := (Array.getElem?_eq_some_iff.1 h3).1; clear h3 hg3 hz3)
    | (refine wpList_loadB rfl 36 (.tmp 14) rfl ub size36 H3.out (boxv_length _ _ _ hbl) rfl rfl ?_)
    | (refine wpList_storeB rfl 36 (.tmp 15) (.tmp 36) rfl size36 (heap_alloc_new w3 _) (boxv_one nonce C T) (boxv_length _ _ _ hbl) (by rfl) rfl rfl ?_; intro w4 h4 hg4 hz4; have hB4 := below_put hg4; have HK4 := Lib.hid (block_below HK3.out hB4); have HO4 := Lib.hid (block_below H3.out hB4); have H4 := Lib.hid h4; have hBw4 := bt hBw3 hB4; have z4 : w3.heap.size < w4.heap.size := (Array.getElem?_eq_some_iff.1 h4).1; clear h4 hg4 hz4))
  obtain ⟨i, hi⟩ : ∃ i, i = at_ % 16 := ⟨_, rfl⟩
  have hil : i < 16 := by rw [hi]; exact Nat.mod_lt _ (by omega)
  have hmod : ((at_ : Int) % 16) = (i : Int) := by rw [hi]; rfl
  have htl : i < T.length := by omega
  obtain ⟨ti, hti⟩ : ∃ ti, ti = T[i] := ⟨_, rfl⟩
  have c4 : w4.cell? ⟨w3.heap.size, i + 2, none⟩ = some (.int .u8 (ti.toNat : Int)) := by
    rw [cell_of_row _ _ _ _ _ _ H4.out, List.getElem?_toArray]
    show (bv T)[i]? = _
    rw [bv_at htl, hti]; rfl
  have f4 := frozen_of_row _ _ (i + 2) _ _ H4.out
  have c4' := c4
  have f4' := f4
  rw [Nat.add_comm] at c4' f4'
  have HI := Lib.hid hi
  have HTI := Lib.hid hti
  clear hi hti
  go_upto_region 19 with (fail)
  obtain ⟨w5, hw5⟩ : ∃ x, x = w4.setCell ⟨w3.heap.size, 2 + i, none⟩ (.int .u8 (bits BinOp.xor IntKind.u8 (ti.toNat : Int) (by_.toNat : Int))) := ⟨_, rfl⟩
  rw [← hw5]
  obtain ⟨T', hT'⟩ : ∃ T', T' = T.set i (ti ^^^ by_) := ⟨_, rfl⟩
  have hT'l : T'.length = 16 := by rw [hT', List.length_set]; exact hbl
  have hne : T ≠ T' := by
    intro e
    have h1 : T'[i]? = some (ti ^^^ by_) := by rw [hT', List.getElem?_set_self htl]
    rw [← e, List.getElem?_eq_getElem htl] at h1
    exact xor_one_ne ti by_ HBY.out (by rw [← HTI.out] at h1; exact (Option.some.inj h1).symm)
  have hg5 : w4.grownBy w5 (some w3.heap.size) := by rw [hw5]; exact grown_set _ _ _ _
  have HX5 : Hid (w5.heap[w3.heap.size]? = some (.cells (boxv nonce C T').toArray 36 (0, 0))) := by
    rw [hw5, hT']
    refine (heap_set_fr _ _ _ _ _ _ _ H4.out).trans ?_
    rw [← xor_val ti by_ _ rfl, List.setIfInBounds_toArray, Nat.add_comm 2 i]
    congr 2
    show (Value.int .i64 nonce :: Value.string C :: (bv T).set i (B (ti ^^^ by_))).toArray = (boxv nonce C (T.set i (ti ^^^ by_))).toArray
    simp [boxv, bv]
  have HK5 := Lib.hid (block_kept HK4.out hg5 (by have := (Array.getElem?_eq_some_iff.1 HK3.out).1; simp; omega))
  have hBw5 := hBw4.grown hg5 hBw4.size (fun j e => by cases e; exact hBw3.size)
  have hl5 := Lib.hid (hL.below hBw5)
  have hop := open_any key nonce C T' w5 HK.out hT'l h0 h1 (by omega) hl5.out
  have hbt : btag key nonce C.data.toList ≠ T' := by rw [HBT.out]; exact hne
  rw [(bopen_bad hbt).1, (bopen_bad hbt).2] at hop
  have HOP := Lib.hid hop
  clear hop hbt hne hw5 hg5 hT' c4 f4 c4' f4' hcs
  go_wp2_with (first
    | (refine wpList_loadB rfl 34 (.tmp 6) rfl ud size32 HK5.out (by rw [bv_length, HK.out]) rfl rfl ?_)
    | (refine wpList_loadB rfl 36 (.tmp 15) rfl ub size36 HX5.out (boxv_length _ _ _ hT'l) rfl rfl ?_)
    | (go_at_call 20; refine HOP.out.mono ?_; rintro e w6 ⟨rfl, hB6⟩))
  go_ret
  exact ⟨rfl, bt hBw5 hB6⟩

set_option maxHeartbeats 4000000 in
set_option maxRecDepth 100000 in
theorem tampered_none (key : List UInt8) (nonce : Int) (s : ByteArray) (at_ b_ what : Int) (w : World) (hm : 300 < s.size ∨ b_ = 0) (hL : Laid w) :
    Calls Tryd.prog 8 #[.agg (bv key).toArray, .int .i64 nonce, .string s, .int .u16 at_, .int .u8 b_, .int .u8 what] w fun e w' => e = .returned (.bool true) ∧ Below w.heap.size w w' := by
  have HSN := Lib.hid (sanity_any (w.alloc (.cells (bv key).toArray 34)) (hL.below (below_al _ _)))
  by_cases hm3 : 300 < s.size
  · have hmi : (300 : Int) < (s.size : Int) := by omega
    clear hm
    go_enter Tryd.func8, Tryd.ntmps8
    go_wp2_with (first
      | (go_at_call 19; go_must (refine HSN.out.mono ?_); rintro e w1 ⟨rfl, hB1⟩; have hBw1 := bt (below_al _ _) hB1))
    go_ret
    exact ⟨rfl, hBw1⟩
  · have hmi : ¬ ((300 : Int) < (s.size : Int)) := by omega
    obtain rfl : b_ = 0 := by omega
    clear hm
    go_enter Tryd.func8, Tryd.ntmps8
    go_wp2_with (first
      | (go_at_call 19; go_must (refine HSN.out.mono ?_); rintro e w1 ⟨rfl, hB1⟩; have hBw1 := bt (below_al _ _) hB1))
    go_ret
    exact ⟨rfl, hBw1⟩

theorem tampered_any (key : List UInt8) (nonce : Int) (s : ByteArray) (at_ b_ what : Int) (w : World) (hk : key.length = 16) (mn : (Lit.int .i64 nonce).wf = true) (_ms : s.size ≤ maxLen) (ma : (Lit.int .u16 at_).wf = true) (mb : (Lit.int .u8 b_).wf = true) (mw : (Lit.int .u8 what).wf = true) (hL : Laid w) :
    Calls Tryd.prog 8 #[.agg (bv key).toArray, .int .i64 nonce, .string s, .int .u16 at_, .int .u8 b_, .int .u8 what] w fun e w' => e = .returned (.bool true) ∧ Below w.heap.size w w' := by
  simp [Lit.wf, IntKind.min, IntKind.max, IntKind.signed, IntKind.bits] at mn ma mb mw
  by_cases hm : 300 < s.size ∨ b_ = 0
  · exact tampered_none key nonce s at_ b_ what w hm hL
  · obtain ⟨an, rfl⟩ : ∃ an : Nat, at_ = an := ⟨at_.toNat, by omega⟩
    obtain ⟨bn, rfl⟩ : ∃ bn : UInt8, b_ = (bn.toNat : Int) := ⟨UInt8.ofNat b_.toNat, by simp; omega⟩
    have hby : bn ≠ 0 := by rintro rfl; exact hm (Or.inr rfl)
    have hr : what % 3 = 0 ∨ what % 3 = 1 ∨ what % 3 = 2 := by omega
    rcases hr with hr | hr | hr
    · exact tampered0 key nonce s an bn what w hk (by omega) (by omega) (by omega) (by omega) hby (by omega) (by omega) hr hL
    · exact tampered1 key nonce s an bn what w hk (by omega) (by omega) (by omega) hby (by omega) (by omega) hr hL
    · exact tampered2 key nonce s an bn what w hk (by omega) (by omega) (by omega) (by omega) hby (by omega) (by omega) hr hL
end Go.Proofs.YtaecljahbmcneaaDoor
