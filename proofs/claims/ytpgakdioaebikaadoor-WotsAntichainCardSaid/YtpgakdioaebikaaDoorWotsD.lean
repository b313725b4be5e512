/- Package wots: Recover. -/
import Derived.Test.YtpgakdioaebikaaDoorWotsA
import Derived.Test.YtpgakdioaebikaaDoorWotsB
import Derived.Deep.RegionHeldLaw
import Derived.IntWalk
import Derived.Test.YtpgakdioaebikaaDoorRet
namespace Go.Proofs.YtpgakdioaebikaaDoor
open Go.RowKit Go.Shelf

set_option maxHeartbeats 2000000 in
set_option maxRecDepth 100000 in
theorem key_rec (f : Nat → List UInt8) (g0 g1 : Nat) (w : World) (hf : ∀ k, k < 68 → (f k).length = 16)
    (hend : ∀ (k : Nat) (W : World), k < 68 → Below w.heap.size w W → Calls Tryd.prog 23 #[.int .i64 (k : Int), .pointer (some ⟨g0, 0, none⟩), .pointer (some ⟨g1, 0, none⟩)] W fun e W' => e = .returned (.agg (bv (f k)).toArray) ∧ Below W.heap.size W W') (hL : Laid w) :
    Calls Tryd.prog 22 #[.func (.func 23) #[] #[.pointer (some ⟨g0, 0, none⟩), .pointer (some ⟨g1, 0, none⟩)]] w fun e w' => e = .returned (.agg (bv (wkey f)).toArray) ∧ Below w.heap.size w w' := by
  have HE := Lib.hid hend
  have HS0 := Lib.hid (heap_alloc_new w (.cells Z16.toArray 23))
  clear hend
  go_enter Tryd.func22, Tryd.ntmps22
  go_wp2
  go_loopw [3, 4, 5, 6] (fun b _ _ i wr => ∃ (j : Nat) (A : Option Addr) (c : Nat) (xs : List UInt8), j ≤ 68 ∧ i = .int .i64 j ∧ b = .slice A xs.length c ∧ Hid (xs = wjoin f j) ∧ xs.length = 16 * j ∧ wr.ownsRow (w.heap.size + 1) 5 1 (.slice A xs.length c) xs.length (bv xs) ∧
      wr.heap[w.heap.size]? = some (.cells Z16.toArray 23 (0, 0)) ∧ Below w.heap.size w wr) (fun _ _ _ i _ => 68 - (intOf i).toNat)
  case atStart => exact ⟨0, none, 0, [], by omega, rfl, rfl, Lib.hid rfl, rfl, World.ownsRow_nil _ _ _ _, HS0.out, below_al _ _⟩
  case round =>
    obtain ⟨j, A, c, xs, hj, rfl, rfl, hX, hxl, hown, hS, hB⟩ := hrel
    have HS := Lib.hid hS
    have hz : w.heap.size < wr.heap.size := (Array.getElem?_eq_some_iff.1 hS).1
    have HXL := Lib.hid hxl
    have hx2 : xs.length ≤ 1088 := by omega
    clear hS HS0 hxl
    by_cases hlt : j < 68
    · have hv := hf j hlt
      obtain ⟨v, hvv⟩ : ∃ v, v = f j := ⟨_, rfl⟩
      have hcall := HE.out j wr hlt hB
      rw [← hvv] at hcall hv
      have HC := Lib.hid hcall
      have HV := Lib.hid hvv
      have hji : (j : Int) < 68 := by omega
      clear hcall hvv
      go_wp2_with (first
        | (go_at_call 23; refine HC.out.mono ?_; rintro e w1 ⟨rfl, hB1⟩; have own1 := own_below hown hB1; have HS1 := Lib.hid (block_below HS.out hB1); have hBw1 := bt hB hB1; have hz1 : w.heap.size + 1 ≤ w1.heap.size := (by have := hB1.size; omega))
        | (refine wpList_storeB rfl 23 (.tmp 5) (.tmp 11) rfl size32 (heap_alloc_new w1 _) (bv_one v) (by rw [bv_length, hv]) (by rfl) rfl rfl ?_; intro w2 h2 hg2 hz2; have hB2 := below_put hg2; have r2 := rd_block h2 hv; have own2 := own_below own1 hB2; have HS2 := Lib.hid (block_below HS1.out hB2); have hBw2 := bt hBw1 hB2; have hz2' : w.heap.size + 1 ≤ w2.heap.size := (by have := hB2.size; omega); clear h2 hg2 hz2)
        | (at_builtin; refine wpList_app rfl _ _ 41 rfl (w.heap.size + 1) 5 1 1 _ Tryd.underlying41 info5 rfl (by decide) (by decide) _ _ _ (bv v) _ _ _ own2 r2.cells rfl rfl (by rw [bv_length, hv]) (bv_one _) hz2' (by omega) ?_; intro A3 c3 w3 hown3 hg3 _; rw [← bv_append] at hown3))
      have hl3 : xs.length + 16 = (xs ++ v).length := by rw [List.length_append, hv]
      rw [hl3] at hown3
      go_roundw
      case rel => exact ⟨j + 1, A3, c3, xs ++ v, by omega, by simp, by rw [hl3], Lib.hid (by rw [hX.out, HV.out]; rfl), by rw [← hl3, HXL.out]; omega, hown3, block_kept HS2.out hg3 (fun e => by have := own_ge own2 _ e.symm; omega), hBw2.grown hg3 (by omega) (fun q e => by have := own_ge own2 q e; omega)⟩
      case measure => simp [intOf]; omega
    · obtain rfl : j = 68 := by omega
      have hdl := digest_length 4 [xs]
      have hkd : wkey f = digest 4 [xs] := by unfold wkey; rw [hX.out]
      have HKD := Lib.hid hkd
      have hl := Lib.hid (hL.below hB)
      have rx : Rd wr A xs.length xs := ⟨rfl, own_cells hown⟩
      clear hkd
      go_wp2_with (first
        | (go_at_call 20; go_must (refine (digest_any 4 _ _ _ [xs] _ (rdL_one rx) (by omega) (by intro p hp; simp at hp; subst hp; omega) (hl.out.below (below_al _ _))).mono ?_); rintro e w4 ⟨rfl, hB4⟩; have hB34 := bt (below_al _ _) hB4; have HS4 := Lib.hid (block_below HS.out hB34))
        | (refine wpList_storeB rfl 23 (.tmp 2) (.tmp 18) rfl size32 HS4.out (bv_one (digest 4 [xs])) (by rw [bv_length, hdl]) (by rfl) rfl rfl ?_; intro w5 h5 hg5 hz5; clear hz5))
      refine ret_agg rfl Tryd.underlying23 size32 rfl h5 (by rw [bv_length, hdl]) rfl rfl ?_
      exact ⟨by rw [HKD.out], (bt hB hB34).grown hg5 (bt hB hB34).size (fun q e => by cases e; omega)⟩

theorem advance_int (k : Nat) (v : List UInt8) (z : Int) (n : Nat) (w : World) (hz : z = (n : Int)) (hk : k ≤ 1000) (hv : v.length = 16) (hn : n ≤ 1000) (hL : Laid w) :
    Calls Tryd.prog 24 #[.int .i64 (k : Int), .agg (bv v).toArray, .int .i64 z] w fun e w' => e = .returned (.agg (bv (wadv k v n)).toArray) ∧ Below w.heap.size w w' := by
  subst hz; exact advance_any k v n w hk hv hn hL
theorem iv64_at (l : List Nat) (k : Nat) (d : Nat) (h : l[k]? = some d) : (iv64 l)[k]? = some (.int .i64 (d : Int)) := by simp [iv64, h]

set_option maxHeartbeats 2000000 in
set_option maxRecDepth 100000 in
theorem recc_any (m : List UInt8) (b off c k g0 g1 gd : Nat) (cv : List UInt8) (w : World) (hk : k < 68) (hcv : cv.length = 16) (hg0 : w.heap[g0]? = some (.cells #[.slice (some ⟨b, off, none⟩) 68 c] 24 (0, 0))) (hg1 : w.heap[g1]? = some (.cells #[.slice (some ⟨gd, 0, none⟩) 68 68] 26 (0, 0)))
    (hgd : w.heap[gd]? = some (.cells (iv64 (wdigits m)).toArray 43 (0, 0))) (hr : w.rangeAt b (off + k * 16) (bv cv)) (hL : Laid w) :
    Calls Tryd.prog 23 #[.int .i64 (k : Int), .pointer (some ⟨g0, 0, none⟩), .pointer (some ⟨g1, 0, none⟩)] w fun e w' => e = .returned (.agg (bv (wadv k cv (3 - wdg m k))).toArray) ∧ Below w.heap.size w w' := by
  have hB0 := below_al w (.cells Z16.toArray 23)
  have HS0 := Lib.hid (heap_alloc_new w (.cells Z16.toArray 23))
  have hd3 := wdg_le m k
  have c0 : w.cell? ⟨g0, 0, none⟩ = _ := cell_row (cs := [_]) hg0 rfl
  have c1 : w.cell? ⟨g1, 0, none⟩ = _ := cell_row (cs := [_]) hg1 rfl
  have c2 : w.cell? ⟨gd, k, none⟩ = _ := cell_row hgd (iv64_at _ _ _ (wdigits_at m k hk))
  have n0 := (Array.getElem?_eq_some_iff.1 hg0).1
  have n1 := (Array.getElem?_eq_some_iff.1 hg1).1
  have n2 := (Array.getElem?_eq_some_iff.1 hgd).1
  have n3 : b < w.heap.size := World.block_lt_of_cell? w ⟨b, off + k * 16 + 0, none⟩ (hr 0 _ (bv_at (by omega)))
  obtain ⟨d, hd⟩ : ∃ d, d = wdg m k := ⟨_, rfl⟩
  rw [← hd] at c2 hd3 ⊢
  have hki : (0 : Int) ≤ (k : Int) ∧ (k : Int) < 68 := by omega
  have hul := wadv_length k cv (3 - d) hcv
  have hone := bv_one (wadv k cv (3 - d))
  have hszd : (Tryd.prog.info? 23).map (·.size) = some (bv (wadv k cv (3 - d))).length := by rw [bv_length, hul]; exact size32
  have hszc : (Tryd.prog.info? 23).map (·.size) = some (bv cv).length := by rw [bv_length, hcv]; exact size32
  have ud := Tryd.underlying23
  have hw3 : IntKind.i64.wrap (3 - (d : Int)) = ((3 - d : Nat) : Int) := by rw [IntWalk.i64_in _ (by omega)]; omega
  clear hd hg0 hg1 hgd
  go_enter Tryd.func23, Tryd.ntmps23
  go_upto_region 1 with (fail)
  change Code.wp _ _ _ _ (w.alloc (.cells Z16.toArray 23))
  obtain ⟨wd, hwd⟩ : ∃ x, x = w.alloc (.cells Z16.toArray 23) := ⟨_, rfl⟩
  rw [← hwd] at hB0 HS0 ⊢
  clear hwd
  have hBq : Below wd.heap.size wd wd.drew := Below.drew (Below.refl _ _)
  have hB1 := bt hB0 hBq
  have HL1 := Lib.hid (hL.below hB1)
  have HC := Lib.hid (show wd.drew.cell? ⟨g0, 0, none⟩ = some (.slice (some ⟨b, off, none⟩) 68 c) ∧ wd.drew.cell? ⟨g1, 0, none⟩ = some (.slice (some ⟨gd, 0, none⟩) 68 68) ∧ wd.drew.rangeAt b (off + k * 16) (bv cv) ∧ wd.drew.cell? ⟨gd, k, none⟩ = some (.int .i64 (d : Int)) from ⟨cell_kept hB1 c0, cell_kept hB1 c1, range_kept hr hB1, cell_kept hB1 c2⟩)
  clear c0 c1 c2 hr
  go_region_held_law (fun W => W.cell? ⟨g0, 0, none⟩ = some (.slice (some ⟨b, off, none⟩) 68 c) ∧ W.cell? ⟨g1, 0, none⟩ = some (.slice (some ⟨gd, 0, none⟩) 68 68) ∧ W.rangeAt b (off + k * 16) (bv cv) ∧ W.cell? ⟨gd, k, none⟩ = some (.int .i64 (d : Int))) (first | exact HC.out | exact HC2.out | exact HC3.out) (first
    | (go_at_call 24; go_must (refine (advance_int k cv _ (3 - d) _ (by omega) (by omega) hcv (by omega) HL1.out).mono ?_); rintro e w2 ⟨rfl, hB2⟩; have HC2 := Lib.hid (show w2.cell? ⟨g0, 0, none⟩ = some (.slice (some ⟨b, off, none⟩) 68 c) ∧ w2.cell? ⟨g1, 0, none⟩ = some (.slice (some ⟨gd, 0, none⟩) 68 68) ∧ w2.rangeAt b (off + k * 16) (bv cv) ∧ w2.cell? ⟨gd, k, none⟩ = some (.int .i64 (d : Int)) from ⟨cell_kept hB2 HC.out.1, cell_kept hB2 HC.out.2.1, range_kept HC.out.2.2.1 hB2, cell_kept hB2 HC.out.2.2.2⟩); have HS2 := Lib.hid (block_below (block_below HS0.out hBq) hB2); have hth := there16 HS2.out hul; obtain ⟨h9, hg9⟩ := setCells_row w2 w.heap.size 23 Z16 (bv (wadv k cv (3 - d))) HS2.out hone (by rw [bv_length, hul]; rfl); have HC3 := Lib.hid (show (w2.setCells w.heap.size 0 (bv (wadv k cv (3 - d)))).cell? ⟨g0, 0, none⟩ = some (.slice (some ⟨b, off, none⟩) 68 c) ∧ (w2.setCells w.heap.size 0 (bv (wadv k cv (3 - d)))).cell? ⟨g1, 0, none⟩ = some (.slice (some ⟨gd, 0, none⟩) 68 68) ∧ (w2.setCells w.heap.size 0 (bv (wadv k cv (3 - d)))).rangeAt b (off + k * 16) (bv cv) ∧ (w2.setCells w.heap.size 0 (bv (wadv k cv (3 - d)))).cell? ⟨gd, k, none⟩ = some (.int .i64 (d : Int)) from ⟨hg9.cell HC2.out.1 (by simp; omega), hg9.cell HC2.out.2.1 (by simp; omega), range_grown HC2.out.2.2.1 hg9 (by simp; omega), hg9.cell HC2.out.2.2.2 (by simp; omega)⟩)))
  generalize w2.setCells w.heap.size 0 (bv (wadv k cv (3 - d))) = w9 at h9 hg9 HC3 ⊢
  go_wp2
  refine ret_agg rfl Tryd.underlying23 size32 rfl h9 (by rw [bv_length, hul]) rfl rfl ?_
  exact ⟨rfl, (bt hB1 hB2).grown hg9 (bt hB1 hB2).size (fun q e => by cases e; omega)⟩

set_option maxHeartbeats 2000000 in
set_option maxRecDepth 100000 in
theorem recover_any (m : List UInt8) (A : Option Addr) (n c : Nat) (chain : List (List UInt8)) (w : World) (hm : m.length = 16) (hr : RdF bv 16 w A n chain) (hn : n ≤ 1000000) (hL : Laid w) :
    Calls Tryd.prog 12 #[.agg (bv m).toArray, .slice A n c] w fun e w' => e = .returned (.tuple #[.agg (bv (if n = 68 then wrecover m chain else List.replicate 16 0)).toArray, .int .i64 (if n = 68 then 0 else 9)]) ∧ Below w.heap.size w w' := by
  have hB0 : Below w.heap.size w (((w.alloc (.cells (bv m).toArray 23)).alloc (.cells #[.slice A n c] 24)).alloc (.cells Z16.toArray 23)) := bt (bt (below_al _ _) (below_al _ _)) (below_al _ _)
  have HG0 : Hid ((((w.alloc (.cells (bv m).toArray 23)).alloc (.cells #[.slice A n c] 24)).alloc (.cells Z16.toArray 23)).heap[w.heap.size]? = some (.cells (bv m).toArray 23 (0, 0))) := (heap_alloc_old _ _ (by simp; omega)).trans ((heap_alloc_old _ _ (by simp)).trans (heap_alloc_new _ _))
  have HG1 : Hid ((((w.alloc (.cells (bv m).toArray 23)).alloc (.cells #[.slice A n c] 24)).alloc (.cells Z16.toArray 23)).heap[w.heap.size + 1]? = some (.cells #[.slice A n c] 24 (0, 0))) := (heap_alloc_old _ _ (by simp)).trans (heap_at _ _ _ (by simp))
  have HS : Hid ((((w.alloc (.cells (bv m).toArray 23)).alloc (.cells #[.slice A n c] 24)).alloc (.cells Z16.toArray 23)).heap[w.heap.size + 1 + 1]? = some (.cells Z16.toArray 23 (0, 0))) := heap_at _ _ _ (by simp)
  have ud := Tryd.underlying23
  have hml : (bv m).length = 16 := by rw [bv_length, hm]
  have hmf : ∀ (fn : Fn) (first cap : Array Value) (w : World), (Instr.makeFunc fn first cap).run Tryd.prog w = .ok (.func fn first cap) w := fun _ _ _ _ => rfl
  have c1 := cell_row (i := 0) (cs := [_]) HG1.out rfl
  go_enter Tryd.func12, Tryd.ntmps12
  go_upto_region 1 with (fail)
  change Code.wp _ _ _ _ (((w.alloc (.cells (bv m).toArray 23)).alloc (.cells #[.slice A n c] 24)).alloc (.cells Z16.toArray 23))
  obtain ⟨wd, hwd⟩ : ∃ x, x = (((w.alloc (.cells (bv m).toArray 23)).alloc (.cells #[.slice A n c] 24)).alloc (.cells Z16.toArray 23)) := ⟨_, rfl⟩
  rw [← hwd] at hB0 HG0 HG1 HS c1 ⊢
  clear hwd
  by_cases h68 : n = 68
  · have hni : ((n : Int) == 68) = true := by rw [h68]; rfl
    obtain ⟨b, off, rfl, hch⟩ := hr.at_ (by omega) (by decide)
    have hcl : chain.length = 68 := by rw [hr.len, h68]
    have hall : ∀ k, k < 68 → (chain.getD k []).length = 16 := fun k hk => by
      have hx : k < chain.length := by omega
      have h1 := hr.each _ (List.getElem_mem hx)
      rw [bv_length] at h1
      simpa [List.getD_eq_getElem?_getD, List.getElem?_eq_getElem hx] using h1
    have hrg : ∀ k, k < 68 → w.rangeAt b (off + k * 16) (bv (chain.getD k [])) := fun k hk => by
      have hx : k < chain.length := by omega
      have h1 := hch k hx
      simpa [List.getD_eq_getElem?_getD, List.getElem?_eq_getElem hx] using h1
    have HLd := Lib.hid (hL.below hB0)
    have HRG := Lib.hid hrg
    have HALL := Lib.hid hall
    subst h68
    clear hall hrg hch hcl hni hr
    go_upto_region 4 with (first
      | (refine wpList_loadB rfl 23 (.tmp 2) rfl ud size32 HG0.out hml rfl rfl ?_)
      | (go_at_call 10; go_must (refine (digits_any m wd hm).mono ?_); rintro e w1 ⟨gd, rfl, hgdl, hgd, hB1⟩; have HD1 := Lib.hid hgd; have HG11 := Lib.hid (block_below HG1.out hB1); have HS1 := Lib.hid (block_below HS.out hB1); have hBw1 := bt hB0 hB1; clear hgd))
    obtain ⟨w2, hw2⟩ : ∃ x, x = w1.alloc (.cells #[.slice (some ⟨gd, 0, none⟩) 68 68] 26) := ⟨_, rfl⟩
    have hb2 : Below w1.heap.size w1 w2 := by rw [hw2]; exact below_al _ _
    have HT2 : Hid (w2.heap[w1.heap.size]? = some (.cells #[.slice (some ⟨gd, 0, none⟩) 68 68] 26 (0, 0))) := by rw [hw2]; exact heap_alloc_new _ _
    have hBw2 := bt hBw1 hb2
    have hS2 := block_below HS1.out hb2
    have hD2 := block_below HD1.out hb2
    have hG2 := block_below HG11.out hb2
    have HLw := Lib.hid (hL.below hBw2)
    have hky := key_rec (fun k => wadv k (chain.getD k []) (3 - wdg m k)) (w.heap.size + 1) w1.heap.size w2 (fun k hk => wadv_length _ _ _ (HALL.out k hk)) (fun k W hk hW => recc_any m b off c k _ _ gd _ W hk (HALL.out k hk) (block_below hG2 hW) (block_below HT2.out hW) (block_below hD2 hW) (range_kept (range_kept (HRG.out k hk) hBw2) hW) (HLw.out.below hW)) HLw.out
    have hpl := wkey_length fun k => wadv k (chain.getD k []) (3 - wdg m k)
    have hfin : wrecover m chain = wkey fun k => wadv k (chain.getD k []) (3 - wdg m k) := rfl
    obtain ⟨T, hT⟩ : ∃ T, T = wkey fun k => wadv k (chain.getD k []) (3 - wdg m k) := ⟨_, rfl⟩
    rw [← hT] at hky hpl hfin
    have HKY := Lib.hid hky
    have HF := Lib.hid hfin
    have HS2 := Lib.hid hS2
    clear hT hky hfin hS2 hD2 hG2 c1
    change Code.wp _ _ _ _ (w1.alloc (.cells #[.slice (some ⟨gd, 0, none⟩) 68 68] 26))
    rw [← hw2]
    clear hw2
    go_wp2_with (first
      | (go_at_call 22; refine HKY.out.mono ?_; rintro e w3 ⟨rfl, hB3⟩; have HS3 := Lib.hid (block_below HS2.out hB3))
      | (refine wpList_storeB rfl 23 (.tmp 4) (.tmp 14) rfl size32 HS3.out (bv_one T) (by rw [bv_length, hpl]) (by rfl) rfl rfl ?_; intro w5 h5 hg5 hz5; clear hz5))
    refine ret_agg_tmp (v := .int .i64 0) rfl ud size32 rfl h5 (by rw [bv_length, hpl]) rfl rfl rfl ?_
    exact ⟨by simp [HF.out], (bt hBw2 hB3).grown hg5 (bt hBw2 hB3).size (fun q e => by cases e; omega)⟩
  · have hni : ((n : Int) == 68) = false := by rw [beq_eq_false_iff_ne]; omega
    have HN := Lib.hid h68
    clear h68
    go_wp2_with (first
      | (refine wpList_storeB rfl 23 (.tmp 4) (.tmp 10) rfl size32 HS.out (bv_one (List.replicate 16 0)) (by rfl) (by rfl) rfl rfl ?_; intro w5 h5 hg5 hz5; clear hz5))
    refine ret_agg_tmp (v := .int .i64 9) rfl ud size32 rfl h5 (by rfl) rfl rfl rfl ?_
    exact ⟨by simp, hB0.grown hg5 hB0.size (fun q e => by cases e; omega)⟩
end Go.Proofs.YtpgakdioaebikaaDoor
