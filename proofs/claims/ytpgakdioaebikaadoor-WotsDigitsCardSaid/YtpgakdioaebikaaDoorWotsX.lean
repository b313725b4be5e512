/- WotsDigits. -/
import Derived.Test.YtpgakdioaebikaaDoorWotsW
namespace Go.Proofs.YtpgakdioaebikaaDoor
open Go.RowKit Go.Shelf

/-- Byte i of what the first k digits spell. -/
def bkb (m : List UInt8) (k i : Nat) : UInt8 := if i < k / 4 then m.getD i 0 else if i = k / 4 then UInt8.ofNat ((m.getD i 0).toNat / 4 ^ (4 - k % 4)) else 0
def bk (m : List UInt8) (k : Nat) : List UInt8 := (List.range 16).map (bkb m k)
theorem bk_length (m : List UInt8) (k : Nat) : (bk m k).length = 16 := by simp [bk]
theorem bk_zero (m : List UInt8) : bk m 0 = Z0 := by
  apply List.ext_getElem (by simp [bk, Z0])
  intro i h1 h2
  have h16 : i < 16 := by simpa [bk] using h1
  have hx := (m.getD 0 0).toNat_lt
  simp only [bk, Z0, List.getElem_map, List.getElem_range, List.getElem_replicate, bkb]
  rw [if_neg (by omega)]
  by_cases h : i = 0 / 4
  · rw [if_pos h]
    obtain rfl : i = 0 := by omega
    rw [show (m.getD 0 0).toNat / 4 ^ (4 - 0 % 4) = 0 from by show (m.getD 0 0).toNat / 256 = 0; omega]
    rfl
  · rw [if_neg h]
theorem bk_end (m : List UInt8) (hm : m.length = 16) : bk m 64 = m := by
  apply List.ext_getElem (by simp [bk, hm])
  intro i h1 h2
  have h16 : i < 16 := by simpa [bk] using h1
  simp only [bk, List.getElem_map, List.getElem_range, bkb]
  rw [if_pos (by omega)]
  simp [List.getD_eq_getElem?_getD, h2]
theorem bk_at (m : List UInt8) (k : Nat) (hk : k < 64) : (bv (bk m k))[k / 4]? = some (.int .u8 (((m.getD (k / 4) 0).toNat / 4 ^ (4 - k % 4) : Nat) : Int)) := by
  have hx := (m.getD (k / 4) 0).toNat_lt
  have hle : (m.getD (k / 4) 0).toNat / 4 ^ (4 - k % 4) ≤ (m.getD (k / 4) 0).toNat := Nat.div_le_self _ _
  simp only [bk, bv, List.getElem?_map, List.getElem?_range (show k / 4 < 16 by omega), Option.map_some, bkb]
  rw [if_neg (by omega), if_pos trivial]
  simp only [B, UInt8.toNat_ofNat']
  rw [Nat.mod_eq_of_lt (by omega)]
theorem bk_set (m : List UInt8) (k : Nat) (_hk : k < 64) (y : Int) (hy : (((m.getD (k / 4) 0).toNat / 4 ^ (3 - k % 4) : Nat) : Int) = y) : (bv (bk m k)).toArray.setIfInBounds (k / 4) (.int .u8 y) = (bv (bk m (k + 1))).toArray := by
  subst hy
  rw [List.setIfInBounds_toArray]
  congr 1
  apply List.ext_getElem (by simp [bk, bv])
  intro i h1 h2
  have h16 : i < 16 := by simpa [bk, bv] using h2
  have hx := (m.getD i 0).toNat_lt
  simp only [List.getElem_set, bv, bk, List.getElem_map, List.getElem_range, bkb, B]
  by_cases h : k / 4 = i
  · subst h
    rw [if_pos rfl]
    have hr : k % 4 = 0 ∨ k % 4 = 1 ∨ k % 4 = 2 ∨ k % 4 = 3 := by omega
    rcases hr with hr | hr | hr | hr
    · rw [if_neg (by omega), if_pos (by omega), hr, show (k + 1) % 4 = 1 from by omega]
      simp only [UInt8.toNat_ofNat', Nat.sub_zero]
      rw [Nat.mod_eq_of_lt (by omega)]
    · rw [if_neg (by omega), if_pos (by omega), hr, show (k + 1) % 4 = 2 from by omega]
      simp only [UInt8.toNat_ofNat']
      rw [Nat.mod_eq_of_lt (by omega)]
    · rw [if_neg (by omega), if_pos (by omega), hr, show (k + 1) % 4 = 3 from by omega]
      simp only [UInt8.toNat_ofNat']
      rw [Nat.mod_eq_of_lt (by omega)]
    · rw [if_pos (by omega), hr]
      simp
  · rw [if_neg h]
    by_cases h3 : i < k / 4
    · rw [if_pos h3, if_pos (by omega)]
    · rw [if_neg h3, if_neg (by omega), if_neg (by omega)]
      by_cases h4 : i = (k + 1) / 4
      · rw [if_pos h4, show (k + 1) % 4 = 0 from by omega]
        rw [show (m.getD i 0).toNat / 4 ^ (4 - 0) = 0 from by show (m.getD i 0).toNat / 256 = 0; omega]
        rfl
      · rw [if_neg h4]
/-- The digits behind the 64th spell the checksum. -/
def chk (m : List UInt8) (k : Nat) : Nat := if k ≤ 64 then 0 else wsum m 64 / 4 ^ (68 - k)
theorem chk_succ (m : List UInt8) (k : Nat) (h : 64 ≤ k) (h2 : k < 68) : chk m (k + 1) = 4 * chk m k + wdg m k := by
  have hs := wsum_le m 64
  have hk : k = 64 ∨ k = 65 ∨ k = 66 ∨ k = 67 := by omega
  rcases hk with rfl | rfl | rfl | rfl <;> simp [chk, wdg] <;> omega
theorem chk_le (m : List UInt8) (k : Nat) : chk m k ≤ 192 := by
  have hs := wsum_le m 64
  unfold chk
  split
  · omega
  · exact Nat.le_trans (Nat.div_le_self _ _) (by omega)
theorem shl_or2 : ∀ (y : Fin 64) (d : Fin 4), bits BinOp.or IntKind.u8 ((y.val * 4 : Nat) : Int) ((d.val : Nat) : Int) = ((y.val * 4 + d.val : Nat) : Int) := by decide +kernel

set_option maxHeartbeats 4000000 in
set_option maxRecDepth 100000 in
theorem digitsLaw_any (m : List UInt8) (w : World) (hm : m.length = 16) (hL : Laid w) :
    Calls Tryd.prog 5 #[.agg (bv m).toArray] w fun e w' => e = .returned (.bool true) ∧ Below w.heap.size w w' := by
  have HG0 := Lib.hid (heap_alloc_new w (.cells (bv m).toArray 23))
  have ud := Tryd.underlying23
  have hml : (bv m).length = 16 := by rw [bv_length, hm]
  go_enter Tryd.func5, Tryd.ntmps5
  go_wp2_with (first
    | (refine wpList_loadB rfl 23 (.tmp 1) rfl ud size32 HG0.out hml rfl rfl ?_)
    | (go_at_call 10; go_must (refine (digits_any m _ hm).mono ?_); rintro e w1 ⟨ga, rfl, hgal, hga, hB1⟩; have HD := Lib.hid hga; have HG1 := Lib.hid (block_below HG0.out hB1); have hBw1 := bt (below_al _ _) hB1; have hza : ga < w1.heap.size := (Array.getElem?_eq_some_iff.1 hga).1; clear hga hgal))
  go_loopw [5, 6, 7, 8, 16] (fun sm ck _ _ i wr => ∃ k : Nat, k ≤ 68 ∧ i = .int .i64 k ∧ sm = .int .i64 (wsum m (min k 64) : Nat) ∧ ck = .int .i64 (chk m k : Nat) ∧ wr.heap[w1.heap.size]? = some (.cells (bv (bk m (min k 64))).toArray 23 (0, 0)) ∧ Below w1.heap.size w1 wr) (fun _ _ _ _ i _ => 68 - (intOf i).toNat)
  case atStart => exact ⟨0, by omega, rfl, rfl, rfl, by rw [show min 0 64 = 0 from rfl, bk_zero]; exact heap_alloc_new _ _, below_al _ _⟩
  case round =>
    obtain ⟨k, hk, rfl, rfl, rfl, hO, hG⟩ := hrel
    have hBr := bt hBw1 hG
    have HO := Lib.hid hO
    clear hO
    by_cases hlt : k < 68
    · have c0 : wr.cell? ⟨ga, k, none⟩ = _ := cell_row (block_below HD.out hG) (iv64_at _ _ _ (wdigits_at m k hlt))
      have hd3 := wdg_le m k
      have hki : (k : Int) < 68 := by omega
      by_cases h64 : k < 64
      · have h64i : (k : Int) < 64 := by omega
        have hmin : min k 64 = k := by omega
        have hmin1 : min (k + 1) 64 = k + 1 := by omega
        rw [hmin] at HO
        have hwg : wdg m k = wd m k := if_pos h64
        have hsl := wsum_le m k
        have hcell := bk_at m k h64
        have c1 : wr.cell? ⟨w1.heap.size, k / 4, none⟩ = _ := cell_row HO.out hcell
        have f1 : wr.frozen? ⟨w1.heap.size, k / 4, none⟩ = false := frozen_of_row _ _ _ _ _ HO.out
        have hx := (m.getD (k / 4) 0).toNat_lt
        obtain ⟨x, hxx⟩ : ∃ x, x = (m.getD (k / 4) 0).toNat := ⟨_, rfl⟩
        have hy : x / 4 ^ (3 - k % 4) = 4 * (x / 4 ^ (4 - k % 4)) + wd m k ∧ x / 4 ^ (4 - k % 4) < 64 := by
          unfold wd
          rw [← hxx] at hx ⊢
          have hr : k % 4 = 0 ∨ k % 4 = 1 ∨ k % 4 = 2 ∨ k % 4 = 3 := by omega
          rcases hr with hr | hr | hr | hr
          · rw [hr]; show x / 64 = 4 * (x / 256) + x / 64 % 4 ∧ x / 256 < 64; omega
          · rw [hr]; show x / 16 = 4 * (x / 64) + x / 16 % 4 ∧ x / 64 < 64; omega
          · rw [hr]; show x / 4 = 4 * (x / 16) + x / 4 % 4 ∧ x / 16 < 64; omega
          · rw [hr]; show x / 1 = 4 * (x / 4) + x / 1 % 4 ∧ x / 4 < 64; omega
        have hset := bk_set m k h64
        rw [← hxx] at c1 hset
        obtain ⟨y, hyy⟩ : ∃ y, y = x / 4 ^ (4 - k % 4) := ⟨_, rfl⟩
        rw [← hyy] at hy c1
        obtain ⟨d, hd⟩ : ∃ d, d = wdg m k := ⟨_, rfl⟩
        rw [← hwg, ← hd] at hy
        rw [← hd] at c0 hd3
        obtain ⟨hy1, hy2⟩ := hy
        have hor : bits BinOp.or IntKind.u8 ((y : Int) * 4) (d : Int) = ((4 * y + d : Nat) : Int) := by
          rw [show ((y : Int) * 4) = ((y * 4 : Nat) : Int) from by omega, shl_or2 ⟨y, hy2⟩ ⟨d, by omega⟩, Nat.mul_comm]
        have HY1 := Lib.hid hy1
        obtain ⟨q, hq⟩ : ∃ q, q = k / 4 := ⟨_, rfl⟩
        rw [← hq] at c1 f1 hset
        have hq4 : (k : Int) / 4 = (q : Int) := by omega
        have hq16 : (q : Int) < 16 := by omega
        have HSUM := Lib.hid (show wsum m (k + 1) = wsum m k + (3 - d) from by rw [hd, hwg]; rfl)
        obtain ⟨s, hs⟩ : ∃ s, s = wsum m k := ⟨_, rfl⟩
        rw [← hs] at HSUM hsl
        rw [hmin, ← hs]
        have HC := Lib.hid (show chk m k = 0 ∧ chk m (k + 1) = 0 from ⟨if_pos (by omega), if_pos (by omega)⟩)
        rw [HC.out.1]
        have HSET := Lib.hid hset
        have HM1 := Lib.hid hmin1
        clear hcell hset hxx hyy hd hwg hy1 hq hs hmin hmin1 hx
        go_wp2
        go_roundw
        case rel => exact ⟨k + 1, by omega, by simp, by rw [HM1.out, HSUM.out]; go_num, by rw [HC.out.2]; rfl, (heap_setCell_same _ _ _ _ _ _ HO.out).trans (by rw [HM1.out, HSET.out _ (by rw [HY1.out]; omega)]), hG.setCell (Nat.le_refl _) _⟩
        case measure => simp [intOf]; omega
      · have h64i : ¬ (k : Int) < 64 := by omega
        have hmin : min k 64 = 64 := by omega
        have hmin1 : min (k + 1) 64 = 64 := by omega
        rw [hmin] at HO ⊢
        have hcs := chk_succ m k (by omega) hlt
        have hcl := chk_le m k
        obtain ⟨d, hd⟩ : ∃ d, d = wdg m k := ⟨_, rfl⟩
        obtain ⟨c, hc⟩ : ∃ c, c = chk m k := ⟨_, rfl⟩
        obtain ⟨s, hs⟩ : ∃ s, s = wsum m 64 := ⟨_, rfl⟩
        rw [← hd] at c0 hd3 hcs
        rw [← hc] at hcs hcl ⊢
        rw [← hs]
        have HCS := Lib.hid hcs
        have HM1 := Lib.hid hmin1
        have HS := Lib.hid hs
        clear hcs hd hc hs hmin hmin1
        go_wp2
        go_roundw
        case rel => exact ⟨k + 1, by omega, by simp, by rw [HM1.out, HS.out], by rw [HCS.out]; go_num, by rw [HM1.out]; exact HO.out, hG⟩
        case measure => simp [intOf]; omega
    · obtain rfl : k = 68 := by omega
      have e1 : min 68 64 = 64 := rfl
      have e2 : chk m 68 = wsum m 64 := by simp [chk]
      rw [e1, bk_end m hm] at HO
      rw [e1, e2]
      obtain ⟨s, hs⟩ : ∃ s, s = wsum m 64 := ⟨_, rfl⟩
      rw [← hs]
      have hlr := Lib.hid (hL.below hBr)
      have HGr := Lib.hid (block_below HG1.out hG)
      have heq := fun W => run_eql16 W m m hm hm
      simp only [decide_true] at heq
      have hg := guard16
      have hss : (((s : Int)) == (s : Int)) = true := beq_self_eq_true _
      clear e1 e2 hs
      go_wp2_with (first
        | (go_at_call 9; go_must (refine (sanity_any _ hlr.out).mono ?_); rintro e w6 ⟨rfl, hB6⟩; have H6 := Lib.hid (block_below HO.out hB6); have HG6 := Lib.hid (block_below HGr.out hB6))
        | (refine wpList_wantedB rfl ?_; refine wpList_loadB rfl 23 (.tmp 4) rfl ud size32 H6.out hml rfl rfl ?_)
        | (refine wpList_wantedB rfl ?_; refine wpList_loadB rfl 23 (.tmp 1) rfl ud size32 HG6.out hml rfl rfl ?_))
      go_ret
      exact ⟨rfl, bt hBr hB6⟩
end Go.Proofs.YtpgakdioaebikaaDoor
