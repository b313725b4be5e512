/- Package wots: advance, start. -/
import Derived.Test.YtpgakdioaebikaaDoorWotsP
import Derived.Test.YtpgakdioaebikaaDoorFlat
import Derived.Test.YtpgakdioaebikaaDoorEq
import Derived.Deep.CutBlock
namespace Go.Proofs.YtpgakdioaebikaaDoor
open Go.RowKit Go.Shelf

theorem below_al (w : World) (o : Obj) : Below w.heap.size w (w.alloc o) := (Below.refl _ w).alloc (Nat.le_refl _) _
theorem bt {w0 w1 w2 : World} (h : Below w0.heap.size w0 w1) (h2 : Below w1.heap.size w1 w2) : Below w0.heap.size w0 w2 := h.trans (h2.mono h.size)
def Z16 : List Value := List.replicate 16 (.int .u8 0)
theorem there16 {W : World} {g : Nat} {cs : List UInt8} (h : W.heap[g]? = some (.cells Z16.toArray 23 (0, 0))) (hl : cs.length = 16) : W.there g 0 (bv cs).length := by rw [bv_length, hl]; exact there_row h
theorem thereB {W : World} {g : Nat} {xs cs : List UInt8} (h : W.heap[g]? = some (.cells (bv xs).toArray 23 (0, 0))) (hx : xs.length = 16) (hl : cs.length = 16) : W.there g 0 (bv cs).length := by rw [bv_length, hl, ← hx, ← bv_length xs]; exact there_row h
theorem rd_al {w : World} {A : Option Addr} {n : Nat} {xs : List UInt8} (h : Rd w A n xs) (o : Obj) : Rd (w.alloc o) A n xs := h.below (below_al _ _)
theorem rd_own {w : World} {A : Option Addr} {c base : Nat} {xs : List UInt8} (h : w.ownsRow base 5 1 (.slice A xs.length c) xs.length (bv xs)) : Rd w A xs.length xs := ⟨rfl, own_cells h⟩
theorem rdL_row {W : World} {g n : Nat} {vs : List Value} {t : TypeId} {fr : Nat × Nat} {ps : List (List UInt8)} (h : W.heap[g]? = some (.cells vs.toArray t fr)) (hn : ps.length = n) (hv : vs.length = n) (hall : ∀ k (hk : k < ps.length), ∃ A m c, vs[k]? = some (.slice A m c) ∧ Rd W A m ps[k]) : RdL W (some ⟨g, 0, none⟩) n ps :=
  ⟨hn, vs, hv, cells_of_block (pad := []) (by simpa using h), hall⟩
theorem rdL_one {W : World} {A : Option Addr} {n c : Nat} {t : TypeId} {p : List UInt8} (h : Rd W A n p) : RdL (W.alloc (.cells #[.slice A n c] t)) (some ⟨W.heap.size, 0, none⟩) 1 [p] :=
  rdL_row (vs := [.slice A n c]) (heap_alloc_new _ _) rfl rfl (fun k hk => by
    match k, hk with
    | 0, _ => exact ⟨A, n, c, rfl, rd_al h _⟩)
theorem rdL_two {W : World} {A A2 : Option Addr} {n c n2 c2 : Nat} {t : TypeId} {p p2 : List UInt8} (h : Rd W A n p) (h2 : Rd W A2 n2 p2) : RdL (W.alloc (.cells #[.slice A n c, .slice A2 n2 c2] t)) (some ⟨W.heap.size, 0, none⟩) 2 [p, p2] :=
  rdL_row (vs := [.slice A n c, .slice A2 n2 c2]) (heap_alloc_new _ _) rfl rfl (fun k hk => by
    match k, hk with
    | 0, _ => exact ⟨A, n, c, rfl, rd_al h _⟩
    | 1, _ => exact ⟨A2, n2, c2, rfl, rd_al h2 _⟩)

theorem cell_row {w : World} {g i : Nat} {cs : List Value} {t : TypeId} {fr : Nat × Nat} {v : Value} (h : w.heap[g]? = some (.cells cs.toArray t fr)) (hv : cs[i]? = some v) : w.cell? ⟨g, i, none⟩ = some v := by rw [cell_of_row _ _ _ _ _ _ h, List.getElem?_toArray, hv]
theorem range_kept {w w1 : World} {g o : Nat} {cs : List Value} (h : w.rangeAt g o cs) (hb : Below w.heap.size w w1) : w1.rangeAt g o cs := fun i v hv => cell_kept hb (h i v hv)
theorem range_grown {w w1 : World} {g o : Nat} {cs : List Value} {row : Option Nat} (h : w.rangeAt g o cs) (hg : w.grownBy w1 row) (hne : some g ≠ row) : w1.rangeAt g o cs := fun i v hv => hg.cell (h i v hv) hne

set_option maxHeartbeats 2000000 in
set_option maxRecDepth 100000 in
theorem advance_any (k : Nat) (v : List UInt8) (n : Nat) (w : World) (hk : k ≤ 1000) (hv : v.length = 16) (hn : n ≤ 1000) (hL : Laid w) :
    Calls Tryd.prog 24 #[.int .i64 (k : Int), .agg (bv v).toArray, .int .i64 (n : Int)] w fun e w' => e = .returned (.agg (bv (wadv k v n)).toArray) ∧ Below w.heap.size w w' := by
  have hB0 : Below w.heap.size w ((w.alloc (.cells (bv v).toArray 23)).alloc (.cells Z16.toArray 23)) := bt (below_al _ _) (below_al _ _)
  have HV0 : Hid (((w.alloc (.cells (bv v).toArray 23)).alloc (.cells Z16.toArray 23)).heap[w.heap.size]? = some (.cells (bv v).toArray 23 (0, 0))) := (heap_alloc_old _ _ (by simp)).trans (heap_alloc_new _ _)
  have HS0 : Hid (((w.alloc (.cells (bv v).toArray 23)).alloc (.cells Z16.toArray 23)).heap[w.heap.size + 1]? = some (.cells Z16.toArray 23 (0, 0))) := heap_at _ _ _ (by simp)
  go_enter Tryd.func24, Tryd.ntmps24
  go_wp2
  go_loopw [8] (fun i wr => ∃ j : Nat, j ≤ n ∧ i = .int .i64 j ∧ wr.heap[w.heap.size]? = some (.cells (bv (wadv k v j)).toArray 23 (0, 0)) ∧ wr.heap[w.heap.size + 1]? = some (.cells Z16.toArray 23 (0, 0)) ∧ Below w.heap.size w wr)
    (fun i _ => n - (intOf i).toNat)
  case atStart => exact ⟨0, by omega, rfl, HV0.out, HS0.out, hB0⟩
  case round =>
    obtain ⟨j, hj, rfl, hV, hS, hB⟩ := hrel
    clear HV0 HS0 hB0
    have HV := Lib.hid hV
    have HS := Lib.hid hS
    have hul := wadv_length k v j hv
    have hz : w.heap.size + 1 < wr.heap.size := (Array.getElem?_eq_some_iff.1 hS).1
    clear hV hS
    by_cases hlt : j < n
    · have hji : (j : Int) < (n : Int) := by omega
      have hrec : wadv k v (j + 1) = digest 3 [encInt k, wadv k v j] := rfl
      have HREC := Lib.hid hrec
      obtain ⟨u, hu⟩ : ∃ u, u = wadv k v j := ⟨_, rfl⟩
      rw [← hu] at HV hul HREC
      clear hu hrec
      have hel := encInt_le (k : Int)
      have hBq : Below wr.heap.size wr wr.drew := Below.drew (Below.refl _ _)
      have rv := (rd_block HV.out hul).below hBq
      have ld := Lib.hid ((hL.below hB).below hBq)
      have hone := bv_one (digest 3 [encInt k, u])
      have hdl := digest_length 3 [encInt k, u]
      have hszd : (Tryd.prog.info? 23).map (·.size) = some (bv (digest 3 [encInt k, u])).length := by rw [bv_length, hdl]; exact size32
      go_upto_block 1 with (fail)
      go_cut [] from 10 to 14 (fun W => W.heap[w.heap.size]? = some (.cells (bv (digest 3 [encInt k, u])).toArray 23 (0, 0)) ∧ wr.grownBy W (some w.heap.size))
      case first =>
        go_upto_region 3 with (fail)
        go_region_held_law (fun _ => True) (trivial) (first
          | (go_at_call 31; go_must (refine (int_any (k : Int) _ (by omega) (by omega)).mono ?_); rintro e w3 ⟨A3, c3, rfl, hown3, hB3⟩; have rI := rd_own hown3; have rv3 := rv.below hB3; have ld3 := Lib.hid (ld.out.below hB3))
          | (go_at_call 20; go_must (refine (digest_any 3 _ _ _ [encInt k, u] _ (rdL_two rI rv3) (by omega) (by intro p hp; simp at hp; rcases hp with rfl | rfl <;> omega) (ld3.out.below (below_al _ _))).mono ?_); rintro e w4 ⟨rfl, hB4⟩;
             have hB34 := bt hB3 (bt (below_al _ _) hB4); have HV4 := Lib.hid (block_below (block_below HV.out hBq) hB34); have hth := thereB HV4.out hul hdl))
        go_wp2_with fail
        go_meet
        obtain ⟨h9, hg9⟩ := setCells_row w4 w.heap.size 23 (bv u) (bv (digest 3 [encInt k, u])) HV4.out hone (by rw [bv_length, bv_length, hul, hdl])
        exact ⟨h9, World.grownBy.trans (grown_below (bt hBq hB34) _) hg9⟩
      case rest =>
        obtain ⟨h9, hg9⟩ := hcut
        clear rv ld hone hdl hszd hBq
        go_wp2
        go_roundw
        case rel => exact ⟨j + 1, by omega, by simp, by rw [HREC.out]; exact h9, block_kept HS.out hg9 (by simp), hB.grown hg9 (by omega) (fun q e => by cases e; omega)⟩
        case measure => simp [intOf]; omega
    · obtain rfl : j = n := by omega
      have hbl : (bv (wadv k v j)).length = 16 := by rw [bv_length, hul]
      obtain ⟨u, hu⟩ : ∃ u, u = wadv k v j := ⟨_, rfl⟩
      rw [← hu] at HV hbl
      have HU := Lib.hid hu
      clear hu
      go_wp2_with (first
        | (refine wpList_loadB rfl 23 (.tmp 4) rfl Tryd.underlying23 size32 HV.out hbl rfl rfl ?_)
        | (refine wpList_storeB rfl 23 (.tmp 6) (.tmp 16) rfl size32 HS.out (bv_one u) hbl (by rfl) rfl rfl ?_; intro w5 h5 hg5 hz5; clear hz5))
      refine ret_agg rfl Tryd.underlying23 size32 rfl h5 hbl rfl rfl ?_
      exact ⟨by rw [HU.out], hB.grown hg5 (by omega) (fun q e => by cases e; omega)⟩

set_option maxHeartbeats 2000000 in
set_option maxRecDepth 100000 in
theorem start_any (seed : List UInt8) (index : Int) (k : Nat) (w : World) (hs : seed.length = 16) (h0 : -9223372036854775808 ≤ index) (h1 : index < 9223372036854775808) (hk : k ≤ 1000) (hL : Laid w) :
    Calls Tryd.prog 29 #[.agg (bv seed).toArray, .int .i64 index, .int .i64 (k : Int)] w fun e w' => e = .returned (.agg (bv (wstart seed index k)).toArray) ∧ Below w.heap.size w w' := by
  have hB0 : Below w.heap.size w ((w.alloc (.cells (bv seed).toArray 23)).alloc (.cells Z16.toArray 23)) := bt (below_al _ _) (below_al _ _)
  have HV0 : Hid (((w.alloc (.cells (bv seed).toArray 23)).alloc (.cells Z16.toArray 23)).heap[w.heap.size]? = some (.cells (bv seed).toArray 23 (0, 0))) := (heap_alloc_old _ _ (by simp)).trans (heap_alloc_new _ _)
  have HS0 : Hid (((w.alloc (.cells (bv seed).toArray 23)).alloc (.cells Z16.toArray 23)).heap[w.heap.size + 1]? = some (.cells Z16.toArray 23 (0, 0))) := heap_at _ _ _ (by simp)
  have hel := encInt_le (k : Int)
  have hel2 := encInt_le index
  have hone := bv_one (derive seed wotsL [encInt index, encInt k])
  have hdl : (derive seed wotsL [encInt index, encInt k]).length = 16 := mac_length _ _
  have hszd : (Tryd.prog.info? 23).map (·.size) = some (bv (derive seed wotsL [encInt index, encInt k])).length := by rw [bv_length, hdl]; exact size32
  go_enter Tryd.func29, Tryd.ntmps29
  go_upto_region 1 with (fail)
  obtain ⟨wd, hwd⟩ : ∃ x, x = ((w.alloc (.cells (bv seed).toArray 23)).alloc (.cells Z16.toArray 23)) := ⟨_, rfl⟩
  change Code.wp _ _ _ _ ((w.alloc (.cells (bv seed).toArray 23)).alloc (.cells Z16.toArray 23))
  rw [← hwd] at hB0 HV0 HS0 ⊢
  have hzd : wd.heap.size = w.heap.size + 2 := by rw [hwd]; simp
  clear hwd
  have hBq : Below wd.heap.size wd wd.drew := Below.drew (Below.refl _ _)
  have rv := (rd_block HV0.out hs).below hBq
  have ld := Lib.hid ((hL.below hB0).below hBq)
  have HZ := Lib.hid hzd
  clear hzd
  have tok1 : True := trivial
  go_region_held_law (fun _ => True) (trivial) (first
    | (go_at_call 31; have _t := tok1; go_must (refine (int_any index _ h0 (by omega)).mono ?_); rintro e w3 ⟨A3, c3, rfl, hown3, hB3⟩; have rI := rd_own hown3; have rv3 := rv.below hB3; have ld3 := Lib.hid (ld.out.below hB3); clear tok1)
    | (go_at_call 31; refine (int_any (k : Int) _ (by omega) (by omega)).mono ?_; rintro e w4 ⟨A4, c4, rfl, hown4, hB4⟩; have rI4 := rI.below hB4; have rK := rd_own hown4; have rv4 := rv3.below hB4; have ld4 := Lib.hid (ld3.out.below hB4))
    | (go_at_call 39; go_must (refine (derive_any _ _ _ seed ⟨wotsL.toArray⟩ _ _ _ [encInt index, encInt k] _ (rd_al rv4 _) (rdL_two rI4 rK) (by omega) (by decide) (by omega) (by intro p hp; simp at hp; rcases hp with rfl | rfl <;> omega) (ld4.out.below (below_al _ _))).mono ?_); rintro e w5 ⟨rfl, hB5⟩;
       have hq5 := bt hBq (bt (bt hB3 hB4) (bt (below_al _ _) hB5)); have HS5 := Lib.hid (block_below HS0.out hq5); have hth := there16 HS5.out hdl))
  obtain ⟨h9, hg9⟩ := setCells_row w5 (w.heap.size + 1) 23 Z16 (bv (derive seed wotsL [encInt index, encInt k])) HS5.out hone (by rw [bv_length, hdl]; rfl)
  generalize w5.setCells (w.heap.size + 1) 0 (bv (derive seed wotsL [encInt index, encInt k])) = w9 at h9 hg9 ⊢
  go_wp2
  refine ret_agg rfl Tryd.underlying23 size32 rfl h9 (by rw [bv_length, hdl]) rfl rfl ?_
  exact ⟨rfl, (bt hB0 hq5).grown hg9 (bt hB0 hq5).size (fun q e => by cases e; omega)⟩
end Go.Proofs.YtpgakdioaebikaaDoor
