/- The reference of chapter 06: apply. -/
import Derived.Test.YtaecljahbmcneaaDoorRBoxA
import Derived.Deep.OwnRows
namespace Go.Proofs.YtaecljahbmcneaaDoor
open Go.RowKit Go.Shelf

theorem made_bytes (n : Nat) : madeCells #[Value.int .u8 0] n = (bv (List.replicate n 0)).toArray := by
  apply Array.ext'
  simp [madeCells, bv, B]
  apply List.ext_getElem
  · simp
  · intro i h1 h2
    simp [Nat.mod_one]
theorem run_make_bytes (n : Nat) (h : n ≤ 281474976710656) (W : World) : (Instr.makeSlice 48 (.int .i64 (n : Int)) (.int .i64 (n : Int))).run Tryd.prog W = .ok (.slice (some ⟨W.heap.size, 0, none⟩) n n) (W.alloc (.cells (bv (List.replicate n 0)).toArray 5)) := by
  rw [run_make_row' 48 5 (.int .u8 0) 1 Tryd.underlying48 info5 rfl .i64 .i64 n (by omega) (by omega) W, made_bytes]
theorem run_idx_str (W : World) (s : ByteArray) (j : Nat) (hj : j < s.data.toList.length) : (Instr.index 9 (.string s) (.int .i64 (j : Int))).run Tryd.prog W = .ok (.int .u8 ((s.data.toList[j]).toNat : Int)) W := by
  have h : (0 : Int) ≤ (j : Int) ∧ (j : Int) < (s.size : Int) := by rw [size_bytes] at hj; omega
  rw [run_index_string W 9 s .i64 (j : Int) Tryd.underlying9, dif_pos h]
  rfl
/-- The first j bytes are done, the rest is zero. -/
def mixz (x : List UInt8) (j : Nat) : List UInt8 := x.take j ++ List.replicate (x.length - j) 0
theorem mixz_cons (x : List UInt8) (j : Nat) (hj : j < x.length) : mixz x j = x.take j ++ 0 :: List.replicate (x.length - (j + 1)) 0 := by
  unfold mixz; rw [show x.length - j = (x.length - (j + 1)) + 1 from by omega]; rfl
theorem mixz_succ (x : List UInt8) (j : Nat) (hj : j < x.length) : mixz x (j + 1) = x.take j ++ x[j] :: List.replicate (x.length - (j + 1)) 0 := by
  unfold mixz; rw [List.take_succ_eq_append_getElem hj, List.append_assoc]; rfl
theorem mixz_end (x : List UInt8) : mixz x x.length = x := by unfold mixz; simp
theorem mixz_set (x : List UInt8) (j : Nat) (hj : j < x.length) (y : Int) (hy : ((x[j]).toNat : Int) = y) :
    (bv (mixz x j)).toArray.setIfInBounds j (.int .u8 y) = (bv (mixz x (j + 1))).toArray := by
  subst hy
  have e2 : (bv (x.take j)).length = j := by rw [bv_length, List.length_take]; omega
  rw [mixz_cons x j hj, mixz_succ x j hj]
  simp only [bv_append, List.setIfInBounds_toArray]
  rw [List.set_append_right _ _ (by omega), e2, Nat.sub_self]
  rfl
theorem mixz_at (x : List UInt8) (j : Nat) (hj : j < x.length) : (bv (mixz x j)).toArray[j]? = some (.int .u8 0) := by
  have e2 : (bv (x.take j)).length = j := by rw [bv_length, List.length_take]; omega
  rw [mixz_cons x j hj, bv_append, List.getElem?_toArray, List.getElem?_append_right (by omega), e2, Nat.sub_self]
  rfl
theorem mixz_length (x : List UInt8) (j : Nat) (hj : j ≤ x.length) : (mixz x j).length = x.length := by
  unfold mixz; rw [List.length_append, List.length_take, List.length_replicate]; omega

theorem rstream_nat (A : Option Addr) (m c : Nat) (key : List UInt8) (n : Nat) (w : World) (hr : Rd w A m key) (hm : m ≤ 1073741824) (hn : n ≤ 1073741824) :
    Calls Tryd.prog 64 #[.slice A m c, .int .i64 (n : Int)] w fun e w' => ∃ A1 c1, e = .returned (.slice A1 n c1) ∧ Rd w' A1 n (stream key n) ∧ Below w.heap.size w w' := by
  refine (rstream_any A m c key n w hr hm (by omega) (by omega)).mono ?_
  rintro e w1 ⟨A1, c1, rfl, h1, h2⟩
  rw [Int.toNat_natCast] at h1 ⊢
  exact ⟨A1, c1, rfl, h1, h2⟩

set_option maxHeartbeats 4000000 in
set_option maxRecDepth 100000 in
theorem rapply_any (key : List UInt8) (nonce : Int) (s : ByteArray) (w : World) (hk : key.length = 16) (h0 : -9223372036854775808 ≤ nonce) (h1 : nonce < 9223372036854775808) (hs : s.size ≤ 900000) :
    Calls Tryd.prog 50 #[.agg (bv key).toArray, .int .i64 nonce, .string s] w fun e w' => e = .returned (.string ⟨(crypt key nonce s.data.toList).toArray⟩) ∧ Below w.heap.size w w' := by
  have hel := encInt_le nonce
  have HK := Lib.hid hk
  go_enter Tryd.func50, Tryd.ntmps50
  go_upto_region 1 with (fail)
  obtain ⟨wd, hwd⟩ : ∃ x, x = w.alloc (.cells (bv key).toArray 34) := ⟨_, rfl⟩
  rw [← hwd]
  have hBd : Below w.heap.size w wd := by rw [hwd]; exact below_al _ _
  have hkd : Rd wd (some ⟨w.heap.size, 0, none⟩) 16 key := by rw [hwd]; exact rd_block (heap_alloc_new _ _) hk
  have hzd : wd.heap.size = w.heap.size + 1 := by rw [hwd]; simp
  clear hwd
  go_cut [7] from 7 (fun v W => ∃ kb, v = .pointer (some ⟨kb, 0, none⟩) ∧ W.heap[kb]? = some (.cells (bv (ekey key nonce)).toArray 34 (0, 0)) ∧ Below wd.heap.size wd W)
  case first =>
    have hBq : Below wd.heap.size wd wd.drew := Below.drew (Below.refl _ _)
    have kq := hkd.below hBq
    have hone := bv_one (derive key encL [encInt nonce])
    have hszd : (Tryd.prog.info? 34).map (·.size) = some (bv (derive key encL [encInt nonce])).length := by rw [bv_length, derive_len]; exact size32
    have HZ := Lib.hid hzd
    clear hzd
    go_region_held_law (fun _ => True) (trivial) (first
      | (go_at_call 45; go_must (refine (rint_any nonce _ h0 (by omega)).mono ?_); rintro e w3 ⟨A3, c3, rfl, hown3, hB3⟩;
         have hq3 : Below wd.drew.heap.size wd.drew w3 := (by first | exact hB3 | exact bt (below_al _ _) hB3);
         have r3 := kq.below hq3; have rp3 : Rd w3 A3 (encInt nonce).length (encInt nonce) := ⟨rfl, own_cells hown3⟩; have hs3 : wd.heap.size ≤ w3.heap.size := hq3.size;
         try (have hD3 : w3.heap[wd.heap.size]? = some (.cells Z16.toArray 34 (0, 0)) := block_below (heap_alloc_new wd.drew _) hB3))
      | (go_at_call 55; go_must (refine (rderive_any _ _ _ key ⟨encL.toArray⟩ _ _ _ [encInt nonce] _ (by first | exact rd_al r3 _ | exact rd_al (rd_al r3 _) _) (by first | exact rdL_one (cell_new0 _ _ _) (rd_al rp3 _) | exact rdL_one (cell_new_at _ _ _ _ (by simp)) (rd_al (rd_al rp3 _) _) | exact rdL_one (cell_kept (below_al _ _) (cell_new0 _ _ _)) (rd_al (rd_al rp3 _) _)) (by omega) (by decide) (by omega) (by intro p hp; simp at hp; subst hp; omega)).mono ?_); rintro e w5 ⟨rfl, hB5⟩;
         have hq5 : Below wd.drew.heap.size wd.drew w5 := (by first | exact bt hq3 (bt (below_al _ _) hB5) | exact bt hq3 (bt (below_al _ _) (bt (below_al _ _) hB5)));
         have hs5 : wd.heap.size ≤ w5.heap.size := hq5.size;
         (first
           | (have hD5 : w5.heap[wd.heap.size]? = some (.cells Z16.toArray 34 (0, 0)) := block_below (block_below hD3 (below_al _ _)) hB5; have ht5 := there16 hD5 (derive_len key encL [encInt nonce]))
           | (have hD5 : w5.heap[w3.heap.size]? = some (.cells Z16.toArray 34 (0, 0)) := block_below (block_below (heap_alloc_new w3 _) (below_al _ _)) hB5; have ht5 := there16 hD5 (derive_len key encL [encInt nonce]))
           | (have hD5 : w5.heap[w3.heap.size + 1]? = some (.cells Z16.toArray 34 (0, 0)) := block_below (heap_at _ _ _ (by simp)) hB5; have ht5 := there16 hD5 (derive_len key encL [encInt nonce]))
           | (have hD5 : (w5.alloc (.cells Z16.toArray 34)).heap[w5.heap.size]? = some (.cells Z16.toArray 34 (0, 0)) := heap_alloc_new _ _; have ht5 := there16 hD5 (derive_len key encL [encInt nonce])))))
    all_goals (go_wp2_with fail; go_meet)
    all_goals (exact put16 (by first | exact hq5 | exact bt hq5 (below_al _ _)) hD5 (derive_len key encL [encInt nonce]) (by omega))
  case rest =>
    obtain ⟨kb, rfl, hkb, hBc⟩ := hcut
    have kq := rd_block hkb (derive_len key encL [encInt nonce])
    have hsl := size_bytes s
    obtain ⟨n, hn⟩ : ∃ n, n = s.size := ⟨_, rfl⟩
    have hBw := bt hBd hBc
    rw [← hn] at hsl hs
    have hgo : (s.size : Int) = (n : Int) := by rw [hn]
    have hmk := run_make_bytes n (by omega)
    clear hn
    go_wp2_with (first
      | (go_at_call 64; go_must (refine (rstream_nat _ _ _ (ekey key nonce) n _ kq (by omega) (by omega)).mono ?_); rintro e w5 ⟨A5, c5, rfl, hst5, hB5⟩))
    obtain ⟨st, hst⟩ : ∃ x, x = stream (ekey key nonce) n := ⟨_, rfl⟩
    have hstl : st.length = s.data.toList.length := by rw [hst, stream_length, hsl]
    rw [← hst] at hst5
    obtain ⟨x, hx⟩ : ∃ x, x = cx s.data.toList st := ⟨_, rfl⟩
    have hxl : x.length = n := by rw [hx, cx_length hstl, hsl]
    have hfin : x = crypt key nonce s.data.toList := by rw [hx, hst]; unfold crypt; rw [hsl]
    have HFIN := Lib.hid hfin
    have HX := Lib.hid hx
    have HXL := Lib.hid hxl
    have HSTL := Lib.hid hstl
    have HSL := Lib.hid hsl
    have hBw5 := bt hBw hB5
    clear hst hstl hx hfin hmk hB5 hBw hBc kq hkb hsl hxl
    go_loopw [10] (fun i wr => ∃ j : Nat, j ≤ n ∧ i = .int .i64 j ∧ wr.heap[w5.heap.size]? = some (.cells (bv (mixz x j)).toArray 5 (0, 0)) ∧ Below w5.heap.size w5 wr)
      (fun i _ => n - (intOf i).toNat)
    case atStart => exact ⟨0, by omega, rfl, by rw [show mixz x 0 = List.replicate n 0 from by unfold mixz; rw [HXL.out]; simp]; exact heap_alloc_new _ _, below_al _ _⟩
    case round =>
      obtain ⟨j, hj, rfl, hcur, hG⟩ := hrel
      by_cases hlt : j < n
      · have hjs : j < s.data.toList.length := by rw [HSL.out]; exact hlt
        have hjt : j < st.length := by rw [HSTL.out]; exact hjs
        have hjx : j < x.length := by rw [HXL.out]; exact hlt
        obtain ⟨a, ha⟩ : ∃ a, a = s.data.toList[j] := ⟨_, rfl⟩
        obtain ⟨b, hb⟩ : ∃ b, b = st[j] := ⟨_, rfl⟩
        have hxj : x[j] = a ^^^ b := by rw [ha, hb]; simp only [HX.out, cx, List.getElem_zipWith]
        have hix := fun W => run_idx_str W s j hjs
        rw [← ha] at hix
        have c0 : wr.cell? ⟨w5.heap.size, j, none⟩ = some (.int .u8 0) := by rw [cell_of_row _ _ _ _ _ _ hcur]; exact mixz_at x j hjx
        have f0 : wr.frozen? ⟨w5.heap.size, j, none⟩ = false := frozen_of_row _ _ _ _ _ hcur
        obtain ⟨g5, o5, rfl, hc5⟩ := (hst5.below hG).at_ (by omega)
        have cb : wr.cell? ⟨g5, o5 + j, none⟩ = some (.int .u8 (b.toNat : Int)) := by rw [hb]; exact hc5 j hjt
        have hxx := xor_val a b (b.toNat : Int) rfl
        have hset := mixz_set x j hjx (((a ^^^ b).toNat : Nat) : Int) (by rw [hxj])
        have HXX := Lib.hid hxx
        have HSET := Lib.hid hset
        have HCUR := Lib.hid hcur
        have hji : (j : Int) < n := by omega
        clear hxx hset ha hb hc5 hcur hxj hjs hjt hjx
        go_wp2
        go_region
        go_wp2
        go_roundw
        case rel => exact ⟨j + 1, by omega, by simp, (heap_set_fr _ _ _ _ _ _ _ HCUR.out).trans (by rw [← HXX.out, HSET.out]), Below.drew (hG.setCell (Nat.le_refl _) _)⟩
        case measure => simp [intOf]; omega
      · obtain rfl : j = n := by omega
        have hend := mixz_end x
        rw [HXL.out] at hend
        rw [hend] at hcur
        have hr : Rd wr (some ⟨w5.heap.size, 0, none⟩) j x := rd_block hcur HXL.out
        clear hend hcur
        go_wp2_with (first
          | (refine wpList_str rfl _ 48 9 rfl Tryd.underlying48 Tryd.underlying5 Tryd.underlying9 hr rfl ?_))
        go_ret
        exact ⟨by rw [HFIN.out]; rfl, bt hBw5 hG⟩
end Go.Proofs.YtaecljahbmcneaaDoor
