/- Package box: apply, its first part. -/
import Derived.Test.YtaecljahbmcneaaDoorBoxA
import Derived.Defers
import Derived.Deep.RegionHeld3
import Derived.Test.YtaecljahbmcneaaDoorRefE
namespace Go.Proofs.YtaecljahbmcneaaDoor
open Go.RowKit Go.Shelf

def ekey (key : List UInt8) (nonce : Int) : List UInt8 := derive key encL [encInt nonce]
def cx (s st : List UInt8) : List UInt8 := List.zipWith (· ^^^ ·) s st
def crypt (key : List UInt8) (nonce : Int) (s : List UInt8) : List UInt8 := cx s (stream (ekey key nonce) s.length)

theorem back_any (sv rc : Nat) (A : Option Addr) (n c : Nat) (xs : List UInt8) (s0 : ByteArray) (t : TypeId) (u : FrameMode) (w : World) (hc : w.cell? ⟨sv, 0, none⟩ = some (.slice A n c)) (hr : Rd w A n xs) (h0 : w.heap[rc]? = some (.cells #[.string s0] t (0, 0))) :
    CallsD Tryd.prog 61 #[.pointer (some ⟨sv, 0, none⟩), .pointer (some ⟨rc, 0, none⟩)] u w fun e u' w' => u' = u ∧ (e = .returned (.tuple #[]) ∧ w' = w.setCell ⟨rc, 0, none⟩ (.string ⟨xs.toArray⟩)) := by
  have hcr := cell_of_row _ _ 0 _ _ _ h0
  have hfr := frozen_of_row _ _ 0 _ _ h0
  simp only [List.getElem?_toArray, List.getElem?_cons_zero] at hcr
  go_enter_d Tryd.func61, Tryd.ntmps61
  go_wp2_with (first
    | (refine wpList_str rfl _ 48 9 rfl Tryd.underlying48 Tryd.underlying5 Tryd.underlying9 hr rfl ?_))
  go_end0
  first | exact ⟨rfl, rfl⟩ | exact rfl

theorem rd_al {w : World} {A : Option Addr} {n : Nat} {xs : List UInt8} (h : Rd w A n xs) (o : Obj) : Rd (w.alloc o) A n xs := h.below ((Below.refl _ w).alloc (Nat.le_refl _) _)
theorem below_al (w : World) (o : Obj) : Below w.heap.size w (w.alloc o) := (Below.refl _ w).alloc (Nat.le_refl _) _
theorem bt {w0 w1 w2 : World} (h : Below w0.heap.size w0 w1) (h2 : Below w1.heap.size w1 w2) : Below w0.heap.size w0 w2 := h.trans (h2.mono h.size)
def Z16 : List Value := List.replicate 16 (.int .u8 0)
theorem cell_new_at (w : World) (v : Value) (t : TypeId) (n : Nat) (h : n = w.heap.size) : (w.alloc (.cells #[v] t)).cell? ⟨n, 0, none⟩ = some v := by subst h; exact cell_new0 w v t
theorem there16 {W : World} {g : Nat} {cs : List UInt8} (h : W.heap[g]? = some (.cells Z16.toArray 34 (0, 0))) (hl : cs.length = 16) : W.there g 0 (bv cs).length := by rw [bv_length, hl]; exact there_row h
theorem put16 {wd W : World} {kb : Nat} {cs : List UInt8} (hq : Below wd.drew.heap.size wd.drew W) (hz : W.heap[kb]? = some (.cells Z16.toArray 34 (0, 0))) (hl : cs.length = 16) (hkb : wd.heap.size ≤ kb) :
    ∃ kb', Value.pointer (some ⟨kb, 0, none⟩) = .pointer (some ⟨kb', 0, none⟩) ∧ (W.setCells kb 0 (bv cs)).heap[kb']? = some (.cells (bv cs).toArray 34 (0, 0)) ∧ Below wd.heap.size wd (W.setCells kb 0 (bv cs)) := by
  obtain ⟨h1, h2⟩ := setCells_row W kb 34 Z16 (bv cs) hz (bv_one cs) (by rw [bv_length, hl]; rfl)
  refine ⟨kb, rfl, h1, ?_⟩
  have hd : Below wd.heap.size wd W := bt (Below.drew (Below.refl _ _)) hq
  exact hd.grown h2 hd.size (fun k e => by cases e; exact hkb)
theorem rdL_one {W : World} {g n c : Nat} {A : Option Addr} {p : List UInt8} (h : W.cell? ⟨g, 0, none⟩ = some (.slice A n c)) (hr : Rd W A n p) : RdL W (some ⟨g, 0, none⟩) 1 [p] :=
  ⟨rfl, [.slice A n c], rfl, fun _ => ⟨g, 0, rfl, fun j u hu => by
    have hj := (List.getElem?_eq_some_iff.1 hu).1
    obtain rfl : j = 0 := by simpa using hj
    simp at hu
    subst hu
    exact h⟩, fun k hk => by
    obtain rfl : k = 0 := by simpa using hk
    exact ⟨A, n, c, rfl, hr⟩⟩

theorem heap_set_fr (w : World) (g i : Nat) (cs : Array Value) (t : TypeId) (fr : Nat × Nat) (v : Value) (hg : w.heap[g]? = some (.cells cs t fr)) : (w.setCell ⟨g, i, none⟩ v).heap[g]? = some (.cells (cs.setIfInBounds i v) t fr) := by
  simp only [World.setCell, Array.getElem?_modify]
  simp [hg]
theorem frozen_fr (w : World) (g j lo hi : Nat) (cs : Array Value) (t : TypeId) (hg : w.heap[g]? = some (.cells cs t (lo, hi))) (h : j < lo) : w.frozen? ⟨g, j, none⟩ = false := by
  simp [World.frozen?, hg]
  omega
theorem grown_set (w : World) (g i : Nat) (v : Value) : w.grownBy (w.setCell ⟨g, i, none⟩ v) (some g) := ⟨rfl, rfl, rfl, by simp, fun k _ hk => heap_setCell_other _ _ _ _ (fun e => hk (by rw [e]))⟩
def mix (s st : List UInt8) (j : Nat) : List UInt8 := (cx s st).take j ++ s.drop j
theorem cx_length {s st : List UInt8} (h : st.length = s.length) : (cx s st).length = s.length := by unfold cx; simp [h]
theorem mix_cons {s st : List UInt8} (_h : st.length = s.length) (j : Nat) (hj : j < s.length) : mix s st j = (cx s st).take j ++ s[j] :: s.drop (j + 1) := by
  unfold mix; rw [List.drop_eq_getElem_cons hj]
theorem mix_succ {s st : List UInt8} (h : st.length = s.length) (j : Nat) (hj : j < s.length) : mix s st (j + 1) = (cx s st).take j ++ (s[j] ^^^ st[j]) :: s.drop (j + 1) := by
  have hc : j < (cx s st).length := by rw [cx_length h]; exact hj
  unfold mix; rw [List.take_succ_eq_append_getElem hc, List.append_assoc]
  simp [cx]
theorem mix_end {s st : List UInt8} (h : st.length = s.length) : mix s st s.length = cx s st := by
  unfold mix; rw [List.drop_length, List.append_nil, List.take_of_length_le (by rw [cx_length h]; exact Nat.le_refl _)]
theorem mix_at {s st : List UInt8} (h : st.length = s.length) (j : Nat) (hj : j < s.length) (pad : List Value) : (bv (mix s st j) ++ pad).toArray[j]? = some (.int .u8 (s[j].toNat : Int)) := by
  have e2 : (bv ((cx s st).take j)).length = j := by rw [bv_length, List.length_take, cx_length h]; omega
  rw [mix_cons h j hj, bv_append, List.append_assoc, List.getElem?_toArray, List.getElem?_append_right (by omega), e2, Nat.sub_self]
  rfl
theorem mix_set {s st : List UInt8} (h : st.length = s.length) (j : Nat) (hj : j < s.length) (pad : List Value) (y : Int) (hy : ((s[j] ^^^ st[j]).toNat : Int) = y) :
    (bv (mix s st j) ++ pad).toArray.setIfInBounds j (.int .u8 y) = (bv (mix s st (j + 1)) ++ pad).toArray := by
  subst hy
  have e2 : (bv ((cx s st).take j)).length = j := by rw [bv_length, List.length_take, cx_length h]; omega
  rw [mix_cons h j hj, mix_succ h j hj]
  simp only [bv_append, List.append_assoc, List.setIfInBounds_toArray]
  rw [List.set_append_right _ _ (by omega), e2, Nat.sub_self]
  rfl
theorem mix_length {s st : List UInt8} (h : st.length = s.length) (j : Nat) (hj : j ≤ s.length) : (mix s st j).length = s.length := by
  unfold mix; rw [List.length_append, List.length_take, List.length_drop, cx_length h]; omega

theorem stream_nat (A : Option Addr) (m c : Nat) (key : List UInt8) (n : Nat) (w : World) (hr : Rd w A m key) (hm : m ≤ 1073741824) (hn : n ≤ 1073741824) (hL : Laid w) :
    Calls Tryd.prog 62 #[.slice A m c, .int .i64 (n : Int)] w fun e w' => ∃ A1 c1, e = .returned (.slice A1 n c1) ∧ w'.ownsRow w.heap.size 5 1 (.slice A1 n c1) n (bv (stream key n)) ∧ Below w.heap.size w w' := by
  refine (stream_any A m c key n w hr hm (by omega) hL).mono ?_
  rintro e w1 ⟨A1, c1, rfl, h1, h2⟩
  rw [Int.toNat_natCast, stream_length] at h1 ⊢
  exact ⟨A1, c1, rfl, h1, h2⟩

set_option maxHeartbeats 4000000 in
set_option maxRecDepth 100000 in
theorem apply_any (key : List UInt8) (nonce : Int) (s : ByteArray) (w : World) (hk : key.length = 16) (h0 : -9223372036854775808 ≤ nonce) (h1 : nonce < 9223372036854775808) (hs : s.size ≤ 900000) (hL : Laid w) :
    Calls Tryd.prog 48 #[.agg (bv key).toArray, .int .i64 nonce, .string s] w fun e w' => e = .returned (.string ⟨(crypt key nonce s.data.toList).toArray⟩) ∧ Below w.heap.size w w' := by
  have hmf : ∀ (fn : Fn) (first cap : Array Value) (w : World), (Instr.makeFunc fn first cap).run Tryd.prog w = .ok (.func fn first cap) w := fun _ _ _ _ => rfl
  have hel := encInt_le nonce
  have HK := Lib.hid hk
  go_enter_defers Tryd.func48, Tryd.ntmps48
  go_wp2_with (first
    | (refine wpList_tobytes rfl _ 9 48 rfl Tryd.underlying9 Tryd.underlying48 Tryd.underlying5 s rfl ?_; intro c k pad w1 hB1 hz1 hs1 hk1 hc1))
  have hwz : w1.heap.size = w.heap.size + 3 := by rw [hz1]; simp
  have hB0 : Below w.heap.size w ((w.alloc (.cells (bv key).toArray 34)).alloc (.cells #[.string ⟨#[]⟩] 9)) := ((Below.refl _ w).alloc (Nat.le_refl _) _).alloc (by simp) _
  obtain ⟨wd, hwd⟩ : ∃ x, x = w1.alloc (.cells #[Value.slice (some { block := w.heap.size + 1 + 1, off := 0 }) s.size c] 48) := ⟨_, rfl⟩
  have hB1' : Below ((w.alloc (.cells (bv key).toArray 34)).alloc (.cells #[.string ⟨#[]⟩] 9)).heap.size ((w.alloc (.cells (bv key).toArray 34)).alloc (.cells #[.string ⟨#[]⟩] 9)) wd := by rw [hwd]; exact hB1.trans (((Below.refl _ w1).alloc (Nat.le_refl _) _).mono (by rw [hz1]; simp))
  have hBd := hB0.trans (hB1'.mono hB0.size)
  have hkd : Rd wd (some ⟨w.heap.size, 0, none⟩) 16 key := (rd_block ((heap_alloc_old _ _ (by simp)).trans (heap_alloc_new _ _)) hk : Rd ((w.alloc (.cells (bv key).toArray 34)).alloc (.cells #[.string ⟨#[]⟩] 9)) (some ⟨w.heap.size, 0, none⟩) 16 key).below hB1'
  have hrc : wd.heap[w.heap.size + 1]? = some (.cells #[.string ⟨#[]⟩] 9 (0, 0)) := block_below (heap_at _ _ _ (by simp)) hB1'
  have hsv : wd.heap[w.heap.size + 3]? = some (.cells #[Value.slice (some { block := w.heap.size + 2, off := 0 }) s.size c] 48 (0, 0)) := by rw [hwd]; exact heap_at _ _ _ hwz.symm
  have hsb : wd.heap[w.heap.size + 2]? = some (.cells (bv s.data.toList ++ pad).toArray 5 (k, k + 1)) := by rw [hwd]; exact (heap_alloc_old _ _ (by rw [hwz]; omega)).trans (by simpa using hs1)
  have hzd : wd.heap.size = w.heap.size + 4 := by rw [hwd]; simp [hwz]
  rw [← hwd]
  clear hwd hB1 hs1 hz1 hwz hB1' hB0
  go_cut [8] from 8 (fun v W => ∃ kb, v = .pointer (some ⟨kb, 0, none⟩) ∧ W.heap[kb]? = some (.cells (bv (ekey key nonce)).toArray 34 (0, 0)) ∧ Below wd.heap.size wd W)
  case first =>
    have hBq : Below wd.heap.size wd wd.drew := Below.drew (Below.refl _ _)
    have kq := hkd.below hBq
    have lq := Lib.hid ((hL.below hBd).below hBq)
    have hone := bv_one (derive key encL [encInt nonce])
    have hszd : (Tryd.prog.info? 34).map (·.size) = some (bv (derive key encL [encInt nonce])).length := by rw [bv_length, derive_len]; exact size32
    have HZ := Lib.hid hzd
    clear hzd
    refine wp_region_noPanic ?_
    go_region_held_law (fun _ => True) (trivial) (first
      | (go_at_call 28; go_must (refine (int_any nonce _ h0 (by omega)).mono ?_); rintro e w3 ⟨A3, c3, rfl, hown3, hB3⟩;
         have hq3 : Below wd.drew.heap.size wd.drew w3 := (by first | exact hB3 | exact bt (below_al _ _) hB3);
         have r3 := kq.below hq3; have l3 := Lib.hid (lq.out.below hq3); have rp3 : Rd w3 A3 (encInt nonce).length (encInt nonce) := ⟨rfl, own_cells hown3⟩; have hs3 : wd.heap.size ≤ w3.heap.size := hq3.size;
         try (have hD3 : w3.heap[wd.heap.size]? = some (.cells Z16.toArray 34 (0, 0)) := block_below (heap_alloc_new wd.drew _) hB3))
      | (go_at_call 26; go_must (refine (derive_any _ _ _ key ⟨encL.toArray⟩ _ _ _ [encInt nonce] _ (by first | exact rd_al r3 _ | exact rd_al (rd_al r3 _) _) (by first | exact rdL_one (cell_new0 _ _ _) (rd_al rp3 _) | exact rdL_one (cell_new_at _ _ _ _ (by simp)) (rd_al (rd_al rp3 _) _) | exact rdL_one (cell_kept (below_al _ _) (cell_new0 _ _ _)) (rd_al (rd_al rp3 _) _)) (by omega) (by decide) (by omega) (by intro p hp; simp at hp; subst hp; omega) (by first | exact l3.out.below (below_al _ _) | exact l3.out.below (bt (below_al _ _) (below_al _ _)))).mono ?_); rintro e w5 ⟨rfl, hB5⟩;
         have hq5 : Below wd.drew.heap.size wd.drew w5 := (by first | exact bt hq3 (bt (below_al _ _) hB5) | exact bt hq3 (bt (below_al _ _) (bt (below_al _ _) hB5)));
         have hs5 : wd.heap.size ≤ w5.heap.size := hq5.size;
         (first
           | (have hD5 : w5.heap[wd.heap.size]? = some (.cells Z16.toArray 34 (0, 0)) := block_below (block_below hD3 (below_al _ _)) hB5; have ht5 := there16 hD5 (derive_len key encL [encInt nonce]))
           | (have hD5 : w5.heap[w3.heap.size]? = some (.cells Z16.toArray 34 (0, 0)) := block_below (block_below (heap_alloc_new w3 _) (below_al _ _)) hB5; have ht5 := there16 hD5 (derive_len key encL [encInt nonce]))
           | (have hD5 : w5.heap[w3.heap.size + 1]? = some (.cells Z16.toArray 34 (0, 0)) := block_below (heap_at _ _ _ (by simp)) hB5; have ht5 := there16 hD5 (derive_len key encL [encInt nonce]))
           | (have hD5 : (w5.alloc (.cells Z16.toArray 34)).heap[w5.heap.size]? = some (.cells Z16.toArray 34 (0, 0)) := heap_alloc_new _ _; have ht5 := there16 hD5 (derive_len key encL [encInt nonce])))))
    all_goals (refine NoPanic.normal ?_; go_wp2_with fail; go_meet)
    all_goals (exact put16 (by first | exact hq5 | exact bt hq5 (below_al _ _)) hD5 (derive_len key encL [encInt nonce]) (by omega))
  case rest =>
    obtain ⟨kb, rfl, hkb, hBc⟩ := hcut
    have hBq : Below wc.heap.size wc wc.drew := Below.drew (Below.refl _ _)
    have kq := rd_block (block_below hkb hBq) (derive_len key encL [encInt nonce])
    have hsl := size_bytes s
    obtain ⟨n, hn⟩ : ∃ n, n = s.size := ⟨_, rfl⟩
    rw [← hn] at hsl hs hc1 hsv
    have hsvc := block_below hsv hBc
    have csv : wc.drew.cell? ⟨w.heap.size + 1 + 1 + 1, 0, none⟩ = _ := cell_of_row0 (block_below hsvc hBq)
    have HZ := Lib.hid hzd
    have HN := Lib.hid hn
    have lq := Lib.hid (((hL.below hBd).below hBc).below hBq)
    clear hzd hn
    go_upto_region 4 with (fail)
    refine wp_region_noPanic ?_
    go_region_held_law (fun W => W.cell? ⟨w.heap.size + 1 + 1 + 1, 0, none⟩ = some (.slice (some ⟨w.heap.size + 2, 0, none⟩) n c)) (first | exact csv | exact csv5) (first
      | (go_at_call 62; go_must (refine (stream_nat _ _ _ (ekey key nonce) n _ kq (by omega) (by omega) lq.out).mono ?_); rintro e w5 ⟨A5, c5, rfl, hown5, hB5⟩; have csv5 := cell_kept hB5 csv))
    refine NoPanic.normal ?_
    have hz5 : w.heap.size + 4 ≤ w5.heap.size := by have := hB5.size; have := hBc.size; have := HZ.out; simp at *; omega
    have hB5' : Below wd.heap.size wd w5 := bt hBc (bt hBq hB5)
    have hsb5 := Lib.hid (block_below hsb hB5')
    have hrc5 := Lib.hid (block_below hrc hB5')
    have hsv5 := Lib.hid (block_below hsv hB5')
    have hBw5 := bt hBd hB5'
    have hL2 : w.heap.size + 4 ≤ wc.drew.heap.size := by have := hBc.size; have := HZ.out; simp; omega
    have hown := own_lower hown5 hL2
    obtain ⟨st, hst⟩ : ∃ x, x = stream (ekey key nonce) n := ⟨_, rfl⟩
    have hstl : st.length = s.data.toList.length := by rw [hst, stream_length, hsl]
    rw [← hst] at hown
    have HST := Lib.hid hst
    have HSTL := Lib.hid hstl
    have HSL := Lib.hid hsl
    clear hst hstl hown5 hL2 hB5' hB5 hBq kq hsvc csv csv5 hsv hsb hrc hkd hBc hkb hBd lq
    go_wp2
    go_loopw [9, 10, 24] (fun _ _ i wr => ∃ j : Nat, j ≤ n ∧ i = .int .i64 j ∧ wr.heap[w.heap.size + 2]? = some (.cells (bv (mix s.data.toList st j) ++ pad).toArray 5 (k, k + 1)) ∧ w5.grownBy wr (some (w.heap.size + 2)))
      (fun _ _ i _ => n - (intOf i).toNat)
    case atStart => exact ⟨0, by omega, rfl, by simpa [mix] using hsb5.out, World.grownBy.refl _ _⟩
    case round =>
      obtain ⟨j, hj, rfl, hcur, hG⟩ := hrel
      by_cases hlt : j < n
      · have hjs : j < s.data.toList.length := by rw [HSL.out]; exact hlt
        have hjt : j < st.length := by rw [HSTL.out]; exact hjs
        obtain ⟨a, ha⟩ : ∃ a, a = s.data.toList[j] := ⟨_, rfl⟩
        obtain ⟨b, hb⟩ : ∃ b, b = st[j] := ⟨_, rfl⟩
        have hlk : j < k := by rw [hk1, List.length_append, bv_length, HSL.out]; omega
        have ca : wr.cell? ⟨w.heap.size + 1 + 1, j, none⟩ = some (.int .u8 (a.toNat : Int)) := by rw [cell_of_row _ _ _ _ _ _ hcur, ha]; exact mix_at HSTL.out j hjs pad
        have fa : wr.frozen? ⟨w.heap.size + 1 + 1, j, none⟩ = false := frozen_fr _ _ _ _ _ _ _ hcur hlk
        have hownr : wr.ownsRow (w.heap.size + 4) 5 1 (.slice A5 n c5) n (bv st) := World.ownsRow.kept hown hG (by
          cases hv : (Value.slice A5 n c5).ownBlock with
          | none => exact .inl rfl
          | some q => exact .inr (fun e => by have := own_ge hown q hv; injection e with e; omega))
        obtain ⟨g5, o5, rfl, hc5⟩ := (⟨by rw [HSTL.out, HSL.out], own_cells hownr⟩ : Rd wr A5 n st).at_ (by omega)
        have cb : wr.cell? ⟨g5, o5 + j, none⟩ = some (.int .u8 (b.toNat : Int)) := by rw [hb]; exact hc5 j hjt
        have csr : wr.cell? ⟨w.heap.size + 1 + 1 + 1, 0, none⟩ = some (.slice (some ⟨w.heap.size + 1 + 1, 0, none⟩) n c) := cell_of_row0 (block_kept hsv5.out hG (by simp))
        have hx := xor_val a b (b.toNat : Int) rfl
        have hset := mix_set HSTL.out j hjs pad (((a ^^^ b).toNat : Nat) : Int) (by rw [ha, hb])
        have HX := Lib.hid hx
        have HSET := Lib.hid hset
        have HCUR := Lib.hid hcur
        clear hx hset ha hb hc5 hownr hcur
        have hji : (j : Int) < n := by omega
        go_wp2
        go_roundw
        case rel => exact ⟨j + 1, by omega, by simp, (heap_set_fr _ _ _ _ _ _ _ HCUR.out).trans (by rw [← HX.out, HSET.out]), World.grownBy.trans hG (grown_set _ _ _ _)⟩
        case measure => simp [intOf]; omega
      · obtain rfl : j = n := by omega
        have hend := mix_end HSTL.out
        rw [HSL.out] at hend
        have hl5 : (cx s.data.toList st).length = j := by rw [cx_length HSTL.out, HSL.out]
        rw [hend] at hcur
        have hr : Rd wr (some ⟨w.heap.size + 1 + 1, 0, none⟩) j (cx s.data.toList st) := ⟨hl5, cells_of_block hcur⟩
        have csr : wr.cell? ⟨w.heap.size + 1 + 1 + 1, 0, none⟩ = some (.slice (some ⟨w.heap.size + 1 + 1, 0, none⟩) j c) := cell_of_row0 (block_kept hsv5.out hG (by simp))
        have hres := block_kept hrc5.out hG (by simp)
        go_wp2
        refine leaves_cons (f := 61) (args := #[.pointer (some ⟨w.heap.size + 1 + 1 + 1, 0, none⟩), .pointer (some ⟨w.heap.size + 1, 0, none⟩)]) (by simp) (by simp [go_sem]) ?_
        refine (back_any (w.heap.size + 1 + 1 + 1) (w.heap.size + 1) _ j c (cx s.data.toList st) _ _ .returning _ csr hr hres).mono ?_
        rintro e u' w9 ⟨rfl, rfl, rfl⟩
        have hc9 : (wr.setCell ⟨w.heap.size + 1, 0, none⟩ (.string ⟨(cx s.data.toList st).toArray⟩)).cell? ⟨w.heap.size + 1, 0, none⟩ = some (.string ⟨(cx s.data.toList st).toArray⟩) := World.cell?_setCell_same' _ _ _ (by rw [cell_of_row0 hres]; rfl)
        have hfin : cx s.data.toList st = crypt key nonce s.data.toList := by unfold crypt; rw [HST.out, HSL.out]
        have hBf : Below w.heap.size w (wr.setCell ⟨w.heap.size + 1, 0, none⟩ (.string ⟨(cx s.data.toList st).toArray⟩)) := (hBw5.grown hG hBw5.size (fun k e => by cases e; omega)).setCell (by show _ ≤ w.heap.size + 1; omega) _
        rw [hfin] at hc9 hBf ⊢
        clear hend hfin hr hcur hres
        refine ⟨.string ⟨(crypt key nonce s.data.toList).toArray⟩, ?_, rfl, hBf⟩
        simp [results, Tryd.results48, go_sem, hc9]
end Go.Proofs.YtaecljahbmcneaaDoor
