/- The reference of chapter 02: Sum. -/
import Derived.Test.YtaecljahbmcneaaDoorRefB
import Derived.Test.YtaecljahbmcneaaDoorRefC
import Derived.Test.YtaecljahbmcneaaDoorShaE
namespace Go.Proofs.YtaecljahbmcneaaDoor
open Go.RowKit Go.Shelf

theorem words_as (s : ByteArray) (n : Nat) (L : List Nat) (w : World) (hL : hexws s.data.toList n = L) (h : 8 * n ≤ s.size) (hs : s.size ≤ 1048576) :
    Calls Tryd.prog 83 #[.string s, .int .i64 n] w fun e w' => ∃ A c, e = .returned (.slice A n c) ∧ w'.ownsRow w.heap.size 93 1 (.slice A n c) n (u32s L) ∧ Below w.heap.size w w' := by
  rw [← hL]
  exact words_any s n w h hs

theorem bytes_at (v : S8) (a r : Nat) (ha : a < 8) (hr : r < 4) : v.bytes[4 * a + r]? = some (UInt8.ofNat (v.list.getD a 0 / 256 ^ (3 - r))) := by
  have h1 : a = 0 ∨ a = 1 ∨ a = 2 ∨ a = 3 ∨ a = 4 ∨ a = 5 ∨ a = 6 ∨ a = 7 := by omega
  have h2 : r = 0 ∨ r = 1 ∨ r = 2 ∨ r = 3 := by omega
  rcases h1 with rfl | rfl | rfl | rfl | rfl | rfl | rfl | rfl <;> rcases h2 with rfl | rfl | rfl | rfl <;> rfl
theorem bytes_length (v : S8) : v.bytes.length = 32 := by simp [S8.bytes, S8.list, toBE]

theorem byte_shr8 (l j : Nat) : ((UInt8.ofNat (8 * l / 256 ^ j)).toNat : Int) = 8 * (l : Int) / 2 ^ (8 * j) % 256 := by
  rw [byte_shr]
  push_cast
  rfl
theorem list_cell {W : World} {A : Option Addr} {v : S8} (h : Cells W A (u32s v.list)) : ∃ b off, A = some ⟨b, off, none⟩ ∧ ∀ a, a < 8 → W.cell? ⟨b, off + a, none⟩ = some (.int .u32 ((v.list.getD a 0 : Nat) : Int)) := by
  obtain ⟨b, off, rfl, hc⟩ := h (by simp [u32s, S8.list])
  exact ⟨b, off, rfl, fun a ha => hc a _ (by simpa using list_at v a ha)⟩
theorem bytes_get (v : S8) (k a r : Nat) (hk : k = 4 * a + r) (ha : a < 8) (hr : r < 4) (h : k < v.bytes.length) : ((v.bytes[k].toNat : Nat) : Int) = ((v.list.getD a 0 / 256 ^ (3 - r) % 256 : Nat) : Int) := by
  subst hk
  have h1 := bytes_at v a r ha hr
  rw [List.getElem?_eq_getElem h] at h1
  injection h1 with h1
  rw [h1]
  simp
theorem rd_blk {W : World} {g : Nat} {T : List UInt8} {q k : Nat} (h : T.length = 64 * q) (hk : k < q) (hc : ∀ j (hj : j < T.length), W.cell? ⟨g, j, none⟩ = some (B T[j])) : Rd W (some ⟨g, 64 * k, none⟩) 64 (blk T q k) := by
  have := blk_rd h (by omega) hc k
  rwa [Nat.mod_eq_of_lt hk] at this

set_option maxHeartbeats 4000000 in
set_option maxRecDepth 100000 in
theorem rsum_any (A : Option Addr) (n c : Nat) (m : List UInt8) (w : World) (hr : Rd w A n m) (hn : n ≤ 1073741824) :
    Calls Tryd.prog 77 #[.slice A n c] w fun e w' => e = .returned (.agg (bv (sha m)).toArray) ∧ Below w.heap.size w w' := by
  obtain rfl := hr.len
  have hB0 : Below w.heap.size w (w.alloc (.cells (List.replicate 32 (Value.int .u8 0)).toArray 78)) := (Below.refl _ w).alloc (Nat.le_refl _) _
  have hr1 := hr.below (hB0.alloc hB0.size (.cells #[] 5))
  have own0 := own_new (w.alloc (.cells (List.replicate 32 (Value.int .u8 0)).toArray 78)) (w.heap.size + 1) 5 1 0 [] (by simp) rfl (by simp [maxLen])
  have hres0 := Lib.hid (heap_alloc_new w (.cells (List.replicate 32 (Value.int .u8 0)).toArray 78))
  have tok1 : True := trivial
  rw [World.size_alloc] at own0
  go_enter Tryd.func77, Tryd.ntmps77
  go_wp2_with (first
    | (at_builtin; have _t := tok1; refine wpList_app rfl _ _ 48 rfl (w.heap.size + 1) 5 1 1 _ Tryd.underlying48 info5 rfl (by decide) (by decide) _ _ _ _ _ _ _ own0 hr1.cells rfl rfl (by rw [bv_length, Nat.mul_one]) (bv_one m) (by simp) (by omega) ?_; intro A1 c1 w1 own1 hg1 hat1; clear tok1; simp only [Nat.zero_add, List.nil_append] at own1;
       have hz1 : w.heap.size + 2 ≤ w1.heap.size := (by have := hg1.size; simp at this; omega))
    | (at_builtin; go_must (refine wpList_app1 rfl _ _ 48 rfl (w.heap.size + 1) 5 1 (.int .u8 0) Tryd.underlying48 info5 rfl (by decide) _ _ _ _ own1 rfl rfl rfl (by omega) (by omega) ?_); intro A2 c2 w2 own2 hg2 hat2))
  have hB2 : Below w.heap.size w w2 := ((hB0.alloc hB0.size (.cells #[] 5)).grown hg1 (by simp; omega) (fun k e => by have := own_ge own0 k e; omega)).grown hg2 (by omega) (fun k e => by have := own_ge own1 k e; omega)
  have hres2 : Hid (w2.heap[w.heap.size]? = some (.cells (List.replicate 32 (Value.int .u8 0)).toArray 78 (0, 0))) :=
    block_kept (block_kept ((heap_alloc_old _ _ (by simp)).trans hres0.out) hg1 (fun e => by have := own_ge own0 _ e.symm; omega)) hg2 (fun e => by have := own_ge own1 _ e.symm; omega)
  have own2 := own_snoc (x := 128) own2 rfl
  clear hg1 hg2 hat1 hat2 own1 own0 hres0 hB0 hr1
  have hfin : (m ++ [128]) ++ List.replicate (need (m ++ [128]).length) 0 = m ++ [128] ++ List.replicate (zeros m.length) 0 := by simp [need_zeros]
  have HF := Lib.hid hfin
  clear hfin
  go_loopw [3] (fun v wr => ∃ (A3 : Option Addr) (c3 : Nat) (p : List UInt8), v = .slice A3 p.length c3 ∧ p.length ≤ 1073741900 ∧ Hid (p ++ List.replicate (need p.length) 0 = m ++ [128] ++ List.replicate (zeros m.length) 0) ∧ wr.ownsRow (w.heap.size + 1) 5 1 (.slice A3 p.length c3) p.length (bv p) ∧
      wr.heap[w.heap.size]? = some (.cells (List.replicate 32 (Value.int .u8 0)).toArray 78 (0, 0)) ∧ Below w.heap.size w wr) (fun v _ => need (lenOf v))
  case atStart => exact ⟨A2, c2, m ++ [128], by simp, by simp; omega, HF, by simpa using own2, hres2.out, hB2⟩
  case round =>
    obtain ⟨A3, c3, p, rfl, hpl, hP, hown3, hres3, hB3⟩ := hrel
    clear own2 hres2 hB2
    have HR3 := Lib.hid hres3
    have hz3 : w.heap.size < wr.heap.size := (Array.getElem?_eq_some_iff.1 hres3).1
    clear hres3
    by_cases hlt : p.length % 64 = 56
    · have hpe : p = m ++ [128] ++ List.replicate (zeros m.length) 0 := by
        have h := hP.out
        rwa [show need p.length = 0 from by unfold need; omega, List.replicate_zero, List.append_nil] at h
      have HPE := Lib.hid hpe
      have hlt2 : ((p.length : Int) % 64 = 56) := by omega
      clear hpe
      obtain ⟨wo, rfl⟩ : ∃ wo : World, wo = wr := ⟨_, rfl⟩
      go_wp2
      go_loopw [3, 5] (fun v i wr => ∃ (j : Nat) (A1 : Option Addr) (c1 : Nat) (ys : List UInt8), j ≤ 8 ∧ i = .int .i64 ((j : Int) - 1) ∧ v = .slice A1 ys.length c1 ∧ wr.ownsRow (w.heap.size + 1) 5 1 (.slice A1 ys.length c1) ys.length (bv ys) ∧ Hid (ys ++ toBE j (8 * m.length) = p ++ toBE 8 (8 * m.length)) ∧
          wr.heap[w.heap.size]? = some (.cells (List.replicate 32 (Value.int .u8 0)).toArray 78 (0, 0)) ∧ Below w.heap.size w wr) (fun _ i _ => (intOf i + 1).toNat)
      case atStart => exact ⟨8, A3, c3, p, by omega, rfl, rfl, hown3, Lib.hid rfl, HR3.out, hB3⟩
      case round =>
        have HLT := Lib.hid hlt
        clear hown3 HR3 hB3 hz3 hlt hlt2
        obtain ⟨j, A4, c4, ys, hj, rfl, rfl, hown4, hE, hres4, hB4⟩ := hrel
        have hyl : ys.length ≤ p.length + 8 := by have := congrArg List.length hE.out; simp [toBE_length] at this; omega
        have HR4 := Lib.hid hres4
        have hz4 : w.heap.size < wr.heap.size := (Array.getElem?_eq_some_iff.1 hres4).1
        clear hres4
        rcases j with _ | j
        · have hT : ys = p ++ toBE 8 (8 * m.length) := by simpa [toBE] using hE.out
          have hyl2 : ys.length = p.length + 8 := by rw [hT]; simp [toBE_length]
          obtain ⟨q, hq⟩ : ∃ q, ys.length = 64 * q := ⟨ys.length / 64, by have := HLT.out; omega⟩
          obtain ⟨gT, hA4, hgT, hTc, _, hcT⟩ := text_at hown4 (by omega)
          subst hA4
          have HT := Lib.hid hT
          have HQ := Lib.hid hq
          have hq0 : 0 < q := by omega
          have hq30 : q ≤ 1099511627776 := by omega
          have hcT' := Lib.hid hcT
          have hrw : ((ys.length : Nat) : Int) = 64 * (q : Int) := by omega
          have HRW := Lib.hid hrw
          have tok2 : True := trivial
          have htc : 64 * q ≤ c4 := by omega
          clear hT hyl hyl2 hq hcT hrw hTc
          go_wp2_with (first
            | (go_at_call 83; have _t := tok2; go_must (refine (words_as _ 8 iv.list _ (by decide +kernel) (by decide +kernel) (by decide +kernel)).mono ?_); rintro e w5 ⟨A5, c5, rfl, hown5, hB5⟩; clear tok2)
            | (go_at_call 83; go_must (refine (words_as _ 64 ks _ (by decide +kernel) (by decide +kernel) (by decide +kernel)).mono ?_); rintro e w6 ⟨A6, c6, rfl, hown6, hB6⟩))
          have hB6' := hB5.trans (hB6.mono hB5.size)
          have hBw6 : Below w.heap.size w w6 := hB4.trans (hB6'.mono hB4.size)
          have hRES := Lib.hid (block_below HR4.out hB6')
          have hKS : Cells w6 A6 (u32s ks) := own_cells hown6
          have hV : Cells w6 A5 (u32s iv.list) := (own_cells hown5).below hB6
          have hcT6 : Hid (∀ j (hj : j < ys.length), w6.cell? ⟨gT, j, none⟩ = some (B ys[j])) := fun j hj => cell_kept hB6' (hcT'.out j hj)
          have hz6 : w.heap.size < w6.heap.size := Nat.lt_of_lt_of_le hz4 hB6'.size
          clear hown4 hown5 hown6 hB5 hB6 hB6' hcT' HR4 hB4 hz4
          go_loopw [6, 8] (fun v i wr => ∃ (k : Nat) (A7 : Option Addr) (c7 : Nat), k ≤ q ∧ i = .int .i64 (64 * (k : Int)) ∧ v = .slice A7 8 c7 ∧ Cells wr A7 (u32s (st ys q (upto0 k)).list) ∧ Below w6.heap.size w6 wr) (fun _ i _ => 64 * q - (intOf i).toNat)
          case atStart => exact ⟨0, A5, c5, by omega, by simp, rfl, hV, Below.refl _ _⟩
          case round =>
            obtain ⟨k, A7, c7, hk, rfl, rfl, hV7, hB7⟩ := hrel
            clear hV
            have hrw := HRW.out
            by_cases hlt : k < q
            · have hrd := rd_blk HQ.out hlt (fun j hj => cell_kept hB7 (hcT6.out j hj))
              have hks := hKS.below hB7
              have hst := st_snoc ys q (upto0 k) k
              rw [← upto0_succ, show blk ys q k = blk ys q k from rfl] at hst
              have HST := Lib.hid hst
              have hrw1 : (64 * (k : Int)) < ((ys.length : Nat) : Int) := by omega
              have hrw2 : (64 * (k : Int)) + 64 ≤ (c4 : Int) := by omega
              have hrw3 : ¬ (c4 = 64 * k) := by omega
              have hk64 : (k : Int) ≤ 1099511627776 := by omega
              clear hst hrw
              go_wp2_with (go_at_call 84; go_must (refine (rcompress_any _ _ _ _ _ _ _ _ _ hV7 hrd hks (st_ok _ _ _)).mono ?_); rintro e w8 ⟨A8, c8, rfl, hown8, hB8⟩)
              go_roundw
              case rel => exact ⟨k + 1, A8, c8, by omega, by simp; omega, rfl, by rw [HST.out]; exact own_cells hown8, hB7.trans (hB8.mono hB7.size)⟩
              case measure => simp [intOf]; omega
            · obtain rfl : k = q := by omega
              have hge : ¬ ((64 * (k : Int)) < ((ys.length : Nat) : Int)) := by omega
              have hS : sha m = (st ys k (upto0 k)).bytes := by
                have hT1 : padded m = ys := by rw [HT.out, HPE.out]; rfl
                have hT2 : ys.length / 64 = k := by have := HQ.out; omega
                rw [st_all]
                unfold sha
                rw [hT1, hT2]
              obtain ⟨S, hSe⟩ : ∃ S, S = st ys k (upto0 k) := ⟨_, rfl⟩
              have hSo : S.ok := by rw [hSe]; exact st_ok _ _ _
              rw [← hSe] at hV7 hS
              obtain ⟨bV, oV, rfl, hcV⟩ := list_cell hV7
              have hB7w : Below w.heap.size w wr := hBw6.trans (hB7.mono hBw6.size)
              have hcV' := Lib.hid hcV
              have HS := Lib.hid hS
              have HRS := Lib.hid (block_below hRES.out hB7)
              have hz7 : w.heap.size < wr.heap.size := Nat.lt_of_lt_of_le hz6 hB7.size
              clear hrw hS hSe hcV hV7 hKS hB7 hBw6 hRES hz6 HRW HQ HT HPE hcT6 hgT htc
              obtain ⟨wo, rfl⟩ : ∃ wo : World, wo = wr := ⟨_, rfl⟩
              go_wp2_with (refine wpList_storeB (old := List.replicate 32 (Value.int .u8 0)) (t := 78) rfl 78 (.tmp 9) (.tmp 55) rfl size27 (heap_alloc_new wo _) (bv_one (List.replicate 32 0)) (by rfl) (by rfl) rfl rfl ?_; intro w9 h9 hg9 hz9)
              have hB9 := below_put hg9
              have q1 := Lib.hid (block_below HRS.out hB9)
              have q2 : Hid (w9.heap[wo.heap.size]? = some (.cells (bv (cpy S.bytes 32 0)).toArray 78 (0, 0))) := by rw [cpy_zero]; exact h9
              have hB9w := hB7w.trans (hB9.mono hB7w.size)
              have q3 : Hid (∀ a, a < 8 → w9.cell? ⟨bV, oV + a, none⟩ = some (.int .u32 ((S.list.getD a 0 : Nat) : Int))) := fun a ha => cell_kept hB9 (hcV'.out a ha)
              have hbV : bV < wo.heap.size := World.block_lt_of_cell? _ _ (hcV'.out 0 (by omega))
              have hblen := bytes_length S
              clear hg9 hz9 h9 hB9 HRS hcV' hB7w
              go_loopw [10] (fun i wr => ∃ j : Nat, j ≤ 32 ∧ i = .int .i64 j ∧ wr.heap[w.heap.size]? = some (.cells (List.replicate 32 (Value.int .u8 0)).toArray 78 (0, 0)) ∧ wr.heap[wo.heap.size]? = some (.cells (bv (cpy S.bytes 32 j)).toArray 78 (0, 0)) ∧
                  Hid (∀ a, a < 8 → wr.cell? ⟨bV, oV + a, none⟩ = some (.int .u32 ((S.list.getD a 0 : Nat) : Int))) ∧ Below w.heap.size w wr) (fun i _ => 32 - (intOf i).toNat)
              case atStart => exact ⟨0, by omega, rfl, q1.out, q2.out, q3, hB9w⟩
              case round =>
                clear q1 q2 q3 hB9w
                obtain ⟨j, hj, rfl, h1, h2, hcV, hB⟩ := hrel
                have H1 := Lib.hid h1
                have H2 := Lib.hid h2
                by_cases hlt : j < 32
                · have c2 : wr.cell? ⟨wo.heap.size, j, none⟩ = some (.int .u8 0) := by rw [cell_of_row _ _ _ _ _ _ h2]; exact cpy_at S.bytes 32 j hlt (by omega)
                  have f2 : wr.frozen? ⟨wo.heap.size, j, none⟩ = false := frozen_of_row _ _ _ _ _ h2
                  clear h1 h2
                  have hj32 : (j : Int) < 32 := by omega
                  have hjl : j < S.bytes.length := by omega
                  obtain ⟨a, r, hjar, ha8, hr4⟩ : ∃ a r, j = 4 * a + r ∧ a < 8 ∧ r < 4 := ⟨j / 4, j % 4, by omega, by omega, by omega⟩
                  have hca := hcV.out a ha8
                  have hva := list_lt hSo a
                  have hbg := bytes_get S j a r hjar ha8 hr4 hjl
                  obtain ⟨x, hx⟩ : ∃ x, x = S.list.getD a 0 := ⟨_, rfl⟩
                  rw [← hx] at hca hva hbg
                  have e4 : (j : Int) / 4 = (a : Int) := by omega
                  have e4b : (j : Int) % 4 = (r : Int) := by omega
                  have hai : (a : Int) < 8 := by omega
                  have HBG := Lib.hid hbg
                  have HJAR := Lib.hid hjar
                  clear hjar hbg hx
                  have hr := hr4
                  have h4 : r = 0 ∨ r = 1 ∨ r = 2 ∨ r = 3 := by omega
                  clear hr hr4
                  rcases h4 with rfl | rfl | rfl | rfl
                  all_goals
                    go_wp2
                    go_roundw
                    case rel =>
                      refine ⟨j + 1, by omega, by simp, ?_, ?_, ?_, hB.setCell (by show _ ≤ wo.heap.size; omega) _⟩
                      · rw [heap_setCell_other _ _ _ _ (by show _ ≠ wo.heap.size; omega)]; exact H1.out
                      · rw [heap_setCell_same _ _ _ _ _ _ H2.out, cpy_set S.bytes 32 j hlt (by omega) _ (by have h := HBG.out; simp at h ⊢; omega)]
                      · exact fun a ha => by rw [World.cell?_of_block (w := wr) (heap_setCell_other _ _ _ _ (by show _ ≠ wo.heap.size; show bV ≠ _; omega))]; exact hcV.out a ha
                    case measure => simp [intOf]; omega
                · have hj32 : j = 32 := by omega
                  subst hj32
                  have htl : (bv S.bytes).length = 32 := by rw [bv_length, bytes_length]
                  have h2' : wr.heap[wo.heap.size]? = some (.cells (bv S.bytes).toArray 78 (0, 0)) := by
                    have e : cpy S.bytes 32 32 = S.bytes := by rw [cpy_end, List.take_of_length_le (by omega)]
                    rw [e] at h2
                    exact h2
                  have H2' := Lib.hid h2'
                  clear h1 h2 h2' H2
                  go_wp2_with (first
                    | (refine wpList_loadB rfl 78 (.tmp 9) rfl Tryd.underlying78 size27 H2'.out htl rfl rfl ?_)
                    | (refine wpList_storeB rfl 78 (.tmp 2) (.tmp 73) rfl size27 H1.out (bv_one S.bytes) htl (by rfl) rfl rfl ?_; intro w5 h5 hg5 hz5))
                  refine ret_agg rfl Tryd.underlying78 size27 rfl h5 htl rfl rfl ?_
                  exact ⟨by rw [HS.out], hB.grown hg5 hB.size (fun k e => by cases e; omega)⟩
        · go_wp2_with (at_builtin; go_must (refine wpList_app1 rfl _ _ 48 rfl (w.heap.size + 1) 5 1 (.int .u8 0) Tryd.underlying48 info5 rfl (by decide) _ _ _ _ hown4 rfl rfl rfl (by omega) (by omega) ?_); intro A5 c5 w5 hown5 hg5 hat5)
          have hs := own_snoc hown5 (byte_shr8 m.length j)
          go_roundw
          case rel => exact ⟨j, A5, c5, ys ++ [UInt8.ofNat (8 * m.length / 256 ^ j)], by omega, rfl, by simp, by simpa using hs, Lib.hid (by rw [← hE.out]; simp [toBE]), block_kept HR4.out hg5 (fun e => by have := own_ge hown4 _ e.symm; omega), hB4.grown hg5 (by omega) (fun k e => by have := own_ge hown4 k e; omega)⟩
          case measure => simp [intOf]
    · have hne : ¬ ((p.length : Int) % 64 = 56) := by omega
      have hnd := need_succ p.length hlt
      have HN := Lib.hid hnd
      clear hnd
      have hpl2 : p.length ≤ 1073741824 + 65 := by
        have h := congrArg List.length hP.out
        have h2 : zeros m.length < 64 := by unfold zeros; omega
        simp at h; omega
      go_wp2_with (at_builtin; go_must (refine wpList_app1 rfl _ _ 48 rfl (w.heap.size + 1) 5 1 (.int .u8 0) Tryd.underlying48 info5 rfl (by decide) _ _ _ _ hown3 rfl rfl rfl (by omega) (by omega) ?_); intro A4 c4 w4 hown4 hg4 hat4)
      have hs := own_snoc (x := 0) hown4 rfl
      go_roundw
      case rel =>
        refine ⟨A4, c4, p ++ [0], by simp, by simp; omega, ?_, hs, block_kept HR3.out hg4 (fun e => by have := own_ge hown3 _ e.symm; omega), hB3.grown hg4 (by omega) (fun k e => by have := own_ge hown3 k e; omega)⟩
        show _ = _
        rw [← hP.out, HN.out]
        simp [List.replicate_succ]
      case measure => simp [lenOf]; rw [HN.out]; omega
end Go.Proofs.YtaecljahbmcneaaDoor
