/- Chapter 04: sanity. -/
import Derived.Test.YtpgakdioaebikaaDoorWotsE
import Derived.Test.YtpgakdioaebikaaDoorWotsC
import Derived.Test.YtpgakdioaebikaaDoorWotsK
import Derived.Deep.RegionHeld3
namespace Go.Proofs.YtpgakdioaebikaaDoor
open Go.RowKit Go.Shelf

theorem takeD {P : Program} {ops : Array Oper} {Q : Exit → Act → World → Prop} {md : Region.Mode} {S : World → Prop} {i : Nat} {oi : Oper} {v : Value} {fuel : Nat} {listed : Array Bool} {a : Act} {w : World} (d : Option Tmp) (hi : ops[i]? = some oi) (hd : oi.dst = d)
    (hs : Region.noSelect ops = true) (hf : Region.free md ops listed i = true) (hr : (Region.ready md ops listed).contains i = true)
    (hQ : ∀ c a w, Q (.panic c) (a.put d v) w → Q (.panic c) a w) (hy : YieldsIf P ops S oi v a) (hS : S w)
    (h : wpAnyH P md ops Q S fuel (listed.setIfInBounds i true) (a.put d v) w) : wpAnyH P md ops Q S (fuel + 1) listed a w := by
  subst hd
  exact wpAnyH_take hi hs hf hr hQ hy hS h
def Z0 : List UInt8 := List.replicate 16 0
def O0 : List UInt8 := List.replicate 16 255
def onesk (k : Nat) : List UInt8 := List.replicate k 255 ++ List.replicate (16 - k) 0
theorem onesk_set (k : Nat) (h : k < 16) : (bv (onesk k)).toArray.setIfInBounds k (.int .u8 255) = (bv (onesk (k + 1))).toArray := by
  match k, h with
  | 0, _ | 1, _ | 2, _ | 3, _ | 4, _ | 5, _ | 6, _ | 7, _ | 8, _ | 9, _ | 10, _ | 11, _ | 12, _ | 13, _ | 14, _ | 15, _ => rfl
  | n + 16, h => exact absurd h (by omega)
theorem onesk_at (k : Nat) (h : k < 16) : (bv (onesk k)).toArray[k]? = some (.int .u8 0) := by
  match k, h with
  | 0, _ | 1, _ | 2, _ | 3, _ | 4, _ | 5, _ | 6, _ | 7, _ | 8, _ | 9, _ | 10, _ | 11, _ | 12, _ | 13, _ | 14, _ | 15, _ => rfl
  | n + 16, h => exact absurd h (by omega)
theorem row_range {w : World} {g : Nat} {cs : List Value} {t : TypeId} {f : Nat × Nat} (h : w.heap[g]? = some (.cells cs.toArray t f)) : w.rangeAt g 0 cs := fun i v hv => by
  rw [Nat.zero_add]; exact cell_row h hv
theorem ran2 {w w1 : World} {g g' : Nat} {c c' : List Value} (h : w.rangeAt g 0 c ∧ w.rangeAt g' 0 c') (hb : Below w.heap.size w w1) : w1.rangeAt g 0 c ∧ w1.rangeAt g' 0 c' := ⟨range_kept h.1 hb, range_kept h.2 hb⟩
def S12 (gz ga gb : Nat) (w : World) : Prop := w.rangeAt gz 0 (bv Z0) ∧ w.cell? ⟨ga, 0, none⟩ = some (.int .i64 0) ∧ w.cell? ⟨ga, 64, none⟩ = some (.int .i64 3) ∧ w.cell? ⟨ga, 65, none⟩ = some (.int .i64 0) ∧ w.cell? ⟨gb, 0, none⟩ = some (.int .i64 3) ∧ w.cell? ⟨gb, 63, none⟩ = some (.int .i64 3) ∧ w.cell? ⟨gb, 64, none⟩ = some (.int .i64 0) ∧ w.cell? ⟨gb, 67, none⟩ = some (.int .i64 0)
theorem sb {gz ga gb : Nat} {w w1 : World} (h : S12 gz ga gb w) (hb : Below w.heap.size w w1) : S12 gz ga gb w1 := ⟨range_kept h.1 hb, cell_kept hb h.2.1, cell_kept hb h.2.2.1, cell_kept hb h.2.2.2.1, cell_kept hb h.2.2.2.2.1, cell_kept hb h.2.2.2.2.2.1, cell_kept hb h.2.2.2.2.2.2.1, cell_kept hb h.2.2.2.2.2.2.2⟩
theorem dz0 : (iv64 (wdigits Z0))[0]? = some (.int .i64 0) := by kernel_rfl
theorem dz64 : (iv64 (wdigits Z0))[64]? = some (.int .i64 3) := by kernel_rfl
theorem dz65 : (iv64 (wdigits Z0))[65]? = some (.int .i64 0) := by kernel_rfl
theorem do0 : (iv64 (wdigits O0))[0]? = some (.int .i64 3) := by kernel_rfl
theorem do63 : (iv64 (wdigits O0))[63]? = some (.int .i64 3) := by kernel_rfl
theorem do64 : (iv64 (wdigits O0))[64]? = some (.int .i64 0) := by kernel_rfl
theorem do67 : (iv64 (wdigits O0))[67]? = some (.int .i64 0) := by kernel_rfl
theorem s12_of {gz ga gb : Nat} {w : World} {t u v : TypeId} {f f' f'' : Nat × Nat} (hz : w.heap[gz]? = some (.cells (bv Z0).toArray t f)) (ha : w.heap[ga]? = some (.cells (iv64 (wdigits Z0)).toArray u f')) (hb : w.heap[gb]? = some (.cells (iv64 (wdigits O0)).toArray v f'')) : S12 gz ga gb w :=
  ⟨row_range hz, cell_row ha dz0, cell_row ha dz64, cell_row ha dz65, cell_row hb do0, cell_row hb do63, cell_row hb do64, cell_row hb do67⟩
theorem pubs_ne : wpublic Z0 1 ≠ wpublic Z0 2 := by
  unfold Z0
  rw [pub1, pub2]
  decide

set_option maxHeartbeats 4000000 in
set_option maxRecDepth 100000 in
theorem sanity_any (w : World) (hL : Laid w) : Calls Tryd.prog 9 #[] w fun e w' => e = .returned (.bool true) ∧ Below w.heap.size w w' := by
  have ud := Tryd.underlying23
  have szZ : (Tryd.prog.info? 23).map (·.size) = some (bv Z0).length := size32
  have szO : (Tryd.prog.info? 23).map (·.size) = some (bv O0).length := size32
  have HNE := Lib.hid pubs_ne
  have HP1 : Hid (∀ W, Laid W → Calls Tryd.prog 14 #[.agg (bv Z0).toArray, .int .i64 1] W fun e w' => e = .returned (.agg (bv (wpublic Z0 1)).toArray) ∧ Below W.heap.size W w') := fun W h => public_any Z0 1 W rfl (by decide) (by decide) h
  have HP2 : Hid (∀ W, Laid W → Calls Tryd.prog 14 #[.agg (bv Z0).toArray, .int .i64 2] W fun e w' => e = .returned (.agg (bv (wpublic Z0 2)).toArray) ∧ Below W.heap.size W w') := fun W h => public_any Z0 2 W rfl (by decide) (by decide) h
  have l1 : (wpublic Z0 1).length = 16 := wkey_length _
  have l2 : (wpublic Z0 2).length = 16 := wkey_length _
  generalize wpublic Z0 1 = P1 at *
  generalize wpublic Z0 2 = P2 at *
  go_enter Tryd.func9, Tryd.ntmps9
  go_wp2
  go_loopw [3, 9] (fun _ i wr => ∃ k : Nat, k ≤ 16 ∧ i = .int .i64 k ∧ wr.heap[w.heap.size]? = some (.cells (bv Z0).toArray 23 (0, 0)) ∧ wr.heap[w.heap.size + 1]? = some (.cells (bv (onesk k)).toArray 23 (0, 0)) ∧ Below w.heap.size w wr) (fun _ i _ => 16 - (intOf i).toNat)
  case atStart => exact ⟨0, by omega, rfl, (heap_alloc_old _ _ (by simp)).trans (heap_alloc_new _ _), heap_at _ _ _ (by simp), bt (below_al _ _) (below_al _ _)⟩
  case round =>
    obtain ⟨k, hk, rfl, hZ, hO, hB⟩ := hrel
    by_cases hlt : k < 16
    · have hki : (k : Int) < 16 := by omega
      have c1 : wr.cell? ⟨w.heap.size + 1, k, none⟩ = some (.int .u8 0) := by rw [cell_of_row _ _ _ _ _ _ hO]; exact onesk_at k hlt
      have f1 := frozen_of_row _ _ k _ _ hO
      have HZ := Lib.hid hZ
      have HO := Lib.hid hO
      clear hZ hO
      go_wp2
      go_roundw
      case rel => exact ⟨k + 1, by omega, by simp, (heap_setCell_other _ _ _ _ (by show _ ≠ w.heap.size + 1; omega)).trans HZ.out, (heap_setCell_same _ _ _ _ _ _ HO.out).trans (by rw [onesk_set k hlt]), hB.setCell (by show _ ≤ w.heap.size + 1; omega) _⟩
      case measure => simp [intOf]; omega
    · obtain rfl : k = 16 := by omega
      replace hO : wr.heap[w.heap.size + 1]? = some (.cells (bv O0).toArray 23 (0, 0)) := hO
      have HZ := Lib.hid hZ
      have HO := Lib.hid hO
      have hBq : Below wr.heap.size wr wr.drew := Below.drew (Below.refl _ _)
      have RR := Lib.hid (ran2 ⟨row_range hZ, row_range hO⟩ hBq : wr.drew.rangeAt w.heap.size 0 (bv Z0) ∧ wr.drew.rangeAt (w.heap.size + 1) 0 (bv O0))
      clear hZ hO
      obtain ⟨wo, rfl⟩ : ∃ wo : World, wo = wr := ⟨_, rfl⟩
      go_upto_region 7 with (fail)
      try go_frame
      go_cut [4, 5] from 4 (fun a b W => ∃ ga gb, a = .slice (some ⟨ga, 0, none⟩) 68 68 ∧ b = .slice (some ⟨gb, 0, none⟩) 68 68 ∧ W.heap[ga]? = some (.cells (iv64 (wdigits Z0)).toArray 43 (0, 0)) ∧ W.heap[gb]? = some (.cells (iv64 (wdigits O0)).toArray 43 (0, 0)) ∧ Below wo.heap.size wo W)
      case first =>
       as_aux_lemma =>
        refine wp_region_held_drew (S := fun W => W.rangeAt w.heap.size 0 (bv Z0) ∧ W.rangeAt (w.heap.size + 1) 0 (bv O0)) (by kernel_rfl) RR.out (fun hHeld => ?_)
        try go_frame
        refine takeD (i := 0) (oi := _) (v := _) (some 15) rfl rfl (by kernel_rfl) (by kernel_rfl) (by kernel_rfl) (fun _ _ _ h => h) (yieldsIf_load_mid (by rfl) 23 (.tmp 1) rfl (w.heap.size) 0 rfl (bv Z0) _ (fun w hSw => hSw.1) ud rfl szZ) (by assumption) ?_
        try go_frame
        refine takeD (i := 2) (oi := _) (v := _) (some 17) rfl rfl (by kernel_rfl) (by kernel_rfl) (by kernel_rfl) (fun _ _ _ h => h) (yieldsIf_load_mid (by rfl) 23 (.tmp 2) rfl (w.heap.size + 1) 0 rfl (bv O0) _ (fun w hSw => hSw.2) ud rfl szO) (by assumption) ?_
        try go_frame
        refine wpAnyH_ready (rs := [1]) (by kernel_rfl) (by simp) ?_
        refine AllReadyH.cons (o := _) rfl (fun K hK => ?_) AllReadyH.nil
        go_simp
        (go_at_call 10; refine (digits_any Z0 _ rfl).mono ?_; rintro e w3 ⟨ga, rfl, hgal, hga, hB3⟩)
        refine hK.out _ _ (ran2 RR.out hB3) (fun hHeld => ?_)
        clear hK K
        try (show wpAnyH _ _ _ _ _ _ _ (Act.put _ (some 16) _) _)
        try go_frame
        refine wpAnyH_ready (rs := [3]) (by kernel_rfl) (by simp) ?_
        refine AllReadyH.cons (o := _) rfl (fun K hK => ?_) AllReadyH.nil
        go_simp
        (go_at_call 10; refine (digits_any O0 _ rfl).mono ?_; rintro e w4 ⟨gb, rfl, hgbl, hgb, hB4⟩)
        refine hK.out _ _ (ran2 RR.out (bt hB3 hB4)) (fun hHeld => ?_)
        clear hK K
        try (show wpAnyH _ _ _ _ _ _ _ (Act.put _ (some 18) _) _)
        try go_frame
        refine takeD (i := 4) (oi := _) (v := ?_) (some 4) rfl rfl (by kernel_rfl) (by kernel_rfl) (by kernel_rfl) (fun _ _ _ h => h) (Or.inl ⟨by rfl, ?_⟩) (by assumption) ?_
        rotate_left
        · intro w hSw; (try dsimp only at hSw); go_simp; (try with_reducible rfl)
        try go_frame
        refine takeD (i := 5) (oi := _) (v := ?_) (some 5) rfl rfl (by kernel_rfl) (by kernel_rfl) (by kernel_rfl) (fun _ _ _ h => h) (Or.inl ⟨by rfl, ?_⟩) (by assumption) ?_
        rotate_left
        · intro w hSw; (try dsimp only at hSw); go_simp; (try with_reducible rfl)
        try go_frame
        refine wpAnyH_done (by kernel_rfl) ?_ _

        go_wp2_with fail
        go_meet
        exact ⟨ga, gb, rfl, rfl, block_below hga hB4, hgb, bt hBq (bt hB3 hB4)⟩
      case rest =>
       as_aux_lemma =>
        obtain ⟨ga, gb, rfl, rfl, hga, hgb, hBc⟩ := hcut
        have hBw := bt hB hBc
        have HZc := Lib.hid (block_below HZ.out hBc)
        have HOc := Lib.hid (block_below HO.out hBc)
        have HGA := Lib.hid hga
        have HGB := Lib.hid hgb
        have hlc := Lib.hid (hL.below hBw)
        clear hga hgb HZ HO RR hBq
        go_upto_region 12 with (first
          | (refine wpList_loadB rfl 23 (.tmp 1) rfl ud size32 HZc.out (by rfl) rfl rfl ?_)
          | (refine wpList_loadB rfl 23 (.tmp 2) rfl ud size32 HOc.out (by rfl) rfl rfl ?_)
          | (go_at_call 17; go_must (refine (sign_any Z0 1 O0 _ rfl (by decide) (by decide) rfl hlc.out).mono ?_); rintro e w5 ⟨A5, c5, rfl, _, hB5⟩; have HZ5 := Lib.hid (block_below HZc.out hB5); have hl5 := Lib.hid (hlc.out.below hB5))
          | (refine wpList_loadB rfl 23 (.tmp 1) rfl ud size32 HZ5.out (by rfl) rfl rfl ?_)
          | (go_at_call 12; go_must (refine (recover_any Z0 none 0 0 [] _ rfl (RdF.nil _ _ _ _) (by omega) hl5.out).mono ?_); rintro e w6 ⟨rfl, hB6⟩; have HZ6 := Lib.hid (block_below HZ5.out hB6))
          | (refine wpList_storeB rfl 23 (.tmp 7) (.tmp 33) rfl size32 (heap_alloc_new w6 _) (bv_one (List.replicate 16 0)) (by rfl) (by rfl) rfl rfl ?_; intro w7 h7 hg7 hz7; have hB7 := below_put hg7; clear h7 hg7 hz7))
        have hBf := bt hBw (bt hB5 (bt hB6 hB7))
        have hBq : Below w7.heap.size w7 w7.drew := Below.drew (Below.refl _ _)
        have LD := Lib.hid ((hL.below hBf).below hBq)
        have HS12 := Lib.hid (sb (s12_of (block_below HZ6.out hB7) (block_below (block_below HGA.out hB5) (bt hB6 hB7)) (block_below (block_below HGB.out hB5) (bt hB6 hB7))) hBq)
        have hne := fun W => run_neq16 W P1 P2 l1 l2
        rw [decide_eq_false HNE.out] at hne
        have hg := guard16
        clear HZ5 HZ6 HZc HOc HGA HGB hl5 hlc hB5 hB6 hB7
        try go_frame
        as_aux_lemma =>
        refine wp_region_held_drew (S := fun W => W.rangeAt w.heap.size 0 (bv Z0) ∧ W.cell? ⟨ga, 0, none⟩ = some (.int .i64 0) ∧ W.cell? ⟨ga, 64, none⟩ = some (.int .i64 3) ∧ W.cell? ⟨ga, 65, none⟩ = some (.int .i64 0) ∧ W.cell? ⟨gb, 0, none⟩ = some (.int .i64 3) ∧ W.cell? ⟨gb, 63, none⟩ = some (.int .i64 3) ∧ W.cell? ⟨gb, 64, none⟩ = some (.int .i64 0) ∧ W.cell? ⟨gb, 67, none⟩ = some (.int .i64 0)) (by kernel_rfl) HS12.out (fun hHeld => ?_)
        try go_frame
        refine takeD (i := 0) (oi := _) (v := ?_) (some 35) rfl rfl (by kernel_rfl) (by kernel_rfl) (by kernel_rfl) (fun _ _ _ h => h) (Or.inl ⟨by rfl, ?_⟩) (by assumption) ?_
        rotate_left
        · intro w hSw; (try dsimp only at hSw); go_simp; (try with_reducible rfl)
        try go_frame
        refine takeD (i := 1) (oi := _) (v := ?_) (some 36) rfl rfl (by kernel_rfl) (by kernel_rfl) (by kernel_rfl) (fun _ _ _ h => h) (Or.inl ⟨by rfl, ?_⟩) (by assumption) ?_
        rotate_left
        · intro w hSw; (try dsimp only at hSw); go_simp; (try with_reducible rfl)
        try go_frame
        refine takeD (i := 2) (oi := _) (v := ?_) (some 37) rfl rfl (by kernel_rfl) (by kernel_rfl) (by kernel_rfl) (fun _ _ _ h => h) (Or.inl ⟨by rfl, ?_⟩) (by assumption) ?_
        rotate_left
        · intro w hSw; (try dsimp only at hSw); go_simp; (try with_reducible rfl)
        try go_frame
        refine takeD (i := 3) (oi := _) (v := ?_) (some 38) rfl rfl (by kernel_rfl) (by kernel_rfl) (by kernel_rfl) (fun _ _ _ h => h) (Or.inl ⟨by rfl, ?_⟩) (by assumption) ?_
        rotate_left
        · intro w hSw; (try dsimp only at hSw); go_simp; (try with_reducible rfl)
        try go_frame
        as_aux_lemma =>
        refine takeD (i := 4) (oi := _) (v := ?_) (some 39) rfl rfl (by kernel_rfl) (by kernel_rfl) (by kernel_rfl) (fun _ _ _ h => h) (Or.inl ⟨by rfl, ?_⟩) (by assumption) ?_
        rotate_left
        · intro w hSw; (try dsimp only at hSw); go_simp; (try with_reducible rfl)
        try go_frame
        refine takeD (i := 5) (oi := _) (v := ?_) (some 40) rfl rfl (by kernel_rfl) (by kernel_rfl) (by kernel_rfl) (fun _ _ _ h => h) (Or.inl ⟨by rfl, ?_⟩) (by assumption) ?_
        rotate_left
        · intro w hSw; (try dsimp only at hSw); go_simp; (try with_reducible rfl)
        try go_frame
        refine takeD (i := 6) (oi := _) (v := ?_) (some 41) rfl rfl (by kernel_rfl) (by kernel_rfl) (by kernel_rfl) (fun _ _ _ h => h) (Or.inl ⟨by rfl, ?_⟩) (by assumption) ?_
        rotate_left
        · intro w hSw; (try dsimp only at hSw); go_simp; (try with_reducible rfl)
        try go_frame
        refine takeD (i := 7) (oi := _) (v := ?_) (some 42) rfl rfl (by kernel_rfl) (by kernel_rfl) (by kernel_rfl) (fun _ _ _ h => h) (Or.inl ⟨by rfl, ?_⟩) (by assumption) ?_
        rotate_left
        · intro w hSw; (try dsimp only at hSw); go_simp; (try with_reducible rfl)
        try go_frame
        refine takeD (i := 8) (oi := _) (v := ?_) (some 43) rfl rfl (by kernel_rfl) (by kernel_rfl) (by kernel_rfl) (fun _ _ _ h => h) (Or.inl ⟨by rfl, ?_⟩) (by assumption) ?_
        rotate_left
        · intro w hSw; (try dsimp only at hSw); go_simp; (try with_reducible rfl)
        try go_frame
        as_aux_lemma =>
        refine takeD (i := 9) (oi := _) (v := ?_) (some 44) rfl rfl (by kernel_rfl) (by kernel_rfl) (by kernel_rfl) (fun _ _ _ h => h) (Or.inl ⟨by rfl, ?_⟩) (by assumption) ?_
        rotate_left
        · intro w hSw; (try dsimp only at hSw); go_simp; (try with_reducible rfl)
        try go_frame
        refine takeD (i := 10) (oi := _) (v := ?_) (some 45) rfl rfl (by kernel_rfl) (by kernel_rfl) (by kernel_rfl) (fun _ _ _ h => h) (Or.inl ⟨by rfl, ?_⟩) (by assumption) ?_
        rotate_left
        · intro w hSw; (try dsimp only at hSw); go_simp; (try with_reducible rfl)
        try go_frame
        refine takeD (i := 11) (oi := _) (v := ?_) (some 46) rfl rfl (by kernel_rfl) (by kernel_rfl) (by kernel_rfl) (fun _ _ _ h => h) (Or.inl ⟨by rfl, ?_⟩) (by assumption) ?_
        rotate_left
        · intro w hSw; (try dsimp only at hSw); go_simp; (try with_reducible rfl)
        try go_frame
        refine takeD (i := 12) (oi := _) (v := ?_) (some 47) rfl rfl (by kernel_rfl) (by kernel_rfl) (by kernel_rfl) (fun _ _ _ h => h) (Or.inl ⟨by rfl, ?_⟩) (by assumption) ?_
        rotate_left
        · intro w hSw; (try dsimp only at hSw); go_simp; (try with_reducible rfl)
        try go_frame
        refine takeD (i := 13) (oi := _) (v := ?_) (some 48) rfl rfl (by kernel_rfl) (by kernel_rfl) (by kernel_rfl) (fun _ _ _ h => h) (Or.inl ⟨by rfl, ?_⟩) (by assumption) ?_
        rotate_left
        · intro w hSw; (try dsimp only at hSw); go_simp; (try with_reducible rfl)
        try go_frame
        as_aux_lemma =>
        refine takeD (i := 14) (oi := _) (v := ?_) (some 49) rfl rfl (by kernel_rfl) (by kernel_rfl) (by kernel_rfl) (fun _ _ _ h => h) (Or.inl ⟨by rfl, ?_⟩) (by assumption) ?_
        rotate_left
        · intro w hSw; (try dsimp only at hSw); go_simp; (try with_reducible rfl)
        try go_frame
        refine takeD (i := 15) (oi := _) (v := ?_) (some 50) rfl rfl (by kernel_rfl) (by kernel_rfl) (by kernel_rfl) (fun _ _ _ h => h) (Or.inl ⟨by rfl, ?_⟩) (by assumption) ?_
        rotate_left
        · intro w hSw; (try dsimp only at hSw); go_simp; (try with_reducible rfl)
        try go_frame
        refine takeD (i := 16) (oi := _) (v := ?_) (some 51) rfl rfl (by kernel_rfl) (by kernel_rfl) (by kernel_rfl) (fun _ _ _ h => h) (Or.inl ⟨by rfl, ?_⟩) (by assumption) ?_
        rotate_left
        · intro w hSw; (try dsimp only at hSw); go_simp; (try with_reducible rfl)
        try go_frame
        refine takeD (i := 17) (oi := _) (v := ?_) (some 52) rfl rfl (by kernel_rfl) (by kernel_rfl) (by kernel_rfl) (fun _ _ _ h => h) (Or.inl ⟨by rfl, ?_⟩) (by assumption) ?_
        rotate_left
        · intro w hSw; (try dsimp only at hSw); go_simp; (try with_reducible rfl)
        try go_frame
        refine takeD (i := 18) (oi := _) (v := ?_) (some 53) rfl rfl (by kernel_rfl) (by kernel_rfl) (by kernel_rfl) (fun _ _ _ h => h) (Or.inl ⟨by rfl, ?_⟩) (by assumption) ?_
        rotate_left
        · intro w hSw; (try dsimp only at hSw); go_simp; (try with_reducible rfl)
        try go_frame
        as_aux_lemma =>
        refine takeD (i := 19) (oi := _) (v := ?_) (some 54) rfl rfl (by kernel_rfl) (by kernel_rfl) (by kernel_rfl) (fun _ _ _ h => h) (Or.inl ⟨by rfl, ?_⟩) (by assumption) ?_
        rotate_left
        · intro w hSw; (try dsimp only at hSw); go_simp; (try with_reducible rfl)
        try go_frame
        refine takeD (i := 20) (oi := _) (v := ?_) (some 55) rfl rfl (by kernel_rfl) (by kernel_rfl) (by kernel_rfl) (fun _ _ _ h => h) (Or.inl ⟨by rfl, ?_⟩) (by assumption) ?_
        rotate_left
        · intro w hSw; (try dsimp only at hSw); go_simp; (try with_reducible rfl)
        try go_frame
        refine takeD (i := 21) (oi := _) (v := ?_) (some 56) rfl rfl (by kernel_rfl) (by kernel_rfl) (by kernel_rfl) (fun _ _ _ h => h) (Or.inl ⟨by rfl, ?_⟩) (by assumption) ?_
        rotate_left
        · intro w hSw; (try dsimp only at hSw); go_simp; (try with_reducible rfl)
        try go_frame
        refine takeD (i := 22) (oi := _) (v := ?_) (some 57) rfl rfl (by kernel_rfl) (by kernel_rfl) (by kernel_rfl) (fun _ _ _ h => h) (Or.inl ⟨by rfl, ?_⟩) (by assumption) ?_
        rotate_left
        · intro w hSw; (try dsimp only at hSw); go_simp; (try with_reducible rfl)
        try go_frame
        refine takeD (i := 23) (oi := _) (v := ?_) (some 58) rfl rfl (by kernel_rfl) (by kernel_rfl) (by kernel_rfl) (fun _ _ _ h => h) (Or.inl ⟨by rfl, ?_⟩) (by assumption) ?_
        rotate_left
        · intro w hSw; (try dsimp only at hSw); go_simp; (try with_reducible rfl)
        try go_frame
        as_aux_lemma =>
        refine takeD (i := 24) (oi := _) (v := ?_) (some 59) rfl rfl (by kernel_rfl) (by kernel_rfl) (by kernel_rfl) (fun _ _ _ h => h) (Or.inl ⟨by rfl, ?_⟩) (by assumption) ?_
        rotate_left
        · intro w hSw; (try dsimp only at hSw); go_simp; (try with_reducible rfl)
        try go_frame
        refine takeD (i := 25) (oi := _) (v := ?_) (some 60) rfl rfl (by kernel_rfl) (by kernel_rfl) (by kernel_rfl) (fun _ _ _ h => h) (Or.inl ⟨by rfl, ?_⟩) (by assumption) ?_
        rotate_left
        · intro w hSw; (try dsimp only at hSw); go_simp; (try with_reducible rfl)
        try go_frame
        refine takeD (i := 26) (oi := _) (v := ?_) (some 61) rfl rfl (by kernel_rfl) (by kernel_rfl) (by kernel_rfl) (fun _ _ _ h => h) (Or.inl ⟨by rfl, ?_⟩) (by assumption) ?_
        rotate_left
        · intro w hSw; (try dsimp only at hSw); go_simp; (try with_reducible rfl)
        try go_frame
        refine takeD (i := 27) (oi := _) (v := ?_) (some 62) rfl rfl (by kernel_rfl) (by kernel_rfl) (by kernel_rfl) (fun _ _ _ h => h) (Or.inl ⟨by rfl, ?_⟩) (by assumption) ?_
        rotate_left
        · intro w hSw; (try dsimp only at hSw); go_simp; (try with_reducible rfl)
        try go_frame
        refine takeD (i := 28) (oi := _) (v := ?_) (some 63) rfl rfl (by kernel_rfl) (by kernel_rfl) (by kernel_rfl) (fun _ _ _ h => h) (Or.inl ⟨by rfl, ?_⟩) (by assumption) ?_
        rotate_left
        · intro w hSw; (try dsimp only at hSw); go_simp; (try with_reducible rfl)
        try go_frame
        as_aux_lemma =>
        refine takeD (i := 29) (oi := _) (v := ?_) (some 64) rfl rfl (by kernel_rfl) (by kernel_rfl) (by kernel_rfl) (fun _ _ _ h => h) (Or.inl ⟨by rfl, ?_⟩) (by assumption) ?_
        rotate_left
        · intro w hSw; (try dsimp only at hSw); go_simp; (try with_reducible rfl)
        try go_frame
        refine takeD (i := 30) (oi := _) (v := ?_) (some 65) rfl rfl (by kernel_rfl) (by kernel_rfl) (by kernel_rfl) (fun _ _ _ h => h) (Or.inl ⟨by rfl, ?_⟩) (by assumption) ?_
        rotate_left
        · intro w hSw; (try dsimp only at hSw); go_simp; (try with_reducible rfl)
        try go_frame
        refine takeD (i := 31) (oi := _) (v := ?_) (some 66) rfl rfl (by kernel_rfl) (by kernel_rfl) (by kernel_rfl) (fun _ _ _ h => h) (Or.inl ⟨by rfl, ?_⟩) (by assumption) ?_
        rotate_left
        · intro w hSw; (try dsimp only at hSw); go_simp; (try with_reducible rfl)
        try go_frame
        refine takeD (i := 32) (oi := _) (v := ?_) (some 67) rfl rfl (by kernel_rfl) (by kernel_rfl) (by kernel_rfl) (fun _ _ _ h => h) (Or.inl ⟨by rfl, ?_⟩) (by assumption) ?_
        rotate_left
        · intro w hSw; (try dsimp only at hSw); go_simp; (try with_reducible rfl)
        try go_frame
        refine takeD (i := 33) (oi := _) (v := ?_) (some 68) rfl rfl (by kernel_rfl) (by kernel_rfl) (by kernel_rfl) (fun _ _ _ h => h) (Or.inl ⟨by rfl, ?_⟩) (by assumption) ?_
        rotate_left
        · intro w hSw; (try dsimp only at hSw); go_simp; (try with_reducible rfl)
        try go_frame
        as_aux_lemma =>
        refine takeD (i := 34) (oi := _) (v := ?_) (some 69) rfl rfl (by kernel_rfl) (by kernel_rfl) (by kernel_rfl) (fun _ _ _ h => h) (Or.inl ⟨by rfl, ?_⟩) (by assumption) ?_
        rotate_left
        · intro w hSw; (try dsimp only at hSw); go_simp; (try with_reducible rfl)
        try go_frame
        refine takeD (i := 35) (oi := _) (v := ?_) (some 70) rfl rfl (by kernel_rfl) (by kernel_rfl) (by kernel_rfl) (fun _ _ _ h => h) (Or.inl ⟨by rfl, ?_⟩) (by assumption) ?_
        rotate_left
        · intro w hSw; (try dsimp only at hSw); go_simp; (try with_reducible rfl)
        try go_frame
        refine takeD (i := 36) (oi := _) (v := ?_) (some 71) rfl rfl (by kernel_rfl) (by kernel_rfl) (by kernel_rfl) (fun _ _ _ h => h) (Or.inl ⟨by rfl, ?_⟩) (by assumption) ?_
        rotate_left
        · intro w hSw; (try dsimp only at hSw); go_simp; (try with_reducible rfl)
        try go_frame
        refine takeD (i := 37) (oi := _) (v := ?_) (some 72) rfl rfl (by kernel_rfl) (by kernel_rfl) (by kernel_rfl) (fun _ _ _ h => h) (Or.inl ⟨by rfl, ?_⟩) (by assumption) ?_
        rotate_left
        · intro w hSw; (try dsimp only at hSw); go_simp; (try with_reducible rfl)
        try go_frame
        refine takeD (i := 38) (oi := _) (v := ?_) (some 73) rfl rfl (by kernel_rfl) (by kernel_rfl) (by kernel_rfl) (fun _ _ _ h => h) (Or.inl ⟨by rfl, ?_⟩) (by assumption) ?_
        rotate_left
        · intro w hSw; (try dsimp only at hSw); go_simp; (try with_reducible rfl)
        try go_frame
        as_aux_lemma =>
        refine takeD (i := 39) (oi := _) (v := ?_) (some 74) rfl rfl (by kernel_rfl) (by kernel_rfl) (by kernel_rfl) (fun _ _ _ h => h) (Or.inl ⟨by rfl, ?_⟩) (by assumption) ?_
        rotate_left
        · intro w hSw; (try dsimp only at hSw); go_simp; (try with_reducible rfl)
        try go_frame
        refine takeD (i := 40) (oi := _) (v := ?_) (some 75) rfl rfl (by kernel_rfl) (by kernel_rfl) (by kernel_rfl) (fun _ _ _ h => h) (Or.inl ⟨by rfl, ?_⟩) (by assumption) ?_
        rotate_left
        · intro w hSw; (try dsimp only at hSw); go_simp; (try with_reducible rfl)
        try go_frame
        refine takeD (i := 41) (oi := _) (v := ?_) (some 76) rfl rfl (by kernel_rfl) (by kernel_rfl) (by kernel_rfl) (fun _ _ _ h => h) (Or.inl ⟨by rfl, ?_⟩) (by assumption) ?_
        rotate_left
        · intro w hSw; (try dsimp only at hSw); go_simp; (try with_reducible rfl)
        try go_frame
        refine takeD (i := 42) (oi := _) (v := ?_) (some 77) rfl rfl (by kernel_rfl) (by kernel_rfl) (by kernel_rfl) (fun _ _ _ h => h) (Or.inl ⟨by rfl, ?_⟩) (by assumption) ?_
        rotate_left
        · intro w hSw; (try dsimp only at hSw); go_simp; (try with_reducible rfl)
        try go_frame
        refine takeD (i := 43) (oi := _) (v := ?_) (some 78) rfl rfl (by kernel_rfl) (by kernel_rfl) (by kernel_rfl) (fun _ _ _ h => h) (Or.inl ⟨by rfl, ?_⟩) (by assumption) ?_
        rotate_left
        · intro w hSw; (try dsimp only at hSw); go_simp; (try with_reducible rfl)
        try go_frame
        as_aux_lemma =>
        refine takeD (i := 44) (oi := _) (v := ?_) (some 79) rfl rfl (by kernel_rfl) (by kernel_rfl) (by kernel_rfl) (fun _ _ _ h => h) (Or.inl ⟨by rfl, ?_⟩) (by assumption) ?_
        rotate_left
        · intro w hSw; (try dsimp only at hSw); go_simp; (try with_reducible rfl)
        try go_frame
        refine takeD (i := 45) (oi := _) (v := ?_) (some 80) rfl rfl (by kernel_rfl) (by kernel_rfl) (by kernel_rfl) (fun _ _ _ h => h) (Or.inl ⟨by rfl, ?_⟩) (by assumption) ?_
        rotate_left
        · intro w hSw; (try dsimp only at hSw); go_simp; (try with_reducible rfl)
        try go_frame
        refine takeD (i := 46) (oi := _) (v := ?_) (some 81) rfl rfl (by kernel_rfl) (by kernel_rfl) (by kernel_rfl) (fun _ _ _ h => h) (Or.inl ⟨by rfl, ?_⟩) (by assumption) ?_
        rotate_left
        · intro w hSw; (try dsimp only at hSw); go_simp; (try with_reducible rfl)
        try go_frame
        refine takeD (i := 47) (oi := _) (v := ?_) (some 82) rfl rfl (by kernel_rfl) (by kernel_rfl) (by kernel_rfl) (fun _ _ _ h => h) (Or.inl ⟨by rfl, ?_⟩) (by assumption) ?_
        rotate_left
        · intro w hSw; (try dsimp only at hSw); go_simp; (try with_reducible rfl)
        try go_frame
        refine takeD (i := 48) (oi := _) (v := ?_) (some 83) rfl rfl (by kernel_rfl) (by kernel_rfl) (by kernel_rfl) (fun _ _ _ h => h) (Or.inl ⟨by rfl, ?_⟩) (by assumption) ?_
        rotate_left
        · intro w hSw; (try dsimp only at hSw); go_simp; (try with_reducible rfl)
        try go_frame
        as_aux_lemma =>
        refine takeD (i := 49) (oi := _) (v := ?_) (some 84) rfl rfl (by kernel_rfl) (by kernel_rfl) (by kernel_rfl) (fun _ _ _ h => h) (Or.inl ⟨by rfl, ?_⟩) (by assumption) ?_
        rotate_left
        · intro w hSw; (try dsimp only at hSw); go_simp; (try with_reducible rfl)
        try go_frame
        refine takeD (i := 50) (oi := _) (v := _) (some 85) rfl rfl (by kernel_rfl) (by kernel_rfl) (by kernel_rfl) (fun _ _ _ h => h) (yieldsIf_load_mid (by rfl) 23 (.tmp 1) rfl (w.heap.size) 0 rfl (bv Z0) _ (fun w hSw => hSw.1) ud rfl szZ) (by assumption) ?_
        try go_frame
        refine takeD (i := 52) (oi := _) (v := _) (some 87) rfl rfl (by kernel_rfl) (by kernel_rfl) (by kernel_rfl) (fun _ _ _ h => h) (yieldsIf_load_mid (by rfl) 23 (.tmp 1) rfl (w.heap.size) 0 rfl (bv Z0) _ (fun w hSw => hSw.1) ud rfl szZ) (by assumption) ?_
        try go_frame
        refine wpAnyH_ready (rs := [51]) (by kernel_rfl) (by simp) ?_
        refine AllReadyH.cons (o := _) rfl (fun K hK => ?_) AllReadyH.nil
        go_simp
        (go_at_call 14; refine (HP1.out _ (LD.out)).mono ?_; rintro e w8 ⟨rfl, hB8⟩)
        refine hK.out _ _ (sb HS12.out hB8) (fun hHeld => ?_)
        clear hK K
        try (show wpAnyH _ _ _ _ _ _ _ (Act.put _ (some 86) _) _)
        try go_frame
        refine wpAnyH_ready (rs := [53]) (by kernel_rfl) (by simp) ?_
        refine AllReadyH.cons (o := _) rfl (fun K hK => ?_) AllReadyH.nil
        go_simp
        (go_at_call 14; refine (HP2.out _ (LD.out.below hB8)).mono ?_; rintro e w9 ⟨rfl, hB9⟩)
        refine hK.out _ _ (sb HS12.out (bt hB8 hB9)) (fun hHeld => ?_)
        clear hK K
        try (show wpAnyH _ _ _ _ _ _ _ (Act.put _ (some 88) _) _)
        try go_frame
        as_aux_lemma =>
        refine takeD (i := 54) (oi := _) (v := ?_) (some 89) rfl rfl (by kernel_rfl) (by kernel_rfl) (by kernel_rfl) (fun _ _ _ h => h) (Or.inl ⟨by rfl, ?_⟩) (by assumption) ?_
        rotate_left
        · intro w hSw; (try dsimp only at hSw); go_simp; (try with_reducible rfl)
        try go_frame
        refine takeD (i := 55) (oi := _) (v := ?_) (some 90) rfl rfl (by kernel_rfl) (by kernel_rfl) (by kernel_rfl) (fun _ _ _ h => h) (Or.inl ⟨by rfl, ?_⟩) (by assumption) ?_
        rotate_left
        · intro w hSw; (try dsimp only at hSw); go_simp; (try with_reducible rfl)
        try go_frame
        refine takeD (i := 56) (oi := _) (v := ?_) (some 0) rfl rfl (by kernel_rfl) (by kernel_rfl) (by kernel_rfl) (fun _ _ _ h => h) (Or.inl ⟨by rfl, ?_⟩) (by assumption) ?_
        rotate_left
        · intro w hSw; (try dsimp only at hSw); go_simp; (try with_reducible rfl)
        try go_frame
        refine wpAnyH_done (by kernel_rfl) ?_ _

        go_wp2_with fail
        go_ret
        exact ⟨rfl, bt hBf (bt hBq (bt hB8 hB9))⟩
end Go.Proofs.YtpgakdioaebikaaDoor
