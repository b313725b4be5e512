/- WotsAntichain. -/
import Derived.Test.YtpgakdioaebikaaDoorWotsL
import Derived.BigQuiet
import Derived.Deep.QuietTactic
namespace Go.Proofs.YtpgakdioaebikaaDoor
open Go.RowKit Go.Shelf

theorem below_dN {w : World} {n : Nat} (m : Nat) {w1 : World} (h : Below n w w1) : Below n w (w1.drewN m) := ⟨h.os, h.tape, h.output, h.size, h.block⟩
theorem wpList_wantedB {P : Program} {ops : Array Oper} {rest : List Oper} {o : Oper} {a : Act} {Q : Exit → Act → World → Prop} {w : World} (hw : Region.wanted o (yielded ops a.tmps) = true) (h : wpList P ops Q ({ o with guard := none } :: rest) a w) : wpList P ops Q (o :: rest) a w := by
  unfold wpList at h ⊢
  rw [if_pos hw]
  rw [if_pos (by simp [Region.wanted])] at h
  exact h
/-- Some digit among the first k of a is less than that of b. -/
def lessk (a b : List UInt8) (k : Nat) : Bool := (List.range k).any fun j => decide (wdg a j < wdg b j)
theorem lessk_succ (a b : List UInt8) (k : Nat) : lessk a b (k + 1) = (lessk a b k || decide (wdg a k < wdg b k)) := by simp [lessk, List.range_succ]
theorem lessk_all (a b : List UInt8) (ha : a.length = 16) (hb : b.length = 16) : lessk a b 68 = !decide (a = b) := by
  by_cases h : a = b
  · subst h
    simp [lessk]
  · obtain ⟨k, hk, hl⟩ := antichain a b ha hb h
    have h1 : lessk a b 68 = true := List.any_eq_true.2 ⟨k, List.mem_range.2 hk, decide_eq_true hl⟩
    rw [h1, decide_eq_false h]; rfl

set_option maxHeartbeats 4000000 in
set_option maxRecDepth 100000 in
theorem antichain_any (a b : List UInt8) (w : World) (ha : a.length = 16) (hb : b.length = 16) (hL : Laid w) :
    Calls Tryd.prog 6 #[.agg (bv a).toArray, .agg (bv b).toArray] w fun e w' => e = .returned (.bool true) ∧ Below w.heap.size w w' := by
  have hB0 : Below w.heap.size w ((w.alloc (.cells (bv a).toArray 23)).alloc (.cells (bv b).toArray 23)) := bt (below_al _ _) (below_al _ _)
  have HG0 : Hid (((w.alloc (.cells (bv a).toArray 23)).alloc (.cells (bv b).toArray 23)).heap[w.heap.size]? = some (.cells (bv a).toArray 23 (0, 0))) := (heap_alloc_old _ _ (by simp)).trans (heap_alloc_new _ _)
  have HG1 : Hid (((w.alloc (.cells (bv a).toArray 23)).alloc (.cells (bv b).toArray 23)).heap[w.heap.size + 1]? = some (.cells (bv b).toArray 23 (0, 0))) := heap_at _ _ _ (by simp)
  have ud := Tryd.underlying23
  have sza : (Tryd.prog.info? 23).map (·.size) = some (bv a).length := by rw [bv_length, ha]; exact size32
  have szb : (Tryd.prog.info? 23).map (·.size) = some (bv b).length := by rw [bv_length, hb]; exact size32
  go_enter Tryd.func6, Tryd.ntmps6
  go_upto_region 1 with (fail)
  obtain ⟨wd, hwd⟩ : ∃ x, x = ((w.alloc (.cells (bv a).toArray 23)).alloc (.cells (bv b).toArray 23)) := ⟨_, rfl⟩
  rw [← hwd] at hB0 HG0 HG1 ⊢
  clear hwd
  go_cut [5, 6] from 5 (fun x y W => ∃ ga gb, x = .slice (some ⟨ga, 0, none⟩) 68 68 ∧ y = .slice (some ⟨gb, 0, none⟩) 68 68 ∧ W.heap[ga]? = some (.cells (iv64 (wdigits a)).toArray 43 (0, 0)) ∧ W.heap[gb]? = some (.cells (iv64 (wdigits b)).toArray 43 (0, 0)) ∧ Below wd.heap.size wd W)
  case first =>
   as_aux_lemma =>
      have hBq : Below wd.heap.size wd wd.drew := Below.drew (Below.refl _ _)
      have hq : Below wd.drew.heap.size wd.drew wd.drew := Below.refl _ _
      have RR := Lib.hid (ran2 ⟨row_range HG0.out, row_range HG1.out⟩ hBq : wd.drew.rangeAt w.heap.size 0 (bv a) ∧ wd.drew.rangeAt (w.heap.size + 1) 0 (bv b))
      refine wp_region_held_drew (S := fun W => W.rangeAt w.heap.size 0 (bv a) ∧ W.rangeAt (w.heap.size + 1) 0 (bv b)) (by kernel_rfl) RR.out (fun hHeld => ?_)
      try go_frame
      refine takeD (i := 0) (oi := _) (v := _) (some 10) rfl rfl (by kernel_rfl) (by kernel_rfl) (by kernel_rfl) (fun _ _ _ h => h) (yieldsIf_load_mid (by rfl) 23 (.tmp 2) rfl (w.heap.size) 0 rfl (bv a) _ (fun w hSw => hSw.1) ud rfl sza) (by assumption) ?_
      try go_frame
      refine takeD (i := 2) (oi := _) (v := _) (some 12) rfl rfl (by kernel_rfl) (by kernel_rfl) (by kernel_rfl) (fun _ _ _ h => h) (yieldsIf_load_mid (by rfl) 23 (.tmp 3) rfl (w.heap.size + 1) 0 rfl (bv b) _ (fun w hSw => hSw.2) ud rfl szb) (by assumption) ?_
      try go_frame
      refine wpAnyH_ready (rs := [1]) (by kernel_rfl) (by simp) ?_
      refine (AllReadyH.cons (o := _) rfl (fun K hK => ?_) AllReadyH.nil)
      go_simp
      (go_at_call 10; refine (digits_any a _ ha).mono ?_; rintro e w3 ⟨ga, rfl, _, hga, hB3⟩)
      have hq := bt hq hB3
      refine hK.out _ _ (ran2 RR.out hq) (fun hHeld => ?_)
      clear hK K
      try (show wpAnyH _ _ _ _ _ _ _ (Act.put _ (some 11) _) _)
      try go_frame
      refine wpAnyH_ready (rs := [3]) (by kernel_rfl) (by simp) ?_
      refine (AllReadyH.cons (o := _) rfl (fun K hK => ?_) AllReadyH.nil)
      go_simp
      (go_at_call 10; refine (digits_any b _ hb).mono ?_; rintro e w4 ⟨gb, rfl, _, hgb, hB4⟩)
      have hq := bt hq hB4
      refine hK.out _ _ (ran2 RR.out hq) (fun hHeld => ?_)
      clear hK K
      try (show wpAnyH _ _ _ _ _ _ _ (Act.put _ (some 13) _) _)
      try go_frame
      refine takeD (i := 4) (oi := _) (v := ?_) (some 5) rfl rfl (by kernel_rfl) (by kernel_rfl) (by kernel_rfl) (fun _ _ _ h => h) (Or.inl ⟨by rfl, ?_⟩) (by assumption) ?_
      rotate_left
      · intro w hSw; (try dsimp only at hSw); go_simp; (try with_reducible rfl)
      try go_frame
      refine takeD (i := 5) (oi := _) (v := ?_) (some 6) rfl rfl (by kernel_rfl) (by kernel_rfl) (by kernel_rfl) (fun _ _ _ h => h) (Or.inl ⟨by rfl, ?_⟩) (by assumption) ?_
      rotate_left
      · intro w hSw; (try dsimp only at hSw); go_simp; (try with_reducible rfl)
      try go_frame
      refine wpAnyH_done (by kernel_rfl) ?_ _
      go_wp2_with fail
      go_meet
      exact ⟨ga, gb, rfl, rfl, block_below hga hB4, hgb, bt hBq hq⟩
  case rest =>
   as_aux_lemma =>
      obtain ⟨ga, gb, rfl, rfl, hga, hgb, hBc⟩ := hcut
      have hBw := bt hB0 hBc
      have HA := Lib.hid hga
      have HB := Lib.hid hgb
      have HGa := Lib.hid (block_below HG0.out hBc)
      have HGb := Lib.hid (block_below HG1.out hBc)
      have hla := lessk_all a b ha hb
      have hlb := lessk_all b a hb ha
      have HLA := Lib.hid hla
      have HLB := Lib.hid hlb
      clear hga hgb HG0 HG1 hla hlb sza szb
      go_wp2
      go_loopw [7, 8, 9, 21] (fun x y _ i wr => ∃ k : Nat, k ≤ 68 ∧ i = .int .i64 k ∧ x = .bool (lessk a b k) ∧ y = .bool (lessk b a k) ∧ Below wc.heap.size wc wr) (fun _ _ _ i _ => 68 - (intOf i).toNat)
      case atStart => exact ⟨0, by omega, rfl, rfl, rfl, Below.refl _ _⟩
      case round =>
        obtain ⟨k, hk, rfl, rfl, rfl, hG⟩ := hrel
        by_cases hlt : k < 68
        · have c0 : wr.cell? ⟨ga, k, none⟩ = _ := cell_row (block_below HA.out hG) (iv64_at _ _ _ (wdigits_at a k hlt))
          have c1 : wr.cell? ⟨gb, k, none⟩ = _ := cell_row (block_below HB.out hG) (iv64_at _ _ _ (wdigits_at b k hlt))
          have s0 := Lib.hid (lessk_succ a b k)
          have s1 := Lib.hid (lessk_succ b a k)
          obtain ⟨x, hx⟩ : ∃ x, x = wdg a k := ⟨_, rfl⟩
          obtain ⟨y, hy⟩ : ∃ y, y = wdg b k := ⟨_, rfl⟩
          rw [← hx] at c0 s0 s1
          rw [← hy] at c1 s0 s1
          obtain ⟨p, hp⟩ : ∃ p, p = lessk a b k := ⟨_, rfl⟩
          obtain ⟨q, hqq⟩ : ∃ q, q = lessk b a k := ⟨_, rfl⟩
          rw [← hp] at s0 ⊢
          rw [← hqq] at s1 ⊢
          have hki : (0 : Int) ≤ (k : Int) ∧ (k : Int) < 68 := by omega
          clear hx hy hp hqq
          cases p
          all_goals cases q
          all_goals
            go_upto_region 8 with (fail)
            go_quiet (fail)
            go_upto_region 9 with (fail)
            go_quiet (fail)
            go_wp2
            go_roundw
            case rel => exact ⟨k + 1, by omega, by simp, by rw [s0.out]; simp, by rw [s1.out]; simp, by first | exact below_dN _ (below_dN _ hG) | exact below_dN _ hG⟩
            case measure => simp [intOf]; omega
        · obtain rfl : k = 68 := by omega
          have hBr := bt hBw hG
          have HGa' := Lib.hid (block_below HGa.out hG)
          have HGb' := Lib.hid (block_below HGb.out hG)
          have hlr := Lib.hid (hL.below hBr)
          have hne := fun W => run_neq16 W a b ha hb
          have hg := guard16
          have hal : (bv a).length = 16 := by rw [bv_length, ha]
          have hbl : (bv b).length = 16 := by rw [bv_length, hb]
          rw [HLA.out, HLB.out]
          have hsym : decide (b = a) = decide (a = b) := decide_eq_decide.2 ⟨Eq.symm, Eq.symm⟩
          rw [hsym]
          obtain ⟨d, hd⟩ : ∃ d, d = decide (a = b) := ⟨_, rfl⟩
          rw [← hd] at hne ⊢
          clear hd hsym
          cases d
          all_goals
            simp only [Bool.not_true, Bool.not_false] at hne ⊢
            go_wp2_with (first
              | (go_at_call 9; go_must (refine (sanity_any _ hlr.out).mono ?_); rintro e w6 ⟨rfl, hB6⟩; have HA6 := Lib.hid (block_below HGa'.out hB6); have HB6 := Lib.hid (block_below HGb'.out hB6))
              | (refine wpList_wantedB rfl ?_; refine wpList_loadB rfl 23 (.tmp 2) rfl ud size32 HA6.out hal rfl rfl ?_)
              | (refine wpList_wantedB rfl ?_; refine wpList_loadB rfl 23 (.tmp 3) rfl ud size32 HB6.out hbl rfl rfl ?_))
            go_ret
            exact ⟨rfl, bt hBr hB6⟩
end Go.Proofs.YtpgakdioaebikaaDoor
