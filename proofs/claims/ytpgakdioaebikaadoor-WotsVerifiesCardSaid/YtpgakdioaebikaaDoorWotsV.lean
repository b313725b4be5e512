/- WotsVerifies. -/
import Derived.Test.YtpgakdioaebikaaDoorWotsL
namespace Go.Proofs.YtpgakdioaebikaaDoor
open Go.RowKit Go.Shelf

/-- A whole row is stored in a region that draws its order. -/
theorem step_storeB {P : Program} {ops : Array Oper} {o : Oper} {a : Act} {w : World} {K : Act → World → Prop} {Q : Exit → Act → World → Prop} {E : Prop} (hgd : o.guard = none) (ty : TypeId) (x y : Operand) (ho : o.op = .store ty x y) {n : Nat} (hi : (P.info? ty).map (·.size) = some n)
    {g : Nat} {t : TypeId} {old cs : List Value} (hg : w.heap[g]? = some (.cells old.toArray t (0, 0))) (h1 : ∀ v ∈ cs, v.oneCell' = true) (hn : cs.length = n) (hold : old.length = n) (hx : a.eval x = .pointer (some ⟨g, 0, none⟩)) (hy : a.eval y = .agg cs.toArray)
    (h : ∀ w1, w1.heap[g]? = some (.cells cs.toArray t (0, 0)) → w.grownBy w1 (some g) → K (a.put o.dst undef) w1) : if Region.wanted o (yielded ops a.tmps) = true then Oper.wp P o a w K Q else E := by
  have hr := run_storeVar_row (P := P) w g t ty old.toArray cs.toArray hg (by rw [hi, ← hn]; simp) (by simp; omega) (by simpa using h1)
  rw [if_pos (by simp [Region.wanted, hgd])]
  unfold Oper.wp execOp
  simp only [ho, hx, hy, Instr.storeAt, Instr.sureAddr, Sem.run_bind, Sem.run_pure, Result.andThen_ok, hr]
  exact h _ (setRow_heap w g _ _ t _ hg) ⟨rfl, rfl, rfl, by simp, fun k _ hk => setRow_other w g k _ (fun e => hk (by rw [e]))⟩
theorem ran2g {w w1 : World} {g g' : Nat} {c c' : List Value} {row : Option Nat} (h : w.rangeAt g 0 c ∧ w.rangeAt g' 0 c') (hg : w.grownBy w1 row) (h1 : some g ≠ row) (h2 : some g' ≠ row) : w1.rangeAt g 0 c ∧ w1.rangeAt g' 0 c' := ⟨range_grown h.1 hg h1, range_grown h.2 hg h2⟩
theorem recover_sign (seed : List UInt8) (index : Int) (m : List UInt8) (A : Option Addr) (c : Nat) (w : World) (hm : m.length = 16) (hr : RdF bv 16 w A 68 (wsign seed index m)) (hL : Laid w) :
    Calls Tryd.prog 12 #[.agg (bv m).toArray, .slice A 68 c] w fun e w' => e = .returned (.tuple #[.agg (bv (wpublic seed index)).toArray, .int .i64 0]) ∧ Below w.heap.size w w' := by
  have h := recover_any m A 68 c (wsign seed index m) w hm hr (by omega) hL
  rw [if_pos rfl, if_pos rfl, wrecover_sign] at h
  exact h

set_option maxHeartbeats 4000000 in
set_option maxRecDepth 100000 in
theorem verifies_any (seed : List UInt8) (index : Int) (m : List UInt8) (w : World) (hs : seed.length = 16) (mi : (Lit.int .i64 index).wf = true) (hm : m.length = 16) (hL : Laid w) :
    Calls Tryd.prog 4 #[.agg (bv seed).toArray, .int .i64 index, .agg (bv m).toArray] w fun e w' => e = .returned (.bool true) ∧ Below w.heap.size w w' := by
  obtain ⟨h0, h1⟩ : -9223372036854775808 ≤ index ∧ index < 9223372036854775808 := by
    simp [Lit.wf, IntKind.min, IntKind.max, IntKind.signed, IntKind.bits] at mi
    omega
  have hB0 : Below w.heap.size w ((w.alloc (.cells (bv seed).toArray 23)).alloc (.cells (bv m).toArray 23)) := bt (below_al _ _) (below_al _ _)
  have HG0 : Hid (((w.alloc (.cells (bv seed).toArray 23)).alloc (.cells (bv m).toArray 23)).heap[w.heap.size]? = some (.cells (bv seed).toArray 23 (0, 0))) := (heap_alloc_old _ _ (by simp)).trans (heap_alloc_new _ _)
  have HG1 : Hid (((w.alloc (.cells (bv seed).toArray 23)).alloc (.cells (bv m).toArray 23)).heap[w.heap.size + 1]? = some (.cells (bv m).toArray 23 (0, 0))) := heap_at _ _ _ (by simp)
  have ud := Tryd.underlying23
  have szm : (Tryd.prog.info? 23).map (·.size) = some (bv m).length := by rw [bv_length, hm]; exact size32
  have szs : (Tryd.prog.info? 23).map (·.size) = some (bv seed).length := by rw [bv_length, hs]; exact size32
  have hrc := fun A c w hr hl => recover_sign seed index m A c w hm hr hl
  have hpb := fun w hl => public_any seed index w hs h0 h1 hl
  have hPl : (wpublic seed index).length = 16 := wkey_length _
  generalize wpublic seed index = P at *
  have HRC := Lib.hid hrc
  have HPB := Lib.hid hpb
  have szP : (Tryd.prog.info? 23).map (·.size) = some (bv P).length := by rw [bv_length, hPl]; exact size32
  clear hrc hpb mi
  go_enter Tryd.func4, Tryd.ntmps4
  go_upto_region 1 with (fail)
  obtain ⟨wd, hwd⟩ : ∃ x, x = ((w.alloc (.cells (bv seed).toArray 23)).alloc (.cells (bv m).toArray 23)) := ⟨_, rfl⟩
  rw [← hwd] at hB0 HG0 HG1 ⊢
  have hzd : wd.heap.size = w.heap.size + 2 := by rw [hwd]; simp
  clear hwd
  go_cut [7, 8] from 7 (fun v e W => ∃ kb, v = .pointer (some ⟨kb, 0, none⟩) ∧ e = .int .i64 0 ∧ W.heap[kb]? = some (.cells (bv P).toArray 23 (0, 0)) ∧ Below wd.heap.size wd W)
  case first =>
   as_aux_lemma =>
      have hBq : Below wd.heap.size wd wd.drew := Below.drew (Below.refl _ _)
      have hq : Below wd.drew.heap.size wd.drew wd.drew := Below.refl _ _
      have HDZ := Lib.hid (show wd.drew.heap.size = w.heap.size + 2 from hzd)
      have RR := Lib.hid (ran2 ⟨row_range HG0.out, row_range HG1.out⟩ hBq : wd.drew.rangeAt w.heap.size 0 (bv seed) ∧ wd.drew.rangeAt (w.heap.size + 1) 0 (bv m))
      have LD := Lib.hid ((hL.below hB0).below hBq)
      have HZD := Lib.hid hzd
      clear hzd szP
      refine wp_region_held_drew (S := fun W => W.rangeAt w.heap.size 0 (bv seed) ∧ W.rangeAt (w.heap.size + 1) 0 (bv m)) (by kernel_rfl) RR.out (fun hHeld => ?_)
      try go_frame
      refine takeD (i := 0) (oi := _) (v := _) (some 10) rfl rfl (by kernel_rfl) (by kernel_rfl) (by kernel_rfl) (fun _ _ _ h => h) (yieldsIf_load_mid (by rfl) 23 (.tmp 5) rfl (w.heap.size + 1) 0 rfl (bv m) _ (fun w hSw => hSw.2) ud rfl szm) (by assumption) ?_
      try go_frame
      refine takeD (i := 1) (oi := _) (v := _) (some 11) rfl rfl (by kernel_rfl) (by kernel_rfl) (by kernel_rfl) (fun _ _ _ h => h) (yieldsIf_load_mid (by rfl) 23 (.tmp 3) rfl (w.heap.size) 0 rfl (bv seed) _ (fun w hSw => hSw.1) ud rfl szs) (by assumption) ?_
      try go_frame
      refine takeD (i := 2) (oi := _) (v := ?_) (some 12) rfl rfl (by kernel_rfl) (by kernel_rfl) (by kernel_rfl) (fun _ _ _ h => h) (Or.inl ⟨by rfl, ?_⟩) (by assumption) ?_
      rotate_left
      · intro w hSw; (try dsimp only at hSw); go_simp; (try with_reducible rfl)
      try go_frame
      refine takeD (i := 3) (oi := _) (v := _) (some 13) rfl rfl (by kernel_rfl) (by kernel_rfl) (by kernel_rfl) (fun _ _ _ h => h) (yieldsIf_load_mid (by rfl) 23 (.tmp 5) rfl (w.heap.size + 1) 0 rfl (bv m) _ (fun w hSw => hSw.2) ud rfl szm) (by assumption) ?_
      try go_frame
      refine wpAnyH_ready (rs := [4, 9]) (by kernel_rfl) (by simp) ?_
      refine (AllReadyH.cons (o := _) rfl (fun K hK => ?_) (AllReadyH.cons (o := _) rfl (fun K hK => ?_) AllReadyH.nil))
      · as_aux_lemma =>
        go_simp
        (go_at_call 17; refine (sign_any seed index m _ hs h0 h1 hm (LD.out.below hq)).mono ?_; rintro e w3 ⟨A3, c3, rfl, hS3, hB3⟩)
        have hq := bt hq hB3
        refine hK.out _ _ (ran2 RR.out hq) (fun hHeld => ?_)
        clear hK K
        try (show wpAnyH _ _ _ _ _ _ _ (Act.put _ (some 14) _) _)
        try go_frame
        refine wpAnyH_ready (rs := [5, 9]) (by kernel_rfl) (by simp) ?_
        refine (AllReadyH.cons (o := _) rfl (fun K hK => ?_) (AllReadyH.cons (o := _) rfl (fun K hK => ?_) AllReadyH.nil))
        · as_aux_lemma =>
          go_simp
          (go_at_call 12; refine (HRC.out A3 c3 _ (by first | exact hS3 | exact hS3.below (below_al _ _)) (LD.out.below hq)).mono ?_; rintro e w4 ⟨rfl, hB4⟩)
          have hq := bt hq hB4
          refine hK.out _ _ (ran2 RR.out hq) (fun hHeld => ?_)
          clear hK K
          try (show wpAnyH _ _ _ _ _ _ _ (Act.put _ (some 15) _) _)
          try go_frame
          refine takeD (i := 6) (oi := _) (v := ?_) (some 9) rfl rfl (by kernel_rfl) (by kernel_rfl) (by kernel_rfl) (fun _ _ _ h => h) (Or.inl ⟨by rfl, ?_⟩) (by assumption) ?_
          rotate_left
          · intro w hSw; (try dsimp only at hSw); go_simp; (try with_reducible rfl)
          try go_frame
          refine takeD (i := 7) (oi := _) (v := ?_) (some 16) rfl rfl (by kernel_rfl) (by kernel_rfl) (by kernel_rfl) (fun _ _ _ h => h) (Or.inl ⟨by rfl, ?_⟩) (by assumption) ?_
          rotate_left
          · intro w hSw; (try dsimp only at hSw); go_simp; (try with_reducible rfl)
          try go_frame
          refine takeD (i := 8) (oi := _) (v := ?_) (some 17) rfl rfl (by kernel_rfl) (by kernel_rfl) (by kernel_rfl) (fun _ _ _ h => h) (Or.inl ⟨by rfl, ?_⟩) (by assumption) ?_
          rotate_left
          · intro w hSw; (try dsimp only at hSw); go_simp; (try with_reducible rfl)
          try go_frame
          refine wpAnyH_ready (rs := [9]) (by kernel_rfl) (by simp) ?_
          refine (AllReadyH.cons (o := _) rfl (fun K hK => ?_) AllReadyH.nil)
          go_simp
          have hle := hq.size
          have hq := bt hq (below_al _ (.cells Z16.toArray 23))
          (first | have hD := heap_alloc_new w4 (.cells Z16.toArray 23) | have hD := heap_alloc_new w3 (.cells Z16.toArray 23) | have hD := (heap_alloc_new wd.drew (.cells Z16.toArray 23) : (wd.drew.alloc (.cells Z16.toArray 23)).heap[wd.heap.size]? = some (.cells Z16.toArray 23 (0, 0))))
          refine hK.out _ _ (ran2 RR.out hq) (fun hHeld => ?_)
          clear hK K
          try (show wpAnyH _ _ _ _ _ _ _ (Act.put _ (some 7) _) _)
          try go_frame
          refine wpAnyH_ready (rs := [10]) (by kernel_rfl) (by simp) ?_
          refine (AllReadyH.cons (o := _) rfl (fun K hK => ?_) AllReadyH.nil)
          refine step_storeB rfl 23 (.tmp 7) (.tmp 16) rfl size32 hD (bv_one P) (by rw [bv_length, hPl]) (by rfl) rfl rfl ?_
          intro w5 h5 hg5
          have hq5 := hq.grown hg5 (by have := hq.size; omega) (fun q e => by cases e; have := HDZ.out; have := HZD.out; omega)
          have rr5 := Lib.hid (ran2g (ran2 RR.out hq) hg5 (by have := HDZ.out; have := HZD.out; simp; omega) (by have := HDZ.out; have := HZD.out; simp; omega))
          refine hK.out _ _ rr5.out (fun hHeld => ?_)
          clear hK K
          try go_frame
          refine takeD (i := 11) (oi := _) (v := ?_) (some 8) rfl rfl (by kernel_rfl) (by kernel_rfl) (by kernel_rfl) (fun _ _ _ h => h) (Or.inl ⟨by rfl, ?_⟩) (by assumption) ?_
          rotate_left
          · intro w hSw; (try dsimp only at hSw); go_simp; (try with_reducible rfl)
          try go_frame
          refine wpAnyH_done (by kernel_rfl) ?_ _
          go_wp2_with fail
          go_meet
          exact ⟨_, rfl, rfl, h5, bt hBq hq5⟩
        · as_aux_lemma =>
          go_simp
          have hle := hq.size
          have hq := bt hq (below_al _ (.cells Z16.toArray 23))
          (first | have hD := heap_alloc_new w4 (.cells Z16.toArray 23) | have hD := heap_alloc_new w3 (.cells Z16.toArray 23) | have hD := (heap_alloc_new wd.drew (.cells Z16.toArray 23) : (wd.drew.alloc (.cells Z16.toArray 23)).heap[wd.heap.size]? = some (.cells Z16.toArray 23 (0, 0))))
          refine hK.out _ _ (ran2 RR.out hq) (fun hHeld => ?_)
          clear hK K
          try (show wpAnyH _ _ _ _ _ _ _ (Act.put _ (some 7) _) _)
          try go_frame
          refine wpAnyH_ready (rs := [5]) (by kernel_rfl) (by simp) ?_
          refine (AllReadyH.cons (o := _) rfl (fun K hK => ?_) AllReadyH.nil)
          go_simp
          (go_at_call 12; refine (HRC.out A3 c3 _ (by first | exact hS3 | exact hS3.below (below_al _ _)) (LD.out.below hq)).mono ?_; rintro e w4 ⟨rfl, hB4⟩)
          have hq := bt hq hB4
          have hD := block_below hD hB4
          refine hK.out _ _ (ran2 RR.out hq) (fun hHeld => ?_)
          clear hK K
          try (show wpAnyH _ _ _ _ _ _ _ (Act.put _ (some 15) _) _)
          try go_frame
          refine takeD (i := 6) (oi := _) (v := ?_) (some 9) rfl rfl (by kernel_rfl) (by kernel_rfl) (by kernel_rfl) (fun _ _ _ h => h) (Or.inl ⟨by rfl, ?_⟩) (by assumption) ?_
          rotate_left
          · intro w hSw; (try dsimp only at hSw); go_simp; (try with_reducible rfl)
          try go_frame
          refine takeD (i := 7) (oi := _) (v := ?_) (some 16) rfl rfl (by kernel_rfl) (by kernel_rfl) (by kernel_rfl) (fun _ _ _ h => h) (Or.inl ⟨by rfl, ?_⟩) (by assumption) ?_
          rotate_left
          · intro w hSw; (try dsimp only at hSw); go_simp; (try with_reducible rfl)
          try go_frame
          refine takeD (i := 8) (oi := _) (v := ?_) (some 17) rfl rfl (by kernel_rfl) (by kernel_rfl) (by kernel_rfl) (fun _ _ _ h => h) (Or.inl ⟨by rfl, ?_⟩) (by assumption) ?_
          rotate_left
          · intro w hSw; (try dsimp only at hSw); go_simp; (try with_reducible rfl)
          try go_frame
          refine wpAnyH_ready (rs := [10]) (by kernel_rfl) (by simp) ?_
          refine (AllReadyH.cons (o := _) rfl (fun K hK => ?_) AllReadyH.nil)
          refine step_storeB rfl 23 (.tmp 7) (.tmp 16) rfl size32 hD (bv_one P) (by rw [bv_length, hPl]) (by rfl) rfl rfl ?_
          intro w5 h5 hg5
          have hq5 := hq.grown hg5 (by have := hq.size; omega) (fun q e => by cases e; have := HDZ.out; have := HZD.out; omega)
          have rr5 := Lib.hid (ran2g (ran2 RR.out hq) hg5 (by have := HDZ.out; have := HZD.out; simp; omega) (by have := HDZ.out; have := HZD.out; simp; omega))
          refine hK.out _ _ rr5.out (fun hHeld => ?_)
          clear hK K
          try go_frame
          refine takeD (i := 11) (oi := _) (v := ?_) (some 8) rfl rfl (by kernel_rfl) (by kernel_rfl) (by kernel_rfl) (fun _ _ _ h => h) (Or.inl ⟨by rfl, ?_⟩) (by assumption) ?_
          rotate_left
          · intro w hSw; (try dsimp only at hSw); go_simp; (try with_reducible rfl)
          try go_frame
          refine wpAnyH_done (by kernel_rfl) ?_ _
          go_wp2_with fail
          go_meet
          exact ⟨_, rfl, rfl, h5, bt hBq hq5⟩
      · as_aux_lemma =>
        go_simp
        have hle := hq.size
        have hq := bt hq (below_al _ (.cells Z16.toArray 23))
        (first | have hD := heap_alloc_new w4 (.cells Z16.toArray 23) | have hD := heap_alloc_new w3 (.cells Z16.toArray 23) | have hD := (heap_alloc_new wd.drew (.cells Z16.toArray 23) : (wd.drew.alloc (.cells Z16.toArray 23)).heap[wd.heap.size]? = some (.cells Z16.toArray 23 (0, 0))))
        refine hK.out _ _ (ran2 RR.out hq) (fun hHeld => ?_)
        clear hK K
        try (show wpAnyH _ _ _ _ _ _ _ (Act.put _ (some 7) _) _)
        try go_frame
        refine wpAnyH_ready (rs := [4]) (by kernel_rfl) (by simp) ?_
        refine (AllReadyH.cons (o := _) rfl (fun K hK => ?_) AllReadyH.nil)
        go_simp
        (go_at_call 17; refine (sign_any seed index m _ hs h0 h1 hm (LD.out.below hq)).mono ?_; rintro e w3 ⟨A3, c3, rfl, hS3, hB3⟩)
        have hq := bt hq hB3
        have hD := block_below hD hB3
        refine hK.out _ _ (ran2 RR.out hq) (fun hHeld => ?_)
        clear hK K
        try (show wpAnyH _ _ _ _ _ _ _ (Act.put _ (some 14) _) _)
        try go_frame
        refine wpAnyH_ready (rs := [5]) (by kernel_rfl) (by simp) ?_
        refine (AllReadyH.cons (o := _) rfl (fun K hK => ?_) AllReadyH.nil)
        go_simp
        (go_at_call 12; refine (HRC.out A3 c3 _ (by first | exact hS3 | exact hS3.below (below_al _ _)) (LD.out.below hq)).mono ?_; rintro e w4 ⟨rfl, hB4⟩)
        have hq := bt hq hB4
        have hD := block_below hD hB4
        refine hK.out _ _ (ran2 RR.out hq) (fun hHeld => ?_)
        clear hK K
        try (show wpAnyH _ _ _ _ _ _ _ (Act.put _ (some 15) _) _)
        try go_frame
        refine takeD (i := 6) (oi := _) (v := ?_) (some 9) rfl rfl (by kernel_rfl) (by kernel_rfl) (by kernel_rfl) (fun _ _ _ h => h) (Or.inl ⟨by rfl, ?_⟩) (by assumption) ?_
        rotate_left
        · intro w hSw; (try dsimp only at hSw); go_simp; (try with_reducible rfl)
        try go_frame
        refine takeD (i := 7) (oi := _) (v := ?_) (some 16) rfl rfl (by kernel_rfl) (by kernel_rfl) (by kernel_rfl) (fun _ _ _ h => h) (Or.inl ⟨by rfl, ?_⟩) (by assumption) ?_
        rotate_left
        · intro w hSw; (try dsimp only at hSw); go_simp; (try with_reducible rfl)
        try go_frame
        refine takeD (i := 8) (oi := _) (v := ?_) (some 17) rfl rfl (by kernel_rfl) (by kernel_rfl) (by kernel_rfl) (fun _ _ _ h => h) (Or.inl ⟨by rfl, ?_⟩) (by assumption) ?_
        rotate_left
        · intro w hSw; (try dsimp only at hSw); go_simp; (try with_reducible rfl)
        try go_frame
        refine wpAnyH_ready (rs := [10]) (by kernel_rfl) (by simp) ?_
        refine (AllReadyH.cons (o := _) rfl (fun K hK => ?_) AllReadyH.nil)
        refine step_storeB rfl 23 (.tmp 7) (.tmp 16) rfl size32 hD (bv_one P) (by rw [bv_length, hPl]) (by rfl) rfl rfl ?_
        intro w5 h5 hg5
        have hq5 := hq.grown hg5 (by have := hq.size; omega) (fun q e => by cases e; have := HDZ.out; have := HZD.out; omega)
        have rr5 := Lib.hid (ran2g (ran2 RR.out hq) hg5 (by have := HDZ.out; have := HZD.out; simp; omega) (by have := HDZ.out; have := HZD.out; simp; omega))
        refine hK.out _ _ rr5.out (fun hHeld => ?_)
        clear hK K
        try go_frame
        refine takeD (i := 11) (oi := _) (v := ?_) (some 8) rfl rfl (by kernel_rfl) (by kernel_rfl) (by kernel_rfl) (fun _ _ _ h => h) (Or.inl ⟨by rfl, ?_⟩) (by assumption) ?_
        rotate_left
        · intro w hSw; (try dsimp only at hSw); go_simp; (try with_reducible rfl)
        try go_frame
        refine wpAnyH_done (by kernel_rfl) ?_ _
        go_wp2_with fail
        go_meet
        exact ⟨_, rfl, rfl, h5, bt hBq hq5⟩
  case rest =>
   as_aux_lemma =>
      obtain ⟨kb, rfl, rfl, hkb, hBc⟩ := hcut
      have hBw := bt hB0 hBc
      have hBq : Below wc.heap.size wc wc.drew := Below.drew (Below.refl _ _)
      have hq : Below wc.drew.heap.size wc.drew wc.drew := Below.refl _ _
      have RR := Lib.hid (ran2 ⟨row_range hkb, row_range (block_below HG0.out hBc)⟩ hBq : wc.drew.rangeAt kb 0 (bv P) ∧ wc.drew.rangeAt w.heap.size 0 (bv seed))
      have LD := Lib.hid ((hL.below hBw).below hBq)
      have heq := fun W => run_eql16 W P P hPl hPl
      simp only [decide_true] at heq
      have hg := guard16
      clear hkb hzd szm HG0 HG1
      go_upto_region 2 with (fail)
      try go_frame
      refine wp_region_held_drew (S := fun W => W.rangeAt kb 0 (bv P) ∧ W.rangeAt w.heap.size 0 (bv seed)) (by kernel_rfl) RR.out (fun hHeld => ?_)
      try go_frame
      refine wpAnyH_ready (rs := [0]) (by kernel_rfl) (by simp) ?_
      refine (AllReadyH.cons (o := _) rfl (fun K hK => ?_) AllReadyH.nil)
      go_simp
      (go_at_call 9; refine (sanity_any _ (LD.out.below hq)).mono ?_; rintro e w6 ⟨rfl, hB6⟩)
      have hq := bt hq hB6
      refine hK.out _ _ (ran2 RR.out hq) (fun hHeld => ?_)
      clear hK K
      try (show wpAnyH _ _ _ _ _ _ _ (Act.put _ (some 18) _) _)
      try go_frame
      refine takeD (i := 1) (oi := _) (v := ?_) (some 19) rfl rfl (by kernel_rfl) (by kernel_rfl) (by kernel_rfl) (fun _ _ _ h => h) (Or.inl ⟨by rfl, ?_⟩) (by assumption) ?_
      rotate_left
      · intro w hSw; (try dsimp only at hSw); go_simp; (try with_reducible rfl)
      try go_frame
      refine takeD (i := 2) (oi := _) (v := ?_) (some 20) rfl rfl (by kernel_rfl) (by kernel_rfl) (by kernel_rfl) (fun _ _ _ h => h) (Or.inl ⟨by rfl, ?_⟩) (by assumption) ?_
      rotate_left
      · intro w hSw; (try dsimp only at hSw); go_simp; (try with_reducible rfl)
      try go_frame
      refine takeD (i := 3) (oi := _) (v := ?_) (some 21) rfl rfl (by kernel_rfl) (by kernel_rfl) (by kernel_rfl) (fun _ _ _ h => h) (Or.inl ⟨by rfl, ?_⟩) (by assumption) ?_
      rotate_left
      · intro w hSw; (try dsimp only at hSw); go_simp; (try with_reducible rfl)
      try go_frame
      refine takeD (i := 4) (oi := _) (v := ?_) (some 22) rfl rfl (by kernel_rfl) (by kernel_rfl) (by kernel_rfl) (fun _ _ _ h => h) (Or.inl ⟨by rfl, ?_⟩) (by assumption) ?_
      rotate_left
      · intro w hSw; (try dsimp only at hSw); go_simp; (try with_reducible rfl)
      try go_frame
      refine takeD (i := 5) (oi := _) (v := ?_) (some 23) rfl rfl (by kernel_rfl) (by kernel_rfl) (by kernel_rfl) (fun _ _ _ h => h) (Or.inl ⟨by rfl, ?_⟩) (by assumption) ?_
      rotate_left
      · intro w hSw; (try dsimp only at hSw); go_simp; (try with_reducible rfl)
      try go_frame
      refine takeD (i := 6) (oi := _) (v := _) (some 24) rfl rfl (by kernel_rfl) (by kernel_rfl) (by kernel_rfl) (fun _ _ _ h => h) (yieldsIf_load_mid (by rfl) 23 (.tmp 7) rfl (kb) 0 rfl (bv P) _ (fun w hSw => hSw.1) ud rfl szP) (by assumption) ?_
      try go_frame
      refine takeD (i := 7) (oi := _) (v := _) (some 25) rfl rfl (by kernel_rfl) (by kernel_rfl) (by kernel_rfl) (fun _ _ _ h => h) (yieldsIf_load_mid (by rfl) 23 (.tmp 3) rfl (w.heap.size) 0 rfl (bv seed) _ (fun w hSw => hSw.2) ud rfl szs) (by assumption) ?_
      try go_frame
      refine takeD (i := 8) (oi := _) (v := ?_) (some 26) rfl rfl (by kernel_rfl) (by kernel_rfl) (by kernel_rfl) (fun _ _ _ h => h) (Or.inl ⟨by rfl, ?_⟩) (by assumption) ?_
      rotate_left
      · intro w hSw; (try dsimp only at hSw); go_simp; (try with_reducible rfl)
      try go_frame
      refine wpAnyH_ready (rs := [9]) (by kernel_rfl) (by simp) ?_
      refine (AllReadyH.cons (o := _) rfl (fun K hK => ?_) AllReadyH.nil)
      go_simp
      (go_at_call 14; refine (HPB.out _ (LD.out.below hq)).mono ?_; rintro e w7 ⟨rfl, hB7⟩)
      have hq := bt hq hB7
      refine hK.out _ _ (ran2 RR.out hq) (fun hHeld => ?_)
      clear hK K
      try (show wpAnyH _ _ _ _ _ _ _ (Act.put _ (some 27) _) _)
      try go_frame
      refine takeD (i := 10) (oi := _) (v := ?_) (some 28) rfl rfl (by kernel_rfl) (by kernel_rfl) (by kernel_rfl) (fun _ _ _ h => h) (Or.inl ⟨by rfl, ?_⟩) (by assumption) ?_
      rotate_left
      · intro w hSw; (try dsimp only at hSw); go_simp; (try with_reducible rfl)
      try go_frame
      refine takeD (i := 11) (oi := _) (v := ?_) (some 29) rfl rfl (by kernel_rfl) (by kernel_rfl) (by kernel_rfl) (fun _ _ _ h => h) (Or.inl ⟨by rfl, ?_⟩) (by assumption) ?_
      rotate_left
      · intro w hSw; (try dsimp only at hSw); go_simp; (try with_reducible rfl)
      try go_frame
      refine takeD (i := 12) (oi := _) (v := ?_) (some 6) rfl rfl (by kernel_rfl) (by kernel_rfl) (by kernel_rfl) (fun _ _ _ h => h) (Or.inl ⟨by rfl, ?_⟩) (by assumption) ?_
      rotate_left
      · intro w hSw; (try dsimp only at hSw); go_simp; (try with_reducible rfl)
      try go_frame
      refine wpAnyH_done (by kernel_rfl) ?_ _
      go_wp2_with fail
      go_ret
      exact ⟨rfl, bt hBw (bt hBq hq)⟩
end Go.Proofs.YtpgakdioaebikaaDoor
