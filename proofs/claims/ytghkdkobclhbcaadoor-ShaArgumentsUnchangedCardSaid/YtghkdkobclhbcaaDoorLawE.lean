/- ShaArgumentsUnchanged. -/
import Derived.Test.YtghkdkobclhbcaaDoorLawC
import Derived.Deep.RegionHeld3
import Derived.Maps.RangeWalk
namespace Go.Proofs.YtghkdkobclhbcaaDoor
open Go.RowKit Go.Shelf

theorem range_row {w : World} {g : Nat} {cs : List Value} {t : TypeId} {f : Nat × Nat} (h : w.heap[g]? = some (.cells cs.toArray t f)) : w.rangeAt g 0 cs := fun i v hv => by
  rw [Nat.zero_add, cell_of_row _ _ _ _ _ _ h, List.getElem?_toArray, hv]
theorem range_below {w w1 : World} {g o : Nat} {cs : List Value} (h : w.rangeAt g o cs) (hb : Below w.heap.size w w1) : w1.rangeAt g o cs := fun i v hv => cell_kept hb (h i v hv)
/-- Five rows are read. -/
def Five (g1 g2 g3 g4 g5 : Nat) (c1 c2 c3 c4 c5 : List Value) (w : World) : Prop := w.rangeAt g1 0 c1 ∧ w.rangeAt g2 0 c2 ∧ w.rangeAt g3 0 c3 ∧ w.rangeAt g4 0 c4 ∧ w.rangeAt g5 0 c5
theorem Five.below {g1 g2 g3 g4 g5 : Nat} {c1 c2 c3 c4 c5 : List Value} {w w1 : World} (h : Five g1 g2 g3 g4 g5 c1 c2 c3 c4 c5 w) (hb : Below w.heap.size w w1) : Five g1 g2 g3 g4 g5 c1 c2 c3 c4 c5 w1 :=
  ⟨range_below h.1 hb, range_below h.2.1 hb, range_below h.2.2.1 hb, range_below h.2.2.2.1 hb, range_below h.2.2.2.2 hb⟩

theorem takeD {P : Program} {ops : Array Oper} {Q : Exit → Act → World → Prop} {md : Region.Mode} {S : World → Prop} {i : Nat} {oi : Oper} {v : Value} {fuel : Nat} {listed : Array Bool} {a : Act} {w : World} (d : Option Tmp) (hi : ops[i]? = some oi) (hd : oi.dst = d)
    (hs : Region.noSelect ops = true) (hf : Region.free md ops listed i = true) (hr : (Region.ready md ops listed).contains i = true)
    (hQ : ∀ c a w, Q (.panic c) (a.put d v) w → Q (.panic c) a w) (hy : YieldsIf P ops S oi v a) (hS : S w)
    (h : wpAnyH P md ops Q S fuel (listed.setIfInBounds i true) (a.put d v) w) : wpAnyH P md ops Q S (fuel + 1) listed a w := by
  subst hd
  exact wpAnyH_take hi hs hf hr hQ hy hS h
theorem seven {g1 g2 g3 g4 g5 : Nat} {d1 d2 d3 d4 d5 : List Value} {w : World} {A0 A1 : Option Addr} {n0 c0 n1 c1 : Nat} {key b : List UInt8} (h : Five g1 g2 g3 g4 g5 d1 d2 d3 d4 d5 w) (hk : Rd w A0 n0 key) (hb : Rd w A1 n1 b) :
    w.rangeAt g1 0 d1 ∧ w.rangeAt g2 0 d2 ∧ w.rangeAt g3 0 d3 ∧ w.rangeAt g4 0 d4 ∧ w.rangeAt g5 0 d5 ∧ (convert 22 9 (.slice A0 n0 c0)).run Tryd.prog w = .ok (.string ⟨key.toArray⟩) w ∧ (convert 22 9 (.slice A1 n1 c1)).run Tryd.prog w = .ok (.string ⟨b.toArray⟩) w :=
  ⟨h.1, h.2.1, h.2.2.1, h.2.2.2.1, h.2.2.2.2, run_str (c := c0) 22 9 Tryd.underlying22 Tryd.underlying5 Tryd.underlying9 hk, run_str (c := c1) 22 9 Tryd.underlying22 Tryd.underlying5 Tryd.underlying9 hb⟩

set_option maxHeartbeats 2000000 in
set_option maxRecDepth 100000 in
theorem unchanged_any (A0 : Option Addr) (n0 c0 : Nat) (key : List UInt8) (A1 : Option Addr) (n1 c1 : Nat) (b : List UInt8) (tag : Int) (A3 : Option Addr) (n3 c3 : Nat) (ps : List (List UInt8)) (w : World) (hr : Rd w A0 n0 key) (hm0 : n0 ≤ maxLen) (hr1 : Rd w A1 n1 b) (hm1 : n1 ≤ maxLen) (_mt : (Lit.int .i64 tag).wf = true) (hp : RdL w A3 n3 ps) (hm3 : n3 ≤ maxLen) (hL : Laid w) :
    Calls Tryd.prog 8 #[.agg #[.slice A0 n0 c0, .slice A1 n1 c1, .int .i64 tag, .slice A3 n3 c3]] w fun e w' => e = .returned (.bool true) ∧ Below w.heap.size w w' := by
  have hm0' : n0 ≤ 9223372036854775807 := hm0
  have hm1' : n1 ≤ 9223372036854775807 := hm1
  clear hm0 hm1
  have hB0 : Below w.heap.size w (w.alloc (.cells #[.slice A0 n0 c0, .slice A1 n1 c1, .int .i64 tag, .slice A3 n3 c3] 44)) := (Below.refl _ w).alloc (Nat.le_refl _) _
  have k0 := hr.below hB0
  have b0 := hr1.below hB0
  have p0 := hp.below hB0
  have l0 := Lib.hid (hL.below hB0)
  by_cases t1 : n0 ≤ 300
  · have t1i : ¬ ((300 : Int) < (n0 : Int)) := by omega
    by_cases t2 : n1 ≤ 300
    · have t2i : ¬ ((300 : Int) < (n1 : Int)) := by omega
      cases hs : shortB ps with
      | false =>
        have HS := Lib.hid hs
        clear hs
        go_enter Tryd.func8, Tryd.ntmps8
        go_wp2_with (first
          | (go_at_call 9; go_must (refine (sanity_any _ l0.out).mono ?_); rintro e w1 ⟨rfl, h1⟩; have hB1 := hB0.trans (h1.mono hB0.size); have p1 := p0.below h1)
          | (go_at_call 19; go_must (refine (isShort_any _ _ _ ps _ p1 hm3).mono ?_); rintro e w2 ⟨rfl, rfl⟩; rw [HS.out]))
        go_ret
        exact ⟨rfl, hB1⟩
      | true =>
        obtain ⟨h20, h300⟩ := shortB_parts hs
        have hn := hp.len
        have h4096 : n3 ≤ 4096 := by omega
        have H65 : Hid (∀ p ∈ ps, p.length ≤ 65536) := fun p hp => Nat.le_trans (h300 p hp) (by omega)
        have HS := Lib.hid hs
        have hbl : ByteArray.size ⟨b.toArray⟩ ≤ 900000 := by have := hr1.len; show b.toArray.size ≤ _; simp; omega
        have HBL := Lib.hid hbl
        have d1 : (bv (digest tag ps)).length = 16 := by rw [bv_length, digest_length]
        have d2 : (bv (hmac key b)).length = 32 := by rw [bv_length, hmac_length]
        have d4 : (bv (derive key b ps)).length = 16 := by rw [bv_length, derive_length]
        have d5 : (bv (sha b)).length = 32 := by rw [bv_length, sha_length]
        have D1 := Lib.hid d1
        have D2 := Lib.hid d2
        have D4 := Lib.hid d4
        have D5 := Lib.hid d5
        clear hs hn h300 h20 hbl d1 d2 d4 d5
        have tok1 : True := trivial
        go_enter Tryd.func8, Tryd.ntmps8
        go_wp2_with (first
          | (go_at_call 9; go_must (refine (sanity_any _ l0.out).mono ?_); rintro e w1 ⟨rfl, h1⟩; have hB1 := hB0.trans (h1.mono hB0.size); have p1 := p0.below h1; have k1 := k0.below h1; have b1 := b0.below h1; have l1 := Lib.hid (hL.below hB1); clear p0 k0 b0 l0)
          | (go_at_call 19; go_must (refine (isShort_any _ _ _ ps _ p1 hm3).mono ?_); rintro e w2 ⟨rfl, rfl⟩; rw [HS.out])
          | (refine wpList_str rfl (.tmp 38) 22 9 rfl Tryd.underlying22 Tryd.underlying5 Tryd.underlying9 k1 rfl ?_)
          | (refine wpList_str rfl (.tmp 40) 22 9 rfl Tryd.underlying22 Tryd.underlying5 Tryd.underlying9 b1 rfl ?_)
          | (go_at_call 21; go_must (refine (rdigest_any _ _ _ _ ps _ p1 h4096 H65.out).mono ?_); rintro e w3 ⟨rfl, h3⟩)
          | (refine wpList_storeB rfl 32 (.tmp 10) (.tmp 44) rfl size32 (heap_alloc_new w3 _) (bv_one (digest tag ps)) D1.out (by rfl) rfl rfl ?_; intro w4 r4 hg4 hz4;
             have h14 := h3.trans ((below_put hg4).mono h3.size); have hB4 := hB1.trans (h14.mono hB1.size); have k4 := k1.below h14; have b4 := b1.below h14; have p4 := p1.below h14; have l4 := Lib.hid (hL.below hB4); have R4 := Lib.hid (range_row r4); clear r4 hg4 hz4 k1 b1 p1 l1)
          | (go_at_call 14; go_must (refine (hmac_any _ _ _ key _ _ _ b _ k4 b4 (by omega) (by omega) l4.out).mono ?_); rintro e w5 ⟨rfl, h5⟩)
          | (refine wpList_storeB rfl 27 (.tmp 11) (.tmp 47) rfl size27 (heap_alloc_new w5 _) (bv_one (hmac key b)) D2.out (by rfl) rfl rfl ?_; intro w6 r6 hg6 hz6;
             have h46 := h5.trans ((below_put hg6).mono h5.size); have hB6 := hB4.trans (h46.mono hB4.size); have k6 := k4.below h46; have b6 := b4.below h46; have p6 := p4.below h46; have l6 := Lib.hid (hL.below hB6); have R46 := Lib.hid (range_below R4.out h46); have R6 := Lib.hid (range_row r6); clear r6 hg6 hz6 k4 b4 p4 l4 R4)
          | (go_at_call 20; go_must (refine (digest_any _ _ _ _ ps _ p6 h4096 H65.out l6.out).mono ?_); rintro e w7 ⟨rfl, h7⟩)
          | (refine wpList_storeB rfl 32 (.tmp 12) (.tmp 50) rfl size32 (heap_alloc_new w7 _) (bv_one (digest tag ps)) D1.out (by rfl) rfl rfl ?_; intro w8 r8 hg8 hz8;
             have h68 := h7.trans ((below_put hg8).mono h7.size); have hB8 := hB6.trans (h68.mono hB6.size); have k8 := k6.below h68; have b8 := b6.below h68; have p8 := p6.below h68; have l8 := Lib.hid (hL.below hB8); have R48 := Lib.hid (range_below R46.out h68); have R68 := Lib.hid (range_below R6.out h68); have R8 := Lib.hid (range_row r8); clear r8 hg8 hz8 k6 b6 p6 l6 R46 R6)
          | (go_at_call 22; go_must (refine (derive_any _ _ _ key ⟨b.toArray⟩ _ _ _ ps _ k8 p8 (by omega) HBL.out h4096 H65.out l8.out).mono ?_); rintro e w9 ⟨rfl, h9⟩)
          | (refine wpList_storeB rfl 32 (.tmp 13) (.tmp 54) rfl size32 (heap_alloc_new w9 _) (bv_one (derive key b ps)) D4.out (by rfl) rfl rfl ?_; intro w10 r10 hg10 hz10;
             have h810 := h9.trans ((below_put hg10).mono h9.size); have hB10 := hB8.trans (h810.mono hB8.size); have k10 := k8.below h810; have b10 := b8.below h810; have p10 := p8.below h810; have l10 := Lib.hid (hL.below hB10); have R410 := Lib.hid (range_below R48.out h810); have R610 := Lib.hid (range_below R68.out h810); have R810 := Lib.hid (range_below R8.out h810); have R10 := Lib.hid (range_row r10); clear r10 hg10 hz10 k8 b8 p8 l8 R48 R68 R8)
          | (go_at_call 13; go_must (refine (sum_any _ _ _ b _ b10 (by omega) l10.out).mono ?_); rintro e w11 ⟨rfl, h11⟩)
          | (refine wpList_storeB rfl 27 (.tmp 14) (.tmp 56) rfl size27 (heap_alloc_new w11 _) (bv_one (sha b)) D5.out (by rfl) rfl rfl ?_; intro w12 r12 hg12 hz12;
             have h1012 := h11.trans ((below_put hg12).mono h11.size); have hB12 := hB10.trans (h1012.mono hB10.size); have k12 := k10.below h1012; have b12 := b10.below h1012; have p12 := p10.below h1012;
             have F12 := Lib.hid (show Five w3.heap.size w5.heap.size w7.heap.size w9.heap.size w11.heap.size (bv (digest tag ps)) (bv (hmac key b)) (bv (digest tag ps)) (bv (derive key b ps)) (bv (sha b)) w12 from ⟨range_below R410.out h1012, range_below R610.out h1012, range_below R810.out h1012, range_below R10.out h1012, range_row r12⟩); clear r12 hg12 hz12 k10 b10 p10 l10 R410 R610 R810 R10))
        have hBd : Below w12.heap.size w12 w12.drew := Below.drew (Below.refl _ _)
        have hBD := hB12.trans (hBd.mono hB12.size)
        have kd := k12.below hBd
        have bd := b12.below hBd
        have pd := p12.below hBd
        have ld := Lib.hid (hL.below hBD)
        have FD := Lib.hid (F12.out.below hBd)
        have ud := Tryd.underlying32
        have uh := Tryd.underlying27
        have z1 : (Tryd.prog.info? 32).map (·.size) = some (bv (digest tag ps)).length := by rw [D1.out]; exact size32
        have z2 : (Tryd.prog.info? 27).map (·.size) = some (bv (hmac key b)).length := by rw [D2.out]; exact size27
        have z4 : (Tryd.prog.info? 32).map (·.size) = some (bv (derive key b ps)).length := by rw [D4.out]; exact size32
        have z5 : (Tryd.prog.info? 27).map (·.size) = some (bv (sha b)).length := by rw [D5.out]; exact size27
        have g1 := guard32
        have g2 := guard16
        have e1 := fun W => run_eql16 W (digest tag ps) (digest tag ps) (digest_length tag ps) (digest_length tag ps)
        have e2 := fun W => run_eql32 W (hmac key b) (hmac key b) (hmac_length key b) (hmac_length key b)
        have e4 := fun W => run_eql16 W (derive key b ps) (derive key b ps) (derive_length _ _ _) (derive_length _ _ _)
        have e5 := fun W => run_eql32 W (sha b) (sha b) (sha_length b) (sha_length b)
        simp only [decide_true] at e1 e2 e4 e5
        clear k12 b12 p12 F12 hBd hB12 hr hr1 hp
        refine wp_region_held_drew (S := fun w' => w'.rangeAt w3.heap.size 0 (bv (digest tag ps)) ∧ w'.rangeAt w5.heap.size 0 (bv (hmac key b)) ∧ w'.rangeAt w7.heap.size 0 (bv (digest tag ps)) ∧ w'.rangeAt w9.heap.size 0 (bv (derive key b ps)) ∧ w'.rangeAt w11.heap.size 0 (bv (sha b)) ∧
            (convert 22 9 (.slice A0 n0 c0)).run Tryd.prog w' = .ok (.string ⟨key.toArray⟩) w' ∧ (convert 22 9 (.slice A1 n1 c1)).run Tryd.prog w' = .ok (.string ⟨b.toArray⟩) w') (by kernel_rfl) (seven FD.out kd bd) (fun hHeld => ?_)
        try go_frame
        refine takeD (i := 0) (oi := _) (v := ?_) (some 57) rfl rfl (by kernel_rfl) (by kernel_rfl) (by kernel_rfl) (fun _ _ _ h => h) (Or.inl ⟨by rfl, ?_⟩) (by assumption) ?_
        rotate_left
        · intro w hSw; (try dsimp only at hSw); go_simp; (try with_reducible rfl)
        try go_frame
        refine takeD (i := 1) (oi := _) (v := ?_) (some 58) rfl rfl (by kernel_rfl) (by kernel_rfl) (by kernel_rfl) (fun _ _ _ h => h) (Or.inl ⟨by rfl, ?_⟩) (by assumption) ?_
        rotate_left
        · intro w hSw; (try dsimp only at hSw); go_simp; (try with_reducible rfl)
        try go_frame
        refine takeD (i := 2) (oi := _) (v := ?_) (some 59) rfl rfl (by kernel_rfl) (by kernel_rfl) (by kernel_rfl) (fun _ _ _ h => h) (Or.inl ⟨by rfl, ?_⟩) (by assumption) ?_
        rotate_left
        · intro w hSw; (try dsimp only at hSw); go_simp; (try with_reducible rfl)
        try go_frame
        refine takeD (i := 3) (oi := _) (v := ?_) (some 60) rfl rfl (by kernel_rfl) (by kernel_rfl) (by kernel_rfl) (fun _ _ _ h => h) (Or.inl ⟨by rfl, ?_⟩) (by assumption) ?_
        rotate_left
        · intro w hSw; (try dsimp only at hSw); go_simp; (try with_reducible rfl)
        try go_frame
        refine takeD (i := 4) (oi := _) (v := ?_) (some 61) rfl rfl (by kernel_rfl) (by kernel_rfl) (by kernel_rfl) (fun _ _ _ h => h) (Or.inl ⟨by rfl, ?_⟩) (by assumption) ?_
        rotate_left
        · intro w hSw; (try dsimp only at hSw); go_simp; (try with_reducible rfl)
        try go_frame
        refine takeD (i := 5) (oi := _) (v := ?_) (some 62) rfl rfl (by kernel_rfl) (by kernel_rfl) (by kernel_rfl) (fun _ _ _ h => h) (Or.inl ⟨by rfl, ?_⟩) (by assumption) ?_
        rotate_left
        · intro w hSw; (try dsimp only at hSw); go_simp; (try with_reducible rfl)
        try go_frame
        refine takeD (i := 6) (oi := _) (v := ?_) (some 63) rfl rfl (by kernel_rfl) (by kernel_rfl) (by kernel_rfl) (fun _ _ _ h => h) (Or.inl ⟨by rfl, ?_⟩) (by assumption) ?_
        rotate_left
        · intro w hSw; (try dsimp only at hSw); go_simp; (try with_reducible rfl)
        try go_frame
        refine takeD (i := 7) (oi := _) (v := ?_) (some 64) rfl rfl (by kernel_rfl) (by kernel_rfl) (by kernel_rfl) (fun _ _ _ h => h) (Or.inl ⟨by rfl, ?_⟩) (by assumption) ?_
        rotate_left
        · intro w hSw; (try dsimp only at hSw); go_simp; (try with_reducible rfl)
        try go_frame
        refine takeD (i := 8) (oi := _) (v := ?_) (some 65) rfl rfl (by kernel_rfl) (by kernel_rfl) (by kernel_rfl) (fun _ _ _ h => h) (Or.inl ⟨by rfl, ?_⟩) (by assumption) ?_
        rotate_left
        · intro w hSw; (try dsimp only at hSw); go_simp; (try with_reducible rfl)
        try go_frame
        refine takeD (i := 9) (oi := _) (v := ?_) (some 66) rfl rfl (by kernel_rfl) (by kernel_rfl) (by kernel_rfl) (fun _ _ _ h => h) (Or.inl ⟨by rfl, ?_⟩) (by assumption) ?_
        rotate_left
        · intro w hSw; (try dsimp only at hSw); go_simp; (try with_reducible rfl)
        try go_frame
        refine takeD (i := 10) (oi := _) (v := ?_) (some 67) rfl rfl (by kernel_rfl) (by kernel_rfl) (by kernel_rfl) (fun _ _ _ h => h) (Or.inl ⟨by rfl, ?_⟩) (by assumption) ?_
        rotate_left
        · intro w hSw; (try dsimp only at hSw); go_simp; (try with_reducible rfl)
        try go_frame
        refine takeD (i := 11) (oi := _) (v := ?_) (some 68) rfl rfl (by kernel_rfl) (by kernel_rfl) (by kernel_rfl) (fun _ _ _ h => h) (Or.inl ⟨by rfl, ?_⟩) (by assumption) ?_
        rotate_left
        · intro w hSw; (try dsimp only at hSw); go_simp; (try with_reducible rfl)
        try go_frame
        refine takeD (i := 12) (oi := _) (v := ?_) (some 69) rfl rfl (by kernel_rfl) (by kernel_rfl) (by kernel_rfl) (fun _ _ _ h => h) (Or.inl ⟨by rfl, ?_⟩) (by assumption) ?_
        rotate_left
        · intro w hSw; (try dsimp only at hSw); go_simp; (try with_reducible rfl)
        try go_frame
        refine takeD (i := 13) (oi := _) (v := ?_) (some 70) rfl rfl (by kernel_rfl) (by kernel_rfl) (by kernel_rfl) (fun _ _ _ h => h) (Or.inl ⟨by rfl, ?_⟩) (by assumption) ?_
        rotate_left
        · intro w hSw; (try dsimp only at hSw); go_simp; (try with_reducible rfl)
        try go_frame
        refine takeD (i := 14) (oi := _) (v := ?_) (some 71) rfl rfl (by kernel_rfl) (by kernel_rfl) (by kernel_rfl) (fun _ _ _ h => h) (Or.inl ⟨by rfl, ?_⟩) (by assumption) ?_
        rotate_left
        · intro w hSw; (try dsimp only at hSw); go_simp; (try with_reducible rfl)
        try go_frame
        refine takeD (i := 15) (oi := _) (v := ?_) (some 72) rfl rfl (by kernel_rfl) (by kernel_rfl) (by kernel_rfl) (fun _ _ _ h => h) (Or.inl ⟨by rfl, ?_⟩) (by assumption) ?_
        rotate_left
        · intro w hSw; (try dsimp only at hSw); go_simp; (try with_reducible rfl)
        try go_frame
        refine takeD (i := 17) (oi := _) (v := _) (some 74) rfl rfl (by kernel_rfl) (by kernel_rfl) (by kernel_rfl) (fun _ _ _ h => h) (yieldsIf_load_mid (by rfl) 32 (.tmp 10) rfl w3.heap.size 0 rfl (bv (digest tag ps)) _ (fun w hSw => hSw.1) ud rfl z1) (by assumption) ?_
        try go_frame
        refine wpAnyH_ready (rs := [16]) (by kernel_rfl) (by simp) ?_
        refine AllReadyH.cons (o := _) rfl (fun K hK => ?_) AllReadyH.nil
        go_simp
        (go_at_call 21; refine (rdigest_any _ _ _ _ ps _ pd h4096 H65.out).mono ?_; rintro e w13 ⟨rfl, h13⟩; have hB13 := hBD.trans (h13.mono hBD.size); have k13 := kd.below h13; have b13 := bd.below h13; have p13 := pd.below h13; have l13 := Lib.hid (hL.below hB13); have F13 := Lib.hid (FD.out.below h13))
        refine hK.out _ _ (seven F13.out k13 b13) (fun hHeld => ?_)
        clear hK K
        try (show wpAnyH _ _ _ _ _ _ _ (Act.put _ (some 73) _) _)
        try go_frame
        refine takeD (i := 18) (oi := _) (v := ?_) (some 75) rfl rfl (by kernel_rfl) (by kernel_rfl) (by kernel_rfl) (fun _ _ _ h => h) (Or.inl ⟨by rfl, ?_⟩) (by assumption) ?_
        rotate_left
        · intro w hSw; (try dsimp only at hSw); go_simp; (try with_reducible rfl)
        try go_frame
        refine takeD (i := 19) (oi := _) (v := ?_) (some 76) rfl rfl (by kernel_rfl) (by kernel_rfl) (by kernel_rfl) (fun _ _ _ h => h) (Or.inl ⟨by rfl, ?_⟩) (by assumption) ?_
        rotate_left
        · intro w hSw; (try dsimp only at hSw); go_simp; (try with_reducible rfl)
        try go_frame
        refine takeD (i := 20) (oi := _) (v := ?_) (some 77) rfl rfl (by kernel_rfl) (by kernel_rfl) (by kernel_rfl) (fun _ _ _ h => h) (Or.inl ⟨by rfl, ?_⟩) (by assumption) ?_
        rotate_left
        · intro w hSw; (try dsimp only at hSw); go_simp; (try with_reducible rfl)
        try go_frame
        refine takeD (i := 21) (oi := _) (v := ?_) (some 78) rfl rfl (by kernel_rfl) (by kernel_rfl) (by kernel_rfl) (fun _ _ _ h => h) (Or.inl ⟨by rfl, ?_⟩) (by assumption) ?_
        rotate_left
        · intro w hSw; (try dsimp only at hSw); go_simp; (try with_reducible rfl)
        try go_frame
        refine takeD (i := 22) (oi := _) (v := ?_) (some 79) rfl rfl (by kernel_rfl) (by kernel_rfl) (by kernel_rfl) (fun _ _ _ h => h) (Or.inl ⟨by rfl, ?_⟩) (by assumption) ?_
        rotate_left
        · intro w hSw; (try dsimp only at hSw); go_simp; (try with_reducible rfl)
        try go_frame
        refine takeD (i := 24) (oi := _) (v := _) (some 81) rfl rfl (by kernel_rfl) (by kernel_rfl) (by kernel_rfl) (fun _ _ _ h => h) (yieldsIf_load_mid (by rfl) 27 (.tmp 11) rfl w5.heap.size 0 rfl (bv (hmac key b)) _ (fun w hSw => hSw.2.1) uh rfl z2) (by assumption) ?_
        try go_frame
        refine wpAnyH_ready (rs := [23]) (by kernel_rfl) (by simp) ?_
        refine AllReadyH.cons (o := _) rfl (fun K hK => ?_) AllReadyH.nil
        go_simp
        (go_at_call 14; refine (hmac_any _ _ _ key _ _ _ b _ k13 b13 (by omega) (by omega) l13.out).mono ?_; rintro e w14 ⟨rfl, h14⟩; have hB14 := hB13.trans (h14.mono hB13.size); have k14 := k13.below h14; have b14 := b13.below h14; have p14 := p13.below h14; have l14 := Lib.hid (hL.below hB14); have F14 := Lib.hid (F13.out.below h14))
        refine hK.out _ _ (seven F14.out k14 b14) (fun hHeld => ?_)
        clear hK K
        try (show wpAnyH _ _ _ _ _ _ _ (Act.put _ (some 80) _) _)
        try go_frame
        refine takeD (i := 25) (oi := _) (v := ?_) (some 82) rfl rfl (by kernel_rfl) (by kernel_rfl) (by kernel_rfl) (fun _ _ _ h => h) (Or.inl ⟨by rfl, ?_⟩) (by assumption) ?_
        rotate_left
        · intro w hSw; (try dsimp only at hSw); go_simp; (try with_reducible rfl)
        try go_frame
        refine takeD (i := 26) (oi := _) (v := ?_) (some 83) rfl rfl (by kernel_rfl) (by kernel_rfl) (by kernel_rfl) (fun _ _ _ h => h) (Or.inl ⟨by rfl, ?_⟩) (by assumption) ?_
        rotate_left
        · intro w hSw; (try dsimp only at hSw); go_simp; (try with_reducible rfl)
        try go_frame
        refine takeD (i := 27) (oi := _) (v := ?_) (some 84) rfl rfl (by kernel_rfl) (by kernel_rfl) (by kernel_rfl) (fun _ _ _ h => h) (Or.inl ⟨by rfl, ?_⟩) (by assumption) ?_
        rotate_left
        · intro w hSw; (try dsimp only at hSw); go_simp; (try with_reducible rfl)
        try go_frame
        refine takeD (i := 28) (oi := _) (v := ?_) (some 85) rfl rfl (by kernel_rfl) (by kernel_rfl) (by kernel_rfl) (fun _ _ _ h => h) (Or.inl ⟨by rfl, ?_⟩) (by assumption) ?_
        rotate_left
        · intro w hSw; (try dsimp only at hSw); go_simp; (try with_reducible rfl)
        try go_frame
        refine takeD (i := 29) (oi := _) (v := ?_) (some 86) rfl rfl (by kernel_rfl) (by kernel_rfl) (by kernel_rfl) (fun _ _ _ h => h) (Or.inl ⟨by rfl, ?_⟩) (by assumption) ?_
        rotate_left
        · intro w hSw; (try dsimp only at hSw); go_simp; (try with_reducible rfl)
        try go_frame
        refine takeD (i := 31) (oi := _) (v := _) (some 88) rfl rfl (by kernel_rfl) (by kernel_rfl) (by kernel_rfl) (fun _ _ _ h => h) (yieldsIf_load_mid (by rfl) 32 (.tmp 12) rfl w7.heap.size 0 rfl (bv (digest tag ps)) _ (fun w hSw => hSw.2.2.1) ud rfl z1) (by assumption) ?_
        try go_frame
        refine wpAnyH_ready (rs := [30]) (by kernel_rfl) (by simp) ?_
        refine AllReadyH.cons (o := _) rfl (fun K hK => ?_) AllReadyH.nil
        go_simp
        (go_at_call 20; refine (digest_any _ _ _ _ ps _ p14 h4096 H65.out l14.out).mono ?_; rintro e w15 ⟨rfl, h15⟩; have hB15 := hB14.trans (h15.mono hB14.size); have k15 := k14.below h15; have b15 := b14.below h15; have p15 := p14.below h15; have l15 := Lib.hid (hL.below hB15); have F15 := Lib.hid (F14.out.below h15))
        refine hK.out _ _ (seven F15.out k15 b15) (fun hHeld => ?_)
        clear hK K
        try (show wpAnyH _ _ _ _ _ _ _ (Act.put _ (some 87) _) _)
        try go_frame
        refine takeD (i := 32) (oi := _) (v := ?_) (some 89) rfl rfl (by kernel_rfl) (by kernel_rfl) (by kernel_rfl) (fun _ _ _ h => h) (Or.inl ⟨by rfl, ?_⟩) (by assumption) ?_
        rotate_left
        · intro w hSw; (try dsimp only at hSw); go_simp; (try with_reducible rfl)
        try go_frame
        refine takeD (i := 33) (oi := _) (v := ?_) (some 90) rfl rfl (by kernel_rfl) (by kernel_rfl) (by kernel_rfl) (fun _ _ _ h => h) (Or.inl ⟨by rfl, ?_⟩) (by assumption) ?_
        rotate_left
        · intro w hSw; (try dsimp only at hSw); go_simp; (try with_reducible rfl)
        try go_frame
        refine takeD (i := 34) (oi := _) (v := ?_) (some 91) rfl rfl (by kernel_rfl) (by kernel_rfl) (by kernel_rfl) (fun _ _ _ h => h) (Or.inl ⟨by rfl, ?_⟩) (by assumption) ?_
        rotate_left
        · intro w hSw; (try dsimp only at hSw); go_simp; (try with_reducible rfl)
        try go_frame
        refine takeD (i := 35) (oi := _) (v := ?_) (some 92) rfl rfl (by kernel_rfl) (by kernel_rfl) (by kernel_rfl) (fun _ _ _ h => h) (Or.inl ⟨by rfl, ?_⟩) (by assumption) ?_
        rotate_left
        · intro w hSw; (try dsimp only at hSw); go_simp; (try with_reducible rfl)
        try go_frame
        refine takeD (i := 36) (oi := _) (v := ?_) (some 93) rfl rfl (by kernel_rfl) (by kernel_rfl) (by kernel_rfl) (fun _ _ _ h => h) (Or.inl ⟨by rfl, ?_⟩) (by assumption) ?_
        rotate_left
        · intro w hSw; (try dsimp only at hSw); go_simp; (try with_reducible rfl)
        try go_frame
        refine takeD (i := 37) (oi := _) (v := ?_) (some 94) rfl rfl (by kernel_rfl) (by kernel_rfl) (by kernel_rfl) (fun _ _ _ h => h) (Or.inl ⟨by rfl, ?_⟩) (by assumption) ?_
        rotate_left
        · intro w hSw; (try dsimp only at hSw); go_simp; (try with_reducible rfl)
        try go_frame
        refine takeD (i := 39) (oi := _) (v := _) (some 96) rfl rfl (by kernel_rfl) (by kernel_rfl) (by kernel_rfl) (fun _ _ _ h => h) (yieldsIf_load_mid (by rfl) 32 (.tmp 13) rfl w9.heap.size 0 rfl (bv (derive key b ps)) _ (fun w hSw => hSw.2.2.2.1) ud rfl z4) (by assumption) ?_
        try go_frame
        refine wpAnyH_ready (rs := [38]) (by kernel_rfl) (by simp) ?_
        refine AllReadyH.cons (o := _) rfl (fun K hK => ?_) AllReadyH.nil
        go_simp
        (go_at_call 22; refine (derive_any _ _ _ key ⟨b.toArray⟩ _ _ _ ps _ k15 p15 (by omega) HBL.out h4096 H65.out l15.out).mono ?_; rintro e w16 ⟨rfl, h16⟩; have hB16 := hB15.trans (h16.mono hB15.size); have k16 := k15.below h16; have b16 := b15.below h16; have l16 := Lib.hid (hL.below hB16); have F16 := Lib.hid (F15.out.below h16))
        refine hK.out _ _ (seven F16.out k16 b16) (fun hHeld => ?_)
        clear hK K
        try (show wpAnyH _ _ _ _ _ _ _ (Act.put _ (some 95) _) _)
        try go_frame
        refine takeD (i := 40) (oi := _) (v := ?_) (some 97) rfl rfl (by kernel_rfl) (by kernel_rfl) (by kernel_rfl) (fun _ _ _ h => h) (Or.inl ⟨by rfl, ?_⟩) (by assumption) ?_
        rotate_left
        · intro w hSw; (try dsimp only at hSw); go_simp; (try with_reducible rfl)
        try go_frame
        refine takeD (i := 41) (oi := _) (v := ?_) (some 98) rfl rfl (by kernel_rfl) (by kernel_rfl) (by kernel_rfl) (fun _ _ _ h => h) (Or.inl ⟨by rfl, ?_⟩) (by assumption) ?_
        rotate_left
        · intro w hSw; (try dsimp only at hSw); go_simp; (try with_reducible rfl)
        try go_frame
        refine takeD (i := 42) (oi := _) (v := ?_) (some 99) rfl rfl (by kernel_rfl) (by kernel_rfl) (by kernel_rfl) (fun _ _ _ h => h) (Or.inl ⟨by rfl, ?_⟩) (by assumption) ?_
        rotate_left
        · intro w hSw; (try dsimp only at hSw); go_simp; (try with_reducible rfl)
        try go_frame
        refine takeD (i := 43) (oi := _) (v := ?_) (some 100) rfl rfl (by kernel_rfl) (by kernel_rfl) (by kernel_rfl) (fun _ _ _ h => h) (Or.inl ⟨by rfl, ?_⟩) (by assumption) ?_
        rotate_left
        · intro w hSw; (try dsimp only at hSw); go_simp; (try with_reducible rfl)
        try go_frame
        refine takeD (i := 45) (oi := _) (v := _) (some 102) rfl rfl (by kernel_rfl) (by kernel_rfl) (by kernel_rfl) (fun _ _ _ h => h) (yieldsIf_load_mid (by rfl) 27 (.tmp 14) rfl w11.heap.size 0 rfl (bv (sha b)) _ (fun w hSw => hSw.2.2.2.2.1) uh rfl z5) (by assumption) ?_
        try go_frame
        refine wpAnyH_ready (rs := [44]) (by kernel_rfl) (by simp) ?_
        refine AllReadyH.cons (o := _) rfl (fun K hK => ?_) AllReadyH.nil
        go_simp
        (go_at_call 13; refine (sum_any _ _ _ b _ b16 (by omega) l16.out).mono ?_; rintro e w17 ⟨rfl, h17⟩; have hB17 := hB16.trans (h17.mono hB16.size); have k17 := k16.below h17; have b17 := b16.below h17; have F17 := Lib.hid (F16.out.below h17))
        refine hK.out _ _ (seven F17.out k17 b17) (fun hHeld => ?_)
        clear hK K
        try (show wpAnyH _ _ _ _ _ _ _ (Act.put _ (some 101) _) _)
        try go_frame
        refine takeD (i := 46) (oi := _) (v := ?_) (some 103) rfl rfl (by kernel_rfl) (by kernel_rfl) (by kernel_rfl) (fun _ _ _ h => h) (Or.inl ⟨by rfl, ?_⟩) (by assumption) ?_
        rotate_left
        · intro w hSw; (try dsimp only at hSw); go_simp; (try with_reducible rfl)
        try go_frame
        refine takeD (i := 47) (oi := _) (v := ?_) (some 104) rfl rfl (by kernel_rfl) (by kernel_rfl) (by kernel_rfl) (fun _ _ _ h => h) (Or.inl ⟨by rfl, ?_⟩) (by assumption) ?_
        rotate_left
        · intro w hSw; (try dsimp only at hSw); go_simp; (try with_reducible rfl)
        try go_frame
        refine takeD (i := 48) (oi := _) (v := ?_) (some 2) rfl rfl (by kernel_rfl) (by kernel_rfl) (by kernel_rfl) (fun _ _ _ h => h) (Or.inl ⟨by rfl, ?_⟩) (by assumption) ?_
        rotate_left
        · intro w hSw; (try dsimp only at hSw); go_simp; (try with_reducible rfl)
        try go_frame
        refine wpAnyH_done (by kernel_rfl) ?_ _
        go_wp2
        go_ret
        exact ⟨rfl, hB17⟩
    · have t2i : (300 : Int) < (n1 : Int) := by omega
      go_enter Tryd.func8, Tryd.ntmps8
      go_wp2_with (go_at_call 9; go_must (refine (sanity_any _ l0.out).mono ?_); rintro e w1 ⟨rfl, h1⟩; have hB1 := hB0.trans (h1.mono hB0.size))
      go_ret
      exact ⟨rfl, hB1⟩
  · have t1i : (300 : Int) < (n0 : Int) := by omega
    go_enter Tryd.func8, Tryd.ntmps8
    go_wp2_with (go_at_call 9; go_must (refine (sanity_any _ l0.out).mono ?_); rintro e w1 ⟨rfl, h1⟩; have hB1 := hB0.trans (h1.mono hB0.size))
    go_ret
    exact ⟨rfl, hB1⟩
end Go.Proofs.YtghkdkobclhbcaaDoor
