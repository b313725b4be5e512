/- The statements of chapter 02 that compare with the reference. -/
import Derived.Test.YtghkdkobclhbcaaDoorLawA
import Derived.Test.YtghkdkobclhbcaaDoorRefF
import Derived.Test.YtghkdkobclhbcaaDoorRefG
import Derived.Test.YtghkdkobclhbcaaDoorRefH
import Derived.Test.YtghkdkobclhbcaaDoorOpen
namespace Go.Proofs.YtghkdkobclhbcaaDoor
open Go.RowKit Go.Shelf

set_option maxHeartbeats 1000000 in
set_option maxRecDepth 100000 in
theorem matchesSpec_any (A : Option Addr) (n c : Nat) (key : List UInt8) (A2 : Option Addr) (n2 c2 : Nat) (b : List UInt8) (w : World) (hr : Rd w A n key) (hm : n ≤ maxLen) (hr2 : Rd w A2 n2 b) (hm2 : n2 ≤ maxLen) (hL : Laid w) :
    Calls Tryd.prog 5 #[.slice A n c, .slice A2 n2 c2] w fun e w' => e = .returned (.bool true) ∧ Below w.heap.size w w' := by
  unfold maxLen at hm hm2
  by_cases hbig : n ≤ 3000 ∧ n2 ≤ 3000
  · obtain ⟨hb1, hb2⟩ := hbig
    have t1 : ¬ ((3000 : Int) < (n : Int)) := by omega
    have t2 : ¬ ((3000 : Int) < (n2 : Int)) := by omega
    have g1 := guard32
    have g2 := guard16
    have e1 := fun W => run_eql32 W (sha b) (sha b) (sha_length b) (sha_length b)
    have e2 := fun W => run_eql32 W (hmac key b) (hmac key b) (hmac_length key b) (hmac_length key b)
    have e3 := fun W => run_eql16 W (mac key b) (mac key b) (mac_length key b) (mac_length key b)
    simp only [decide_true] at e1 e2 e3
    go_enter Tryd.func5, Tryd.ntmps5
    go_wp2_with (first
      | (go_at_call 9; go_must (refine (sanity_any _ hL).mono ?_); rintro e w1 ⟨rfl, hB1⟩; have k1 := hr.below hB1; have b1 := hr2.below hB1; have l1 := Lib.hid (hL.below hB1))
      | (go_at_call 13; go_must (refine (sum_any _ _ _ b _ b1 (by omega) l1.out).mono ?_); rintro e w2 ⟨rfl, h2⟩; have hB2 := hB1.trans (h2.mono hB1.size); have k2 := k1.below h2; have b2 := b1.below h2)
      | (go_at_call 15; go_must (refine (rsum_any _ _ _ b _ b2 (by omega)).mono ?_); rintro e w3 ⟨rfl, h3⟩; have hB3 := hB2.trans (h3.mono hB2.size); have k3 := k2.below h3; have b3 := b2.below h3; have l3 := Lib.hid (hL.below hB3))
      | (go_at_call 14; go_must (refine (hmac_any _ _ _ key _ _ _ b _ k3 b3 (by omega) (by omega) l3.out).mono ?_); rintro e w4 ⟨rfl, h4⟩; have hB4 := hB3.trans (h4.mono hB3.size); have k4 := k3.below h4; have b4 := b3.below h4)
      | (go_at_call 16; go_must (refine (rhmac_any _ _ _ key _ _ _ b _ k4 b4 (by omega) (by omega)).mono ?_); rintro e w5 ⟨rfl, h5⟩; have hB5 := hB4.trans (h5.mono hB4.size); have k5 := k4.below h5; have b5 := b4.below h5; have l5 := Lib.hid (hL.below hB5))
      | (go_at_call 17; go_must (refine (mac_any _ _ _ key _ _ _ b _ k5 b5 (by omega) (by omega) l5.out).mono ?_); rintro e w6 ⟨rfl, h6⟩; have hB6 := hB5.trans (h6.mono hB5.size); have k6 := k5.below h6; have b6 := b5.below h6)
      | (go_at_call 18; go_must (refine (rmac_any _ _ _ key _ _ _ b _ k6 b6 (by omega) (by omega)).mono ?_); rintro e w7 ⟨rfl, h7⟩))
    go_ret
    exact ⟨rfl, hB6.trans (h7.mono hB6.size)⟩
  · have HB := Lib.hid hbig
    clear hbig
    by_cases h1 : 3000 < n
    · have t1 : (3000 : Int) < (n : Int) := by omega
      go_enter Tryd.func5, Tryd.ntmps5
      go_wp2_with (go_at_call 9; go_must (refine (sanity_any _ hL).mono ?_); rintro e w1 ⟨rfl, hB1⟩)
      go_ret
      exact ⟨rfl, hB1⟩
    · have t1 : ¬ ((3000 : Int) < (n : Int)) := by omega
      have t2 : (3000 : Int) < (n2 : Int) := by have := HB.out; omega
      go_enter Tryd.func5, Tryd.ntmps5
      go_wp2_with (go_at_call 9; go_must (refine (sanity_any _ hL).mono ?_); rintro e w1 ⟨rfl, hB1⟩)
      go_ret
      exact ⟨rfl, hB1⟩

/-! ### Two arguments that are structs -/
theorem open_in5 {H : Type} {enc : TypeId × Value → H} {W : World} {base b0 : Nat} {sp : Nat → Bool} {held : Bool} {r : Reach} {v : Value} {d : DataW H} {p : List MemPlace} (hv : Value.okWide Tryd.prog W r b0 40 v) (h : DataW.Trod enc Tryd.prog W base sp held 40 v d p) :
    ∃ (tag : Int) (A1 : Option Addr) (n1 c1 : Nat) (key : List UInt8) (s : ByteArray) (A3 : Option Addr) (n3 c3 : Nat) (ps : List (List UInt8)), v = .agg #[.int .i64 tag, .slice A1 n1 c1, .string s, .slice A3 n3 c3] ∧
      (Lit.int .i64 tag).wf = true ∧ Rd W A1 n1 key ∧ n1 ≤ maxLen ∧ s.size ≤ maxLen ∧ RdL W A3 n3 ps ∧ n3 ≤ maxLen := by
  obtain ⟨v0, v1, v2, v3, y0, y1, y2, y3, m, rfl, _, _, h0, h1, h2, h3⟩ := Joins.open_agg4 Tryd.underlying40 (by kernel_rfl) (by kernel_rfl) hv h
  obtain ⟨tag, e0, _, w0⟩ := DataW.trod_int Tryd.underlying3 h0
  obtain ⟨A1, n1, c1, key, e1, r1, m1, m1'⟩ := bytes_of h1
  obtain ⟨s, e2, _, ms⟩ := DataW.trod_string Tryd.underlying9 h2
  obtain ⟨A3, n3, c3, ps, e3, r3, m3, m3'⟩ := parts_of h3
  simp at e0 e1 e2 e3
  subst e0 e1 e2 e3
  exact ⟨tag, A1, n1, c1, key, s, A3, n3, c3, ps, rfl, w0, r1, Nat.le_trans m1 m1', ms, r3, Nat.le_trans m3 m3'⟩
theorem open_in6 {H : Type} {enc : TypeId × Value → H} {W : World} {base b0 : Nat} {sp : Nat → Bool} {held : Bool} {r : Reach} {v : Value} {d : DataW H} {p : List MemPlace} (hv : Value.okWide Tryd.prog W r b0 44 v) (h : DataW.Trod enc Tryd.prog W base sp held 44 v d p) :
    ∃ (A0 : Option Addr) (n0 c0 : Nat) (key : List UInt8) (A1 : Option Addr) (n1 c1 : Nat) (b : List UInt8) (tag : Int) (A3 : Option Addr) (n3 c3 : Nat) (ps : List (List UInt8)), v = .agg #[.slice A0 n0 c0, .slice A1 n1 c1, .int .i64 tag, .slice A3 n3 c3] ∧
      Rd W A0 n0 key ∧ n0 ≤ maxLen ∧ Rd W A1 n1 b ∧ n1 ≤ maxLen ∧ (Lit.int .i64 tag).wf = true ∧ RdL W A3 n3 ps ∧ n3 ≤ maxLen := by
  obtain ⟨v0, v1, v2, v3, y0, y1, y2, y3, m, rfl, _, _, h0, h1, h2, h3⟩ := Joins.open_agg4 Tryd.underlying44 (by kernel_rfl) (by kernel_rfl) hv h
  obtain ⟨A0, n0, c0, key, e0, r0, m0, m0'⟩ := bytes_of h0
  obtain ⟨A1, n1, c1, b, e1, r1, m1, m1'⟩ := bytes_of h1
  obtain ⟨tag, e2, _, w2⟩ := DataW.trod_int Tryd.underlying3 h2
  obtain ⟨A3, n3, c3, ps, e3, r3, m3, m3'⟩ := parts_of h3
  simp at e0 e1 e2 e3
  subst e0 e1 e2 e3
  exact ⟨A0, n0, c0, key, A1, n1, c1, b, tag, A3, n3, c3, ps, rfl, r0, Nat.le_trans m0 m0', r1, Nat.le_trans m1 m1', w2, r3, Nat.le_trans m3 m3'⟩
end Go.Proofs.YtghkdkobclhbcaaDoor
