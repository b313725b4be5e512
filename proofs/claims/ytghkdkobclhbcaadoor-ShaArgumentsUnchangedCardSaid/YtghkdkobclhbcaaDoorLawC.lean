/- ShaDigestMatchesSpec. -/
import Derived.Test.YtghkdkobclhbcaaDoorLawB
namespace Go.Proofs.YtghkdkobclhbcaaDoor
open Go.RowKit Go.Shelf

theorem derive_length (key label : List UInt8) (ps : List (List UInt8)) : (derive key label ps).length = 16 := mac_length _ _
set_option maxHeartbeats 1000000 in
set_option maxRecDepth 100000 in
theorem digestMatches_any (tag : Int) (A1 : Option Addr) (n1 c1 : Nat) (key : List UInt8) (s : ByteArray) (A3 : Option Addr) (n3 c3 : Nat) (ps : List (List UInt8)) (w : World) (_mt : (Lit.int .i64 tag).wf = true) (hr : Rd w A1 n1 key) (hm1 : n1 ≤ maxLen) (hms : s.size ≤ maxLen) (hp : RdL w A3 n3 ps) (hm3 : n3 ≤ maxLen) (hL : Laid w) :
    Calls Tryd.prog 7 #[.agg #[.int .i64 tag, .slice A1 n1 c1, .string s, .slice A3 n3 c3]] w fun e w' => e = .returned (.bool true) ∧ Below w.heap.size w w' := by
  have hmx : maxLen = 9223372036854775807 := rfl
  have hm1' : n1 ≤ 9223372036854775807 := hm1
  have hms' : s.size ≤ 9223372036854775807 := hms
  clear hm1 hms hmx
  have hB0 : Below w.heap.size w (w.alloc (.cells #[.int .i64 tag, .slice A1 n1 c1, .string s, .slice A3 n3 c3] 40)) := (Below.refl _ w).alloc (Nat.le_refl _) _
  have k0 := hr.below hB0
  have p0 := hp.below hB0
  have l0 := Lib.hid (hL.below hB0)
  have g2 := guard16
  have e1 := fun W => run_eql16 W (digest tag ps) (digest tag ps) (digest_length tag ps) (digest_length tag ps)
  have e2 := fun W => run_eql16 W (derive key s.data.toList ps) (derive key s.data.toList ps) (derive_length _ _ _) (derive_length _ _ _)
  simp only [decide_true] at e1 e2
  cases hs : shortB ps with
  | false =>
    have HS := Lib.hid hs
    clear hs
    by_cases t1 : n1 ≤ 300
    · have t1i : ¬ ((300 : Int) < (n1 : Int)) := by omega
      by_cases t2 : s.size ≤ 300
      · have t2i : ¬ ((300 : Int) < (s.size : Int)) := by omega
        go_enter Tryd.func7, Tryd.ntmps7
        go_wp2_with (first
          | (go_at_call 9; go_must (refine (sanity_any _ l0.out).mono ?_); rintro e w1 ⟨rfl, h1⟩; have hB1 := hB0.trans (h1.mono hB0.size); have p1 := p0.below h1)
          | (go_at_call 19; go_must (refine (isShort_any _ _ _ ps _ p1 hm3).mono ?_); rintro e w2 ⟨rfl, rfl⟩; rw [HS.out]))
        go_ret
        exact ⟨rfl, hB1⟩
      · have t2i : (300 : Int) < (s.size : Int) := by omega
        go_enter Tryd.func7, Tryd.ntmps7
        go_wp2_with (go_at_call 9; go_must (refine (sanity_any _ l0.out).mono ?_); rintro e w1 ⟨rfl, h1⟩; have hB1 := hB0.trans (h1.mono hB0.size))
        go_ret
        exact ⟨rfl, hB1⟩
    · have t1i : (300 : Int) < (n1 : Int) := by omega
      go_enter Tryd.func7, Tryd.ntmps7
      go_wp2_with (go_at_call 9; go_must (refine (sanity_any _ l0.out).mono ?_); rintro e w1 ⟨rfl, h1⟩; have hB1 := hB0.trans (h1.mono hB0.size))
      go_ret
      exact ⟨rfl, hB1⟩
  | true =>
    obtain ⟨h20, h300⟩ := shortB_parts hs
    have hn := hp.len
    have h4096 : n3 ≤ 4096 := by omega
    have H65 : Hid (∀ p ∈ ps, p.length ≤ 65536) := fun p hp => Nat.le_trans (h300 p hp) (by omega)
    have HS := Lib.hid hs
    clear hs hn h300 h20
    by_cases t1 : n1 ≤ 300
    · have t1i : ¬ ((300 : Int) < (n1 : Int)) := by omega
      by_cases t2 : s.size ≤ 300
      · have t2i : ¬ ((300 : Int) < (s.size : Int)) := by omega
        go_enter Tryd.func7, Tryd.ntmps7
        go_wp2_with (first
          | (go_at_call 9; go_must (refine (sanity_any _ l0.out).mono ?_); rintro e w1 ⟨rfl, h1⟩; have hB1 := hB0.trans (h1.mono hB0.size); have p1 := p0.below h1; have k1 := k0.below h1; have l1 := Lib.hid (hL.below hB1))
          | (go_at_call 19; go_must (refine (isShort_any _ _ _ ps _ p1 hm3).mono ?_); rintro e w2 ⟨rfl, rfl⟩; rw [HS.out])
          | (go_at_call 20; go_must (refine (digest_any _ _ _ _ ps _ p1 h4096 H65.out l1.out).mono ?_); rintro e w3 ⟨rfl, h3⟩; have hB3 := hB1.trans (h3.mono hB1.size); have p3 := p1.below h3; have k3 := k1.below h3)
          | (go_at_call 21; go_must (refine (rdigest_any _ _ _ _ ps _ p3 h4096 H65.out).mono ?_); rintro e w4 ⟨rfl, h4⟩; have hB4 := hB3.trans (h4.mono hB3.size); have p4 := p3.below h4; have k4 := k3.below h4; have l4 := Lib.hid (hL.below hB4))
          | (go_at_call 22; go_must (refine (derive_any _ _ _ key s _ _ _ ps _ k4 p4 (by omega) (by omega) h4096 H65.out l4.out).mono ?_); rintro e w5 ⟨rfl, h5⟩; have hB5 := hB4.trans (h5.mono hB4.size); have p5 := p4.below h5; have k5 := k4.below h5)
          | (go_at_call 23; go_must (refine (rderive_any _ _ _ key s _ _ _ ps _ k5 p5 (by omega) (by omega) h4096 H65.out).mono ?_); rintro e w6 ⟨rfl, h6⟩))
        go_ret
        exact ⟨rfl, hB5.trans (h6.mono hB5.size)⟩
      · have t2i : (300 : Int) < (s.size : Int) := by omega
        go_enter Tryd.func7, Tryd.ntmps7
        go_wp2_with (go_at_call 9; go_must (refine (sanity_any _ l0.out).mono ?_); rintro e w1 ⟨rfl, h1⟩; have hB1 := hB0.trans (h1.mono hB0.size))
        go_ret
        exact ⟨rfl, hB1⟩
    · have t1i : (300 : Int) < (n1 : Int) := by omega
      go_enter Tryd.func7, Tryd.ntmps7
      go_wp2_with (go_at_call 9; go_must (refine (sanity_any _ l0.out).mono ?_); rintro e w1 ⟨rfl, h1⟩; have hB1 := hB0.trans (h1.mono hB0.size))
      go_ret
      exact ⟨rfl, hB1⟩
end Go.Proofs.YtghkdkobclhbcaaDoor
