/- ShaStreamIsPrefix. -/
import Derived.Test.YtghkdkobclhbcaaDoorLawB
namespace Go.Proofs.YtghkdkobclhbcaaDoor
open Go.RowKit Go.Shelf

theorem stream_prefix (key : List UInt8) (a b : Nat) (h : a ≤ b) : (stream key b).take a = stream key a := by
  rw [← blocks_take_le key ((b + 31) / 32) b (Nat.le_refl _), ← blocks_take_le key ((b + 31) / 32) a (by omega), List.take_take, Nat.min_eq_left h]

theorem stream_as (A : Option Addr) (m c : Nat) (key : List UInt8) (n : Int) (a : Nat) (w : World) (ha : n.toNat = a) (hr : Rd w A m key) (hm : m ≤ 1073741824) (hn : n ≤ 1073741824) (hL : Laid w) :
    Calls Tryd.prog 10 #[.slice A m c, .int .i64 n] w fun e w' => ∃ A1 c1, e = .returned (.slice A1 a c1) ∧ Rd w' A1 a (stream key a) ∧ a ≤ c1 ∧ Below w.heap.size w w' := by
  subst ha
  refine (stream_any A m c key n w hr hm hn hL).mono ?_
  rintro e w' ⟨A1, c1, rfl, hown, hB⟩
  have hc := own_cap hown
  rw [stream_length] at hc
  exact ⟨A1, c1, by rw [stream_length], ⟨stream_length _ _, own_cells hown⟩, hc, hB⟩
theorem rstream_as (A : Option Addr) (m c : Nat) (key : List UInt8) (n : Int) (a : Nat) (w : World) (ha : n.toNat = a) (hr : Rd w A m key) (hm : m ≤ 1073741824) (hn : n ≤ 1073741824) (hn0 : -9223372036854775808 ≤ n) :
    Calls Tryd.prog 12 #[.slice A m c, .int .i64 n] w fun e w' => ∃ A1 c1, e = .returned (.slice A1 a c1) ∧ Rd w' A1 a (stream key a) ∧ Below w.heap.size w w' := by
  subst ha
  exact rstream_any A m c key n w hr hm hn hn0
theorem same_true (A : Option Addr) (n c : Nat) (xs : List UInt8) (A2 : Option Addr) (n2 c2 : Nat) (ys : List UInt8) (w : World) (he : xs = ys) (hr : Rd w A n xs) (hr2 : Rd w A2 n2 ys) :
    Calls Tryd.prog 11 #[.slice A n c, .slice A2 n2 c2] w fun e w' => e = .returned (.bool true) ∧ w = w' := by
  refine (same_any A n c xs A2 n2 c2 ys w hr hr2).mono ?_
  rintro e w' ⟨rfl, rfl⟩
  exact ⟨ret_bool (by simp [he]), rfl⟩

set_option maxHeartbeats 1000000 in
set_option maxRecDepth 100000 in
theorem streamIsPrefix_any (A : Option Addr) (m c : Nat) (key : List UInt8) (n : Int) (more : Int) (w : World) (hr : Rd w A m key) (hm : m ≤ maxLen) (mn : (Lit.int .i64 n).wf = true) (mm : (Lit.int .u8 more).wf = true) (hL : Laid w) :
    Calls Tryd.prog 3 #[.slice A m c, .int .i64 n, .int .u8 more] w fun e w' => e = .returned (.bool true) ∧ Below w.heap.size w w' := by
  unfold maxLen at hm
  have hb : -9223372036854775808 ≤ n ∧ n ≤ 9223372036854775807 := by simp [Lit.wf, IntKind.min, IntKind.max, IntKind.signed, IntKind.bits] at mn; omega
  have hb2 : 0 ≤ more ∧ more ≤ 255 := by simp [Lit.wf, IntKind.min, IntKind.max, IntKind.signed, IntKind.bits] at mm; omega
  obtain ⟨hb3, hb4⟩ := hb2
  clear mn mm
  by_cases t1 : m ≤ 300
  · have t1i : ¬ ((300 : Int) < (m : Int)) := by omega
    by_cases t2 : n ≤ 600
    · have hn1 : -9223372036854775808 ≤ n := hb.1
      clear hb
      have t2i : ¬ ((600 : Int) < n) := by omega
      obtain ⟨q, hq⟩ : ∃ q : Nat, more = (q : Int) := ⟨more.toNat, by omega⟩
      subst hq
      have hq255 : q ≤ 255 := by omega
      have tok1 : True := trivial
      have tok2 : True := trivial
      by_cases hneg : n < 0
      · have HPRE := Lib.hid (stream_prefix key 0 q (by omega))
        go_enter Tryd.func3, Tryd.ntmps3
        go_wp2_with (first
          | (go_at_call 9; go_must (refine (sanity_any _ hL).mono ?_); rintro e w1 ⟨rfl, hB1⟩; have k1 := hr.below hB1; have l1 := Lib.hid (hL.below hB1))
          | (go_at_call 10; have _t := tok1; refine (stream_as _ _ _ key _ (0) _ (by omega) k1 (by omega) (by omega) l1.out).mono ?_; rintro e w2 ⟨A2, c2, rfl, r2, q2, h2⟩; have hB2 := hB1.trans (h2.mono hB1.size); have k2 := k1.below h2; have l2 := Lib.hid (hL.below hB2); clear tok1)
          | (go_at_call 10; go_must (refine (stream_as _ _ _ key _ (q) _ (by omega) k2 (by omega) (by omega) l2.out).mono ?_); rintro e w3 ⟨A3, c3, rfl, r3, q3, h3⟩; have hB3 := hB2.trans (h3.mono hB2.size); have k3 := k2.below h3; have s3 := r2.below h3; have q3i : ((0 : Nat) : Int) ≤ (c3 : Int) := by omega)
          | (go_at_call 12; go_must (refine (rstream_as _ _ _ key _ (0) _ (by omega) k3 (by omega) (by omega) (by omega)).mono ?_); rintro e w4 ⟨A4, c4, rfl, r4, h4⟩; have hB4 := hB3.trans (h4.mono hB3.size); have s4 := s3.below h4; have u4 := rd_pre (0) (r3.below h4).cells (by rw [stream_length]; omega); rw [HPRE.out] at u4)
          | (go_at_call 11; have _t := tok2; refine (same_true _ _ _ (stream key (0)) _ _ _ (stream key (0)) _ rfl s4 r4).mono ?_; rintro e w5 ⟨rfl, rfl⟩; clear tok2)
          | (go_at_call 11; go_must (refine (same_true _ _ _ (stream key (0)) _ _ _ (stream key (0)) _ rfl s4 u4).mono ?_); rintro e w6 ⟨rfl, rfl⟩))
        go_ret
        exact ⟨rfl, hB4⟩
      · obtain ⟨k, rfl⟩ : ∃ k : Nat, n = (k : Int) := ⟨n.toNat, by omega⟩
        have hk600 : k ≤ 600 := by omega
        have HPRE := Lib.hid (stream_prefix key k (k + q) (by omega))
        go_enter Tryd.func3, Tryd.ntmps3
        go_wp2_with (first
          | (go_at_call 9; go_must (refine (sanity_any _ hL).mono ?_); rintro e w1 ⟨rfl, hB1⟩; have k1 := hr.below hB1; have l1 := Lib.hid (hL.below hB1))
          | (go_at_call 10; have _t := tok1; refine (stream_as _ _ _ key _ (k) _ (by omega) k1 (by omega) (by omega) l1.out).mono ?_; rintro e w2 ⟨A2, c2, rfl, r2, q2, h2⟩; have hB2 := hB1.trans (h2.mono hB1.size); have k2 := k1.below h2; have l2 := Lib.hid (hL.below hB2); clear tok1)
          | (go_at_call 10; go_must (refine (stream_as _ _ _ key _ (k + q) _ (by omega) k2 (by omega) (by omega) l2.out).mono ?_); rintro e w3 ⟨A3, c3, rfl, r3, q3, h3⟩; have hB3 := hB2.trans (h3.mono hB2.size); have k3 := k2.below h3; have s3 := r2.below h3; have q3i : ((k : Nat) : Int) ≤ (c3 : Int) := by omega)
          | (go_at_call 12; go_must (refine (rstream_as _ _ _ key _ (k) _ (by omega) k3 (by omega) (by omega) (by omega)).mono ?_); rintro e w4 ⟨A4, c4, rfl, r4, h4⟩; have hB4 := hB3.trans (h4.mono hB3.size); have s4 := s3.below h4; have u4 := rd_pre (k) (r3.below h4).cells (by rw [stream_length]; omega); rw [HPRE.out] at u4)
          | (go_at_call 11; have _t := tok2; refine (same_true _ _ _ (stream key (k)) _ _ _ (stream key (k)) _ rfl s4 r4).mono ?_; rintro e w5 ⟨rfl, rfl⟩; clear tok2)
          | (go_at_call 11; go_must (refine (same_true _ _ _ (stream key (k)) _ _ _ (stream key (k)) _ rfl s4 u4).mono ?_); rintro e w6 ⟨rfl, rfl⟩))
        go_ret
        exact ⟨rfl, hB4⟩
    · have t2i : (600 : Int) < n := by omega
      go_enter Tryd.func3, Tryd.ntmps3
      go_wp2_with (go_at_call 9; go_must (refine (sanity_any _ hL).mono ?_); rintro e w1 ⟨rfl, hB1⟩)
      go_ret
      exact ⟨rfl, hB1⟩
  · have t1i : (300 : Int) < (m : Int) := by omega
    go_enter Tryd.func3, Tryd.ntmps3
    go_wp2_with (go_at_call 9; go_must (refine (sanity_any _ hL).mono ?_); rintro e w1 ⟨rfl, hB1⟩)
    go_ret
    exact ⟨rfl, hB1⟩
end Go.Proofs.YtghkdkobclhbcaaDoor
