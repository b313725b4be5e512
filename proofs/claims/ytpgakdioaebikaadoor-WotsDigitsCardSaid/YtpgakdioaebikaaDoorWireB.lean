/- The walks of wire.Bytes and of the reference's Int and Bytes. -/
import Derived.Test.YtpgakdioaebikaaDoorWireA
namespace Go.Proofs.YtpgakdioaebikaaDoor
open Go.RowKit

set_option maxHeartbeats 400000 in
set_option maxRecDepth 100000 in
theorem bytes_any (s : ByteArray) (w : World) (hs : s.size ≤ 1099511627776) :
   Calls Tryd.prog 46 #[.string s] w fun e w' => ∃ A c, e = .returned (.slice A (encBytes s.data.toList).length c) ∧ w'.ownsRow w.heap.size 5 1 (.slice A (encBytes s.data.toList).length c) (encBytes s.data.toList).length (bv (encBytes s.data.toList)) ∧ Below w.heap.size w w' := by
  have hle := encInt_le s.size
  go_enter Tryd.func46, Tryd.ntmps46
  go_wp2_with (first
    | (go_at_call 31; go_must (refine (int_any _ _ (by omega) (by omega)).mono ?_); rintro e w1 ⟨A1, c1, rfl, hown1, hB1⟩)
    | (at_builtin; go_must (refine wpList_apps rfl _ _ 41 9 rfl w.heap.size Tryd.underlying41 Tryd.underlying9 info5 _ _ _ _ hown1 rfl rfl hB1.size (by omega) ?_); intro A2 c2 w2 hown2 hg2))
  go_ret
  have e : encBytes s.data.toList = encInt s.size ++ s.data.toList := by unfold encBytes; rw [size_bytes]
  rw [e]
  simp only [List.length_append, size_bytes]
  exact ⟨A2, c2, rfl, hown2, below_grown hB1 hg2 hB1.size (own_ge hown1)⟩

theorem zigzag_any (n : Int) (w : World) (h0 : -9223372036854775808 ≤ n) (h1 : n < 9223372036854775808) :
    Calls Tryd.prog 51 #[.int .i64 n] w fun e w' => e = .returned (.int .u64 (zz n : Nat)) ∧ w = w' := by
  by_cases hn : 0 ≤ n
  · go_enter Tryd.func51, Tryd.ntmps51
    go_wp2
    go_ret
    exact ⟨ret_int (by unfold zz; rw [if_pos hn]; omega), rfl⟩
  · go_enter Tryd.func51, Tryd.ntmps51
    go_wp2
    go_ret
    exact ⟨ret_int (by unfold zz; rw [if_neg (by omega)]; omega), rfl⟩

theorem byte_add (m : Nat) : ((UInt8.ofNat (m % 128 + 128)).toNat : Int) = 128 + (m : Int) % 128 := by rw [byte_hi]; omega
set_option maxHeartbeats 400000 in
set_option maxRecDepth 100000 in
theorem rint_any (n : Int) (w : World) (h0 : -9223372036854775808 ≤ n) (h1 : n < 9223372036854775808) :
   Calls Tryd.prog 41 #[.int .i64 n] w fun e w' => ∃ A c, e = .returned (.slice A (encInt n).length c) ∧ w'.ownsRow w.heap.size 5 1 (.slice A (encInt n).length c) (encInt n).length (bv (encInt n)) ∧ Below w.heap.size w w' := by
  have hz := zz_lt n h0 h1
  go_enter Tryd.func41, Tryd.ntmps41
  go_wp2_with (go_at_call 51; go_must (refine (zigzag_any _ _ h0 h1).mono ?_); rintro e w1 ⟨rfl, rfl⟩)
  go_loopw [3, 4] (fun u v wr => ∃ (k m : Nat) (A : Option Addr) (c : Nat) (xs : List UInt8), u = .int .u64 m ∧ v = .slice A xs.length c ∧ 0 < k ∧ m ≤ 18446744073709551615 ∧ m < 128 ^ k ∧ wr.ownsRow w.heap.size 5 1 (.slice A xs.length c) xs.length (bv xs) ∧ encInt n = xs ++ vint k m ∧ Below w.heap.size w wr)
    (fun u _ _ => (intOf u).toNat)
  case atStart => exact ⟨10, zz n, none, 0, [], rfl, rfl, by omega, by omega, by omega, World.ownsRow_nil _ _ _ _, rfl, Below.refl _ _⟩
  case round =>
    obtain ⟨k, m, A, c, xs, rfl, rfl, hk, hm64, hm, hown, henc, hB⟩ := hrel
    obtain ⟨k, rfl⟩ : ∃ k', k = k' + 1 := ⟨k - 1, by omega⟩
    have hxl : xs.length ≤ 10 := by have h2 := encInt_le n; rw [henc] at h2; simp at h2; omega
    have hE := Lib.hid henc
    clear henc
    have hM := Lib.hid hm
    clear hm
    by_cases hlt : m < 128
    · go_wp2_with (at_builtin; go_must (refine wpList_app1 rfl _ _ 41 rfl w.heap.size 5 1 (.int .u8 0) Tryd.underlying41 info5 rfl (by decide) _ _ _ _ hown rfl rfl rfl hB.size (by omega) ?_); intro A1 c1 w1 hown1 hg1 hat1)
      go_ret
      have e : encInt n = xs ++ [UInt8.ofNat m] := by rw [hE.out, vint_lo _ _ hlt]
      have hs := own_snoc hown1 (byte_lo m hlt)
      exact ⟨A1, c1, by rw [e]; simp, by rw [e]; exact hs, below_grown hB hg1 hB.size (own_ge hown)⟩
    · go_wp2_with (at_builtin; go_must (refine wpList_app1 rfl _ _ 41 rfl w.heap.size 5 1 (.int .u8 0) Tryd.underlying41 info5 rfl (by decide) _ _ _ _ hown rfl rfl rfl hB.size (by omega) ?_); intro A1 c1 w1 hown1 hg1 hat1)
      have hs := own_snoc hown1 (byte_add m)
      go_roundw
      case rel => exact ⟨k, m / 128, A1, c1, xs ++ [UInt8.ofNat (m % 128 + 128)], rfl, by simp, by have := hM.out; rcases k with _ | k; (simp at this; omega); omega, by omega, by have := hM.out; rw [Nat.pow_succ] at this; omega, by simpa using hs, by rw [hE.out, vint_hi _ _ hlt]; simp, below_grown hB hg1 hB.size (own_ge hown)⟩
      case measure => simp [intOf]; omega

set_option maxHeartbeats 400000 in
set_option maxRecDepth 100000 in
theorem rbytes_any (s : ByteArray) (w : World) (hs : s.size ≤ 1099511627776) :
   Calls Tryd.prog 36 #[.string s] w fun e w' => ∃ A c, e = .returned (.slice A (encBytes s.data.toList).length c) ∧ w'.ownsRow w.heap.size 5 1 (.slice A (encBytes s.data.toList).length c) (encBytes s.data.toList).length (bv (encBytes s.data.toList)) ∧ Below w.heap.size w w' := by
  have hle := encInt_le s.size
  go_enter Tryd.func36, Tryd.ntmps36
  go_wp2_with (first
    | (go_at_call 41; go_must (refine (rint_any _ _ (by omega) (by omega)).mono ?_); rintro e w1 ⟨A1, c1, rfl, hown1, hB1⟩)
    | (refine wpList_tobytes rfl _ 9 41 rfl Tryd.underlying9 Tryd.underlying41 Tryd.underlying5 s rfl ?_; intro c2 k2 pad w2 hB2 hsz2 hc2 hk2 _)
    | (at_builtin; go_must (refine wpList_app rfl _ _ 41 rfl w.heap.size 5 1 1 _ Tryd.underlying41 info5 rfl (by decide) (by decide) _ _ _ (bv s.data.toList) _ s.size _ (own_below hown1 hB2) (cells_of_block hc2) rfl rfl (by rw [bv_length, size_bytes]; omega) (bv_one _) (by have := hB1.size; omega) (by omega) ?_); intro A3 c3 w3 hown3 hg3 _))
  go_ret
  have e : encBytes s.data.toList = encInt s.size ++ s.data.toList := by unfold encBytes; rw [size_bytes]
  rw [e, bv_append]
  simp only [List.length_append, size_bytes]
  exact ⟨A3, c3, rfl, hown3, below_grown (hB1.trans (hB2.mono hB1.size)) hg3 (by have := hB1.size; omega) (own_ge hown1)⟩
end Go.Proofs.YtpgakdioaebikaaDoor
