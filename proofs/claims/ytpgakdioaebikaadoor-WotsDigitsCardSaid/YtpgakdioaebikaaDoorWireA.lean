/- The walks of package wire's encoders, and of the reference's. -/
import Derived.Test.YtpgakdioaebikaaDoorProg
import Derived.Test.YtpgakdioaebikaaDoorBase
import Derived.Test.YtpgakdioaebikaaDoorPure
import Derived.Outline
namespace Go.Proofs.YtpgakdioaebikaaDoor
open Go.RowKit

theorem info5 : (Tryd.prog.info? 5).map (fun i => (i.zero, i.size, i.bytes)) = some (some (.int .u8 0), 1, 1) := by kernel_rfl

theorem byte_or (m : Nat) : ((UInt8.ofNat (m % 128 + 128)).toNat : Int) = bits BinOp.or IntKind.u8 ((m : Int) % 256) 128 := by
  have h := u8_or_nat (m % 256) 128 (by omega) (by omega)
  have e : ((m % 256 : Nat) : Int) = (m : Int) % 256 := by omega
  rw [e] at h
  have h2 := or256 ⟨m % 256, by omega⟩
  simp only at h2
  rw [byte_hi, show (128 : Int) = ((128 : Nat) : Int) from rfl, h, h2]
  omega

theorem zz_pos (n : Int) (h : 0 ≤ n) : Value.int IntKind.u64 (n * 2) = Value.int IntKind.u64 (zz n : Nat) := by
  unfold zz; rw [if_pos h]; congr 1; omega
theorem zz_neg (n : Int) (h : n < 0) (h0 : -9223372036854775808 ≤ n) : Value.int IntKind.u64 (bits BinOp.xor IntKind.u64 IntKind.u64.max (IntKind.u64.wrap (IntKind.u64.wrap n * 2))) = Value.int IntKind.u64 (zz n : Nat) := by
  have e1 : IntKind.u64.wrap (IntKind.u64.wrap n * 2) = ((2 * n + 18446744073709551616).toNat : Nat) := by
    simp [IntKind.wrap, IntKind.bits, IntKind.signed]; omega
  have e2 : IntKind.u64.max = ((18446744073709551615 : Nat) : Int) := by decide +kernel
  rw [e1, e2, u64_xor_nat _ _ (by omega) (by omega), xor_ones64 _ (by omega)]
  congr 1
  unfold zz
  rw [if_neg (by omega)]
  omega

set_option maxHeartbeats 400000 in
set_option maxRecDepth 100000 in
theorem int_any (n : Int) (w : World) (h0 : -9223372036854775808 ≤ n) (h1 : n < 9223372036854775808) :
   Calls Tryd.prog 31 #[.int .i64 n] w fun e w' => ∃ A c, e = .returned (.slice A (encInt n).length c) ∧ w'.ownsRow w.heap.size 5 1 (.slice A (encInt n).length c) (encInt n).length (bv (encInt n)) ∧ Below w.heap.size w w' := by
  by_cases hn : 0 ≤ n
  all_goals
    go_enter Tryd.func31, Tryd.ntmps31
    go_wp2
    go_step3
    go_wp2
    go_step3
    go_wp2
    go_loopw [3, 4] (fun u v wr => ∃ (k m : Nat) (A : Option Addr) (c : Nat) (xs : List UInt8), u = .int .u64 m ∧ v = .slice A xs.length c ∧ 0 < k ∧ m < 128 ^ k ∧ wr.ownsRow w.heap.size 5 1 (.slice A xs.length c) xs.length (bv xs) ∧ encInt n = xs ++ vint k m ∧ Below w.heap.size w wr)
      (fun u _ _ => (intOf u).toNat)
    case atStart => exact ⟨10, zz n, none, 0, [], by first | exact zz_pos n (by omega) | exact zz_neg n (by omega) h0, rfl, by omega, by have := zz_lt n h0 h1; omega, World.ownsRow_nil _ _ _ _, rfl, Below.refl _ _⟩
    case round =>
      obtain ⟨k, m, A, c, xs, rfl, rfl, hk, hm, hown, henc, hB⟩ := hrel
      obtain ⟨k, rfl⟩ : ∃ k', k = k' + 1 := ⟨k - 1, by omega⟩
      have hxl : xs.length ≤ 10 := by have h2 := encInt_le n; rw [henc] at h2; simp at h2; omega
      have hE := Lib.hid henc
      clear henc
      have hM := Lib.hid hm
      clear hm
      have hle := encInt_le n
      by_cases hlt : m < 128
      · go_wp2_with (at_builtin; go_must (refine wpList_app1 rfl _ _ 41 rfl w.heap.size 5 1 (.int .u8 0) Tryd.underlying41 info5 rfl (by decide) _ _ _ _ hown rfl rfl rfl hB.size (by omega) ?_); intro A1 c1 w1 hown1 hg1 hat1)
        rw [Exit.noGoto_ret]
        go_ret
        have e : encInt n = xs ++ [UInt8.ofNat m] := by rw [hE.out, vint_lo _ _ hlt]
        have hs := own_snoc hown1 (byte_lo m hlt)
        exact ⟨A1, c1, by rw [e]; simp, by rw [e]; exact hs, below_grown hB hg1 hB.size (own_ge hown)⟩
      · go_wp2_with (at_builtin; go_must (refine wpList_app1 rfl _ _ 41 rfl w.heap.size 5 1 (.int .u8 0) Tryd.underlying41 info5 rfl (by decide) _ _ _ _ hown rfl rfl rfl hB.size (by omega) ?_); intro A1 c1 w1 hown1 hg1 hat1)
        have hs := own_snoc hown1 (byte_or m)
        go_roundw
        case rel => exact ⟨k, m / 128, A1, c1, xs ++ [UInt8.ofNat (m % 128 + 128)], rfl, by simp, by have := hM.out; rcases k with _ | k; (simp at this; omega); omega, by have := hM.out; rw [Nat.pow_succ] at this; omega, by simpa using hs, by rw [hE.out, vint_hi _ _ hlt]; simp, below_grown hB hg1 hB.size (own_ge hown)⟩
        case measure => simp [intOf]; omega
end Go.Proofs.YtpgakdioaebikaaDoor
