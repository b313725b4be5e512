/- The plain side: the encodings, SHA-256 and what is built on it, as functions on lists of bytes and on natural numbers. -/
namespace Go.Proofs.YtpgakdioaebikaaDoor

/-! ### Encodings -/
def zz (n : Int) : Nat := if 0 ≤ n then (2 * n).toNat else (-2 * n - 1).toNat
def vint : Nat → Nat → List UInt8
  | 0, _ => []
  | k + 1, u => if u < 128 then [UInt8.ofNat u] else UInt8.ofNat (u % 128 + 128) :: vint k (u / 128)
def encInt (n : Int) : List UInt8 := vint 10 (zz n)
def encBytes (s : List UInt8) : List UInt8 := encInt s.length ++ s
theorem zz_lt (n : Int) (h0 : -9223372036854775808 ≤ n) (h1 : n < 9223372036854775808) : zz n < 18446744073709551616 := by unfold zz; split <;> omega
theorem vint_le (k u : Nat) : (vint k u).length ≤ k := by
  induction k generalizing u with
  | zero => simp [vint]
  | succ k ih =>
    unfold vint
    split
    · simp
    · have := ih (u / 128); simp; omega
theorem encInt_le (n : Int) : (encInt n).length ≤ 10 := vint_le 10 _
theorem encBytes_le (s : List UInt8) : (encBytes s).length ≤ 10 + s.length := by
  have := encInt_le s.length
  unfold encBytes
  simp
  omega
theorem vint_lo (k u : Nat) (h : u < 128) : vint (k + 1) u = [UInt8.ofNat u] := by rw [vint, if_pos h]
theorem vint_hi (k u : Nat) (h : ¬ u < 128) : vint (k + 1) u = UInt8.ofNat (u % 128 + 128) :: vint k (u / 128) := by rw [vint, if_neg h]
theorem byte_lo (u : Nat) (h : u < 128) : ((UInt8.ofNat u).toNat : Int) = u := by simp; omega
theorem byte_hi (u : Nat) : ((UInt8.ofNat (u % 128 + 128)).toNat : Int) = (u % 128 : Nat) + 128 := by simp; omega
theorem or128 : ∀ x : Fin 128, x.val ||| 128 = x.val + 128 := by decide +kernel
theorem or256 : ∀ x : Fin 256, x.val ||| 128 = x.val % 128 + 128 := by decide +kernel
theorem xor_ones64 (a : Nat) (h : a < 18446744073709551616) : 18446744073709551615 ^^^ a = 18446744073709551615 - a := by
  have h1 : (~~~ (BitVec.ofNat 64 a)).toNat = 2 ^ 64 - 1 - (BitVec.ofNat 64 a).toNat := BitVec.toNat_not
  rw [BitVec.not_def, BitVec.toNat_xor] at h1
  simpa [Nat.mod_eq_of_lt h] using h1
end Go.Proofs.YtpgakdioaebikaaDoor
