/- One-time signatures, as functions on lists of bytes. -/
import Derived.Test.YtpgakdioaebikaaDoorShaI
namespace Go.Proofs.YtpgakdioaebikaaDoor

/-- Digit k of a message (k < 64). -/
def wd (m : List UInt8) (k : Nat) : Nat := (m.getD (k / 4) 0).toNat / 4 ^ (3 - k % 4) % 4
/-- The checksum of the first k digits. -/
def wsum (m : List UInt8) : Nat → Nat
  | 0 => 0
  | k + 1 => wsum m k + (3 - wd m k)
/-- Digit k of a message and of its checksum (k < 68). -/
def wdg (m : List UInt8) (k : Nat) : Nat := if k < 64 then wd m k else wsum m 64 / 4 ^ (67 - k) % 4
def wdigits (m : List UInt8) : List Nat := (List.range 68).map (wdg m)
def wotsL : List UInt8 := [119, 111, 116, 115]
def wstep (k : Nat) (v : List UInt8) : List UInt8 := digest 3 [encInt k, v]
def wadv (k : Nat) (v : List UInt8) : Nat → List UInt8
  | 0 => v
  | n + 1 => wstep k (wadv k v n)
def wstart (seed : List UInt8) (index : Int) (k : Nat) : List UInt8 := derive seed wotsL [encInt index, encInt k]
def wjoin (f : Nat → List UInt8) : Nat → List UInt8
  | 0 => []
  | k + 1 => wjoin f k ++ f k
def wkey (f : Nat → List UInt8) : List UInt8 := digest 4 [wjoin f 68]
def wpublic (seed : List UInt8) (index : Int) : List UInt8 := wkey fun k => wadv k (wstart seed index k) 3
def wsigk (seed : List UInt8) (index : Int) (m : List UInt8) (k : Nat) : List UInt8 := wadv k (wstart seed index k) (wdg m k)
def wsign (seed : List UInt8) (index : Int) (m : List UInt8) : List (List UInt8) := (List.range 68).map (wsigk seed index m)
def wrecover (m : List UInt8) (chain : List (List UInt8)) : List UInt8 := wkey fun k => wadv k (chain.getD k []) (3 - wdg m k)

theorem wd_le (m : List UInt8) (k : Nat) : wd m k ≤ 3 := by unfold wd; omega
theorem wdg_le (m : List UInt8) (k : Nat) : wdg m k ≤ 3 := by unfold wdg; split; exact wd_le m k; omega
theorem wsum_le (m : List UInt8) (k : Nat) : wsum m k ≤ 3 * k := by
  induction k with
  | zero => simp [wsum]
  | succ k ih => rw [wsum]; omega
theorem wdigits_length (m : List UInt8) : (wdigits m).length = 68 := by simp [wdigits]
theorem wsign_length (seed : List UInt8) (index : Int) (m : List UInt8) : (wsign seed index m).length = 68 := by simp [wsign]
theorem wadv_add (k : Nat) (v : List UInt8) (a b : Nat) : wadv k (wadv k v a) b = wadv k v (a + b) := by
  induction b with
  | zero => rfl
  | succ b ih => rw [wadv, ih]; rfl
theorem wstep_length (k : Nat) (v : List UInt8) : (wstep k v).length = 16 := digest_length _ _
theorem wadv_length (k : Nat) (v : List UInt8) (n : Nat) (h : v.length = 16) : (wadv k v n).length = 16 := by
  cases n with
  | zero => exact h
  | succ n => exact wstep_length _ _
theorem wstart_length (seed : List UInt8) (index : Int) (k : Nat) : (wstart seed index k).length = 16 := mac_length _ _
theorem wsigk_length (seed : List UInt8) (index : Int) (m : List UInt8) (k : Nat) : (wsigk seed index m k).length = 16 := wadv_length _ _ _ (wstart_length _ _ _)
theorem wkey_length (f : Nat → List UInt8) : (wkey f).length = 16 := digest_length _ _
theorem wjoin_congr {f g : Nat → List UInt8} (n : Nat) (h : ∀ k, k < n → f k = g k) : wjoin f n = wjoin g n := by
  induction n with
  | zero => rfl
  | succ n ih => rw [wjoin, wjoin, ih (fun k hk => h k (by omega)), h n (by omega)]
theorem wkey_congr {f g : Nat → List UInt8} (h : ∀ k, k < 68 → f k = g k) : wkey f = wkey g := by unfold wkey; rw [wjoin_congr 68 h]
theorem wjoin_length (f : Nat → List UInt8) (n : Nat) (h : ∀ k, k < n → (f k).length = 16) : (wjoin f n).length = 16 * n := by
  induction n with
  | zero => rfl
  | succ n ih => rw [wjoin, List.length_append, ih (fun k hk => h k (by omega)), h n (by omega)]; omega
theorem wsign_at (seed : List UInt8) (index : Int) (m : List UInt8) (k : Nat) (h : k < 68) : (wsign seed index m).getD k [] = wsigk seed index m k := by simp [wsign, List.getD_eq_getElem?_getD, h]
theorem wdigits_at (m : List UInt8) (k : Nat) (h : k < 68) : (wdigits m)[k]? = some (wdg m k) := by simp [wdigits, h]
/-- P4.5: a signature leads to the public key. -/
theorem wrecover_sign (seed : List UInt8) (index : Int) (m : List UInt8) : wrecover m (wsign seed index m) = wpublic seed index := by
  unfold wrecover wpublic
  refine wkey_congr fun k hk => ?_
  rw [wsign_at _ _ _ _ hk]
  unfold wsigk
  rw [wadv_add, show wdg m k + (3 - wdg m k) = 3 from by have := wdg_le m k; omega]

theorem wsum64 (m : List UInt8) : wsum m 64 = 64 * wdg m 64 + 16 * wdg m 65 + 4 * wdg m 66 + wdg m 67 := by
  have h := wsum_le m 64
  unfold wdg
  simp only [show ¬ (64 < 64) from by omega, show ¬ (65 < 64) from by omega, show ¬ (66 < 64) from by omega, show ¬ (67 < 64) from by omega, if_false]
  omega
theorem wsum_mono (a b : List UInt8) (n : Nat) (h : ∀ k, k < n → wd b k ≤ wd a k) : wsum a n ≤ wsum b n := by
  induction n with
  | zero => exact Nat.le_refl _
  | succ n ih =>
    have h1 := ih (fun k hk => h k (by omega))
    have h2 := h n (by omega)
    rw [wsum, wsum]
    omega
theorem wsum_same (a b : List UInt8) (n : Nat) (h : ∀ k, k < n → wd b k ≤ wd a k) (he : wsum a n = wsum b n) : ∀ k, k < n → wd a k = wd b k := by
  induction n with
  | zero => intro k hk; omega
  | succ n ih =>
    have h1 := wsum_mono a b n (fun k hk => h k (by omega))
    have h2 := h n (by omega)
    have h3 := wd_le a n
    have h4 := wd_le b n
    rw [wsum, wsum] at he
    intro k hk
    by_cases hkn : k = n
    · subst hkn; omega
    · exact ih (fun k hk => h k (by omega)) (by omega) k (by omega)
theorem byte_digits (x y : UInt8) (h0 : x.toNat / 64 % 4 = y.toNat / 64 % 4) (h1 : x.toNat / 16 % 4 = y.toNat / 16 % 4) (h2 : x.toNat / 4 % 4 = y.toNat / 4 % 4) (h3 : x.toNat % 4 = y.toNat % 4) : x = y := by
  have hx := x.toNat_lt
  have hy := y.toNat_lt
  exact UInt8.toNat_inj.1 (by omega)
theorem wd_inj (a b : List UInt8) (ha : a.length = 16) (hb : b.length = 16) (h : ∀ k, k < 64 → wd a k = wd b k) : a = b := by
  apply List.ext_getElem (by omega)
  intro i h1 h2
  have g0 := h (4 * i) (by omega)
  have g1 := h (4 * i + 1) (by omega)
  have g2 := h (4 * i + 2) (by omega)
  have g3 := h (4 * i + 3) (by omega)
  unfold wd at g0 g1 g2 g3
  rw [show 4 * i / 4 = i from by omega, show 4 * i % 4 = 0 from by omega] at g0
  rw [show (4 * i + 1) / 4 = i from by omega, show (4 * i + 1) % 4 = 1 from by omega] at g1
  rw [show (4 * i + 2) / 4 = i from by omega, show (4 * i + 2) % 4 = 2 from by omega] at g2
  rw [show (4 * i + 3) / 4 = i from by omega, show (4 * i + 3) % 4 = 3 from by omega] at g3
  have ea : a.getD i 0 = a[i] := by simp [List.getD_eq_getElem?_getD, h1]
  have eb : b.getD i 0 = b[i] := by simp [List.getD_eq_getElem?_getD, h2]
  rw [ea, eb] at g0 g1 g2 g3
  exact byte_digits _ _ g0 g1 g2 (by simpa using g3)
/-- P4.5: no signature's digits are all at most those of another message. -/
theorem antichain (a b : List UInt8) (ha : a.length = 16) (hb : b.length = 16) (hne : a ≠ b) : ∃ k, k < 68 ∧ wdg a k < wdg b k := by
  apply Classical.byContradiction
  intro hno
  have hle : ∀ k, k < 68 → wdg b k ≤ wdg a k := fun k hk => by
    apply Nat.le_of_not_lt
    intro h
    exact hno ⟨k, hk, h⟩
  have hd : ∀ k, k < 64 → wd b k ≤ wd a k := fun k hk => by
    have h := hle k (by omega)
    unfold wdg at h
    rwa [if_pos hk, if_pos hk] at h
  have h1 := wsum_mono a b 64 hd
  have h2 := wsum64 a
  have h3 := wsum64 b
  have k0 := hle 64 (by omega)
  have k1 := hle 65 (by omega)
  have k2 := hle 66 (by omega)
  have k3 := hle 67 (by omega)
  exact hne (wd_inj a b ha hb (wsum_same a b 64 hd (by omega)))
end Go.Proofs.YtpgakdioaebikaaDoor
