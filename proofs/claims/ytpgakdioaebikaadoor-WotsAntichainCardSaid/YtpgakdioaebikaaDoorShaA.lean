/- The walks of the small functions of package sha and of its reference. -/
import Derived.Test.YtpgakdioaebikaaDoorWireB
import Derived.Test.YtpgakdioaebikaaDoorPureSha
namespace Go.Proofs.YtpgakdioaebikaaDoor
open Go.RowKit

theorem rr_or (x k : Nat) (hx : x < 4294967296) : bits BinOp.or IntKind.u32 ((x : Int) / 2 ^ k) ((x : Int) * 2 ^ (32 - k) % 4294967296) = ((rr x k : Nat) : Int) := by
  have e1 : (x : Int) / 2 ^ k = ((x / 2 ^ k : Nat) : Int) := by push_cast; rfl
  have e2 : (x : Int) * 2 ^ (32 - k) % 4294967296 = ((x * 2 ^ (32 - k) % 4294967296 : Nat) : Int) := by rw [Int.natCast_emod, Int.natCast_mul, Int.natCast_pow]; rfl
  rw [e1, e2, u32_or_nat _ _ (Nat.lt_of_le_of_lt (Nat.div_le_self _ _) hx) (Nat.mod_lt _ (by decide))]
  rfl
theorem bits_or_comm (k : IntKind) (a b : Int) : bits BinOp.or k a b = bits BinOp.or k b a := by
  simp only [bits]
  rw [BitVec.or_comm]

set_option maxRecDepth 100000 in
theorem rotl_any (x k : Nat) (w : World) (hx : x < 4294967296) (h0 : 0 < k) (h1 : k < 32) :
    Calls Tryd.prog 59 #[.int .u32 x, .int .i64 (-(k : Int))] w fun e w' => e = .returned (.int .u32 (rr x k : Nat)) ∧ w = w' := by
  have hw : IntKind.u64.wrap (-(k : Int)) = ((18446744073709551616 - k : Nat) : Int) := by
    simp [IntKind.wrap, IntKind.bits, IntKind.signed]; omega
  have hs : bits BinOp.and IntKind.u64 (IntKind.u64.wrap (-(k : Int))) 31 = ((32 - k : Nat) : Int) := by
    rw [hw, show (31 : Int) = ((31 : Nat) : Int) from rfl, u64_and_nat _ _ (by omega) (by omega)]
    have := Nat.and_two_pow_sub_one_eq_mod (18446744073709551616 - k) 5
    simp at this
    rw [this]
    omega
  clear hw
  go_enter Tryd.func59, Tryd.ntmps59
  go_wp2
  go_ret
  refine ⟨ret_int ?_, rfl⟩
  rw [show 32 - (32 - k) = k from by omega, ← rr_or x k hx, bits_or_comm]

set_option maxRecDepth 100000 in
theorem rot_any (x k : Nat) (w : World) (hx : x < 4294967296) (h0 : 0 < k) (h1 : k < 32) :
    Calls Tryd.prog 56 #[.int .u32 x, .int .i64 k] w fun e w' => e = .returned (.int .u32 (rr x k : Nat)) ∧ ∃ n, w.drewN n = w' := by
  go_enter Tryd.func56, Tryd.ntmps56
  go_wp2
  go_region
  all_goals go_wp2
  go_ret
  exact ⟨ret_int (rr_or x k hx), 1, rfl⟩

theorem or_u8 (x : UInt8) : bits BinOp.or IntKind.u32 0 ((x.toNat : Int) % 4294967296) = ((x.toNat : Nat) : Int) := by
  have := x.toNat_lt
  rw [show (x.toNat : Int) % 4294967296 = (x.toNat : Int) from by omega, show (0 : Int) = ((0 : Nat) : Int) from rfl, u32_or_nat _ _ (by omega) (by omega)]
  simp
theorem shl_or (n : Nat) (x : UInt8) (h : n < 16777216) : bits BinOp.or IntKind.u32 ((n : Int) * 256 % 4294967296) ((x.toNat : Int) % 4294967296) = ((n * 256 + x.toNat : Nat) : Int) := by
  have := x.toNat_lt
  rw [show (x.toNat : Int) % 4294967296 = (x.toNat : Int) from by omega, show (n : Int) * 256 % 4294967296 = ((n * 256 : Nat) : Int) from by omega, u32_or_nat _ _ (by omega) (by omega)]
  congr 1
  have := Nat.two_pow_add_eq_or_of_lt (i := 8) (b := x.toNat) (by omega) n
  rw [show n * 256 = 2 ^ 8 * n from by omega, this]

set_option maxRecDepth 100000 in
theorem load_any (A : Option Addr) (c : Nat) (xs : List UInt8) (w : World) (hr : Rd w A 4 xs) :
    Calls Tryd.prog 52 #[.slice A 4 c] w fun e w' => e = .returned (.int .u32 (be xs : Nat)) ∧ w = w' := by
  obtain ⟨b, off, rfl, hc⟩ := hr.at_ (by omega)
  have hl := hr.len
  obtain ⟨x0, x1, x2, x3, rfl⟩ : ∃ x0 x1 x2 x3, xs = [x0, x1, x2, x3] := by
    match xs, hl with
    | [x0, x1, x2, x3], _ => exact ⟨x0, x1, x2, x3, rfl⟩
  have c0 : w.cell? ⟨b, off, none⟩ = some (.int .u8 (x0.toNat : Int)) := hc 0 (by simp)
  have c1 : w.cell? ⟨b, off + 1, none⟩ = some (.int .u8 (x1.toNat : Int)) := hc 1 (by simp)
  have c2 : w.cell? ⟨b, off + 2, none⟩ = some (.int .u8 (x2.toNat : Int)) := hc 2 (by simp)
  have c3 : w.cell? ⟨b, off + 3, none⟩ = some (.int .u8 (x3.toNat : Int)) := hc 3 (by simp)
  clear hc hr hl
  go_enter Tryd.func52, Tryd.ntmps52
  go_wp2
  refine wp_loop_rounds 5 ?_
  iterate 5 (rw [rounds_succ]; go_wp2)
  go_ret
  refine ⟨ret_int ?_, rfl⟩
  have u0 := x0.toNat_lt
  have u1 := x1.toNat_lt
  have u2 := x2.toNat_lt
  rw [or_u8, shl_or _ _ (by omega), shl_or _ _ (by omega), shl_or _ _ (by omega)]
  simp [be]
theorem info3 : (Tryd.prog.info? 3).map (fun i => (i.zero, i.size, i.bytes)) = some (some (.int .i64 0), 1, 8) := by kernel_rfl
/-- A fold of rotations. -/
def rots (x : Nat) (ks : List Nat) : Nat := ks.foldl (fun o k => o ^^^ rr x k) 0
theorem rots_lt (x : Nat) (hx : x < 4294967296) (ks : List Nat) : rots x ks < 4294967296 := by
  have : ∀ (ks : List Nat) (o : Nat), o < 4294967296 → ks.foldl (fun o k => o ^^^ rr x k) o < 4294967296 := by
    intro ks
    induction ks with
    | nil => intro o h; exact h
    | cons k ks ih => intro o h; exact ih _ (Nat.xor_lt_two_pow (n := 32) h (rr_lt x k hx))
  exact this ks 0 (by omega)
theorem rots_snoc (x : Nat) (ks : List Nat) (k : Nat) : rots x (ks ++ [k]) = rots x ks ^^^ rr x k := by simp [rots]
def iv64 (ks : List Nat) : List Value := ks.map fun k : Nat => Value.int .i64 (k : Int)
set_option maxRecDepth 100000 in
theorem rotr_any (x : Nat) (A : Option Addr) (c : Nat) (ks : List Nat) (w : World) (hx : x < 4294967296) (hr : Cells w A (iv64 ks)) (hks : ∀ k ∈ ks, 0 < k ∧ k < 32) (hn : ks.length ≤ 3) :
    Calls Tryd.prog 53 #[.int .u32 x, .slice A ks.length c] w fun e w' => e = .returned (.int .u32 (rots x ks : Nat)) ∧ w = w' := by
  go_enter Tryd.func53, Tryd.ntmps53
  go_wp2
  go_loop [5, 7, 10] (fun o _ i => ∃ j : Nat, j ≤ ks.length ∧ i = .int .i64 j ∧ o = .int .u32 (rots x (ks.take j) : Nat)) (fun _ _ i => ks.length - (intOf i).toNat)
  case atStart => exact ⟨0, by omega, rfl, rfl⟩
  case round =>
    obtain ⟨j, hj, rfl, rfl⟩ := hrel
    by_cases hlt : j < ks.length
    · obtain ⟨b, off, rfl, hc⟩ := hr (by simp [iv64]; omega)
      have hcj := hc j (.int .i64 (ks[j] : Nat)) (by simp [iv64, hlt])
      have hk := hks ks[j] (by simp)
      obtain ⟨kj, hkj⟩ : ∃ kj, kj = ks[j] := ⟨_, rfl⟩
      rw [← hkj] at hcj hk
      have hS := Lib.hid hkj
      clear hkj hc hr hks
      go_wp2_with (go_at_call 59; go_must (refine (rotl_any x kj _ hx hk.1 hk.2).mono ?_); rintro e w' ⟨rfl, rfl⟩)
      go_round
      case rel =>
        refine ⟨j + 1, by omega, by go_num, val_int ?_⟩
        rw [List.take_succ_eq_append_getElem hlt, ← hS.out, rots_snoc]
        exact u32_xor_nat _ _ (rots_lt x hx _) (rr_lt x kj hx)
      case measure => simp [intOf]; omega
    · obtain rfl : j = ks.length := by omega
      go_wp2
      go_ret
      exact ⟨by simp, rfl⟩

theorem toBE_length (k n : Nat) : (toBE k n).length = k := by
  induction k with
  | zero => rfl
  | succ k ih => simp [toBE, ih]
theorem byte_shr (u j : Nat) : ((UInt8.ofNat (u / 256 ^ j)).toNat : Int) = (u : Int) / 2 ^ (8 * j) % 256 := by
  have : (256 : Nat) ^ j = 2 ^ (8 * j) := by rw [Nat.pow_mul]
  rw [this]
  simp
set_option maxRecDepth 100000 in
theorem store_any (base : Nat) (A : Option Addr) (c : Nat) (xs : List UInt8) (u k : Nat) (w : World) (hown : w.ownsRow base 5 1 (.slice A xs.length c) xs.length (bv xs)) (hbase : base ≤ w.heap.size) (_hu : u ≤ 18446744073709551615) (hk : k ≤ 8) (hl : xs.length ≤ 1099511627776) :
    Calls Tryd.prog 43 #[.slice A xs.length c, .int .u64 u, .int .i64 k] w fun e w' => ∃ A1 c1, e = .returned (.slice A1 (xs ++ toBE k u).length c1) ∧ w'.ownsRow base 5 1 (.slice A1 (xs ++ toBE k u).length c1) (xs ++ toBE k u).length (bv (xs ++ toBE k u)) ∧
      w.grownBy w' (Value.slice A xs.length c).ownBlock ∧ At w (Value.slice A xs.length c).ownBlock (.slice A1 (xs ++ toBE k u).length c1) := by
  go_enter Tryd.func43, Tryd.ntmps43
  go_wp2
  go_loopw [0, 7] (fun v i wr => ∃ (j : Nat) (A1 : Option Addr) (c1 : Nat) (ys : List UInt8), j ≤ k ∧ i = .int .i64 ((j : Int) - 1) ∧ v = .slice A1 ys.length c1 ∧ wr.ownsRow base 5 1 (.slice A1 ys.length c1) ys.length (bv ys) ∧ ys ++ toBE j u = xs ++ toBE k u ∧
      w.grownBy wr (Value.slice A xs.length c).ownBlock ∧ At w (Value.slice A xs.length c).ownBlock (.slice A1 ys.length c1)) (fun _ i _ => (intOf i + 1).toNat)
  case atStart => exact ⟨k, A, c, xs, by omega, by simp, rfl, hown, rfl, World.grownBy.refl _ _, .inl rfl⟩
  case round =>
    obtain ⟨j, A1, c1, ys, hj, rfl, rfl, hown1, he, hg, ha⟩ := hrel
    have hyl : ys.length ≤ xs.length + 8 := by have := congrArg List.length he; simp [toBE_length] at this; omega
    have hE := Lib.hid he
    have hA := Lib.hid ha
    clear he ha
    rcases j with _ | j
    · go_wp2
      go_ret
      have e : ys = xs ++ toBE k u := by simpa [toBE] using hE.out
      subst e
      exact ⟨A1, c1, rfl, hown1, hg, hA.out⟩
    · go_wp2_with (at_builtin; go_must (refine wpList_app1 rfl _ _ 41 rfl base 5 1 (.int .u8 0) Tryd.underlying41 info5 rfl (by decide) _ _ _ _ hown1 rfl rfl rfl (by have := hg.size; omega) (by omega) ?_); intro A2 c2 w2 hown2 hg2 hat2)
      have hs := own_snoc hown2 (byte_shr u j)
      go_roundw
      case rel => exact ⟨j, A2, c2, ys ++ [UInt8.ofNat (u / 256 ^ j)], by omega, rfl, by simp, by simpa using hs, by rw [← hE.out]; simp [toBE], grown_step hg hA.out hg2, by simpa using at_step hg hA.out hat2⟩
      case measure => simp [intOf]

theorem store_any' (base : Nat) (A : Option Addr) (n c : Nat) (xs : List UInt8) (u k : Nat) (uu kk : Int) (w : World) (hown : w.ownsRow base 5 1 (.slice A xs.length c) xs.length (bv xs)) (hn : n = xs.length) (huu : uu = (u : Int)) (hkk : kk = (k : Int)) (hbase : base ≤ w.heap.size) (hu : u ≤ 18446744073709551615) (hk : k ≤ 8) (hl : xs.length ≤ 1099511627776) :
    Calls Tryd.prog 43 #[.slice A n c, .int .u64 uu, .int .i64 kk] w fun e w' => ∃ A1 c1, e = .returned (.slice A1 (xs ++ toBE k u).length c1) ∧ w'.ownsRow base 5 1 (.slice A1 (xs ++ toBE k u).length c1) (xs ++ toBE k u).length (bv (xs ++ toBE k u)) ∧
      w.grownBy w' (Value.slice A xs.length c).ownBlock ∧ At w (Value.slice A xs.length c).ownBlock (.slice A1 (xs ++ toBE k u).length c1) := by
  subst hn; subst huu; subst hkk
  exact store_any base A c xs u k w hown hbase hu hk hl

set_option maxRecDepth 100000 in
/-- slices.Clone of bytes (nil stays nil; a slice that is empty and not nil owns nothing). -/
theorem clone_any (A : Option Addr) (n c : Nat) (xs : List UInt8) (w : World) (hr : Rd w A n xs) (hn : n ≤ 1099511627776) :
    Calls Tryd.prog 42 #[.slice A n c] w fun e w' => ∃ A1 c1, e = .returned (.slice A1 xs.length c1) ∧ w'.ownsRow w.heap.size 5 1 (.slice A1 xs.length c1) xs.length (bv xs) ∧ Below w.heap.size w w' := by
  have hlen := hr.len
  have heq := fun (W : World) (a : Option Addr) (n c : Nat) => Lib.run_eql_slice_nil (P := Tryd.prog) W 41 5 a n c 0 0 Tryd.underlying41
  cases A with
  | none =>
    have hx : xs = [] := by
      rcases xs with _ | ⟨x, xs⟩
      · rfl
      · obtain ⟨b, off, h, _⟩ := hr.cells (by simp [bv])
        cases h
    subst hx
    go_enter Tryd.func42, Tryd.ntmps42
    go_wp2
    go_ret
    exact ⟨none, 0, rfl, World.ownsRow_nil _ _ _ _, Below.refl _ _⟩
  | some ad =>
    have hown : (w.alloc (.cells #[] 5)).ownsRow w.heap.size 5 1 (.slice (some ⟨w.heap.size, 0, none⟩) 0 0) 0 [] := own_new w w.heap.size 5 1 0 [] (Nat.le_refl _) rfl (by simp [maxLen])
    have hc := hr.cells.below ((Below.refl _ w).alloc (Nat.le_refl _) (.cells #[] 5))
    go_enter Tryd.func42, Tryd.ntmps42
    go_wp2_with (at_builtin; go_must (refine wpList_app rfl _ _ 41 rfl w.heap.size 5 1 1 _ Tryd.underlying41 info5 rfl (by decide) (by decide) _ _ _ (bv xs) _ n c hown hc rfl rfl (by rw [bv_length]; omega) (bv_one _) (by simp) (by omega) ?_); intro A2 c2 w2 hown2 hg2 _)
    go_ret
    subst hlen
    simp only [Nat.zero_add, List.nil_append] at hown2
    exact ⟨A2, c2, by simp, hown2, (((Below.refl _ w).alloc (Nat.le_refl _) _).grown hg2 (by simp) (own_ge hown))⟩
end Go.Proofs.YtpgakdioaebikaaDoor
