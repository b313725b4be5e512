/- Digests and boxes that come in by value. -/
import Derived.Test.YtaecljahbmcneaaDoorBoxC
import Derived.Test.YtaecljahbmcneaaDoorOpen
namespace Go.Proofs.YtaecljahbmcneaaDoor
open Go.ChangeShapes Go.WideShapes Go.ChangeAt Go.RowKit

section
variable {W : World} {r : Reach} {b0 : Nat}
set_option maxRecDepth 100000 in
theorem cell_u8 {v : Value} (h : Cell.okWide Tryd.prog W r b0 5 v) : ∃ x : UInt8, v = B x := by
  unfold Cell.okWide at h
  rw [Tryd.underlying5] at h
  cases v <;> simp [Cell.ok, Tryd.underlying5] at h
  rename_i k n
  obtain ⟨rfl, hn⟩ := h
  refine ⟨UInt8.ofNat n.toNat, ?_⟩
  simp [IntKind.has, IntKind.min, IntKind.max, IntKind.signed, IntKind.bits] at hn
  unfold B
  congr 1
  simp
  omega
set_option maxRecDepth 100000 in
theorem cell_i64 {v : Value} (h : Cell.okWide Tryd.prog W r b0 3 v) : ∃ n : Int, v = .int .i64 n ∧ -9223372036854775808 ≤ n ∧ n < 9223372036854775808 := by
  unfold Cell.okWide at h
  rw [Tryd.underlying3] at h
  cases v <;> simp [Cell.ok, Tryd.underlying3] at h
  rename_i k n
  obtain ⟨rfl, hn⟩ := h
  simp [IntKind.has, IntKind.min, IntKind.max, IntKind.signed, IntKind.bits] at hn
  exact ⟨n, rfl, by omega, by omega⟩
set_option maxRecDepth 100000 in
theorem cell_string {v : Value} (h : Cell.okWide Tryd.prog W r b0 9 v) : ∃ s : ByteArray, v = .string s ∧ (s.size : Int) ≤ 9223372036854775807 := by
  unfold Cell.okWide at h
  rw [Tryd.underlying9] at h
  cases v <;> simp [Cell.ok, Tryd.underlying9] at h
  rename_i s
  exact ⟨s, rfl, by simpa [IntKind.max, IntKind.signed, IntKind.bits] using h⟩
set_option maxRecDepth 100000 in
theorem cells_u8 : ∀ (cs : List Value), (∀ v ∈ cs, Cell.okWide Tryd.prog W r b0 5 v) → ∃ xs : List UInt8, cs = bv xs := by
  intro cs
  induction cs with
  | nil => intro _; exact ⟨[], rfl⟩
  | cons v cs ih =>
    intro h
    obtain ⟨x, rfl⟩ := cell_u8 (h v (List.mem_cons_self ..))
    obtain ⟨xs, rfl⟩ := ih (fun u hu => h u (List.mem_cons_of_mem _ hu))
    exact ⟨x :: xs, rfl⟩
set_option maxRecDepth 100000 in
theorem cellTypesD : Tryd.prog.cellTypes Tryd.prog.depth 34 = some (List.replicate 16 5) := by kernel_rfl
set_option maxRecDepth 100000 in
theorem cellTypesB : Tryd.prog.cellTypes Tryd.prog.depth 36 = some (3 :: 9 :: List.replicate 16 5) := by kernel_rfl
set_option maxRecDepth 100000 in
theorem cellsOfD : Tryd.prog.cellsOf 34 = 16 := by kernel_rfl
set_option maxRecDepth 100000 in
theorem cellsOfB : Tryd.prog.cellsOf 36 = 18 := by kernel_rfl

set_option maxRecDepth 100000 in
theorem ok_digest {v : Value} (hv : Value.okWide Tryd.prog W r b0 34 v) : ∃ xs, v = .agg (bv xs).toArray ∧ xs.length = 16 := by
  unfold Value.okWide at hv
  rw [Tryd.underlying34] at hv
  obtain ⟨cs, rfl, hs, ts, hts, _, hall⟩ := hv
  rw [cellTypesD] at hts
  obtain rfl := Option.some.inj hts
  rw [cellsOfD] at hs
  obtain ⟨l⟩ := cs
  have hl : l.length = 16 := by simpa using hs
  obtain ⟨xs, rfl⟩ := cells_u8 (W := W) (r := r) (b0 := b0) l (fun v hv => by
    obtain ⟨i, hi, rfl⟩ := List.mem_iff_getElem.1 hv
    obtain ⟨u, hu, hc⟩ := hall i _ (by rw [List.getElem?_toArray]; exact List.getElem?_eq_getElem hi)
    rw [List.length_replicate, List.getElem?_replicate] at hu
    split at hu
    · obtain rfl := Option.some.inj hu
      exact hc
    · cases hu)
  exact ⟨xs, rfl, by rw [← hl, bv_length]⟩
set_option maxRecDepth 100000 in
theorem ok_box {v : Value} (hv : Value.okWide Tryd.prog W r b0 36 v) : ∃ n c xs, v = .agg (boxv n c xs).toArray ∧ xs.length = 16 ∧ -9223372036854775808 ≤ n ∧ n < 9223372036854775808 ∧ (c.size : Int) ≤ 9223372036854775807 := by
  unfold Value.okWide at hv
  rw [Tryd.underlying36] at hv
  obtain ⟨cs, rfl, hs, ts, hts, _, hall⟩ := hv
  rw [cellTypesB] at hts
  obtain rfl := Option.some.inj hts
  rw [cellsOfB] at hs
  obtain ⟨l⟩ := cs
  match l, hs with
  | v0 :: v1 :: l, hs =>
    have hl : l.length = 16 := by simpa using hs
    obtain ⟨u, hu, hc⟩ := hall 0 v0 rfl
    obtain rfl : 3 = u := Option.some.inj hu
    obtain ⟨n, rfl, h0, h1⟩ := cell_i64 hc
    obtain ⟨u, hu, hc⟩ := hall 1 v1 rfl
    obtain rfl : 9 = u := Option.some.inj hu
    obtain ⟨c, rfl, h2⟩ := cell_string hc
    obtain ⟨xs, rfl⟩ := cells_u8 (W := W) (r := r) (b0 := b0) l (fun v hv => by
      obtain ⟨i, hi, rfl⟩ := List.mem_iff_getElem.1 hv
      obtain ⟨u, hu, hc⟩ := hall (i + 2) _ (by rw [List.getElem?_toArray]; exact List.getElem?_eq_getElem hi)
      rw [show (3 :: 9 :: List.replicate 16 5 : List TypeId).length = 18 from rfl, Nat.mod_eq_of_lt (by omega)] at hu
      rw [List.getElem?_cons_succ, List.getElem?_cons_succ, List.getElem?_replicate] at hu
      split at hu
      · obtain rfl := Option.some.inj hu
        exact hc
      · cases hu)
    exact ⟨n, c, xs, rfl, by rw [← hl, bv_length], h0, h1, h2⟩
end
section
variable {H : Type} {enc : TypeId × Value → H} {W : World} {base b0 : Nat} {sp : Nat → Bool} {held : Bool} {r : Reach} {v : Value} {d : DataW H} {p : List MemPlace}
set_option maxRecDepth 100000 in
theorem open_digest (hv : Value.okWide Tryd.prog W r b0 34 v) (_h : DataW.Trod enc Tryd.prog W base sp held 34 v d p) : ∃ xs, v = .agg (bv xs).toArray ∧ xs.length = 16 := ok_digest hv
set_option maxRecDepth 100000 in
theorem open_box (hv : Value.okWide Tryd.prog W r b0 36 v) (_h : DataW.Trod enc Tryd.prog W base sp held 36 v d p) : ∃ n c xs, v = .agg (boxv n c xs).toArray ∧ xs.length = 16 ∧ -9223372036854775808 ≤ n ∧ n < 9223372036854775808 ∧ (c.size : Int) ≤ 9223372036854775807 := ok_box hv
end
end Go.Proofs.YtaecljahbmcneaaDoor
