/- Digests that come in by value. -/
import Derived.Test.YtpgakdioaebikaaDoorOpen
namespace Go.Proofs.YtpgakdioaebikaaDoor
open Go.ChangeShapes Go.WideShapes Go.ChangeAt Go.RowKit

section
variable {W : World} {r : Reach} {b0 : Nat}
set_option maxRecDepth 100000 in
theorem cell_u8 {v : Value} (h : Cell.okWide Tryd.prog W r b0 5 v) : ∃ x : UInt8, v = B x := by
  unfold Cell.okWide at h
  rw [Tryd.underlying5] at h
  cases v <;> simp [Cell.ok, Tryd.underlying5] at h
  rename_i k n
  obtain ⟨rfl, hn⟩ := h
  refine ⟨UInt8.ofNat n.toNat, ?_⟩
  simp [IntKind.has, IntKind.min, IntKind.max, IntKind.signed, IntKind.bits] at hn
  unfold B
  congr 1
  simp
  omega
set_option maxRecDepth 100000 in
theorem cells_u8 : ∀ (cs : List Value), (∀ v ∈ cs, Cell.okWide Tryd.prog W r b0 5 v) → ∃ xs : List UInt8, cs = bv xs := by
  intro cs
  induction cs with
  | nil => intro _; exact ⟨[], rfl⟩
  | cons v cs ih =>
    intro h
    obtain ⟨x, rfl⟩ := cell_u8 (h v (List.mem_cons_self ..))
    obtain ⟨xs, rfl⟩ := ih (fun u hu => h u (List.mem_cons_of_mem _ hu))
    exact ⟨x :: xs, rfl⟩
set_option maxRecDepth 100000 in
theorem cellTypesD : Tryd.prog.cellTypes Tryd.prog.depth 23 = some (List.replicate 16 5) := by kernel_rfl
set_option maxRecDepth 100000 in
theorem cellsOfD : Tryd.prog.cellsOf 23 = 16 := by kernel_rfl
set_option maxRecDepth 100000 in
theorem ok_digest {v : Value} (hv : Value.okWide Tryd.prog W r b0 23 v) : ∃ xs, v = .agg (bv xs).toArray ∧ xs.length = 16 := by
  unfold Value.okWide at hv
  rw [Tryd.underlying23] at hv
  obtain ⟨cs, rfl, hs, ts, hts, _, hall⟩ := hv
  rw [cellTypesD] at hts
  obtain rfl := Option.some.inj hts
  rw [cellsOfD] at hs
  obtain ⟨l⟩ := cs
  have hl : l.length = 16 := by simpa using hs
  obtain ⟨xs, rfl⟩ := cells_u8 (W := W) (r := r) (b0 := b0) l (fun v hv => by
    obtain ⟨i, hi, rfl⟩ := List.mem_iff_getElem.1 hv
    obtain ⟨u, hu, hc⟩ := hall i _ (by rw [List.getElem?_toArray]; exact List.getElem?_eq_getElem hi)
    rw [List.length_replicate, List.getElem?_replicate] at hu
    split at hu
    · obtain rfl := Option.some.inj hu
      exact hc
    · cases hu)
  exact ⟨xs, rfl, by rw [← hl, bv_length]⟩
end
section
variable {H : Type} {enc : TypeId × Value → H} {W : World} {base b0 : Nat} {sp : Nat → Bool} {held : Bool} {r : Reach} {v : Value} {d : DataW H} {p : List MemPlace}
set_option maxRecDepth 100000 in
theorem open_digest (hv : Value.okWide Tryd.prog W r b0 23 v) (_h : DataW.Trod enc Tryd.prog W base sp held 23 v d p) : ∃ xs, v = .agg (bv xs).toArray ∧ xs.length = 16 := ok_digest hv
end
end Go.Proofs.YtpgakdioaebikaaDoor
