/- What comes in: bytes, lists of bytes; the two tables of package sha. -/
import Derived.Test.YtpgakdioaebikaaDoorRows
import Derived.Test.YtpgakdioaebikaaDoorShaG
import Derived.ProofKit
import Derived.OpenShut
import Derived.ShutString
import Derived.Deep.Slices
import Derived.Deep.DeepHandedRow
import Derived.Lib.SmallJoins
import Derived.Lib.LaidTab
import Derived.Stop.LaidErr
namespace Go.Proofs.YtpgakdioaebikaaDoor
open Go.ChangeShapes Go.WideShapes Go.ChangeAt Go.RowKit

theorem own : ownKnob Tryd.prog.godebug = none := by kernel_rfl
theorem laidOut : laidOutB Tryd.prog = true := by kernel_rfl
theorem cells5 : Tryd.prog.cellsOf 5 = 1 := by kernel_rfl
theorem cellsB : Tryd.prog.cellsOf 41 = 1 := by kernel_rfl
theorem cells4U : Tryd.prog.cellsOf 61 = 1 := by kernel_rfl
theorem cellsS : Tryd.prog.cellsOf 63 = 8 := by kernel_rfl
theorem cellsK : Tryd.prog.cellsOf 74 = 64 := by kernel_rfl
theorem gStart : Tryd.prog.globalNamed "bootchain/sha.start" = some 0 := by kernel_rfl
theorem gKs : Tryd.prog.globalNamed "bootchain/sha.constants" = some 1 := by kernel_rfl
theorem gStartType : (Tryd.prog.globals[0]?).map (·.type) = some 63 := by kernel_rfl
theorem gKsType : (Tryd.prog.globals[1]?).map (·.type) = some 74 := by kernel_rfl

theorem heap_of_var {P : Program} {w : World} {n : String} {g : Nat} {cs : Array Value} (hg : P.globalNamed n = some g) (h : w.var? P n = some cs) : ∃ t f, w.heap[g]? = some (.cells cs t f) := by
  unfold World.var? at h
  rw [hg, Option.bind_some] at h
  split at h
  · rename_i cs' t f e
    cases h
    exact ⟨t, f, e⟩
  · cases h

/-- The row's condition: the tables lie in their blocks. -/
theorem laid_of {W : World} (h : laidMet Tryd.prog [("bootchain/sha.constants", Rows.laid_bootchain_sha_constants), ("bootchain/sha.start", Rows.laid_bootchain_sha_start)] W) : Laid W := by
  have h1 : Lib.TabIs Tryd.prog W "bootchain/sha.constants" .u32 (ks.map fun n : Nat => (n : Int)) := Lib.tabIs_of_head gKs gKsType Tryd.underlying74 Tryd.underlying61 cells4U cellsK h
  have h2 : Lib.TabIs Tryd.prog W "bootchain/sha.start" .u32 (iv.list.map fun n : Nat => (n : Int)) := Lib.tabIs_of_head gStart gStartType Tryd.underlying63 Tryd.underlying61 cells4U cellsS (laidMet.tail h)
  have e : ∀ l : List Nat, ((l.map fun n : Nat => (n : Int)).map fun z => Value.int .u32 z) = u32s l := fun l => by simp [u32s]
  unfold Lib.TabIs at h1 h2
  rw [e] at h1 h2
  exact ⟨heap_of_var gStart h2, heap_of_var gKs h1⟩

def ub (z : Int) : UInt8 := UInt8.ofNat z.toNat
theorem ub_val {z : Int} (h : (Lit.int .u8 z).wf = true) : ((ub z).toNat : Int) = z := by
  have := bounds_u8 h
  unfold ub
  simp
  omega

section
variable {H : Type} {enc : TypeId × Value → H} {W : World} {base : Nat} {sp : Nat → Bool} {held : Bool} {fuel : Nat} {cs : List Value} {x : DataW H × List MemPlace}
/-- A slice of bytes that came in. -/
theorem bytes_of (h : DataW.trod enc Tryd.prog W base sp held fuel 41 cs = some x) : ∃ A n c xs, cs = [.slice A n c] ∧ Rd W A n xs ∧ n ≤ c ∧ c ≤ maxLen := by
  rcases open_ints Tryd.underlying41 Tryd.underlying5 cells5 h with ⟨rfl, _⟩ | ⟨a, len, cap, zs, rfl, _, hl, hm, hz, _, hc, hw⟩
  · exact ⟨none, 0, 0, [], rfl, Rd.nil _ _, Nat.le_refl _, Nat.zero_le _⟩
  · have hlen : len ≤ zs.length := by rw [hz]; split <;> omega
    refine ⟨some a, len, cap, (zs.take len).map ub, rfl, ⟨by simp; omega, ?_⟩, hl, hm⟩
    intro hn
    rw [bv_length, List.length_map, List.length_take] at hn
    obtain ⟨b, off, spot⟩ := a
    have h0 := hc 0 (by omega)
    have hspot : spot = none := by simpa [Addr.add] using World.cell?_spot h0
    subst hspot
    refine ⟨b, off, rfl, fun j u hu => ?_⟩
    have hj := (List.getElem?_eq_some_iff.1 hu).1
    rw [bv_length, List.length_map, List.length_take] at hj
    have h1 := hc j (by omega)
    rw [add_off] at h1
    have h2 := hw (zs.getD j 0) (by rw [List.getD_eq_getElem?_getD, List.getElem?_eq_getElem (by omega)]; exact List.getElem_mem _)
    rw [h1, ← hu]
    simp only [bv, List.getElem?_map, List.getElem?_take, List.getElem?_eq_getElem (show j < zs.length by omega), if_pos (show j < len by omega), Option.map_some, B]
    rw [List.getD_eq_getElem?_getD, List.getElem?_eq_getElem (show j < zs.length by omega), Option.getD_some] at h2 ⊢
    rw [ub_val h2]
/-- A slice of slices of bytes that came in. -/
theorem parts_of (h : DataW.trod enc Tryd.prog W base sp held fuel 51 cs = some x) : ∃ A n c ps, cs = [.slice A n c] ∧ RdL W A n ps ∧ n ≤ c ∧ c ≤ maxLen := by
  rcases Go.Deep.open_slice1 Tryd.underlying51 cellsB h with ⟨rfl, _⟩ | ⟨a, len, cap, m, nf, V, D, Pl, rfl, _, hl, hm, hmm, _, hc⟩
  · exact ⟨none, 0, 0, [], rfl, ⟨rfl, [], rfl, Cells.nil _ _, fun k hk => absurd hk (by simp)⟩, Nat.le_refl _, Nat.zero_le _⟩
  · have hlen : len ≤ m := by rw [hmm]; split <;> omega
    obtain ⟨f, hf⟩ := Go.Deep.choose_lt (α := List UInt8) (n := len) (p := fun i xs => ∃ A n c, V i = .slice A n c ∧ Rd W A n xs) (fun i hi => by
      obtain ⟨A, n, c, xs, h1, h2, _, _⟩ := bytes_of (hc i (by omega)).2
      exact ⟨xs, A, n, c, by simpa using h1, h2⟩)
    refine ⟨some a, len, cap, (List.range len).map f, rfl, ⟨by simp, (List.range len).map V, by simp, ?_, ?_⟩, hl, hm⟩
    · intro hn
      rw [List.length_map, List.length_range] at hn
      obtain ⟨b, off, spot⟩ := a
      have hspot : spot = none := by simpa [Addr.add] using World.cell?_spot (hc 0 (by omega)).1
      subst hspot
      refine ⟨b, off, rfl, fun j u hu => ?_⟩
      have hj := (List.getElem?_eq_some_iff.1 hu).1
      rw [List.length_map, List.length_range] at hj
      have h1 := (hc j (by omega)).1
      rw [add_off] at h1
      rw [h1, ← hu]
      simp [hj]
    · intro k hk
      rw [List.length_map, List.length_range] at hk
      obtain ⟨A, n, c, h1, h2⟩ := hf k hk
      refine ⟨A, n, c, by simp [hk, h1], ?_⟩
      simpa using h2
end
set_option maxRecDepth 100000 in
theorem open_bytes {H : Type} {enc : TypeId × Value → H} {W : World} {base b0 : Nat} {sp : Nat → Bool} {held : Bool} {r : Reach} {v : Value} {d : DataW H} {p : List MemPlace} (hv : Value.okWide Tryd.prog W r b0 41 v) (h : DataW.Trod enc Tryd.prog W base sp held 41 v d p) :
    ∃ A n c xs, v = .slice A n c ∧ Rd W A n xs ∧ n ≤ maxLen := by
  obtain ⟨a, n, c, rfl⟩ := okWide_slice Tryd.underlying41 hv
  obtain ⟨fuel, hf⟩ := h
  obtain ⟨A, n', c', xs, h1, h2, h3, h4⟩ := bytes_of hf
  simp [Value.cells] at h1
  obtain ⟨rfl, rfl, rfl⟩ := h1
  exact ⟨_, _, _, xs, rfl, h2, Nat.le_trans h3 h4⟩
set_option maxRecDepth 100000 in
theorem open_parts {H : Type} {enc : TypeId × Value → H} {W : World} {base b0 : Nat} {sp : Nat → Bool} {held : Bool} {r : Reach} {v : Value} {d : DataW H} {p : List MemPlace} (hv : Value.okWide Tryd.prog W r b0 51 v) (h : DataW.Trod enc Tryd.prog W base sp held 51 v d p) :
    ∃ A n c ps, v = .slice A n c ∧ RdL W A n ps ∧ n ≤ maxLen := by
  obtain ⟨a, n, c, rfl⟩ := okWide_slice Tryd.underlying51 hv
  obtain ⟨fuel, hf⟩ := h
  obtain ⟨A, n', c', xs, h1, h2, h3, h4⟩ := parts_of hf
  simp [Value.cells] at h1
  obtain ⟨rfl, rfl, rfl⟩ := h1
  exact ⟨_, _, _, xs, rfl, h2, Nat.le_trans h3 h4⟩

def holding (cs : Array Value) : Obj → Obj
  | .cells _ t frozen => .cells cs t frozen
  | o => o
/-- A world for the witnesses: the settled one, the two tables holding what their initialisers lay. -/
noncomputable def laidWorld (os : Os) : World :=
  { World.holding Tryd.prog os ⟨#[], #[], []⟩ with heap := ((World.holding Tryd.prog os ⟨#[], #[], []⟩).heap.modify 0 (holding (u32s iv.list).toArray)).modify 1 (holding (u32s ks).toArray) }
end Go.Proofs.YtpgakdioaebikaaDoor
