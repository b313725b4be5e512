/- Arrays of bytes that are compared. -/
import Derived.Test.YtpgakdioaebikaaDoorShaA
import Derived.Laws.StructEq
import Derived.ChangeKeysEq
namespace Go.Proofs.YtpgakdioaebikaaDoor
open Go.RowKit

theorem part_byte (W : World) (xs : List UInt8) (i : Nat) (h : i < xs.length) : (part 5 (bv xs).toArray i).run Tryd.prog W = .ok (B xs[i]) W := by
  simp [part, bv_at h]
theorem eqItems_bytes (W : World) (d : Nat) (xs ys : List UInt8) : ∀ (l : List Nat), (∀ i ∈ l, i < xs.length ∧ i < ys.length) →
    (Op.eqItems (d + 1) 5 1 (bv xs).toArray (bv ys).toArray l).run Tryd.prog W = .ok (l.all fun i => xs[i]? == ys[i]?) W
  | [], _ => rfl
  | i :: l, h => by
    obtain ⟨h1, h2⟩ := h i (List.mem_cons_self ..)
    have e : (B xs[i] = .int .u8 (xs[i].toNat : Int)) ∧ B ys[i] = .int .u8 (ys[i].toNat : Int) := ⟨rfl, rfl⟩
    have eb : (((xs[i].toNat : Int)) == ((ys[i].toNat : Int))) = (xs[i]? == ys[i]?) := by
      rw [Bool.eq_iff_iff]
      simp only [beq_iff_eq, List.getElem?_eq_getElem h1, List.getElem?_eq_getElem h2, Option.some.injEq]
      constructor
      · intro h; exact UInt8.toNat_inj.1 (by omega)
      · intro h; rw [h]
    simp only [Op.eqItems, Sem.run_bind, Nat.mul_one, part_byte W xs i h1, part_byte W ys i h2, Result.andThen_ok, e.1, e.2, run_equalIn_int W d 5 .u8 .u8 _ _ Tryd.underlying5, List.all_cons, eb]
    cases (xs[i]? == ys[i]?) with
    | false => simp
    | true => simpa using eqItems_bytes W d xs ys l (fun j hj => h j (List.mem_cons_of_mem _ hj))
theorem all_range (xs ys : List UInt8) (n : Nat) (hx : xs.length = n) (hy : ys.length = n) : ((List.range n).all fun i => xs[i]? == ys[i]?) = decide (xs = ys) := by
  rw [Bool.eq_iff_iff]
  simp only [List.all_eq_true, List.mem_range, beq_iff_eq, decide_eq_true_eq]
  constructor
  · intro h
    apply List.ext_getElem?
    intro i
    by_cases hi : i < n
    · exact h i hi
    · rw [List.getElem?_eq_none (by omega), List.getElem?_eq_none (by omega)]
  · rintro rfl i _
    rfl
theorem run_eqBytes (W : World) (t n : Nat) (xs ys : List UInt8) (ht : Tryd.prog.underlying t = some (.array n 5)) (hx : xs.length = n) (hy : ys.length = n) :
    (Op.equalIn 10000 t (.agg (bv xs).toArray) (.agg (bv ys).toArray)).run Tryd.prog W = .ok (decide (xs = ys)) W := by
  obtain ⟨i, hi⟩ : ∃ i, Tryd.prog.info? 5 = some i := by
    obtain ⟨i0, hi, _⟩ := info_parts info5
    exact ⟨i0, hi⟩
  have hc : Tryd.prog.cellsOf 5 = 1 := by kernel_rfl
  rw [run_equalIn_array W 9999 _ _ ht hi, hc, eqItems_bytes W 9998 xs ys _ (fun i hi => by have := List.mem_range.1 hi; omega), all_range xs ys n hx hy]
theorem run_eql32 (W : World) (xs ys : List UInt8) (hx : xs.length = 32) (hy : ys.length = 32) :
    (binOp .eql 53 (.agg (bv xs).toArray) (.agg (bv ys).toArray)).run Tryd.prog W = .ok (.bool (decide (xs = ys))) W := by
  rw [run_eql_struct, run_eqBytes W _ _ xs ys Tryd.underlying53 hx hy]
  rfl
theorem run_eql16 (W : World) (xs ys : List UInt8) (hx : xs.length = 16) (hy : ys.length = 16) :
    (binOp .eql 23 (.agg (bv xs).toArray) (.agg (bv ys).toArray)).run Tryd.prog W = .ok (.bool (decide (xs = ys))) W := by
  rw [run_eql_struct, run_eqBytes W _ _ xs ys Tryd.underlying23 hx hy]
  rfl
theorem run_neq16 (W : World) (xs ys : List UInt8) (hx : xs.length = 16) (hy : ys.length = 16) :
    (binOp .neq 23 (.agg (bv xs).toArray) (.agg (bv ys).toArray)).run Tryd.prog W = .ok (.bool (!decide (xs = ys))) W := by
  rw [run_neq_struct, run_eqBytes W _ _ xs ys Tryd.underlying23 hx hy]
  rfl
theorem guard32 : Tryd.prog.eqGuardType Tryd.prog.depth 53 = false := by kernel_rfl
theorem guard16 : Tryd.prog.eqGuardType Tryd.prog.depth 23 = false := by kernel_rfl
end Go.Proofs.YtpgakdioaebikaaDoor
