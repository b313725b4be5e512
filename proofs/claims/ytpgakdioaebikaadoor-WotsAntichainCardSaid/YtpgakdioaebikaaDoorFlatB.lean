/- A slice literal of one element that is several cells. -/
import Derived.Test.YtpgakdioaebikaaDoorFlat
import Derived.Great.BuildSlice
namespace Go.Proofs.YtpgakdioaebikaaDoor
open Go.RowKit

theorem foldl_zip : ∀ (l : List Value) (k : Nat) (pre A : List Value), pre.length = k → A.length = l.length → (l.zipIdx k).foldl (fun cs x => cs.setIfInBounds (0 + x.2) x.1) (pre ++ A).toArray = (pre ++ l).toArray := by
  intro l
  induction l with
  | nil => intro k pre A _ hA; rw [List.eq_nil_of_length_eq_zero hA]; rfl
  | cons c l ih =>
    intro k pre A hp hA
    match A, hA with
    | b :: A, hA =>
      have h := ih (k + 1) (pre ++ [c]) A (by simp [hp]) (by simpa using hA)
      simp only [List.append_assoc, List.cons_append, List.nil_append] at h
      rw [List.zipIdx_cons, List.foldl_cons, ← h, List.setIfInBounds_toArray, List.set_append_right _ _ (by omega), hp]
      simp
theorem fill_one (cs : List Value) (zs : Array Value) (n : Nat) (hz : zs.size = cs.length) (hn : n = cs.length) : Instr.fill (fun i => some (i * n, n)) zs [(0, .agg cs.toArray)] = some cs.toArray := by
  obtain ⟨A⟩ := zs
  have hA : A.length = cs.length := by simpa using hz
  have h := foldl_zip cs 0 [] A rfl hA
  simp only [List.nil_append] at h
  simp only [Instr.fill, Value.cells, List.size_toArray, hn, Nat.zero_mul, Nat.zero_add, hA]
  rw [if_neg (by simp)]
  have h2 : (cs.toArray.zipIdx.foldl (fun cs x => cs.setIfInBounds (0 + x.2) x.1) A.toArray) = cs.toArray := by
    rw [← Array.foldl_toList, Array.toList_zipIdx]
    exact h
  simpa using h2
/-- 'append(.., x)': the slice that holds the one element x of several cells. -/
theorem wpList_build1 {P : Program} {ops : Array Oper} {rest : List Oper} {o : Oper} {a : Act} {Q : Exit → Act → World → Prop} {w : World} (hgd : o.guard = none) (t e : TypeId) (x : Operand) (ho : o.op = .buildSlice t 1 #[(0, x)]) (s bytes : Nat) (z : Value) (ht : P.underlying t = some (.slice e)) (hinfo : (P.info? e).map (fun i => (i.zero, i.size, i.bytes)) = some (some z, s, bytes))
    (hs0 : 0 < s) (hs1 : s ≤ 1000) (cs : List Value) (hx : a.eval x = .agg cs.toArray) (hl : cs.length = s)
    (h : wpList P ops Q rest (a.put o.dst (.slice (some ⟨w.heap.size, 0, none⟩) 1 1)) (w.alloc (.cells cs.toArray e))) : wpList P ops Q (o :: rest) a w := by
  obtain ⟨i0, hi, hz0, hz1, _⟩ := info_parts hinfo
  refine wpList_buildSlice hgd t e 1 _ ho cs.toArray i0 z ht hi hz0 (by rw [hz1]; omega) (by rw [hz1]; omega) ?_ h
  simp only [List.map_toArray, List.map_cons, List.map_nil, hx]
  rw [hz1]
  exact fill_one cs _ s (by simp [hl]) hl.symm
end Go.Proofs.YtpgakdioaebikaaDoor
