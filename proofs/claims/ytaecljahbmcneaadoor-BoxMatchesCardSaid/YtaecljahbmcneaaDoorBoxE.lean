/- Boxes compared. -/
import Derived.Test.YtaecljahbmcneaaDoorBoxD
import Derived.Laws.StructEq
namespace Go.Proofs.YtaecljahbmcneaaDoor
open Go.RowKit Go.Shelf

set_option maxRecDepth 100000 in
theorem run_eqBytesD (W : World) (d t n : Nat) (xs ys : List UInt8) (ht : Tryd.prog.underlying t = some (.array n 5)) (hx : xs.length = n) (hy : ys.length = n) :
    (Op.equalIn (d + 2) t (.agg (bv xs).toArray) (.agg (bv ys).toArray)).run Tryd.prog W = .ok (decide (xs = ys)) W := by
  obtain ⟨i, hi⟩ : ∃ i, Tryd.prog.info? 5 = some i := by
    obtain ⟨i0, hi, _⟩ := info_parts info5
    exact ⟨i0, hi⟩
  have hc : Tryd.prog.cellsOf 5 = 1 := by kernel_rfl
  rw [run_equalIn_array W (d + 1) _ _ ht hi, hc, eqItems_bytes W d xs ys _ (fun i hi => by have := List.mem_range.1 hi; omega), all_range xs ys n hx hy]
set_option maxRecDepth 100000 in
theorem part_tag (W : World) (n : Int) (c : ByteArray) (T : List UInt8) (h : T.length = 16) : (part 34 (boxv n c T).toArray 2).run Tryd.prog W = .ok (.agg (bv T).toArray) W := by
  match T, h with
  | [_, _, _, _, _, _, _, _, _, _, _, _, _, _, _, _], _ => show _ = _; kernel_rfl
set_option maxRecDepth 100000 in
theorem part_nonce (W : World) (n : Int) (c : ByteArray) (T : List UInt8) : (part 3 (boxv n c T).toArray 0).run Tryd.prog W = .ok (.int .i64 n) W := by
  show _ = _; kernel_rfl
set_option maxRecDepth 100000 in
theorem part_cipher (W : World) (n : Int) (c : ByteArray) (T : List UInt8) : (part 9 (boxv n c T).toArray 1).run Tryd.prog W = .ok (.string c) W := by
  show _ = _; kernel_rfl
set_option maxRecDepth 100000 in
theorem fieldsBox : ∃ a b e : Field, (Tryd.prog.fieldsOf 36).toList = [a, b, e] ∧ (a.name = "_") = False ∧ (b.name = "_") = False ∧ (e.name = "_") = False ∧ a.type = 3 ∧ a.offset = 0 ∧ b.type = 9 ∧ b.offset = 1 ∧ e.type = 34 ∧ e.offset = 2 := by
  refine ⟨_, _, _, rfl, ?_⟩
  simp
theorem eqF_cons {P : Program} {W : World} {d : Nat} {a b : Array Value} {f : Field} {fs : List Field} {u v : Value} (hn : (f.name = "_") = False) (h1 : (part f.type a f.offset).run P W = .ok u W) (h2 : (part f.type b f.offset).run P W = .ok v W) (h : (Op.equalIn d f.type u v).run P W = .ok true W) :
    (Op.eqFields d a b (f :: fs)).run P W = (Op.eqFields d a b fs).run P W := by
  simp only [Op.eqFields, ne_eq, hn, not_false_eq_true, if_true, Sem.run_bind, h1, h2, h, Result.andThen_ok, Bool.not_true, Bool.false_eq_true, if_false]
theorem eqF_nil {P : Program} {W : World} {d : Nat} {a b : Array Value} : (Op.eqFields d a b []).run P W = .ok true W := rfl
set_option maxRecDepth 100000 in
theorem run_eqBoxD (W : World) (d : Nat) (n : Int) (c : ByteArray) (T : List UInt8) (h : T.length = 16) :
    (Op.equalIn (d + 3) 36 (.agg (boxv n c T).toArray) (.agg (boxv n c T).toArray)).run Tryd.prog W = .ok true W := by
  obtain ⟨f0, f1, f2, hf, n0, n1, n2, t0, o0, t1, o1, t2, o2⟩ := fieldsBox
  have e0 := run_equalIn_int (P := Tryd.prog) W (d + 1) 3 .i64 .i64 n n Tryd.underlying3
  have e1 := run_equalIn_string (P := Tryd.prog) W (d + 1) 9 c c Tryd.underlying9
  have e2 := run_eqBytesD W d 34 16 T T Tryd.underlying34 h h
  rw [beq_self_eq_true] at e0 e1
  rw [decide_eq_true rfl] at e2
  have p0 := part_nonce W n c T
  have p1 := part_cipher W n c T
  have p2 := part_tag W n c T h
  rw [← t0, ← o0] at p0
  rw [← t1, ← o1] at p1
  rw [← t2, ← o2] at p2
  rw [← t0] at e0
  rw [← t1] at e1
  rw [← t2] at e2
  generalize (boxv n c T).toArray = V at *
  rw [run_equalIn_struct W (d + 2) 36 _ _ (by kernel_rfl) (by kernel_rfl), hf, eqF_cons n0 p0 p0 e0, eqF_cons n1 p1 p1 e1, eqF_cons n2 p2 p2 e2]
  exact eqF_nil
theorem run_eqlBox (W : World) (n : Int) (c : ByteArray) (T : List UInt8) (h : T.length = 16) :
    (binOp .eql 36 (.agg (boxv n c T).toArray) (.agg (boxv n c T).toArray)).run Tryd.prog W = .ok (.bool true) W := by
  have e := run_eqBoxD W 9997 n c T h
  rw [run_eql_struct, show (10000 : Nat) = 9997 + 3 from rfl, e]
  rfl
theorem run_neqBox (W : World) (n : Int) (c : ByteArray) (T : List UInt8) (h : T.length = 16) :
    (binOp .neq 36 (.agg (boxv n c T).toArray) (.agg (boxv n c T).toArray)).run Tryd.prog W = .ok (.bool false) W := by
  have e := run_eqBoxD W 9997 n c T h
  rw [run_neq_struct, show (10000 : Nat) = 9997 + 3 from rfl, e]
  rfl
theorem guard36 : Tryd.prog.eqGuardType Tryd.prog.depth 36 = false := by kernel_rfl
end Go.Proofs.YtaecljahbmcneaaDoor
