/- Slices whose elements are several cells each (digests, boxes): read, grown by one. -/
import Derived.Test.YtpgakdioaebikaaDoorShaG
namespace Go.Proofs.YtpgakdioaebikaaDoor
open Go.RowKit

theorem flat_length {α : Type} (f : α → List Value) (s : Nat) : ∀ (l : List α), (∀ x ∈ l, (f x).length = s) → (l.flatMap f).length = l.length * s := by
  intro l
  induction l with
  | nil => intro _; simp
  | cons x l ih =>
    intro h
    have h1 := ih (fun y hy => h y (List.mem_cons_of_mem _ hy))
    have h2 := h x (List.mem_cons_self ..)
    rw [List.flatMap_cons, List.length_append, h1, h2, List.length_cons, Nat.add_mul, Nat.one_mul, Nat.add_comm]
theorem flat_get {α : Type} (f : α → List Value) (s : Nat) : ∀ (l : List α), (∀ x ∈ l, (f x).length = s) → ∀ (j i : Nat) (hj : j < l.length), i < s → (l.flatMap f)[j * s + i]? = (f l[j])[i]? := by
  intro l
  induction l with
  | nil => intro _ j i hj; exact absurd hj (by simp)
  | cons x l ih =>
    intro h j i hj hi
    have h2 := h x (List.mem_cons_self ..)
    rw [List.flatMap_cons]
    cases j with
    | zero =>
      rw [Nat.zero_mul, Nat.zero_add, List.getElem?_append_left (by omega)]
      rfl
    | succ j =>
      have h3 := ih (fun y hy => h y (List.mem_cons_of_mem _ hy)) j i (by simpa using hj) hi
      rw [List.getElem?_append_right (by rw [h2, Nat.succ_mul]; omega), h2, show (j + 1) * s + i - s = j * s + i from by rw [Nat.succ_mul]; omega, h3]
      rfl
theorem flat_one {α : Type} (f : α → List Value) (l : List α) (h : ∀ x ∈ l, ∀ v ∈ f x, v.oneCell' = true) : ∀ v ∈ l.flatMap f, v.oneCell' = true := by
  intro v hv
  obtain ⟨x, hx, hv⟩ := List.mem_flatMap.1 hv
  exact h x hx v hv

/-- The slice with the address A and the length n reads as the list l, element by element. -/
structure RdF {α : Type} (f : α → List Value) (s : Nat) (w : World) (A : Option Addr) (n : Nat) (l : List α) : Prop where
  len : l.length = n
  each : ∀ x ∈ l, (f x).length = s
  cells : Cells w A (l.flatMap f)
theorem RdF.below {α : Type} {f : α → List Value} {s : Nat} {w w1 : World} {A : Option Addr} {n : Nat} {l : List α} (h : RdF f s w A n l) (hb : Below w.heap.size w w1) : RdF f s w1 A n l := ⟨h.1, h.2, h.3.below hb⟩
theorem RdF.nil {α : Type} (f : α → List Value) (s : Nat) (w : World) (A : Option Addr) : RdF f s w A 0 [] := ⟨rfl, (fun _ h => by cases h), Cells.nil w A⟩
theorem RdF.at_ {α : Type} {f : α → List Value} {s : Nat} {w : World} {A : Option Addr} {n : Nat} {l : List α} (h : RdF f s w A n l) (hn : 0 < n) (hs : 0 < s) : ∃ b off, A = some ⟨b, off, none⟩ ∧ ∀ j (hj : j < l.length), w.rangeAt b (off + j * s) (f l[j]) := by
  have hl := flat_length f s l h.each
  have hne : 0 < (l.flatMap f).length := by rw [hl, h.len]; exact Nat.mul_pos hn hs
  obtain ⟨b, off, rfl, hc⟩ := h.cells hne
  refine ⟨b, off, rfl, fun j hj i v hv => ?_⟩
  have hi : i < s := by have := (List.getElem?_eq_some_iff.1 hv).1; rw [h.each _ (List.getElem_mem _)] at this; exact this
  have := hc (j * s + i) v (by rw [flat_get f s l h.each j i hj hi]; exact hv)
  rw [Nat.add_assoc]
  exact this
/-- A row of the call's own reads. -/
theorem RdF.own {α : Type} {f : α → List Value} {s : Nat} {w : World} {A : Option Addr} {c base e : Nat} {l : List α} (he : ∀ x ∈ l, (f x).length = s) (h : w.ownsRow base e s (.slice A l.length c) l.length (l.flatMap f)) : RdF f s w A l.length l := ⟨rfl, he, own_cells h⟩
theorem flat_snoc {α : Type} (f : α → List Value) (l : List α) (x : α) : (l ++ [x]).flatMap f = l.flatMap f ++ f x := by simp

/-- 'append(v, y)' where an element is several cells: the one new element lies in a new block of its own. -/
theorem wpList_appF {P : Program} {ops : Array Oper} {rest : List Oper} {o : Oper} {a : Act} {Q : Exit → Act → World → Prop} {w : World} {g : Nat} {pt : TypeId} {fr : Nat × Nat} (hgd : o.guard = none) (sl x : Operand) (t : TypeId)
    (ho : o.op = .call { callee := .builtin .append, args := #[sl, x], argTypes := #[t, t] }) (base e s bytes : Nat) (z : Value) (ht : P.underlying t = some (.slice e)) (hinfo : (P.info? e).map (fun i => (i.zero, i.size, i.bytes)) = some (some z, s, bytes))
    (hzs : z.cells.size = s) (hs0 : 0 < s) (hb0 : 0 < bytes)
    (v : Value) (n : Nat) (xs ys : List Value) (HO : w.ownsRow base e s v n xs) (hg : w.heap[g]? = some (.cells ys.toArray pt fr)) (hs : a.eval sl = v) (hx : a.eval x = .slice (some ⟨g, 0, none⟩) 1 1) (hys : ys.length = s) (h1 : ∀ y ∈ ys, y.oneCell' = true) (hbase : base ≤ w.heap.size) (hl : (n + 1) * bytes ≤ 140737488355328)
    (h : ∀ A1 c1 w1, w1.ownsRow base e s (.slice A1 (n + 1) c1) (n + 1) (xs ++ ys) → w.grownBy w1 v.ownBlock → ((Value.slice A1 (n + 1) c1).ownBlock = v.ownBlock ∨ (Value.slice A1 (n + 1) c1).ownBlock = some w.heap.size) →
      wpList P ops Q rest (a.put o.dst (.slice A1 (n + 1) c1)) w1) : wpList P ops Q (o :: rest) a w :=
  wpList_app hgd sl x t ho base e s bytes z ht hinfo hzs hs0 hb0 v n xs ys _ 1 1 HO (cells_of_block (pad := []) (by simpa using hg)) hs hx (by omega) h1 hbase hl h
end Go.Proofs.YtpgakdioaebikaaDoor
