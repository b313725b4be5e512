/- Words of this seat: bytes as values, rows of cells that are read, slices that the call itself owns; the laws of append that the walks use. -/
import Derived.WalkKit
import Derived.KernelRfl
import Derived.WalkLawsBesides
import Derived.WalkSpells
import Derived.Lib.Hide
import Derived.Lib.AppendStr
import Derived.Laws.Rows
import Derived.Laws.Tables
import Derived.Maps.AppendAt
namespace Go.Proofs.YtpgakdioaebikaaDoor
open Go.RowKit

/-- A byte as a value; bytes as values. -/
def B (x : UInt8) : Value := .int .u8 (x.toNat : Int)
def bv (xs : List UInt8) : List Value := xs.map B
theorem bv_length (xs : List UInt8) : (bv xs).length = xs.length := by simp [bv]
theorem bv_append (xs ys : List UInt8) : bv (xs ++ ys) = bv xs ++ bv ys := by simp [bv]
theorem bv_at {xs : List UInt8} {j : Nat} (h : j < xs.length) : (bv xs)[j]? = some (B xs[j]) := by simp [bv, h]
theorem bv_one (xs : List UInt8) : ∀ u ∈ bv xs, u.oneCell' = true := by
  intro u hu
  simp only [bv, List.mem_map] at hu
  obtain ⟨x, _, rfl⟩ := hu
  rfl

/-- From the address A on the memory holds the cells xs (where there are any). -/
def Cells (w : World) (A : Option Addr) (xs : List Value) : Prop :=
  0 < xs.length → ∃ b off, A = some ⟨b, off, none⟩ ∧ ∀ j u, xs[j]? = some u → w.cell? ⟨b, off + j, none⟩ = some u
theorem cell_kept {w w1 : World} (hb : Below w.heap.size w w1) {a : Addr} {v : Value} (hc : w.cell? a = some v) : w1.cell? a = some v :=
  (hb.cell (World.block_lt_of_cell? w a hc)).trans hc
theorem Cells.below {w w1 : World} {A : Option Addr} {xs : List Value} (h : Cells w A xs) (hb : Below w.heap.size w w1) : Cells w1 A xs := by
  intro hn
  obtain ⟨b, off, rfl, hc⟩ := h hn
  exact ⟨b, off, rfl, fun j u hu => cell_kept hb (hc j u hu)⟩
theorem Cells.nil (w : World) (A : Option Addr) : Cells w A [] := fun h => absurd h (by simp)
/-- Cells of blocks other than the one that was written stay. -/
theorem Cells.grown {w w1 : World} {A : Option Addr} {xs : List Value} {row : Option Nat} (h : Cells w A xs) (hg : w.grownBy w1 row) (hne : ∀ b off, A = some ⟨b, off, none⟩ → some b ≠ row) : Cells w1 A xs := by
  intro hn
  obtain ⟨b, off, rfl, hc⟩ := h hn
  exact ⟨b, off, rfl, fun j u hu => hg.cell (hc j u hu) (hne b off rfl)⟩

/-- The slice with the address A and the length n reads as the bytes xs. -/
structure Rd (w : World) (A : Option Addr) (n : Nat) (xs : List UInt8) : Prop where
  len : xs.length = n
  cells : Cells w A (bv xs)
theorem Rd.nil (w : World) (A : Option Addr) : Rd w A 0 [] := ⟨rfl, Cells.nil w A⟩
theorem Rd.below {w w1 : World} {A : Option Addr} {n : Nat} {xs : List UInt8} (h : Rd w A n xs) (hb : Below w.heap.size w w1) : Rd w1 A n xs := ⟨h.1, h.2.below hb⟩
theorem Rd.at_ {w : World} {A : Option Addr} {n : Nat} {xs : List UInt8} (h : Rd w A n xs) (hn : 0 < n) : ∃ b off, A = some ⟨b, off, none⟩ ∧ ∀ j (hj : j < xs.length), w.cell? ⟨b, off + j, none⟩ = some (B xs[j]) := by
  obtain ⟨b, off, rfl, hc⟩ := h.cells (by rw [bv_length, h.len]; exact hn)
  exact ⟨b, off, rfl, fun j hj => hc j _ (bv_at hj)⟩

theorem add_plain (g j : Nat) : (⟨g, 0, none⟩ : Addr).add j = ⟨g, j, none⟩ := by unfold Addr.add; split <;> simp_all
theorem add_off (g o j : Nat) : (⟨g, o, none⟩ : Addr).add j = ⟨g, o + j, none⟩ := by unfold Addr.add; split <;> simp_all
theorem grown_below {w w1 : World} (h : Below w.heap.size w w1) (row : Option Nat) : w.grownBy w1 row := ⟨h.os, h.tape, h.output, h.size, fun i hi _ => h.block i hi⟩

section own
variable {w w1 : World} {base base' : Nat} {e : TypeId} {size n : Nat} {v : Value} {xs : List Value}
theorem own_below (h : w.ownsRow base e size v n xs) (hb : Below w.heap.size w w1) : w1.ownsRow base e size v n xs :=
  World.ownsRow.kept h (grown_below hb none) (by cases v.ownBlock <;> simp)
theorem own_lower (h : w.ownsRow base e size v n xs) (hb : base' ≤ base) : w.ownsRow base' e size v n xs := by
  obtain ⟨h1, h2⟩ := h
  refine ⟨h1, ?_⟩
  rcases h2 with h2 | ⟨g, cap, cur, hv, hg, r⟩
  · exact .inl h2
  · exact .inr ⟨g, cap, cur, hv, by omega, r⟩
theorem own_form (h : w.ownsRow base e size v n xs) : ∃ A c, v = .slice A n c := by
  rcases h.2 with ⟨rfl, h2⟩ | ⟨g, cap, cur, rfl, _⟩
  · exact ⟨none, 0, by rw [h2]⟩
  · exact ⟨_, cap, rfl⟩
theorem own_cells {A : Option Addr} {c : Nat} (h : w.ownsRow base e size (.slice A n c) n xs) : Cells w A xs := by
  intro hn
  rcases h.2 with ⟨h1, h2⟩ | ⟨g, cap, cur, hv, _⟩
  · exact absurd h.1 (by rw [h2]; omega)
  · injection hv with h1 h3 h4
    subst h1
    refine ⟨g, 0, rfl, fun j u hu => ?_⟩
    have := World.ownsRow.cells h (g := g) rfl j u hu
    rw [add_plain] at this
    rwa [Nat.zero_add]
/-- A fresh block is a row of the call's own. -/
theorem own_new (w : World) (base : Nat) (e : TypeId) (size n : Nat) (xs : List Value) (hb : base ≤ w.heap.size) (hl : xs.length = n * size) (hm : n ≤ maxLen) :
    (w.alloc (.cells xs.toArray e)).ownsRow base e size (.slice (some ⟨w.heap.size, 0, none⟩) n n) n xs := by
  have := World.ownsRow_lit (base := base) (e := e) (size := size) w xs.toArray n hb hm (by simpa using hl)
  simpa using this
end own

section
variable {P : Program}
/-- 'append(v, ys...)': v the call's own, ys read. -/
theorem run_append_gen (w : World) (base : Nat) (t ty e : TypeId) (size bytes : Nat) (z : Value) (ht : P.underlying t = some (.slice e)) (hinfo : (P.info? e).map (fun i => (i.zero, i.size, i.bytes)) = some (some z, size, bytes))
    (hzs : z.cells.size = size) (hsz : 0 < size) (hb0 : 0 < bytes)
    (v : Value) (n : Nat) (xs ys : List Value) (A : Option Addr) (m c : Nat) (HO : w.ownsRow base e size v n xs) (hlen : ys.length = m * size) (HR : Cells w A ys) (h1 : ∀ u ∈ ys, u.oneCell' = true) (hbase : base ≤ w.heap.size) (hl : (n + m) * bytes ≤ 140737488355328) :
    ∃ A1 c1 w1, (Builtin.append_ #[t, t] ty #[v, .slice A m c]).run P w = .ok (.slice A1 (n + m) c1) w1 ∧ w1.ownsRow base e size (.slice A1 (n + m) c1) (n + m) (xs ++ ys) ∧ w.grownBy w1 v.ownBlock ∧
      ((Value.slice A1 (n + m) c1).ownBlock = v.ownBlock ∨ (Value.slice A1 (n + m) c1).ownBlock = some w.heap.size) := by
  obtain ⟨i0, hi, hz0, hz1, hz2⟩ := info_parts hinfo
  have hnm : n + m ≤ 140737488355328 := Nat.le_trans (Nat.le_mul_of_pos_right _ hb0) hl
  have key : ∃ v1 w1, (Builtin.append_ #[t, t] ty #[v, .slice A m c]).run P w = .ok v1 w1 ∧ w1.ownsRow base e size v1 (n + m) (xs ++ ys) ∧ w.grownBy w1 v.ownBlock ∧ (v1.ownBlock = v.ownBlock ∨ v1.ownBlock = some w.heap.size) := by
    cases A with
    | none =>
      have hm : m = 0 := by
        rcases Nat.eq_zero_or_pos m with h0 | h0
        · exact h0
        · obtain ⟨b, off, h2, _⟩ := HR (by rw [hlen]; exact Nat.mul_pos h0 hsz)
          cases h2
      subst hm
      obtain rfl : ys = [] := List.eq_nil_of_length_eq_zero (by simpa using hlen)
      refine ⟨v, w, ?_, by simpa using HO, World.grownBy.refl w _, .inl rfl⟩
      rcases HO.2 with ⟨rfl, hn⟩ | ⟨g, cap, cur, rfl, _, _, hnc, _⟩
      · simp [Builtin.append_, run_underlying ht, sizeOf, typeInfo, hi, Builtin.lenOf, Builtin.firstCells]
      · simp [Builtin.append_, run_underlying ht, sizeOf, typeInfo, hi, Builtin.lenOf, Builtin.firstCells, hnc, storeCells]
    | some ad =>
      have hcells : ∀ j u, ys[j]? = some u → w.cell? (ad.add j) = some u := by
        intro j u hu
        have hj := (List.getElem?_eq_some_iff.1 hu).1
        obtain ⟨b, off, h2, hc⟩ := HR (by omega)
        injection h2 with h2
        subst h2
        rw [add_off]
        exact hc j u hu
      obtain ⟨v1, w1, hr, h2, h3, _, h5⟩ := run_append_own_at (P := P) w base t ty e i0 z size bytes ht hi hz0 hz1 hz2 hzs hsz v n xs HO ad m c ys hlen hcells h1 (by simp only [maxLen]; omega) hl hbase
      exact ⟨v1, w1, hr, h2, h3, h5⟩
  obtain ⟨v1, w1, hr, h2, h3, h4⟩ := key
  obtain ⟨A1, c1, rfl⟩ := own_form h2
  exact ⟨A1, c1, w1, hr, h2, h3, h4⟩

/-- The same as a step of the walk. -/
theorem wpList_app {ops : Array Oper} {rest : List Oper} {o : Oper} {a : Act} {Q : Exit → Act → World → Prop} {w : World} (hgd : o.guard = none) (s x : Operand) (t : TypeId)
    (ho : o.op = .call { callee := .builtin .append, args := #[s, x], argTypes := #[t, t] }) (base e : Nat) (size bytes : Nat) (z : Value) (ht : P.underlying t = some (.slice e)) (hinfo : (P.info? e).map (fun i => (i.zero, i.size, i.bytes)) = some (some z, size, bytes))
    (hzs : z.cells.size = size) (hsz : 0 < size) (hb0 : 0 < bytes)
    (v : Value) (n : Nat) (xs ys : List Value) (A : Option Addr) (m c : Nat) (HO : w.ownsRow base e size v n xs) (HR : Cells w A ys) (hs : a.eval s = v) (hx : a.eval x = .slice A m c) (hlen : ys.length = m * size) (h1 : ∀ u ∈ ys, u.oneCell' = true) (hbase : base ≤ w.heap.size) (hl : (n + m) * bytes ≤ 140737488355328)
    (h : ∀ A1 c1 w1, w1.ownsRow base e size (.slice A1 (n + m) c1) (n + m) (xs ++ ys) → w.grownBy w1 v.ownBlock → ((Value.slice A1 (n + m) c1).ownBlock = v.ownBlock ∨ (Value.slice A1 (n + m) c1).ownBlock = some w.heap.size) →
      wpList P ops Q rest (a.put o.dst (.slice A1 (n + m) c1)) w1) : wpList P ops Q (o :: rest) a w := by
  obtain ⟨A1, c1, w1, hr, h2, h3, h4⟩ := run_append_gen (P := P) w base t o.type e size bytes z ht hinfo hzs hsz hb0 v n xs ys A m c HO hlen HR h1 hbase hl
  refine wpList_plain hgd fun K hK => ?_
  unfold Oper.wp execOp
  simp only [ho, resolve, invoke, builtin, Sem.run_bind, Sem.run_pure, Result.andThen_ok, List.map_toArray, List.map_cons, List.map_nil, hs, hx, hr]
  exact hK _ _ (h A1 c1 w1 h2 h3 h4)
end
/-- 'append(v, y)': the one new element lies in a new block of its own. -/
theorem wpList_app1 {P : Program} {ops : Array Oper} {rest : List Oper} {o : Oper} {a : Act} {Q : Exit → Act → World → Prop} {w : World} (hgd : o.guard = none) (s x : Operand) (t : TypeId)
    (ho : o.op = .call { callee := .builtin .append, args := #[s, x], argTypes := #[t, t] }) (base e : Nat) (bytes : Nat) (z : Value) (ht : P.underlying t = some (.slice e)) (hinfo : (P.info? e).map (fun i => (i.zero, i.size, i.bytes)) = some (some z, 1, bytes))
    (hzs : z.cells.size = 1) (hb0 : 0 < bytes)
    (v : Value) (n : Nat) (xs : List Value) (y : Value) (HO : w.ownsRow base e 1 v n xs) (hs : a.eval s = v) (hx : a.eval x = .slice (some ⟨w.heap.size, 0, none⟩) 1 1) (h1 : y.oneCell' = true) (hbase : base ≤ w.heap.size) (hl : (n + 1) * bytes ≤ 140737488355328)
    (h : ∀ A1 c1 w1, w1.ownsRow base e 1 (.slice A1 (n + 1) c1) (n + 1) (xs ++ [y]) → w.grownBy w1 v.ownBlock → ((Value.slice A1 (n + 1) c1).ownBlock = v.ownBlock ∨ ∃ b, (Value.slice A1 (n + 1) c1).ownBlock = some b ∧ w.heap.size ≤ b) →
      wpList P ops Q rest (a.put o.dst (.slice A1 (n + 1) c1)) w1) : wpList P ops Q (o :: rest) a (w.alloc (.cells #[y] e)) := by
  refine wpList_app hgd s x t ho base e 1 bytes z ht hinfo hzs (by omega) hb0 v n xs [y] _ 1 1 (HO.alloc _) ?_ hs hx rfl ?_ (by simp; omega) hl ?_
  · intro _
    refine ⟨w.heap.size, 0, rfl, fun j u hu => ?_⟩
    rw [cell_of_row _ _ _ _ _ _ (heap_alloc_new w _)]
    simpa using hu
  · intro u hu
    simp at hu
    subst hu
    exact h1
  · intro A1 c1 w1 h2 h3 h4
    refine h A1 c1 w1 h2 (World.grownBy.trans (World.grownBy_alloc w _ _) h3) ?_
    rcases h4 with h4 | h4
    · exact .inl h4
    · exact .inr ⟨_, h4, by simp⟩
theorem size_bytes (s : ByteArray) : s.data.toList.length = s.size := by rw [Array.length_toList]; rfl
/-- 'append(v, s...)', s a string. -/
theorem wpList_apps {P : Program} {ops : Array Oper} {rest : List Oper} {o : Oper} {a : Act} {Q : Exit → Act → World → Prop} {w : World} (hgd : o.guard = none) (sl x : Operand) (t u : TypeId)
    (ho : o.op = .call { callee := .builtin .append, args := #[sl, x], argTypes := #[t, u] }) (base : Nat) (ht : P.underlying t = some (.slice 5)) (hu : P.underlying u = some .string) (hinfo : (P.info? 5).map (fun i => (i.zero, i.size, i.bytes)) = some (some (.int .u8 0), 1, 1))
    (v : Value) (n : Nat) (xs : List UInt8) (s : ByteArray) (HO : w.ownsRow base 5 1 v n (bv xs)) (hs : a.eval sl = v) (hx : a.eval x = .string s) (hbase : base ≤ w.heap.size) (hl : n + s.size ≤ 140737488355328)
    (h : ∀ A1 c1 w1, w1.ownsRow base 5 1 (.slice A1 (n + s.size) c1) (n + s.size) (bv (xs ++ s.data.toList)) → w.grownBy w1 v.ownBlock → wpList P ops Q rest (a.put o.dst (.slice A1 (n + s.size) c1)) w1) : wpList P ops Q (o :: rest) a w := by
  obtain ⟨i0, hi, hz0, hz1, hz2⟩ := info_parts hinfo
  refine Lib.wpList_append_own_string w hgd sl x t u ho base 5 i0 ht hu hi hz0 hz1 hz2 v n (bv xs) hs HO s hx (by simp only [maxLen]; omega) hl hbase ?_
  intro v1 w1 h1 h2 _
  obtain ⟨A1, c1, rfl⟩ := own_form h1
  refine h A1 c1 w1 ?_ h2
  rw [bv_append]
  exact h1
/-- 'string(b)', b read. -/
theorem run_str {P : Program} {w : World} {A : Option Addr} {n c : Nat} {xs : List UInt8} (t u : TypeId) (ht : P.underlying t = some (.slice 5)) (he : P.underlying 5 = some (.int .u8)) (hu : P.underlying u = some .string) (HR : Rd w A n xs) :
    (convert t u (.slice A n c)).run P w = .ok (.string ⟨xs.toArray⟩) w := by
  have hn := HR.len
  subst hn
  cases A with
  | none =>
    have hx : xs = [] := by
      rcases xs with _ | ⟨x, xs⟩
      · rfl
      · obtain ⟨b, off, h, _⟩ := HR.cells (by simp [bv])
        cases h
    subst hx
    exact run_convert_bytes_nil w t 5 ht he 0 c u hu
  | some ad =>
    refine run_convert_bytes_back w t u 5 ad c xs ht he hu ?_
    intro j hj
    obtain ⟨b, off, h, hc⟩ := HR.cells (by rw [bv_length]; omega)
    injection h with h
    subst h
    rw [add_off]
    exact hc j _ (bv_at hj)
theorem wpList_str {P : Program} {ops : Array Oper} {rest : List Oper} {o : Oper} {a : Act} {Q : Exit → Act → World → Prop} {w : World} (hgd : o.guard = none) (x : Operand) (t u : TypeId) (ho : o.op = .convert t u x)
    (ht : P.underlying t = some (.slice 5)) (he : P.underlying 5 = some (.int .u8)) (hu : P.underlying u = some .string) {A : Option Addr} {n c : Nat} {xs : List UInt8} (HR : Rd w A n xs) (hx : a.eval x = .slice A n c)
    (h : wpList P ops Q rest (a.put o.dst (.string ⟨xs.toArray⟩)) w) : wpList P ops Q (o :: rest) a w := by
  refine wpList_plain hgd fun K hK => ?_
  unfold Oper.wp execOp
  simp only [ho, hx, Sem.run_bind, run_str (c := c) t u ht he hu HR, Result.andThen_ok, Sem.run_pure]
  exact hK _ _ h
/-- '[]byte(s)'. -/
theorem wpList_tobytes {P : Program} {ops : Array Oper} {rest : List Oper} {o : Oper} {a : Act} {Q : Exit → Act → World → Prop} {w : World} (hgd : o.guard = none) (x : Operand) (u t : TypeId) (ho : o.op = .convert u t x)
    (hu : P.underlying u = some .string) (ht : P.underlying t = some (.slice 5)) (he : P.underlying 5 = some (.int .u8)) (s : ByteArray) (hx : a.eval x = .string s)
    (h : ∀ c k (pad : List Value) w1, Below w.heap.size w w1 → w1.heap.size = w.heap.size + 1 → w1.heap[w.heap.size]? = some (.cells (bv s.data.toList ++ pad).toArray 5 (k, k + 1)) → k = (bv s.data.toList ++ pad).length → s.size ≤ c →
      wpList P ops Q rest (a.put o.dst (.slice (some ⟨w.heap.size, 0, none⟩) s.size c)) w1) : wpList P ops Q (o :: rest) a w := by
  refine wpList_plain hgd fun K hK => ?_
  unfold Oper.wp execOp
  simp only [ho, hx, Sem.run_bind, run_bytes_of_string w u t 5 s hu ht he, Result.andThen_ok, Sem.run_pure]
  refine hK _ _ (h _ (bytesRow s (grownCap w s.size 0 5)).size (List.replicate (grownCap w s.size 0 5 - s.size) (.int .u8 0)) _ (Below.alloc (Below.drew (Below.refl _ _)) (by simp) _) (by simp) ?_ ?_ (grownCap_ge _ _ _ _))
  · rw [show w.heap.size = w.drew.heap.size from rfl, heap_alloc_new]
    simp [bytesRow, bv]
    intro a _
    rfl
  · simp [bytesRow, bv]
theorem cells_of_block {w : World} {g : Nat} {cs pad : List Value} {t : TypeId} {fr : Nat × Nat} (h : w.heap[g]? = some (.cells (cs ++ pad).toArray t fr)) : Cells w (some ⟨g, 0, none⟩) cs := by
  intro _
  refine ⟨g, 0, rfl, fun j u hu => ?_⟩
  rw [cell_of_row _ _ _ _ _ _ h, Nat.zero_add]
  have := (List.getElem?_eq_some_iff.1 hu).1
  simp [List.getElem?_append_left this, hu]
/-- A whole row is loaded. -/
theorem wpList_loadB {P : Program} {ops : Array Oper} {rest : List Oper} {o : Oper} {a : Act} {Q : Exit → Act → World → Prop} {w : World} (hgd : o.guard = none) (ty : TypeId) (x : Operand) (ho : o.op = .load ty x) {d : TypeDesc} {n : Nat} (hu : P.underlying ty = some d) (hi : (P.info? ty).map (·.size) = some n)
    {g : Nat} {t : TypeId} {cs : List Value} {fr : Nat × Nat} (hg : w.heap[g]? = some (.cells cs.toArray t fr)) (hn : cs.length = n) (hx : a.eval x = .pointer (some ⟨g, 0, none⟩)) (hd : (match d with | .struct _ | .array _ _ => true | _ => false) = true)
    (h : wpList P ops Q rest (a.put o.dst (.agg cs.toArray)) w) : wpList P ops Q (o :: rest) a w :=
  wpList_load_row hgd ty x ho g hx t cs.toArray fr d hg hu hd (by rw [hi, ← hn]; simp) h
/-- A whole row is stored. -/
theorem wpList_storeB {P : Program} {ops : Array Oper} {rest : List Oper} {o : Oper} {a : Act} {Q : Exit → Act → World → Prop} {w : World} (hgd : o.guard = none) (ty : TypeId) (x y : Operand) (ho : o.op = .store ty x y) {n : Nat} (hi : (P.info? ty).map (·.size) = some n)
    {g : Nat} {t : TypeId} {old cs : List Value} (hg : w.heap[g]? = some (.cells old.toArray t (0, 0))) (h1 : ∀ v ∈ cs, v.oneCell' = true) (hn : cs.length = n) (hold : old.length = n) (hx : a.eval x = .pointer (some ⟨g, 0, none⟩)) (hy : a.eval y = .agg cs.toArray)
    (h : ∀ w1, w1.heap[g]? = some (.cells cs.toArray t (0, 0)) → w.grownBy w1 (some g) → w1.heap.size = w.heap.size → wpList P ops Q rest (a.put o.dst undef) w1) : wpList P ops Q (o :: rest) a w := by
  refine wpList_store_row hgd ty x y ho g cs.toArray hx hy t old.toArray hg (by rw [hi, ← hn]; simp) (by simp; omega) (by simpa using h1) ?_
  exact h _ (setRow_heap w g _ _ t _ hg) ⟨rfl, rfl, rfl, by simp, fun k _ hk => setRow_other w g k _ (fun e => hk (by rw [e]))⟩ (by simp)
theorem block_kept {w w1 : World} {g : Nat} {o : Obj} {row : Option Nat} (h : w.heap[g]? = some o) (hg : w.grownBy w1 row) (hne : some g ≠ row) : w1.heap[g]? = some o :=
  (hg.block g (Array.getElem?_eq_some_iff.1 h).1 hne).trans h
theorem block_below {w w1 : World} {g : Nat} {o : Obj} (h : w.heap[g]? = some o) (hb : Below w.heap.size w w1) : w1.heap[g]? = some o :=
  (hb.block g (Array.getElem?_eq_some_iff.1 h).1).trans h
/-- An element of an array value. -/
theorem run_index_arr {P : Program} (W : World) (t e n : Nat) (cs : List Value) (j : Nat) (v : Value) (ht : P.underlying t = some (.array n e)) (ha : ∀ W, (isAgg e).run P W = .ok false W) (hs : ∀ W, (sizeOf e).run P W = .ok 1 W) (hj : j < n) (hc : cs[j]? = some v) :
    (Instr.index t (.agg cs.toArray) (.int .i64 (j : Int))).run P W = .ok v W := by
  have h0 : (0 : Int) ≤ (j : Int) ∧ (j : Int) < (n : Int) := by omega
  simp [Instr.index, asIntOf, run_underlying ht, h0, part, ha, hs, hc]
  intro h1
  omega
/-- A function hands back a struct or an array that lies in a block. -/
theorem ret_agg {P : Program} {fn : Func} {R : Ending → World → Prop} {a : Act} {w : World} {p : Tmp} {ty : TypeId} {d : TypeDesc} {n : Nat} (hr : fn.results = #[.cell p ty]) (hu : P.underlying ty = some d) (hi : (P.info? ty).map (·.size) = some n) (hd : (match d with | .struct _ | .array _ _ => true | _ => false) = true)
    {g : Nat} {t : TypeId} {fr : Nat × Nat} {cs : List Value} (hg : w.heap[g]? = some (.cells cs.toArray t fr)) (hn : cs.length = n) (hp : a.tmps.getD p undef = .pointer (some ⟨g, 0, none⟩)) (h0 : a.defers = [])
    (h : R (.returned (.agg cs.toArray)) w) : bodyPost P fn R .ret a w :=
  bodyPost_ret (results_cell_row hr a.tmps w g t cs.toArray fr d hp hg hu hd (by rw [hi, ← hn]; simp)) h0 h
theorem heap_at (w : World) (o : Obj) (n : Nat) (h : n = w.heap.size) : (w.alloc o).heap[n]? = some o := by subst h; exact heap_alloc_new w o
theorem own_snoc {w : World} {base c : Nat} {A : Option Addr} {xs : List UInt8} {x : UInt8} {y : Int} (h : w.ownsRow base 5 1 (.slice A (xs.length + 1) c) (xs.length + 1) (bv xs ++ [.int .u8 y])) (hy : (x.toNat : Int) = y) :
    w.ownsRow base 5 1 (.slice A (xs ++ [x]).length c) (xs ++ [x]).length (bv (xs ++ [x])) := by
  subst hy
  simpa [bv, B] using h
/-- The value v lies where the row lay, or in a block that is new since w. -/
def At (w : World) (row : Option Nat) (v : Value) : Prop := v.ownBlock = row ∨ ∃ b, v.ownBlock = some b ∧ w.heap.size ≤ b
theorem grown_step {w wr w1 : World} {row : Option Nat} {v : Value} (hg : w.grownBy wr row) (ha : At w row v) (h1 : wr.grownBy w1 v.ownBlock) : w.grownBy w1 row := by
  refine ⟨h1.os.trans hg.os, h1.tape.trans hg.tape, h1.output.trans hg.output, Nat.le_trans hg.size h1.size, fun k hk hne => ?_⟩
  rw [h1.block k (Nat.lt_of_lt_of_le hk hg.size) ?_]
  · exact hg.block k hk hne
  · rcases ha with ha | ⟨b, hb, hle⟩
    · rw [ha]; exact hne
    · rw [hb]
      intro he
      injection he with he
      omega
theorem at_step {w wr : World} {row : Option Nat} {v v1 : Value} (hg : w.grownBy wr row) (ha : At w row v) (h : v1.ownBlock = v.ownBlock ∨ ∃ b, v1.ownBlock = some b ∧ wr.heap.size ≤ b) : At w row v1 := by
  rcases h with h | ⟨b, hb, hle⟩
  · rcases ha with ha | ⟨b, hb, hle⟩
    · exact .inl (h.trans ha)
    · exact .inr ⟨b, h.trans hb, hle⟩
  · exact .inr ⟨b, hb, Nat.le_trans hg.size hle⟩
theorem grown_after {w w1 w2 : World} {row : Option Nat} (h : Below w.heap.size w w1) (hg : w1.grownBy w2 row) : w.grownBy w2 row :=
  ⟨hg.os.trans h.os, hg.tape.trans h.tape, hg.output.trans h.output, Nat.le_trans h.size hg.size, fun k hk hne => (hg.block k (Nat.lt_of_lt_of_le hk h.size) hne).trans (h.block k hk)⟩
/-- What was written was new: all that was there is as it was. -/
theorem grown_new {w w1 w2 : World} {row : Option Nat} (h : Below w.heap.size w w1) (hg : w1.grownBy w2 row) (hr : ∀ k, row = some k → w.heap.size ≤ k) : Below w.heap.size w w2 :=
  h.grown hg h.size hr
theorem cell_new0 (w : World) (v : Value) (t : TypeId) : (w.alloc (.cells #[v] t)).cell? ⟨w.heap.size, 0, none⟩ = some v := by
  rw [cell_of_row _ _ _ _ _ _ (heap_alloc_new w _)]; rfl
theorem ret_int {k : IntKind} {a b : Int} (h : a = b) : Ending.returned (.int k a) = .returned (.int k b) := by rw [h]
theorem val_int {k : IntKind} {a b : Int} (h : a = b) : Value.int k a = .int k b := by rw [h]
theorem below_grown {B0 : Nat} {w0 w w1 : World} {row : Option Nat} (h : Below B0 w0 w) (hg : w.grownBy w1 row) (hB : B0 ≤ w.heap.size) (hr : ∀ k, row = some k → B0 ≤ k) : Below B0 w0 w1 := h.grown hg hB hr
theorem own_ge {w : World} {base : Nat} {e : TypeId} {size n : Nat} {v : Value} {xs : List Value} (h : w.ownsRow base e size v n xs) : ∀ k, v.ownBlock = some k → base ≤ k := fun k hk => (World.ownsRow.lt h k hk).1
end Go.Proofs.YtpgakdioaebikaaDoor
