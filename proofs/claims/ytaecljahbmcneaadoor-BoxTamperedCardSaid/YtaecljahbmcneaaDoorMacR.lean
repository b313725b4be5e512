/- A region that draws its order: the text of a tag, put together and authenticated; what each operation leaves. -/
import Derived.Test.YtaecljahbmcneaaDoorBoxS
namespace Go.Proofs.YtaecljahbmcneaaDoor
open Go.RowKit Go.Shelf

/-- 'append(v, ys...)' where v is empty and has no room: the bytes lie in a new block of the call's own. -/
theorem run_append_empty {P : Program} (w : World) (base : Nat) (t ty : TypeId) (ht : P.underlying t = some (.slice 5)) (hinfo : (P.info? 5).map (fun i => (i.zero, i.size, i.bytes)) = some (some (.int .u8 0), 1, 1))
    (g : Addr) (ys : List UInt8) (A : Option Addr) (m c : Nat) (hy : Rd w A m ys) (h0 : 0 < m) (hl : m ≤ 1099511627776) (hbase : base ≤ w.heap.size) :
    ∃ A1 c1 w1, (Builtin.append_ #[t, t] ty #[.slice (some g) 0 0, .slice A m c]).run P w = .ok (.slice A1 m c1) w1 ∧ w1.ownsRow base 5 1 (.slice A1 m c1) m (bv ys) ∧ Below w.heap.size w w1 := by
  obtain ⟨i0, hi, hz0, hz1, hz2⟩ := info_parts hinfo
  have hyl := hy.len
  obtain ⟨b, off, rfl, hyc⟩ := hy.at_ h0
  have hrun := run_append_grow (P := P) (w := w) t ty 5 i0 (.int .u8 0) ht hi hz0 g 0 0 [] (by simp) (fun j u hu => by cases hu)
    ⟨b, off, none⟩ m c (bv ys) (by rw [bv_length, hz1, hyl]; omega)
    (fun j u hu => by
      have hj : j < ys.length := by simpa [bv] using (List.getElem?_eq_some_iff.1 hu).1
      rw [add_off, hyc j hj, ← hu, bv_at hj])
    (by omega) (by omega) (growslice_fits (by omega) (by rw [hz2]; omega))
  simp only [Nat.zero_add, Array.empty_append] at hrun
  have hge := grownCap_ge w m 0 5
  have hcm : grownCap w m 0 5 ≤ maxLen := grownCap_le_maxLen w m 0 5 (by simp only [maxLen]; omega)
  refine ⟨_, _, _, hrun, ⟨by rw [bv_length, hyl, Nat.mul_one], .inr ⟨w.heap.size, _, _, rfl, hbase, heap_alloc_new w.drew _, hge, hcm, ?_, ?_⟩⟩, (Below.drew (Below.refl _ _)).alloc (by simp) _⟩
  · simp [bv, size_zeroCells, hyl, Value.cells]
    omega
  · simp [bv, hyl]
theorem step_appe {P : Program} {ops : Array Oper} {o : Oper} {a : Act} {w : World} {K : Act → World → Prop} {Q : Exit → Act → World → Prop} {E : Prop}
    (hgd : o.guard = none) (s x : Operand) (t : TypeId) (ho : o.op = .call { callee := .builtin .append, args := #[s, x], argTypes := #[t, t] }) (base : Nat) (ht : P.underlying t = some (.slice 5)) (hinfo : (P.info? 5).map (fun i => (i.zero, i.size, i.bytes)) = some (some (.int .u8 0), 1, 1))
    (g : Addr) (ys : List UInt8) (A : Option Addr) (m c : Nat) (hY : Rd w A m ys) (hs : a.eval s = .slice (some g) 0 0) (hx : a.eval x = .slice A m c) (h0 : 0 < m) (hl : m ≤ 1099511627776) (hbase : base ≤ w.heap.size)
    (h : ∀ A1 c1 w1, w1.ownsRow base 5 1 (.slice A1 m c1) m (bv ys) → Below w.heap.size w w1 → K (a.put o.dst (.slice A1 m c1)) w1) :
    if Region.wanted o (yielded ops a.tmps) = true then Oper.wp P o a w K Q else E := by
  obtain ⟨A1, c1, w1, hr, h2, h3⟩ := run_append_empty (P := P) w base t o.type ht hinfo g ys A m c hY h0 hl hbase
  rw [if_pos (by simp [Region.wanted, hgd])]
  unfold Oper.wp execOp
  simp only [ho, resolve, invoke, builtin, Sem.run_bind, Sem.run_pure, Result.andThen_ok, List.map_toArray, List.map_cons, List.map_nil, hs, hx, hr]
  exact h A1 c1 w1 h2 h3
theorem encInt_ne (n : Int) : 0 < (encInt n).length := by
  unfold encInt
  rw [vint]
  split <;> simp
theorem encBytes_ne (s : List UInt8) : 0 < (encBytes s).length := by have := encInt_ne s.length; unfold encBytes; rw [List.length_append]; omega
theorem rd_own {w : World} {A : Option Addr} {c base : Nat} {xs : List UInt8} (h : w.ownsRow base 5 1 (.slice A xs.length c) xs.length (bv xs)) : Rd w A xs.length xs := ⟨rfl, own_cells h⟩
theorem own_al {w : World} {base : Nat} {e : TypeId} {size n : Nat} {v : Value} {xs : List Value} (h : w.ownsRow base e size v n xs) (o : Obj) : (w.alloc o).ownsRow base e size v n xs := own_below h (below_al _ _)
theorem below_two (w : World) (o o' : Obj) : Below w.heap.size w ((w.alloc o).alloc o') := bt (below_al _ _) (below_al _ _)
/- A new digest's block: where it lies behind the next call. -/
theorem zA {wd wn : World} (h : Below (wd.alloc (.cells Z16.toArray 34)).drew.heap.size (wd.alloc (.cells Z16.toArray 34)).drew wn) : wn.heap[wd.heap.size]? = some (.cells Z16.toArray 34 (0, 0)) :=
  block_below (w := (wd.alloc (.cells Z16.toArray 34)).drew) (heap_alloc_new wd _) h
theorem zB {wd wn : World} {o : Obj} (h : Below ((wd.alloc (.cells Z16.toArray 34)).alloc o).drew.heap.size ((wd.alloc (.cells Z16.toArray 34)).alloc o).drew wn) : wn.heap[wd.heap.size]? = some (.cells Z16.toArray 34 (0, 0)) :=
  block_below (w := ((wd.alloc (.cells Z16.toArray 34)).alloc o).drew) ((heap_alloc_old _ _ (by simp)).trans (heap_alloc_new wd _)) h
theorem zC {wd wn : World} {o : Obj} (h : Below ((wd.alloc o).alloc (.cells Z16.toArray 34)).drew.heap.size ((wd.alloc o).alloc (.cells Z16.toArray 34)).drew wn) : wn.heap[wd.heap.size + 1]? = some (.cells Z16.toArray 34 (0, 0)) :=
  block_below (w := ((wd.alloc o).alloc (.cells Z16.toArray 34)).drew) (heap_at (wd.alloc o) _ _ (by simp)) h
theorem zA' {wd wn : World} (h : Below (wd.alloc (.cells Z16.toArray 34)).heap.size (wd.alloc (.cells Z16.toArray 34)) wn) : wn.heap[wd.heap.size]? = some (.cells Z16.toArray 34 (0, 0)) :=
  block_below (heap_alloc_new wd _) h
theorem zB' {wd wn : World} {o : Obj} (h : Below ((wd.alloc (.cells Z16.toArray 34)).alloc o).heap.size ((wd.alloc (.cells Z16.toArray 34)).alloc o) wn) : wn.heap[wd.heap.size]? = some (.cells Z16.toArray 34 (0, 0)) :=
  block_below ((heap_alloc_old _ _ (by simp)).trans (heap_alloc_new wd _)) h
theorem zC' {wd wn : World} {o : Obj} (h : Below ((wd.alloc o).alloc (.cells Z16.toArray 34)).heap.size ((wd.alloc o).alloc (.cells Z16.toArray 34)) wn) : wn.heap[wd.heap.size + 1]? = some (.cells Z16.toArray 34 (0, 0)) :=
  block_below (heap_at (wd.alloc o) _ _ (by simp)) h
theorem dr0 (wd : World) : Below wd.heap.size wd wd.drew := Below.drew (Below.refl _ _)
theorem dr1 (wd : World) (o : Obj) : Below wd.heap.size wd (wd.alloc o).drew := Below.drew (below_al _ _)
theorem dr2 (wd : World) (o o' : Obj) : Below wd.heap.size wd ((wd.alloc o).alloc o').drew := Below.drew (below_two _ _ _)
/-- A row of bytes is not a digest's block. -/
theorem own_neD {w : World} {base n c k : Nat} {A : Option Addr} {xs : List Value} {cs : Array Value} {fr : Nat × Nat} (h : w.ownsRow base 5 1 (.slice A n c) n xs) (hD : w.heap[k]? = some (.cells cs 34 fr)) : some k ≠ (Value.slice A n c).ownBlock := by
  intro e
  rcases h.2 with ⟨h1, _⟩ | ⟨g, cap, cur, h1, _, h2, _⟩
  · injection h1 with h1; subst h1; cases e
  · injection h1 with h1; subst h1
    have : k = g := by simpa [Value.ownBlock] using e
    subst this
    rw [hD] at h2
    injection h2 with h2
    injection h2 with _ h3 _
    exact absurd h3 (by decide)
theorem own_neZ {w : World} {base n c : Nat} {A : Option Addr} {xs : List Value} (h : w.ownsRow base 5 1 (.slice A n c) n xs) : some w.heap.size ≠ (Value.slice A n c).ownBlock := fun e => by have := World.ownsRow.lt h _ e.symm; omega
theorem put16w {wd W : World} {kb : Nat} {cs : List UInt8} (hq : Below wd.heap.size wd W) (hz : W.heap[kb]? = some (.cells Z16.toArray 34 (0, 0))) (hl : cs.length = 16) (hkb : wd.heap.size ≤ kb) :
    ∃ kb', Value.pointer (some ⟨kb, 0, none⟩) = .pointer (some ⟨kb', 0, none⟩) ∧ (W.setCells kb 0 (bv cs)).heap[kb']? = some (.cells (bv cs).toArray 34 (0, 0)) ∧ Below wd.heap.size wd (W.setCells kb 0 (bv cs)) := by
  obtain ⟨h1, h2⟩ := setCells_row W kb 34 Z16 (bv cs) hz (bv_one cs) (by rw [bv_length, hl]; rfl)
  exact ⟨kb, rfl, h1, hq.grown h2 hq.size (fun k e => by cases e; exact hkb)⟩
end Go.Proofs.YtaecljahbmcneaaDoor
