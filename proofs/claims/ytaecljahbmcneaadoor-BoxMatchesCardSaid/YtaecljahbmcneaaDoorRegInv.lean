/- A region that draws its order, by ONE condition that holds whatever has come up so far. -/
import Derived.Test.YtaecljahbmcneaaDoorBoxS
namespace Go.Proofs.YtaecljahbmcneaaDoor
open Go.RowKit Go.Shelf

section
variable {P : Program} {md : Region.Mode} {ops : Array Oper} {Q : Exit → Act → World → Prop} {S : World → Prop}

/-- The operations for which operation i waits. -/
def depsOf (md : Region.Mode) (ops : Array Oper) (i : Nat) : List Nat := match ops[i]? with
  | some o => (o.after.toList.filter (Region.binds md)).map (·.on)
  | none => []
def sub (l m : List Nat) : Bool := l.all fun j => m.contains j
theorem sub_mem {l m : List Nat} (h : sub l m = true) {j : Nat} (hj : j ∈ l) : j ∈ m := by
  have := List.all_eq_true.1 h j hj
  simpa using this
/-- Each operation waits for earlier ones alone. -/
def backward (md : Region.Mode) (ops : Array Oper) : Bool := (List.range ops.size).all fun i => (depsOf md ops i).all fun j => decide (j < i)
def upd (D : Nat → Bool) (i : Nat) : Nat → Bool := fun j => if j = i then true else D j
theorem upd_true {D : Nat → Bool} {i j : Nat} (h : D j = true) : upd D i j = true := by unfold upd; split <;> first | rfl | exact h
theorem upd_ne {D : Nat → Bool} {i j : Nat} (h : j ≠ i) : upd D i j = D j := if_neg h
theorem upd_same {D : Nat → Bool} {i : Nat} : upd D i i = true := if_pos rfl
def falses (L : Array Bool) : Nat := L.toList.count false

theorem falses_zero {L : Array Bool} (h : falses L = 0) (j : Nat) : L.getD j true = true := by
  have hm : false ∉ L.toList := fun hm => absurd (List.count_pos_iff.2 hm) (by unfold falses at h; omega)
  rw [Array.getD_eq_getD_getElem?]
  cases hj : L[j]? with
  | none => rfl
  | some b =>
    cases b with
    | true => rfl
    | false => exact absurd (Array.mem_toList_iff.2 (Array.mem_of_getElem? hj)) hm
theorem falses_set {L : Array Bool} {i : Nat} (h : L.getD i true = false) : falses (L.setIfInBounds i true) + 1 = falses L := by
  have hi : i < L.size := by
    rcases Nat.lt_or_ge i L.size with h' | h'
    · exact h'
    · rw [Array.getD_eq_getD_getElem?, Array.getElem?_eq_none h'] at h; cases h
  have hv : L.toList[i]'(by simpa using hi) = false := by
    rw [Array.getD_eq_getD_getElem?, Array.getElem?_eq_getElem hi] at h
    simpa using h
  unfold falses
  rw [Array.toList_setIfInBounds, List.count_set (by simpa using hi), hv]
  have : 0 < L.toList.count false := List.count_pos_iff.2 (by rw [← hv]; exact List.getElem_mem _)
  rw [if_pos (by rfl), if_neg (by decide)]
  omega
theorem getD_upd {L : Array Bool} {i : Nat} (h : L.getD i true = false) : (fun j => (L.setIfInBounds i true).getD j true) = upd (fun j => L.getD j true) i := by
  funext j
  have hi : i < L.size := by
    rcases Nat.lt_or_ge i L.size with h' | h'
    · exact h'
    · rw [Array.getD_eq_getD_getElem?, Array.getElem?_eq_none h'] at h; cases h
  unfold upd
  by_cases hj : j = i
  · subst hj; simp [Array.getD_eq_getD_getElem?, hi]
  · rw [if_neg hj, getD_set_ne true (Ne.symm hj)]
theorem deps_done {L : Array Bool} {i : Nat} (h : i ∈ Region.ready md ops L) : L.getD i true = false ∧ i < ops.size ∧ ∀ j ∈ depsOf md ops i, L.getD j true = true := by
  obtain ⟨h1, o, ho, h2⟩ := mem_ready.1 h
  refine ⟨h1, (Array.getElem?_eq_some_iff.1 ho).1, fun j hj => ?_⟩
  unfold depsOf at hj
  rw [ho] at hj
  simp only [List.mem_map, List.mem_filter, Array.mem_toList_iff] at hj
  obtain ⟨e, ⟨he, hb⟩, rfl⟩ := hj
  have h3 := h2 e he hb
  rw [Array.getD_eq_getD_getElem?] at h3 ⊢
  cases hx : L[e.on]? with
  | none => rfl
  | some b => rw [hx] at h3; exact h3
theorem none_ready {L : Array Bool} (hs : L.size = ops.size) (hb : backward md ops = true) (h : Region.ready md ops L = []) : ∀ j, L.getD j true = true := by
  intro j
  induction j using Nat.strongRecOn with
  | _ j ih =>
    cases hj : L.getD j true with
    | true => rfl
    | false =>
      exfalso
      have hi : j < L.size := by
        rcases Nat.lt_or_ge j L.size with h' | h'
        · exact h'
        · rw [Array.getD_eq_getD_getElem?, Array.getElem?_eq_none h'] at hj; cases hj
      have ho : ops[j]? = some (ops[j]'(by omega)) := Array.getElem?_eq_getElem (by omega)
      have hbj := List.all_eq_true.1 hb j (List.mem_range.2 (by omega))
      have : j ∈ Region.ready md ops L := mem_ready.2 ⟨hj, _, ho, fun e he hbd => by
        have hd : e.on ∈ depsOf md ops j := by
          unfold depsOf
          rw [ho]
          exact List.mem_map.2 ⟨e, List.mem_filter.2 ⟨Array.mem_toList_iff.2 he, hbd⟩, rfl⟩
        have hlt : e.on < j := of_decide_eq_true (List.all_eq_true.1 hbj _ hd)
        have h3 := ih e.on hlt
        rw [Array.getD_eq_getD_getElem?] at h3 ⊢
        rw [Array.getElem?_eq_getElem (show e.on < L.size by omega)] at h3 ⊢
        exact h3⟩
      rw [h] at this
      cases this

/-- **The region, by its condition**: it holds at the start, each operation keeps it, and with all come up it gives the end. -/
theorem wpAnyH_inv (hb : backward md ops = true) (I : (Nat → Bool) → Act → World → Prop)
    (hdone : ∀ D a w, (∀ j, D j = true) → I D a w → Q .normal a w)
    (hstep : ∀ D a w i, i < ops.size → D i = false → (∀ j ∈ depsOf md ops i, D j = true) → I D a w → wpOp P ops Q i (fun a' w' => S w' ∧ I (upd D i) a' w') a w) :
    ∀ (fuel : Nat) (L : Array Bool) (a : Act) (w : World), L.size = ops.size → falses L ≤ fuel → I (fun j => L.getD j true) a w → wpAnyH P md ops Q S fuel L a w := by
  intro fuel
  induction fuel with
  | zero =>
    intro L a w hs hf hI
    have hall := falses_zero (L := L) (by omega)
    refine ⟨?_, hdone _ a w hall hI⟩
    apply List.eq_nil_iff_forall_not_mem.2
    intro i hi
    have := (deps_done hi).1
    rw [hall i] at this
    cases this
  | succ fuel ih =>
    intro L a w hs hf hI
    refine ⟨fun h => hdone _ a w (none_ready hs hb h) hI, fun i hi => ?_⟩
    obtain ⟨h1, h2, h3⟩ := deps_done hi
    refine wpOp_mono (fun a' w' h => ⟨h.1, ih _ a' w' (by simpa using hs) (by have := falses_set h1; omega) ?_⟩) (hstep _ a w i h2 h1 h3 hI)
    have h4 := h.2
    rw [← getD_upd h1] at h4
    exact h4
end

/-- An operation that yields a value. -/
theorem wpOp_value {P : Program} {ops : Array Oper} {Q : Exit → Act → World → Prop} {i : Nat} {o : Oper} {K : Act → World → Prop} {a : Act} {w w1 : World} {v : Value} (ho : ops[i]? = some o) (hg : o.guard = none) (hx : (execOp a.eval o).run P w = .ok (.value v) w1) (h : K (a.put o.dst v) w1) : wpOp P ops Q i K a w := by
  refine wpOp_step ho (fun K' hK => ?_)
  rw [if_pos (by simp [Region.wanted, hg])]
  unfold Oper.wp
  rw [hx]
  exact hK _ _ h
/-- An operation that calls a function. -/
theorem wpOp_enter {P : Program} {ops : Array Oper} {Q : Exit → Act → World → Prop} {i : Nat} {o : Oper} {K : Act → World → Prop} {a : Act} {w w1 : World} {f : FuncId} {args : Array Value} {R : Ending → World → Prop} (ho : ops[i]? = some o) (hg : o.guard = none) (hx : (execOp a.eval o).run P w = .ok (.enter f args) w1) (hc : Calls P f args w1 R) (h : ∀ e W, R e W → ∃ v, e = .returned v ∧ K (a.put o.dst v) W) : wpOp P ops Q i K a w := by
  refine wpOp_step ho (fun K' hK => ?_)
  rw [if_pos (by simp [Region.wanted, hg])]
  unfold Oper.wp
  rw [hx]
  refine Calls.mono hc fun e W hR => ?_
  obtain ⟨v, rfl, hv⟩ := h e W hR
  exact hK _ _ hv
theorem put_ne {a : Act} {d t : Nat} {v : Value} (h : t ≠ d) : (a.put (some d) v).tmps.getD t undef = a.tmps.getD t undef := by
  show (a.tmps.setIfInBounds d v).getD t undef = _
  rw [Array.getD_eq_getD_getElem?, Array.getD_eq_getD_getElem?, Array.getElem?_setIfInBounds_ne (Ne.symm h)]
theorem put_same {a : Act} {d : Nat} {v : Value} (h : d < a.tmps.size) : (a.put (some d) v).tmps.getD d undef = v := by
  show (a.tmps.setIfInBounds d v).getD d undef = _
  rw [Array.getD_eq_getD_getElem?, Array.getElem?_setIfInBounds_self_of_lt h]
  rfl
theorem put_size {a : Act} {d : Nat} {v : Value} : (a.put (some d) v).tmps.size = a.tmps.size := by show (a.tmps.setIfInBounds d v).size = _; simp
theorem put_defers {a : Act} {d : Nat} {v : Value} : (a.put (some d) v).defers = a.defers := rfl
/-- A state that differs from another in one slot. -/
theorem act_ext {a b : Act} (hd : a.defers = b.defers) (hs : a.tmps.size = b.tmps.size) (h : ∀ t, a.tmps.getD t undef = b.tmps.getD t undef) : a = b := by
  obtain ⟨x, d⟩ := a
  obtain ⟨y, e⟩ := b
  simp only at hd hs h
  subst hd
  congr 1
  apply Array.ext hs
  intro i h1 h2
  have := h i
  rw [Array.getD_eq_getD_getElem?, Array.getD_eq_getD_getElem?, Array.getElem?_eq_getElem h1, Array.getElem?_eq_getElem h2] at this
  exact this
end Go.Proofs.YtaecljahbmcneaaDoor
