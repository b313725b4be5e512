/- The compression function of package sha. -/
import Derived.Test.YtpgakdioaebikaaDoorShaA
import Derived.Deep.RegionHeld3
import Derived.Deep.RegionLaw
import Derived.Deep.QuietTactic
import Derived.BigQuiet
namespace Go.Proofs.YtpgakdioaebikaaDoor
open Go.RowKit

def u32s (l : List Nat) : List Value := l.map fun n : Nat => Value.int .u32 (n : Int)
theorem u32s_length (l : List Nat) : (u32s l).length = l.length := by simp [u32s]
theorem u32s_at {l : List Nat} {j : Nat} (h : j < l.length) : (u32s l)[j]? = some (.int .u32 (l[j] : Nat)) := by simp [u32s, h]
theorem u32s_one (l : List Nat) : ∀ u ∈ u32s l, u.oneCell' = true := by
  intro u hu
  simp only [u32s, List.mem_map] at hu
  obtain ⟨x, _, rfl⟩ := hu
  rfl
theorem size116 : (Tryd.prog.info? 63).map (·.size) = some 8 := by kernel_rfl
theorem size159 : (Tryd.prog.info? 74).map (·.size) = some 64 := by kernel_rfl
/-- The two tables of package sha lie in their blocks. -/
def Laid (w : World) : Prop := (∃ t f, w.heap[0]? = some (.cells (u32s iv.list).toArray t f)) ∧ (∃ t f, w.heap[1]? = some (.cells (u32s ks).toArray t f))
theorem Laid.below {w w1 : World} (h : Laid w) (hb : Below w.heap.size w w1) : Laid w1 := by
  obtain ⟨⟨t, f, h0⟩, ⟨t1, f1, h1⟩⟩ := h
  exact ⟨⟨t, f, (hb.block 0 (Array.getElem?_eq_some_iff.1 h0).1).trans h0⟩, ⟨t1, f1, (hb.block 1 (Array.getElem?_eq_some_iff.1 h1).1).trans h1⟩⟩
def wrds (b : List UInt8) (i : Nat) : List Nat := (rsch b i).reverse ++ List.replicate (64 - i) 0

theorem cells_of2 {W : World} {g : Nat} {a b : Nat} (h0 : W.cell? ⟨g, 0, none⟩ = some (.int .i64 (a : Int))) (h1 : W.cell? ⟨g, 1, none⟩ = some (.int .i64 (b : Int))) : Cells W (some ⟨g, 0, none⟩) (iv64 [a, b]) :=
  fun _ => ⟨g, 0, rfl, fun j u hu => by
    match j, hu with
    | 0, hu => simp [iv64] at hu; subst hu; exact h0
    | 1, hu => simp [iv64] at hu; subst hu; exact h1⟩
theorem cells_of3 {W : World} {g : Nat} {a b c : Nat} (h0 : W.cell? ⟨g, 0, none⟩ = some (.int .i64 (a : Int))) (h1 : W.cell? ⟨g, 1, none⟩ = some (.int .i64 (b : Int))) (h2 : W.cell? ⟨g, 2, none⟩ = some (.int .i64 (c : Int))) : Cells W (some ⟨g, 0, none⟩) (iv64 [a, b, c]) :=
  fun _ => ⟨g, 0, rfl, fun j u hu => by
    match j, hu with
    | 0, hu => simp [iv64] at hu; subst hu; exact h0
    | 1, hu => simp [iv64] at hu; subst hu; exact h1
    | 2, hu => simp [iv64] at hu; subst hu; exact h2⟩
theorem rots2 (x a b : Nat) : rots x [a, b] = rr x a ^^^ rr x b := by simp [rots]
theorem rots3 (x a b c : Nat) : rots x [a, b, c] = (rr x a ^^^ rr x b) ^^^ rr x c := by simp [rots]
theorem xor_lt {a b : Nat} (ha : a < 4294967296) (hb : b < 4294967296) : a ^^^ b < 4294967296 := Nat.xor_lt_two_pow (n := 32) ha hb
theorem sig_eq (x a b d : Nat) (hx : x < 4294967296) (hd : (x : Int) / d = ((x / d : Nat) : Int)) : bits BinOp.xor IntKind.u32 ((rots x [a, b] : Nat) : Int) ((x : Int) / d) = (((rr x a ^^^ rr x b) ^^^ (x / d) : Nat) : Int) := by
  rw [hd, rots2, u32_xor_nat _ _ (xor_lt (rr_lt x a hx) (rr_lt x b hx)) (Nat.lt_of_le_of_lt (Nat.div_le_self _ _) hx)]
theorem nx_eq (x16 x15 x7 x2 : Nat) (h15 : x15 < 4294967296) (h2 : x2 < 4294967296) :
    (((x16 + s0 x15 + x7 + s1 x2) % 4294967296 : Nat) : Int) = ((((x16 : Int) + bits BinOp.xor IntKind.u32 ((rots x15 [7, 18] : Nat) : Int) ((x15 : Int) / 8)) % 4294967296 + (x7 : Int)) % 4294967296 + bits BinOp.xor IntKind.u32 ((rots x2 [17, 19] : Nat) : Int) ((x2 : Int) / 1024)) % 4294967296 := by
  have e1 : bits BinOp.xor IntKind.u32 ((rots x15 [7, 18] : Nat) : Int) ((x15 : Int) / 8) = ((s0 x15 : Nat) : Int) := sig_eq x15 7 18 8 h15 (by omega)
  have e2 : bits BinOp.xor IntKind.u32 ((rots x2 [17, 19] : Nat) : Int) ((x2 : Int) / 1024) = ((s1 x2 : Nat) : Int) := sig_eq x2 17 19 1024 h2 (by omega)
  rw [e1, e2]
  omega
theorem and_lt {a b : Nat} (hb : b < 4294967296) : a &&& b < 4294967296 := Nat.and_lt_two_pow (n := 32) _ hb
theorem t1_eq (hh e f g kj wj : Nat) (he : e < 4294967296) (hf : f < 4294967296) (hg : g < 4294967296) :
    IntKind.u32.wrap (IntKind.u32.wrap (IntKind.u32.wrap (IntKind.u32.wrap ((hh : Int) + ((rots e [6, 11, 25] : Nat) : Int)) + bits BinOp.xor IntKind.u32 (bits BinOp.and IntKind.u32 (e : Int) (f : Int)) (bits BinOp.and IntKind.u32 (bits BinOp.xor IntKind.u32 IntKind.u32.max (e : Int)) (g : Int))) + (kj : Int)) + (wj : Int)) =
      (((hh + S1 e + ch e f g + kj + wj) % 4294967296 : Nat) : Int) := by
  have em : IntKind.u32.max = ((4294967295 : Nat) : Int) := by decide +kernel
  have e1 : bits BinOp.xor IntKind.u32 (bits BinOp.and IntKind.u32 (e : Int) (f : Int)) (bits BinOp.and IntKind.u32 (bits BinOp.xor IntKind.u32 IntKind.u32.max (e : Int)) (g : Int)) = ((ch e f g : Nat) : Int) := by
    rw [em, u32_and_nat e f he hf, u32_xor_nat _ e (by decide) he, u32_and_nat _ g (xor_lt (by decide) he) hg, u32_xor_nat _ _ (and_lt hf) (and_lt hg)]
    rfl
  rw [e1, rots3]
  simp only [IntKind.wrap_u32]
  have e2 : (rr e 6 ^^^ rr e 11) ^^^ rr e 25 = S1 e := rfl
  rw [e2]
  omega
theorem t2_eq (a b c : Nat) (ha : a < 4294967296) (hb : b < 4294967296) (hc : c < 4294967296) :
    IntKind.u32.wrap (((rots a [2, 13, 22] : Nat) : Int) + bits BinOp.xor IntKind.u32 (bits BinOp.xor IntKind.u32 (bits BinOp.and IntKind.u32 (a : Int) (b : Int)) (bits BinOp.and IntKind.u32 (a : Int) (c : Int))) (bits BinOp.and IntKind.u32 (b : Int) (c : Int))) =
      (((S0 a + maj a b c) % 4294967296 : Nat) : Int) := by
  have e1 : bits BinOp.xor IntKind.u32 (bits BinOp.xor IntKind.u32 (bits BinOp.and IntKind.u32 (a : Int) (b : Int)) (bits BinOp.and IntKind.u32 (a : Int) (c : Int))) (bits BinOp.and IntKind.u32 (b : Int) (c : Int)) = ((maj a b c : Nat) : Int) := by
    rw [u32_and_nat a b ha hb, u32_and_nat a c ha hc, u32_and_nat b c hb hc, u32_xor_nat _ _ (and_lt hb) (and_lt hc), u32_xor_nat _ _ (xor_lt (and_lt hb) (and_lt hc)) (and_lt hc)]
    rfl
  rw [e1, rots3]
  simp only [IntKind.wrap_u32]
  have e2 : (rr a 2 ^^^ rr a 13) ^^^ rr a 22 = S0 a := rfl
  rw [e2]
  omega
def addk (u v : S8) (m : Nat) : List Nat := (u.add v).list.take m ++ u.list.drop m
theorem addk_at (u v : S8) (m : Nat) (h : m < 8) : (u32s (addk u v m)).toArray[m]? = some (.int .u32 ((u.list.getD m 0 : Nat) : Int)) := by
  match m, h with
  | 0, _ | 1, _ | 2, _ | 3, _ | 4, _ | 5, _ | 6, _ | 7, _ => rfl
theorem list_at (v : S8) (m : Nat) (h : m < 8) : (u32s v.list).toArray[m]? = some (.int .u32 ((v.list.getD m 0 : Nat) : Int)) := by
  match m, h with
  | 0, _ | 1, _ | 2, _ | 3, _ | 4, _ | 5, _ | 6, _ | 7, _ => rfl
theorem addk_set (u v : S8) (m : Nat) (h : m < 8) (y : Int) (hy : (((u.list.getD m 0 + v.list.getD m 0) % 4294967296 : Nat) : Int) = y) : (u32s (addk u v m)).toArray.setIfInBounds m (.int .u32 y) = (u32s (addk u v (m + 1))).toArray := by
  subst hy
  match m, h with
  | 0, _ | 1, _ | 2, _ | 3, _ | 4, _ | 5, _ | 6, _ | 7, _ => rfl
theorem wrds_set (b : List UInt8) (k : Nat) (h : k < 64) (x : Nat) (y : Int) (hx : rsch b (k + 1) = x :: rsch b k) (hy : (x : Int) = y) :
    (u32s (wrds b k)).toArray.setIfInBounds k (.int .u32 y) = (u32s (wrds b (k + 1))).toArray := by
  subst hy
  have e1 : 64 - k = (64 - (k + 1)) + 1 := by omega
  have e2 : (u32s (rsch b k).reverse).length = k := by rw [u32s_length, List.length_reverse, rsch_length]
  unfold wrds
  rw [hx, e1, List.replicate_succ, List.reverse_cons, List.append_assoc]
  simp only [u32s, List.map_append, List.map_cons, List.setIfInBounds_toArray]
  rw [List.set_append_right _ _ (by have := e2; unfold u32s at this; omega)]
  unfold u32s at e2
  rw [e2, Nat.sub_self]
  rfl
theorem wrds_new (b : List UInt8) (k : Nat) (h : k < 64) : (u32s (wrds b k)).toArray[k]? = some (.int .u32 0) := by
  have e1 : 64 - k = (64 - (k + 1)) + 1 := by omega
  have e2 : (u32s (rsch b k).reverse).length = k := by rw [u32s_length, List.length_reverse, rsch_length]
  unfold wrds
  rw [e1, List.replicate_succ]
  unfold u32s at e2 ⊢
  rw [List.map_append, List.getElem?_toArray, List.getElem?_append_right (by omega), e2, Nat.sub_self]
  rfl
theorem wrds_old (b : List UInt8) (k j : Nat) (h : j < k) : (u32s (wrds b k)).toArray[k - 1 - j]? = some (.int .u32 ((rsch b k).getD j 0 : Nat)) := by
  have hl := rsch_length b k
  unfold wrds
  have e2 : (u32s (rsch b k).reverse).length = k := by rw [u32s_length, List.length_reverse, rsch_length]
  unfold u32s at e2 ⊢
  rw [List.map_append, List.getElem?_toArray, List.getElem?_append_left (by omega), List.getElem?_map, List.getElem?_reverse (by omega), hl]
  rw [show k - 1 - (k - 1 - j) = j from by omega, List.getD_eq_getElem?_getD, List.getElem?_eq_getElem (by omega)]
  rfl
theorem rd_part {w : World} {bb off n m k : Nat} {b : List UInt8} (hc : ∀ j (hj : j < b.length), w.cell? ⟨bb, off + j, none⟩ = some (B b[j])) (hn : b.length = n) (hm : m + k ≤ n) : Rd w (some ⟨bb, off + m, none⟩) k ((b.drop m).take k) := by
  refine ⟨by simp; omega, fun _ => ⟨bb, off + m, rfl, fun j u hu => ?_⟩⟩
  have hj := (List.getElem?_eq_some_iff.1 hu).1
  simp only [bv_length, List.length_take, List.length_drop] at hj
  have h1 := hc (m + j) (by omega)
  rw [Nat.add_assoc, h1, ← hu]
  simp [bv, show j < k from by omega, show m + j < b.length from by omega]

set_option maxHeartbeats 4000000 in
set_option maxRecDepth 100000 in
theorem compress_any (v : S8) (A : Option Addr) (c : Nat) (b : List UInt8) (w : World) (hr : Rd w A 64 b) (hc : 64 ≤ c) (hL : Laid w) (hv : v.ok) :
    Calls Tryd.prog 44 #[.agg (u32s v.list).toArray, .slice A 64 c] w fun e w' => e = .returned (.agg (u32s (compress v b).list).toArray) ∧ Below w.heap.size w w' := by
  have hlen := hr.len
  obtain ⟨bb, off, rfl, hcell⟩ := hr.at_ (by omega)
  go_enter Tryd.func44, Tryd.ntmps44
  go_wp2
  go_loopw [6, 7, 8, 15] (fun _ _ _ i wr => ∃ k : Nat, k ≤ 64 ∧ i = .int .i64 k ∧ wr.heap[w.heap.size]? = some (.cells (u32s v.list).toArray 63 (0, 0)) ∧ (∃ C4 : List Value, C4.length = 8 ∧ wr.heap[w.heap.size + 1]? = some (.cells C4.toArray 63 (0, 0))) ∧
      wr.heap[w.heap.size + 1 + 1]? = some (.cells (u32s (wrds b k)).toArray 74 (0, 0)) ∧ Below w.heap.size w wr) (fun _ _ _ i _ => 64 - (intOf i).toNat)
  case atStart =>
    have b1 : Below w.heap.size w (w.alloc (.cells (u32s v.list).toArray 63)) := (Below.refl _ w).alloc (Nat.le_refl _) _
    refine ⟨0, by omega, rfl, ?_, ⟨u32s (List.replicate 8 0), by simp [u32s], ?_⟩, ?_, (b1.alloc (by simp) _).alloc (by simp; omega) _⟩
    · rw [heap_alloc_old _ _ (by simp; omega), heap_alloc_old _ _ (by simp)]; exact heap_alloc_new w _
    · rw [heap_alloc_old _ _ (by simp)]; exact heap_at _ _ _ (by simp)
    · exact heap_at _ _ _ (by simp)
  case round =>
    obtain ⟨k, hk, rfl, h2, ⟨C4, hC4, h4⟩, h5, hB⟩ := hrel
    by_cases h64 : k < 64
    · by_cases h16 : k < 16
      · have hcl : wr.cell? ⟨w.heap.size + 1 + 1, k, none⟩ = some (.int .u32 0) := by rw [cell_of_row _ _ _ _ _ _ h5]; exact wrds_new b k h64
        have hfr : wr.frozen? ⟨w.heap.size + 1 + 1, k, none⟩ = false := frozen_of_row _ _ _ _ _ h5
        have hrd : Rd wr (some ⟨bb, off + 4 * k, none⟩) 4 ((b.drop (4 * k)).take 4) := rd_part (fun j hj => cell_kept hB (hcell j hj)) hlen (by omega)
        have H2 := Lib.hid h2
        have H4 := Lib.hid h4
        have H5 := Lib.hid h5
        have HR := Lib.hid hr
        have hcc : ¬ (c = 4 * k) := by omega
        have hcc2 : ((4 : Int) * k + 4) ≤ c := by omega
        clear h2 h4 h5 hr hcell
        go_wp2_with (go_at_call 52; go_must (refine (load_any _ _ _ _ hrd).mono ?_); rintro e w1 ⟨rfl, rfl⟩)
        have hx : rsch b (k + 1) = be ((b.drop (4 * k)).take 4) :: rsch b k := by rw [rsch, if_pos h16]; rfl
        go_roundw
        case rel =>
          refine ⟨k + 1, by omega, by simp, ?_, ⟨C4, hC4, ?_⟩, ?_, hB.setCell (by show _ ≤ w.heap.size + 1 + 1; omega) _⟩
          · rw [heap_setCell_other _ _ _ _ (by show _ ≠ w.heap.size + 1 + 1; omega)]; exact H2.out
          · rw [heap_setCell_other _ _ _ _ (by show _ ≠ w.heap.size + 1 + 1; omega)]; exact H4.out
          · rw [heap_setCell_same _ _ _ _ _ _ H5.out, wrds_set b k h64 _ _ hx rfl]
        case measure => simp [intOf]; omega
      · have c15 : wr.cell? ⟨w.heap.size + 1 + 1, k - 15, none⟩ = some (.int .u32 ((rsch b k).getD 14 0 : Nat)) := by rw [cell_of_row _ _ _ _ _ _ h5, ← wrds_old b k 14 (by omega)]; congr 1
        have c2 : wr.cell? ⟨w.heap.size + 1 + 1, k - 2, none⟩ = some (.int .u32 ((rsch b k).getD 1 0 : Nat)) := by rw [cell_of_row _ _ _ _ _ _ h5, ← wrds_old b k 1 (by omega)]; congr 1
        have c16 : wr.cell? ⟨w.heap.size + 1 + 1, k - 16, none⟩ = some (.int .u32 ((rsch b k).getD 15 0 : Nat)) := by rw [cell_of_row _ _ _ _ _ _ h5, ← wrds_old b k 15 (by omega)]; congr 1
        have c7 : wr.cell? ⟨w.heap.size + 1 + 1, k - 7, none⟩ = some (.int .u32 ((rsch b k).getD 6 0 : Nat)) := by rw [cell_of_row _ _ _ _ _ _ h5, ← wrds_old b k 6 (by omega)]; congr 1
        have b15 := rsch_get_lt b k 14
        have b2 := rsch_get_lt b k 1
        have b16 := rsch_get_lt b k 15
        have b7 := rsch_get_lt b k 6
        obtain ⟨x15, hx15⟩ : ∃ x, x = (rsch b k).getD 14 0 := ⟨_, rfl⟩
        obtain ⟨x2, hx2⟩ : ∃ x, x = (rsch b k).getD 1 0 := ⟨_, rfl⟩
        obtain ⟨x16, hx16⟩ : ∃ x, x = (rsch b k).getD 15 0 := ⟨_, rfl⟩
        obtain ⟨x7, hx7⟩ : ∃ x, x = (rsch b k).getD 6 0 := ⟨_, rfl⟩
        rw [← hx15] at c15 b15
        rw [← hx2] at c2 b2
        rw [← hx16] at c16 b16
        rw [← hx7] at c7 b7
        have hcl : wr.cell? ⟨w.heap.size + 1 + 1, k, none⟩ = some (.int .u32 0) := by rw [cell_of_row _ _ _ _ _ _ h5]; exact wrds_new b k h64
        have hfr : wr.frozen? ⟨w.heap.size + 1 + 1, k, none⟩ = false := frozen_of_row _ _ _ _ _ h5
        have H2 := Lib.hid h2
        have H4 := Lib.hid h4
        have H5 := Lib.hid h5
        have HR := Lib.hid hr
        have X : Hid (x15 = (rsch b k).getD 14 0 ∧ x2 = (rsch b k).getD 1 0 ∧ x16 = (rsch b k).getD 15 0 ∧ x7 = (rsch b k).getD 6 0) := ⟨hx15, hx2, hx16, hx7⟩
        clear h2 h4 h5 hr hcell hx15 hx2 hx16 hx7
        go_wp2
        go_quiet (fail)
        go_wp2
        have d16 : (wr.drewN nq).cell? ⟨w.heap.size + 1 + 1, k - 16, none⟩ = some (.int .u32 (x16 : Nat)) := c16
        have d7 : (wr.drewN nq).cell? ⟨w.heap.size + 1 + 1, k - 7, none⟩ = some (.int .u32 (x7 : Nat)) := c7
        have dk : (wr.drewN nq).cell? ⟨w.heap.size + 1 + 1, k, none⟩ = some (.int .u32 0) := hcl
        have df : (wr.drewN nq).frozen? ⟨w.heap.size + 1 + 1, k, none⟩ = false := hfr
        have hB2 : Below w.heap.size w (wr.drewN nq) := ⟨hB.os, hB.tape, hB.output, hB.size, hB.block⟩
        have E2 : Hid ((wr.drewN nq).heap[w.heap.size]? = some (.cells (u32s v.list).toArray 63 (0, 0))) := H2
        have E4 : Hid ((wr.drewN nq).heap[w.heap.size + 1]? = some (.cells C4.toArray 63 (0, 0))) := H4
        have E5 : Hid ((wr.drewN nq).heap[w.heap.size + 1 + 1]? = some (.cells (u32s (wrds b k)).toArray 74 (0, 0))) := H5
        clear H2 H4 H5 hB c15 c2 c16 c7 hcl hfr
        generalize wr.drewN nq = wq at *
        have k0 : (7 : Int) ≤ (k : Int) := by omega
        have kz : w.heap.size + 1 + 1 < wq.heap.size := (Array.getElem?_eq_some_iff.1 E5.out).1
        have n16 : ¬ (k - 16 = k) := by omega
        have n7 : ¬ (k - 7 = k) := by omega
        have n16' : ¬ (k = k - 16) := by omega
        have n7' : ¬ (k = k - 7) := by omega
        have kz1 : w.heap.size + 1 < wq.heap.size := by omega
        have kz2 : w.heap.size < wq.heap.size := by omega
        have k1 : ((k : Int) - 16) < 64 := by omega
        have k2 : ((k : Int) - 7) < 64 := by omega
        have k3 : 0 ≤ ((k : Int) - 16) := by omega
        have k4 : 0 ≤ ((k : Int) - 7) := by omega
        have k5 : ((k : Int) - 16).toNat = k - 16 := by omega
        have k6 : ((k : Int) - 7).toNat = k - 7 := by omega
        have k7 : IntKind.i64.wrap ((k : Int) - 16) = (k : Int) - 16 := IntWalk.i64_in _ (by omega)
        have k8 : IntKind.i64.wrap ((k : Int) - 7) = (k : Int) - 7 := IntWalk.i64_in _ (by omega)
        go_region_held3 (fun w' => w'.cell? ⟨w.heap.size + 1 + 1, k - 16, none⟩ = some (.int .u32 (x16 : Nat)) ∧ w'.cell? ⟨w.heap.size + 1 + 1, k - 7, none⟩ = some (.int .u32 (x7 : Nat)) ∧ w'.frozen? ⟨w.heap.size + 1 + 1, k, none⟩ = false ∧ w.heap.size + 1 + 1 < w'.heap.size) (first | (simp [*, World.cell?_alloc_some, World.frozen?_alloc_past]; done) | (simp [*, World.cell?_alloc_past, World.cell?_setCell_other, World.frozen?_alloc_past]; done))
          (first
            | (go_at_call_of 53 (Value.int IntKind.u32 (x15 : Int)); refine (rotr_any x15 _ _ [7, 18] _ b15 ?_ (by decide) (by decide)).mono ?_; exact cells_of2 (by go_simp) (by go_simp); rintro e w' ⟨rfl, rfl⟩)
            | (go_at_call_of 53 (Value.int IntKind.u32 (x2 : Int)); refine (rotr_any x2 _ _ [17, 19] _ b2 ?_ (by decide) (by decide)).mono ?_; exact cells_of2 (by go_simp) (by go_simp); rintro e w' ⟨rfl, rfl⟩))
        all_goals
          clear k5 k6 k7 k8
          have Y := nx_eq x16 x15 x7 x2 b15 b2
          have hx : rsch b (k + 1) = ((x16 + s0 x15 + x7 + s1 x2) % 4294967296) :: rsch b k := by
            obtain ⟨q1, q2, q3, q4⟩ := X.out
            rw [rsch, if_neg h16, nx, q1, q2, q3, q4]
          have YH := Lib.hid Y
          have XH := Lib.hid hx
          clear Y hx
          go_wp2
          go_roundw
          case rel =>
            refine ⟨k + 1, by omega, by simp, ?_, ⟨C4, hC4, ?_⟩, ?_, ?_⟩
            · rw [heap_drew, heap_alloc_old _ _ (by simp; omega), heap_alloc_old _ _ (by simp; omega), heap_setCell_other _ _ _ _ (by show _ ≠ w.heap.size + 1 + 1; omega)]; exact E2.out
            · rw [heap_drew, heap_alloc_old _ _ (by simp; omega), heap_alloc_old _ _ (by simp; omega), heap_setCell_other _ _ _ _ (by show _ ≠ w.heap.size + 1 + 1; omega)]; exact E4.out
            · rw [heap_drew, heap_alloc_old _ _ (by simp; omega), heap_alloc_old _ _ (by simp; omega), heap_setCell_same _ _ _ _ _ _ E5.out, wrds_set b k h64 _ _ XH.out YH.out]
            · exact (((hB2.setCell (by show _ ≤ w.heap.size + 1 + 1; omega) _).alloc (by simp; omega) _).alloc (by simp; omega) _).drew
          case measure => simp [intOf]; omega
    · obtain rfl : k = 64 := by omega
      have hw64 : wrds b 64 = (rsch b 64).reverse := by simp [wrds]
      obtain ⟨t0, f0, hG0⟩ := (hL.below hB).1
      obtain ⟨t1, f1, hG1⟩ := (hL.below hB).2
      have H2 := Lib.hid h2
      have H4 := Lib.hid h4
      have H5 := Lib.hid h5
      have HR := Lib.hid hr
      have HC := Lib.hid hcell
      clear h2 h4 h5 hr hcell
      have HG := Lib.hid hG1
      clear hG1
      have hn8 : (u32s v.list).length = 8 := rfl
      go_wp2_with (first
        | (refine wpList_loadB rfl 63 (.tmp 2) rfl Tryd.underlying63 size116 H2.out rfl rfl rfl ?_)
        | (refine wpList_loadB rfl 74 (.global 1) rfl Tryd.underlying74 size159 HG9.out rfl rfl rfl ?_)
        | (refine wpList_storeB (old := u32s (List.replicate 8 0)) (t := 63) rfl 63 (.tmp 9) (.tmp 64) rfl size116 (heap_alloc_new wr _) (u32s_one v.list) rfl rfl rfl rfl ?_; intro w2 h9 hg9 hz9; have hB9 : Below wr.heap.size wr w2 := ((Below.refl _ wr).alloc (Nat.le_refl _) _).grown hg9 (by simp) (fun k e => by cases e; exact Nat.le_refl _); have HG9 := Lib.hid (block_below HG.out hB9)))
      have hB2 : Below w.heap.size w w2 := hB.trans (hB9.mono hB.size)
      have E2 := Lib.hid (block_below H2.out hB9)
      have E4 := Lib.hid (block_below H4.out hB9)
      have E5 := Lib.hid (block_below H5.out hB9)
      have hzz : wr.heap.size < w2.heap.size := (Array.getElem?_eq_some_iff.1 h9).1
      have hzw : w.heap.size + 1 + 1 < wr.heap.size := (Array.getElem?_eq_some_iff.1 H5.out).1
      clear H2 H4 H5 HG HG9 HR HC hg9 hB9 hG0 hL
      obtain ⟨wo, rfl⟩ : ∃ wo : World, wo = wr := ⟨_, rfl⟩
      go_loopw [10, 11, 12, 13, 66] (fun _ _ _ _ i wx => ∃ j : Nat, j ≤ 64 ∧ i = .int .i64 j ∧ wx.heap[wo.heap.size]? = some (.cells (u32s (upto v b j).list).toArray 63 (0, 0)) ∧ wx.heap[w.heap.size]? = some (.cells (u32s v.list).toArray 63 (0, 0)) ∧ wx.heap[w.heap.size + 1]? = some (.cells C4.toArray 63 (0, 0)) ∧
          wx.heap[w.heap.size + 1 + 1]? = some (.cells (u32s (wrds b 64)).toArray 74 (0, 0)) ∧ Below w.heap.size w wx) (fun _ _ _ _ i _ => 64 - (intOf i).toNat)
      case atStart => exact ⟨0, by omega, rfl, h9, E2.out, E4.out, E5.out, hB2⟩
      case round =>
        clear h9 E2 E4 E5 hB2
        obtain ⟨j, hj, rfl, h9, h2, h4, h5, hB2⟩ := hrel
        by_cases hlt : j < 64
        · have hok := rounds_ok hv ((ks.zip (rsch b 64).reverse).take j)
          have hup := upto_succ v b j hlt
          obtain ⟨u, hu⟩ : ∃ u, u = upto v b j := ⟨_, rfl⟩
          have hok : u.ok := by rw [hu]; exact hok
          rw [← hu] at h9 hup
          obtain ⟨a, bb2, cc, d, e, f, g, hh⟩ := u
          obtain ⟨oa, ob, oc, od, oe, of, og, oh⟩ := hok
          simp only at oa ob oc od oe of og oh
          have q0 : wr.cell? ⟨wo.heap.size, 0, none⟩ = some (.int .u32 (a : Int)) := by rw [cell_of_row _ _ _ _ _ _ h9]; rfl
          have q1 : wr.cell? ⟨wo.heap.size, 1, none⟩ = some (.int .u32 (bb2 : Int)) := by rw [cell_of_row _ _ _ _ _ _ h9]; rfl
          have q2 : wr.cell? ⟨wo.heap.size, 2, none⟩ = some (.int .u32 (cc : Int)) := by rw [cell_of_row _ _ _ _ _ _ h9]; rfl
          have q3 : wr.cell? ⟨wo.heap.size, 3, none⟩ = some (.int .u32 (d : Int)) := by rw [cell_of_row _ _ _ _ _ _ h9]; rfl
          have q4 : wr.cell? ⟨wo.heap.size, 4, none⟩ = some (.int .u32 (e : Int)) := by rw [cell_of_row _ _ _ _ _ _ h9]; rfl
          have q5 : wr.cell? ⟨wo.heap.size, 5, none⟩ = some (.int .u32 (f : Int)) := by rw [cell_of_row _ _ _ _ _ _ h9]; rfl
          have q6 : wr.cell? ⟨wo.heap.size, 6, none⟩ = some (.int .u32 (g : Int)) := by rw [cell_of_row _ _ _ _ _ _ h9]; rfl
          have q7 : wr.cell? ⟨wo.heap.size, 7, none⟩ = some (.int .u32 (hh : Int)) := by rw [cell_of_row _ _ _ _ _ _ h9]; rfl
          have qw : wr.cell? ⟨w.heap.size + 1 + 1, j, none⟩ = some (.int .u32 (((rsch b 64).getD (63 - j) 0 : Nat) : Int)) := by
            rw [cell_of_row _ _ _ _ _ _ h5, ← wrds_old b 64 (63 - j) (by omega)]; congr 1; omega
          have bw := rsch_get_lt b 64 (63 - j)
          obtain ⟨wj, hwj⟩ : ∃ x, x = (rsch b 64).getD (63 - j) 0 := ⟨_, rfl⟩
          obtain ⟨kj, hkj⟩ : ∃ x, x = ks.getD j 0 := ⟨_, rfl⟩
          rw [← hwj] at qw bw hup
          rw [← hkj] at hup
          have hix := fun W : World => run_index_arr (P := Tryd.prog) W 74 61 64 (u32s ks) j (.int .u32 (kj : Int)) Tryd.underlying74 (fun _ => by kernel_rfl) (fun _ => by kernel_rfl) hlt (by rw [u32s_at (by rw [ks_length]; exact hlt), hkj]; simp [List.getD_eq_getElem?_getD, List.getElem?_eq_getElem (show j < ks.length by rw [ks_length]; exact hlt)])
          have bk : kj < 4294967296 := by
            rw [hkj, List.getD_eq_getElem?_getD, List.getElem?_eq_getElem (show j < ks.length by rw [ks_length]; exact hlt)]
            exact ks_lt _ (List.getElem_mem _)
          have H9 := Lib.hid h9
          have H2 := Lib.hid h2
          have H4 := Lib.hid h4
          have H5 := Lib.hid h5
          have HU := Lib.hid hup
          have zwx : wo.heap.size < wr.heap.size := (Array.getElem?_eq_some_iff.1 h9).1
          clear h9 h2 h4 h5 hup hu hwj hkj
          have t1 := t1_eq hh e f g kj wj oe of og
          have t2 := t2_eq a bb2 cc oa ob oc
          obtain ⟨T1, hT1⟩ : ∃ T, T = (hh + S1 e + ch e f g + kj + wj) % 4294967296 := ⟨_, rfl⟩
          obtain ⟨T2, hT2⟩ : ∃ T, T = (S0 a + maj a bb2 cc) % 4294967296 := ⟨_, rfl⟩
          rw [← hT1] at t1
          rw [← hT2] at t2
          have HT1 := Lib.hid hT1
          have HT2 := Lib.hid hT2
          clear hT1 hT2
          go_wp2
          go_region_held3 (fun w' => w'.cell? ⟨wo.heap.size, 0, none⟩ = some (.int .u32 (a : Int)) ∧ w'.cell? ⟨wo.heap.size, 1, none⟩ = some (.int .u32 (bb2 : Int)) ∧ w'.cell? ⟨wo.heap.size, 2, none⟩ = some (.int .u32 (cc : Int)) ∧ w'.cell? ⟨wo.heap.size, 3, none⟩ = some (.int .u32 (d : Int)) ∧ w'.cell? ⟨wo.heap.size, 4, none⟩ = some (.int .u32 (e : Int)) ∧ w'.cell? ⟨wo.heap.size, 5, none⟩ = some (.int .u32 (f : Int)) ∧ w'.cell? ⟨wo.heap.size, 6, none⟩ = some (.int .u32 (g : Int)) ∧ w'.cell? ⟨wo.heap.size, 7, none⟩ = some (.int .u32 (hh : Int)) ∧ w'.cell? ⟨w.heap.size + 1 + 1, j, none⟩ = some (.int .u32 (wj : Int)))
            (simp [*, World.cell?_alloc_some])
            (first
              | (go_at_call 53; refine (rotr_any e _ _ [6, 11, 25] _ oe ?_ (by decide) (by decide)).mono ?_; exact cells_of3 (by go_simp) (by go_simp) (by go_simp); rintro e w' ⟨rfl, rfl⟩))
          go_wp2
          go_region_held3 (fun w' => w'.cell? ⟨wo.heap.size, 0, none⟩ = some (.int .u32 (a : Int)) ∧ w'.cell? ⟨wo.heap.size, 1, none⟩ = some (.int .u32 (bb2 : Int)) ∧ w'.cell? ⟨wo.heap.size, 2, none⟩ = some (.int .u32 (cc : Int)))
            (simp [*, World.cell?_alloc_some])
            (first
              | (go_at_call 53; refine (rotr_any a _ _ [2, 13, 22] _ oa ?_ (by decide) (by decide)).mono ?_; exact cells_of3 (by go_simp) (by go_simp) (by go_simp); rintro e w' ⟨rfl, rfl⟩))
          have t3 : (((T1 : Int) + (T2 : Int)) % 4294967296) = (((T1 + T2) % 4294967296 : Nat) : Int) := by omega
          have t4 : (((d : Int) + (T1 : Int)) % 4294967296) = (((d + T1) % 4294967296 : Nat) : Int) := by omega
          have HT3 := Lib.hid t3
          have HT4 := Lib.hid t4
          clear t1 t2 t3 t4
          go_wp2_with (refine wpList_storeB rfl 63 (.tmp 9) (.tmp 137) rfl size116 (block_below H9.out ((((Below.refl _ wr).alloc (Nat.le_refl _) _).alloc (by simp) _).drew.drew)) ?c1 ?c2 ?c3 rfl rfl ?_; rotate_right; intro w3 h3 hg3 hz3)
          case c1 => intro x hx; simp only [List.mem_cons, List.mem_nil_iff, or_false] at hx; rcases hx with rfl | rfl | rfl | rfl | rfl | rfl | rfl | rfl <;> rfl
          case c2 => rfl
          case c3 => rfl
          have hB3 : Below wr.heap.size wr ((wr.alloc (.cells #[.int .i64 6, .int .i64 11, .int .i64 25] 3)).alloc (.cells #[.int .i64 2, .int .i64 13, .int .i64 22] 3)).drew.drew := (((Below.refl _ wr).alloc (Nat.le_refl _) _).alloc (by simp) _).drew.drew
          go_roundw
          case rel =>
            refine ⟨j + 1, by omega, by simp, ?_, block_kept (block_below H2.out hB3) hg3 (by simp; omega), block_kept (block_below H4.out hB3) hg3 (by simp; omega), block_kept (block_below H5.out hB3) hg3 (by simp; omega), (hB2.trans (hB3.mono hB2.size)).grown hg3 (by simp; omega) (fun k e => by cases e; omega)⟩
            rw [h3, HU.out]
            have p1 : (T1 + T2) % 4294967296 = ((hh + S1 e + ch e f g + kj + wj) + (S0 a + maj a bb2 cc)) % 4294967296 := by rw [HT1.out, HT2.out]; omega
            have p2 : (d + T1) % 4294967296 = (d + (hh + S1 e + ch e f g + kj + wj)) % 4294967296 := by rw [HT1.out]; omega
            rw [HT3.out, HT4.out, p1, p2]
            rfl
          case measure => simp [intOf]; omega
        · obtain rfl : j = 64 := by omega
          have H9 := Lib.hid h9
          have H2 := Lib.hid h2
          have H4 := Lib.hid h4
          clear h9 h2 h4 h5
          have hu := rounds_ok hv (ks.zip (rsch b 64).reverse)
          obtain ⟨u, hueq⟩ : ∃ u, u = upto v b 64 := ⟨_, rfl⟩
          have HUU := Lib.hid hueq
          have H9' : Hid (wr.heap[wo.heap.size]? = some (.cells (u32s u.list).toArray 63 (0, 0))) := by rw [hueq]; exact H9
          clear hueq H9
          obtain ⟨wm, rfl⟩ : ∃ wm : World, wm = wr := ⟨_, rfl⟩
          go_wp2
          go_loopw [14, 139] (fun _ i wx => ∃ m : Nat, m ≤ 8 ∧ i = .int .i64 m ∧ wx.heap[wo.heap.size]? = some (.cells (u32s (addk u v m)).toArray 63 (0, 0)) ∧ wx.heap[w.heap.size]? = some (.cells (u32s v.list).toArray 63 (0, 0)) ∧ wx.heap[w.heap.size + 1]? = some (.cells C4.toArray 63 (0, 0)) ∧
              Below w.heap.size w wx) (fun _ i _ => 8 - (intOf i).toNat)
          case atStart => exact ⟨0, by omega, rfl, H9'.out, H2.out, H4.out, hB2⟩
          case round =>
            obtain ⟨m, hm, rfl, h9, h2, h4, hB3⟩ := hrel
            clear hB2 H2 H4 H9'
            by_cases hlt : m < 8
            · have q9 : wr.cell? ⟨wo.heap.size, m, none⟩ = some (.int .u32 ((u.list.getD m 0 : Nat) : Int)) := by rw [cell_of_row _ _ _ _ _ _ h9]; exact addk_at u v m hlt
              have q2 : wr.cell? ⟨w.heap.size, m, none⟩ = some (.int .u32 ((v.list.getD m 0 : Nat) : Int)) := by rw [cell_of_row _ _ _ _ _ _ h2]; exact list_at v m hlt
              obtain ⟨ui, hui⟩ : ∃ x, x = u.list.getD m 0 := ⟨_, rfl⟩
              obtain ⟨vi, hvi⟩ : ∃ x, x = v.list.getD m 0 := ⟨_, rfl⟩
              rw [← hui] at q9
              rw [← hvi] at q2
              have qf : wr.frozen? ⟨wo.heap.size, m, none⟩ = false := frozen_of_row _ _ _ _ _ h9
              have H9 := Lib.hid h9
              have H2 := Lib.hid h2
              have H4 := Lib.hid h4
              have HUI := Lib.hid hui
              have HVI := Lib.hid hvi
              have hm8 : (m : Int) < 8 := by omega
              clear h9 h2 h4 hui hvi
              go_wp2
              go_region
              all_goals go_wp2
              go_roundw
              case rel =>
                refine ⟨m + 1, by omega, by simp, ?_, ?_, ?_, ?_⟩
                · rw [heap_drew, heap_setCell_same _ _ _ _ _ _ H9.out, addk_set u v m hlt _ (by rw [HUI.out, HVI.out]; rfl)]
                · rw [heap_drew, heap_setCell_other _ _ _ _ (by show _ ≠ wo.heap.size; omega)]; exact H2.out
                · rw [heap_drew, heap_setCell_other _ _ _ _ (by show _ ≠ wo.heap.size; omega)]; exact H4.out
                · exact (hB3.setCell (by show _ ≤ wo.heap.size; omega) _).drew
              case measure => simp [intOf]; omega
            · obtain rfl : m = 8 := by omega
              have H9 := Lib.hid h9
              have H4 := Lib.hid h4
              clear h9 h2 h4
              go_wp2_with (first
                | (refine wpList_loadB rfl 63 (.tmp 9) rfl Tryd.underlying63 size116 H9.out rfl rfl rfl ?_)
                | (refine wpList_storeB rfl 63 (.tmp 4) (.tmp 151) rfl size116 H4.out (u32s_one _) rfl hC4 rfl rfl ?_; intro w5 h5 hg5 hz5))
              have e : addk u v 8 = (compress v b).list := by rw [← upto_end, HUU.out]; rfl
              rw [e] at h5
              refine ret_agg rfl Tryd.underlying63 size116 rfl h5 rfl rfl rfl ?_
              exact ⟨rfl, hB3.grown hg5 (by have := hB3.size; omega) (fun k e => by cases e; omega)⟩
end Go.Proofs.YtpgakdioaebikaaDoor
