/- sha.Sum. -/
import Derived.Test.YtpgakdioaebikaaDoorShaD
import Derived.Laws.EntriesVeiled
import Derived.Deep.MidRow
namespace Go.Proofs.YtpgakdioaebikaaDoor
open Go.RowKit Go.Shelf

attribute [local go_sem] Oper.semAt_some

theorem size27 : (Tryd.prog.info? 53).map (·.size) = some 32 := by kernel_rfl
/-- How many zero bytes are still to come when n bytes are there. -/
def need (n : Nat) : Nat := (64 + 56 - n % 64) % 64
theorem need_zero (n : Nat) (h : need n = 0) : n % 64 = 56 := by unfold need at h; omega
theorem need_succ (n : Nat) (h : n % 64 ≠ 56) : need n = need (n + 1) + 1 := by unfold need; omega
theorem need_zeros (n : Nat) : need (n + 1) = zeros n := by unfold need zeros; omega

theorem wpListIn_loadB {F : Fence} {n0 : Nat} {P : Program} {ops : Array Oper} {rest : List Oper} {o : Oper} {a : Act} {Q : Exit → Act → World → Prop} {w : World} (hgd : o.guard = none) (ty : TypeId) (x : Operand) (ho : o.op = .load ty x) {d : TypeDesc} {n : Nat} (hu : P.underlying ty = some d) (hi : (P.info? ty).map (·.size) = some n)
    {g : Nat} {t : TypeId} {cs : List Value} {fr : Nat × Nat} (hg : w.heap[g]? = some (.cells cs.toArray t fr)) (hn : cs.length = n) (hx : a.eval x = .pointer (some ⟨g, 0, none⟩)) (hd : (match d with | .struct _ | .array _ _ => true | _ => false) = true)
    (h : wpListIn F n0 P ops Q rest (a.put o.dst (.agg cs.toArray)) w) : wpListIn F n0 P ops Q (o :: rest) a w := by
  refine wpListIn_plain hgd fun K hK => ?_
  have hr := run_loadVar_row (P := P) w g t ty cs.toArray fr d hg hu hd (by rw [hi, ← hn]; simp)
  unfold Oper.wpIn
  refine ⟨?_, ?_⟩
  · simp [Oper.about, ho]
  · rw [Oper.semAt_plain F _ _ (by rw [ho]; intro c hc'; cases hc')]
    unfold execOp
    simp only [ho, hx, Instr.loadAt, Instr.sureAddr, Sem.run_bind, Sem.run_pure, Result.andThen_ok, hr]
    exact hK _ _ h
theorem wpListIn_storeB {F : Fence} {n0 : Nat} {P : Program} {ops : Array Oper} {rest : List Oper} {o : Oper} {a : Act} {Q : Exit → Act → World → Prop} {w : World} (hgd : o.guard = none) (ty : TypeId) (x y : Operand) (ho : o.op = .store ty x y) {n : Nat} (hi : (P.info? ty).map (·.size) = some n)
    {g : Nat} {t : TypeId} {old cs : List Value} (hg : w.heap[g]? = some (.cells old.toArray t (0, 0))) (h1 : ∀ v ∈ cs, v.oneCell' = true) (hn : cs.length = n) (hold : old.length = n) (hx : a.eval x = .pointer (some ⟨g, 0, none⟩)) (hy : a.eval y = .agg cs.toArray)
    (h : ∀ w1, w1.heap[g]? = some (.cells cs.toArray t (0, 0)) → w.grownBy w1 (some g) → w1.heap.size = w.heap.size → wpListIn F n0 P ops Q rest (a.put o.dst undef) w1) : wpListIn F n0 P ops Q (o :: rest) a w := by
  refine wpListIn_plain hgd fun K hK => ?_
  have hr := run_storeVar_row (P := P) w g t ty old.toArray cs.toArray hg (by rw [hi, ← hn]; simp) (by simp; omega) (by simpa using h1)
  unfold Oper.wpIn
  refine ⟨?_, ?_⟩
  · simp [Oper.about, ho]
  · rw [Oper.semAt_plain F _ _ (by rw [ho]; intro c hc'; cases hc')]
    unfold execOp
    simp only [ho, hx, hy, Instr.storeAt, Instr.sureAddr, Sem.run_bind, Sem.run_pure, Result.andThen_ok, hr]
    exact hK _ _ (h _ (setRow_heap w g _ _ t _ hg) ⟨rfl, rfl, rfl, by simp, fun k _ hk => setRow_other w g k _ (fun e => hk (by rw [e]))⟩ (by simp))

/-- The k-th of q blocks of a text. -/
def blk (T : List UInt8) (q k : Nat) : List UInt8 := (T.drop (64 * (k % q))).take 64
def st (T : List UInt8) (q : Nat) (pre : List Nat) : S8 := pre.foldl (fun v k => compress v (blk T q k)) iv
theorem st_snoc (T : List UInt8) (q : Nat) (pre : List Nat) (x : Nat) : st T q (pre ++ [x]) = compress (st T q pre) (blk T q x) := by simp [st]
theorem fold_ok (T : List UInt8) (q : Nat) (pre : List Nat) (v : S8) (h : v.ok) : (pre.foldl (fun v k => compress v (blk T q k)) v).ok := by
  induction pre generalizing v with
  | nil => exact h
  | cons x l ih => exact ih _ (compress_ok _ _)
theorem st_ok (T : List UInt8) (q : Nat) (pre : List Nat) : (st T q pre).ok := fold_ok T q pre iv iv_ok
theorem chain_fold (n : Nat) : ∀ (v : S8) (T : List UInt8), chain v n T = (List.range n).foldl (fun v k => compress v ((T.drop (64 * k)).take 64)) v := by
  induction n with
  | zero => intro v T; rfl
  | succ n ih =>
    intro v T
    rw [List.range_succ_eq_map, List.foldl_cons, List.foldl_map, chain, ih]
    simp [List.drop_drop, Nat.mul_succ, Nat.add_comm]
theorem fold_congr {f g : S8 → Nat → S8} (l : List Nat) : ∀ (v : S8), (∀ v k, k ∈ l → f v k = g v k) → l.foldl f v = l.foldl g v := by
  induction l with
  | nil => intro v _; rfl
  | cons x l ih => intro v h; rw [List.foldl_cons, List.foldl_cons, h v x (List.mem_cons_self ..)]; exact ih _ (fun v k hk => h v k (List.mem_cons_of_mem _ hk))
theorem st_all (T : List UInt8) (q : Nat) : st T q (upto0 q) = chain iv q T := by
  rw [chain_fold]
  exact fold_congr _ _ (fun v k hk => by rw [blk, Nat.mod_eq_of_lt (List.mem_range.1 hk)])
theorem blk_length {T : List UInt8} {q : Nat} (h : T.length = 64 * q) (hq : 0 < q) (k : Nat) : (blk T q k).length = 64 := by
  have := Nat.mod_lt k hq
  unfold blk
  rw [List.length_take, List.length_drop, h]
  omega
theorem blk_rd {W : World} {g : Nat} {T : List UInt8} {q : Nat} (h : T.length = 64 * q) (hq : 0 < q) (hc : ∀ j (hj : j < T.length), W.cell? ⟨g, j, none⟩ = some (B T[j])) (k : Nat) : Rd W (some ⟨g, 64 * (k % q), none⟩) 64 (blk T q k) :=
  ⟨blk_length h hq k, fun _ => ⟨g, _, rfl, fun j u hu => by
    have hm := Nat.mod_lt k hq
    have hj : j < 64 := by
      have := (List.getElem?_eq_some_iff.1 hu).1
      simpa [bv, blk_length h hq k] using this
    have hj2 : 64 * (k % q) + j < T.length := by rw [h]; omega
    have hb : j < (blk T q k).length := by rw [blk_length h hq k]; exact hj
    have e : (blk T q k)[j] = T[64 * (k % q) + j] := by simp [blk]
    rw [bv_at hb, e] at hu
    rw [hc _ hj2, hu]⟩⟩

theorem keepsOthers_store {W W1 W2 : World} {g : Nat} {cs : Array Value} {t : TypeId} {f : Nat × Nat} (hs : W.heap[g]? = some (.cells cs t f)) (h : Below W.heap.size W W1) (hg : W1.grownBy W2 (some g)) : KeepsOthers W W2 := by
  refine ⟨Nat.le_trans h.size hg.size, fun k o hk ho => ?_⟩
  have hlt := (Array.getElem?_eq_some_iff.1 hk).1
  rw [hg.block k (Nat.lt_of_lt_of_le hlt h.size) (fun e => by cases e; rw [hs] at hk; cases hk; cases ho)]
  exact (h.block k hlt).trans hk
theorem keep_store {n₀ g : Nat} {W W1 W2 : World} (hn : n₀ ≤ W.heap.size) (h : Below W.heap.size W W1) (hg : W1.grownBy W2 (some g)) : Keep n₀ g W W2 := by
  refine ⟨Nat.le_trans h.size hg.size, fun k hk hne => ?_⟩
  have hlt : k < W.heap.size := Nat.lt_of_lt_of_le hk hn
  rw [hg.block k (Nat.lt_of_lt_of_le hlt h.size) (fun e => hne (by cases e; rfl))]
  exact h.block k hlt

theorem text_at {w : World} {base n c : Nat} {A : Option Addr} {T : List UInt8} (h : w.ownsRow base 5 1 (.slice A n c) T.length (bv T)) (h0 : 0 < T.length) : ∃ g, A = some ⟨g, 0, none⟩ ∧ g < w.heap.size ∧ n ≤ c ∧ n = T.length ∧ ∀ j (hj : j < T.length), w.cell? ⟨g, j, none⟩ = some (B T[j]) := by
  rcases h.2 with ⟨_, h2⟩ | ⟨g, cap, cur, hv, _, hg, hn, _, _, ht⟩
  · omega
  · cases hv
    refine ⟨g, rfl, (Array.getElem?_eq_some_iff.1 hg).1, hn, rfl, fun j hj => ?_⟩
    rw [cell_of_row _ _ _ _ _ _ hg]
    have e : (bv T)[j]? = some (B T[j]) := bv_at hj
    rw [← ht, List.getElem?_take] at e
    simpa [hj] using e

def st8 : List Value := List.replicate 8 (.int .u32 0)
theorem st8_new (w : World) : ((w.alloc (.cells st8.toArray 63)).alloc (.cells #[Value.nilFunc] 64)).heap[w.heap.size]? = some (.cells st8.toArray 63 (0, 0)) := (heap_alloc_old _ _ (by simp)).trans (heap_alloc_new _ _)

theorem fn_new (w : World) : ((w.alloc (.cells st8.toArray 63)).alloc (.cells #[Value.nilFunc] 64)).heap[w.heap.size + 1]? = some (.cells #[Value.nilFunc] 64 (0, 0)) := by
  have := heap_alloc_new (w.alloc (.cells st8.toArray 63)) (.cells #[Value.nilFunc] 64)
  rwa [World.size_alloc] at this
theorem cell_of_row0 {w : World} {g : Nat} {v : Value} {t : TypeId} {f : Nat × Nat} (h : w.heap[g]? = some (.cells #[v] t f)) : w.cell? ⟨g, 0, none⟩ = some v := by
  rw [cell_of_row _ _ _ _ _ _ h]; rfl

theorem fn_facts {w w5 : World} (hg : ((w.alloc (.cells st8.toArray 63)).alloc (.cells #[Value.nilFunc] 64)).grownBy w5 (some w.heap.size)) (hz : w5.heap.size = ((w.alloc (.cells st8.toArray 63)).alloc (.cells #[Value.nilFunc] 64)).heap.size) :
    w5.heap[w.heap.size + 1]? = some (.cells #[Value.nilFunc] 64 (0, 0)) ∧ w5.cell? ⟨w.heap.size + 1, 0, none⟩ = some Value.nilFunc ∧ w5.frozen? ⟨w.heap.size + 1, 0, none⟩ = false ∧ w5.heap.size = w.heap.size + 2 := by
  have h := block_kept (fn_new w) hg (by simp)
  exact ⟨h, cell_of_row0 h, frozen_of_row _ _ _ _ _ h, by rw [hz]; simp⟩

theorem chunk_world {w w5 Wc : World} {v : Value} (hg : ((w.alloc (.cells st8.toArray 63)).alloc (.cells #[Value.nilFunc] 64)).grownBy w5 (some w.heap.size)) (h5 : w5.heap[w.heap.size]? = some (.cells (u32s iv.list).toArray 63 (0, 0)))
    (hfn : w5.heap[w.heap.size + 1]? = some (.cells #[Value.nilFunc] 64 (0, 0))) (hz : w5.heap.size = w.heap.size + 2)
    (hWc : ((w5.setCell ⟨w.heap.size + 1, 0, none⟩ (.func (.func 44) #[] #[])).alloc (.cells #[v] 41)).alloc (.cells #[.int .i64 64] 3) = Wc) :
    Below w.heap.size w Wc ∧ Wc.heap.size = w.heap.size + 4 ∧ Wc.heap[w.heap.size]? = some (.cells (u32s iv.list).toArray 63 (0, 0)) ∧ Wc.cell? ⟨w.heap.size + 1, 0, none⟩ = some (.func (.func 44) #[] #[]) ∧
      Wc.cell? ⟨w.heap.size + 2, 0, none⟩ = some v ∧ Wc.cell? ⟨w.heap.size + 3, 0, none⟩ = some (.int .i64 64) := by
  have hB0 : Below w.heap.size w w5 := (((Below.refl _ w).alloc (Nat.le_refl _) _).alloc (by simp) _).grown hg (by simp; omega) (fun k e => by cases e; omega)
  obtain ⟨w6, h6⟩ : ∃ w6, w6 = w5.setCell ⟨w.heap.size + 1, 0, none⟩ (.func (.func 44) #[] #[]) := ⟨_, rfl⟩
  have hz6 : w6.heap.size = w.heap.size + 2 := by rw [h6]; simp [hz]
  have hc6 : w6.cell? ⟨w.heap.size + 1, 0, none⟩ = some (.func (.func 44) #[] #[]) := by
    rw [h6]; exact World.cell?_setCell_same' _ _ _ (by rw [cell_of_row0 hfn]; rfl)
  have hs6 : w6.heap[w.heap.size]? = some (.cells (u32s iv.list).toArray 63 (0, 0)) := by
    rw [h6, heap_setCell_other _ _ _ _ (by show _ ≠ w.heap.size + 1; omega)]; exact h5
  have hB6 : Below w.heap.size w w6 := by rw [h6]; exact hB0.setCell (by show _ ≤ w.heap.size + 1; omega) _
  rw [← h6] at hWc
  subst hWc
  have hB : Below w6.heap.size w6 ((w6.alloc (.cells #[v] 41)).alloc (.cells #[.int .i64 64] 3)) := ((Below.refl _ w6).alloc (Nat.le_refl _) _).alloc (by simp) _
  refine ⟨hB6.trans (hB.mono (by omega)), by simp [hz6], block_below hs6 hB, cell_kept hB hc6, ?_, ?_⟩
  · exact cell_of_row0 ((heap_alloc_old _ _ (by simp [hz6])).trans (heap_at _ _ _ hz6.symm))
  · exact cell_of_row0 (heap_at _ _ _ (by simp [hz6]))

theorem list_lt {v : S8} (h : v.ok) (m : Nat) : v.list.getD m 0 < 4294967296 := by
  match m with
  | 0 => exact h.a
  | 1 => exact h.b
  | 2 => exact h.c
  | 3 => exact h.d
  | 4 => exact h.e
  | 5 => exact h.f
  | 6 => exact h.g
  | 7 => exact h.h
  | m + 8 => simp [S8.list]
theorem list_take_succ (v : S8) (j : Nat) (h : j < 8) : v.list.take (j + 1) = v.list.take j ++ [v.list.getD j 0] := by
  match j, h with
  | 0, _ | 1, _ | 2, _ | 3, _ | 4, _ | 5, _ | 6, _ | 7, _ => rfl

theorem run_arrayAt {P : Program} (W : World) {t n e : Nat} (hu : P.underlying t = some (.array n e)) (A : Option Addr) (l c : Nat) (h : n ≤ l) : (Instr.arrayAt t (.slice A l c)).run P W = .ok (.pointer A) W := by
  simp [Instr.arrayAt, run_underlying hu, show ¬ l < n from by omega]

def lenOf : Value → Nat | .slice _ n _ => n | _ => 0

set_option maxHeartbeats 4000000 in
set_option maxRecDepth 100000 in
theorem sum_any (A : Option Addr) (n c : Nat) (m : List UInt8) (w : World) (hr : Rd w A n m) (hn : n ≤ 1073741824) (hL : Laid w) :
    Calls Tryd.prog 33 #[.slice A n c] w fun e w' => e = .returned (.agg (bv (sha m)).toArray) ∧ Below w.heap.size w w' := by
  obtain rfl := hr.len
  refine callsIn_wide.1 (callsIn_of_wp_marks (F := Fence.wide) (n := 5) Tryd.func33 rfl trivial ?_ rfl)
  simp only [Tryd.ntmps33, List.size_toArray, List.length_cons, List.length_nil, Nat.reduceAdd, Nat.reduceSub, Array.replicate_succ, Array.replicate_zero, List.push_toArray, List.append_toArray, List.nil_append, List.cons_append]
  refine wpIn_wide.2 ?_
  have hr1 : Rd (w.alloc (.cells (List.replicate 32 (Value.int .u8 0)).toArray 53)) A m.length m := hr.below ((Below.refl _ w).alloc (Nat.le_refl _) _)
  have hres : (w.alloc (.cells (List.replicate 32 (Value.int .u8 0)).toArray 53)).heap[w.heap.size]? = some (.cells (List.replicate 32 (Value.int .u8 0)).toArray 53 (0, 0)) := heap_alloc_new w _
  have hB0 : Below w.heap.size w (w.alloc (.cells (List.replicate 32 (Value.int .u8 0)).toArray 53)) := (Below.refl _ w).alloc (Nat.le_refl _) _
  have HR0 := Lib.hid hres
  clear hres
  go_wp2_with (first
    | (go_at_call 42; go_must (refine (clone_any _ _ _ m _ hr1 (by omega)).mono ?_); rintro e w1 ⟨A1, c1, rfl, hown1, hB1⟩; have hz1 := hB1.size; rw [World.size_alloc] at hz1)
    | (at_builtin; go_must (refine wpList_app1 rfl _ _ 41 rfl _ 5 1 (.int .u8 0) Tryd.underlying41 info5 rfl (by decide) _ _ _ _ hown1 rfl rfl rfl hB1.size (by omega) ?_); intro A2 c2 w2 hown2 hg2 hat2))
  have hB2 : Below w.heap.size w w2 := (hB0.trans (hB1.mono (by simp))).grown hg2 (by omega) (fun k e => by have := own_ge hown1 k e; simp at this; omega)
  have hres2 : Hid (w2.heap[w.heap.size]? = some (.cells (List.replicate 32 (Value.int .u8 0)).toArray 53 (0, 0))) := block_kept (block_below HR0.out hB1) hg2 (fun e => by have := own_ge hown1 _ e.symm; rw [World.size_alloc] at this; omega)
  have hown2 := own_snoc (x := 128) hown2 rfl
  have hown2 := own_lower hown2 (show w.heap.size + 1 ≤ _ by simp)
  clear hg2 hat2 hown1 hB1 HR0 hB0 hr1
  have hfin : (m ++ [128]) ++ List.replicate (need (m ++ [128]).length) 0 = m ++ [128] ++ List.replicate (zeros m.length) 0 := by simp [need_zeros]
  have HF := Lib.hid hfin
  clear hfin
  go_loopw [3] (fun v wr => ∃ (A3 : Option Addr) (c3 : Nat) (p : List UInt8), v = .slice A3 p.length c3 ∧ p.length ≤ 1073741900 ∧ Hid (p ++ List.replicate (need p.length) 0 = m ++ [128] ++ List.replicate (zeros m.length) 0) ∧ wr.ownsRow (w.heap.size + 1) 5 1 (.slice A3 p.length c3) p.length (bv p) ∧
      wr.heap[w.heap.size]? = some (.cells (List.replicate 32 (Value.int .u8 0)).toArray 53 (0, 0)) ∧ Below w.heap.size w wr) (fun v _ => need (lenOf v))
  case atStart => exact ⟨A2, c2, m ++ [128], by simp, by simp; omega, HF, by simpa using hown2, hres2.out, hB2⟩
  case round =>
    obtain ⟨A3, c3, p, rfl, hpl, hP, hown3, hres3, hB3⟩ := hrel
    clear hown2 hres2 hB2
    have HR3 := Lib.hid hres3
    have hz3 : w.heap.size < wr.heap.size := (Array.getElem?_eq_some_iff.1 hres3).1
    clear hres3
    by_cases hlt : p.length % 64 = 56
    · have hpe : p = m ++ [128] ++ List.replicate (zeros m.length) 0 := by
        have h := hP.out
        rwa [show need p.length = 0 from by unfold need; omega, List.replicate_zero, List.append_nil] at h
      have HPE := Lib.hid hpe
      have hlt2 : ((p.length : Int) % 64 = 56) := by omega
      clear hpe
      have hL3 := Lib.hid (hL.below hB3)
      have hlp : (p ++ toBE 8 (8 * m.length)).length = p.length + 8 := by simp [toBE]
      obtain ⟨q, hq⟩ : ∃ q, p.length + 8 = 64 * q := ⟨(p.length + 8) / 64, by omega⟩
      go_wp2_with (first
        | (go_at_call 43; go_must (refine (store_any' (w.heap.size + 1) _ _ _ p (8 * m.length) 8 _ _ _ hown3 rfl (by omega) rfl (by omega) (by omega) (by omega) (by omega)).mono ?_); rintro e w4 ⟨A4, c4, rfl, hown4, hg4, hat4⟩;
           have hB4 : Below w.heap.size w w4 := hB3.grown hg4 (by omega) (fun k e => by have := own_ge hown3 k e; omega);
           have hres4 := Lib.hid (block_kept HR3.out hg4 (fun e => by have := own_ge hown3 _ e.symm; omega));
           obtain ⟨hG0, hG1⟩ := hL.below hB4;
           obtain ⟨tg, fg, hG0⟩ := hG0;
           have hz4 : w.heap.size < w4.heap.size := Nat.lt_of_lt_of_le hz3 hg4.size;
           have HG0 := Lib.hid hG0;
           clear hG0)
        | (refine wpList_loadB rfl 63 (.global 0) rfl Tryd.underlying63 size116 HG0.out rfl rfl rfl ?_)
        | (refine wpList_storeB rfl 63 (.tmp 4) (.tmp 27) rfl size116 (st8_new w4) (u32s_one iv.list) rfl rfl rfl rfl ?_; intro w5 h5 hg5 hz5; obtain ⟨hfn, cfn, ffn, hz5'⟩ := fn_facts hg5 hz5; have H5 := Lib.hid h5; have HFN := Lib.hid hfn; clear h5 hfn hz5)
        | (go_at_call 45; go_must (refine (chunk_any _ _ _ _).mono ?_); rintro e w6 ⟨rfl, rfl⟩))
      obtain ⟨h4, hh4⟩ : ∃ n, n = w4.heap.size := ⟨_, rfl⟩
      obtain ⟨T, hT⟩ : ∃ T, T = p ++ toBE 8 (8 * m.length) := ⟨_, rfl⟩
      rw [← hT] at hown4 hlp
      have hTq : T.length = 64 * q := by omega
      have HT := Lib.hid hT
      clear hT
      obtain ⟨gT, hA4, hgT, hTc, _, hcT⟩ := text_at hown4 (by omega)
      subst hA4
      generalize hWc : (((w5.setCell ⟨w4.heap.size + 1, 0, none⟩ (.func (.func 44) #[] #[])).alloc (.cells #[.slice (some ⟨gT, 0, none⟩) (64 * q) c4] 41)).alloc (.cells #[.int .i64 64] 3)) = Wc
      obtain ⟨hBW, hWz, hWs, hWf, hW2, hW3⟩ := chunk_world hg5 H5.out HFN.out hz5' hWc
      clear hWc H5 HFN cfn ffn hg5 hz5' HG0
      have h0q : 0 < q := by omega
      have hq30 : q ≤ 1099511627776 := by omega
      have hB5 : Below w.heap.size w Wc := hB4.trans (hBW.mono (by omega))
      have hz4' := hz4
      have hchs := chunk_stops 4 (by omega) (w4.heap.size + 2) (w4.heap.size + 3) (w4.heap.size + 4) w4.heap.size gT q c4 hq30 (by omega) (by omega) (by omega) (by omega) (by omega) Wc (by omega) hW2 hW3
      refine (wpIn_wide (n := 5)).1 ?_
      refine wpIn_rangeFunc_ownF (F := Fence.wide) (n := 5) rfl (by omega) (gf := 54) (lb := #[.pointer (some ⟨w4.heap.size + 2, 0, none⟩), .pointer (some ⟨w4.heap.size + 3, 0, none⟩)]) rfl trivial (enters_of Tryd.func54 (by kernel_rfl) rfl)
        hchs Keep.trans (Keep.book (by omega)) (Below.refl _ _) (fun _ => rfl)
        (fun pre W => (Keep (w4.heap.size + 4) w4.heap.size Wc W ∧ W.heap[w4.heap.size]? = some (.cells (u32s (st T q pre).list).toArray 63 (0, 0))) ∧ Below w.heap.size w W)
        (fun _ _ _ => False)
        (OwnFrom.and (fun s A B row hs hg hr => ⟨hs.1.trans ⟨hg.size, fun k hk _ => hg.block k (by have := hs.1.1; omega) (fun e => by have := (hr k e.symm).1; omega)⟩, block_kept hs.2 hg (fun e => by have := (hr _ e.symm).1; omega)⟩) (ownFrom_below (Nat.le_refl _) (by omega)))
        (fun _ _ _ _ _ hs _ _ => hs)
        ⟨⟨⟨Nat.le_refl _, fun _ _ _ => rfl⟩, hWs⟩, hB5⟩
        (fun x => { tmps := #[.slice A m.length c, undef, .pointer (some ⟨w.heap.size, 0, none⟩), .slice (some ⟨gT, 0, none⟩) (64 * q) c4, .pointer (some ⟨w4.heap.size, 0, none⟩), .pointer (some ⟨w4.heap.size + 1, 0, none⟩),
          .slice (some ⟨gT, 64 * (x % q), none⟩) 64 64, undef, undef, undef,
          .slice A m.length c, .slice A1 m.length c1, .slice (some ⟨w1.heap.size, 0, none⟩) 1 1, .slice A2 (m.length + 1) c2, .slice A3 p.length c3, .int .i64 p.length, .int .i64 56, .bool false, u18, u19, u20, .slice A3 p.length c3, .slice A m.length c, .int .i64 m.length,
          .int .u64 m.length, .int .u64 (8 * (m.length : Int)), .slice (some ⟨gT, 0, none⟩) (64 * q) c4, .agg (u32s iv.list).toArray, .slice (some ⟨gT, 0, none⟩) (64 * q) c4,
          .func (.func 54) #[] #[.pointer (some ⟨w4.heap.size + 2, 0, none⟩), .pointer (some ⟨w4.heap.size + 3, 0, none⟩)], .slice (some ⟨gT, 64 * (x % q), none⟩) 64 64, undef, undef, undef, undef, undef, undef, undef, undef, undef, undef, undef, undef, undef, undef, undef, undef], defers := [] }) ?assign ?body ?done ?stop
      case assign =>
        intro l x W K hK
        dsimp only [enc64]
        gi_wp2
        exact hK
      case body =>
        rintro l pre x W ⟨⟨hk, hst⟩, hB⟩ _
        have f5 : W.cell? ⟨w4.heap.size + 1, 0, none⟩ = some (.func (.func 44) #[] #[]) := (hk.cell (p := ⟨w4.heap.size + 1, 0, none⟩) (by dsimp only; omega) (by dsimp only; omega)).trans hWf
        have hLW : Laid W := hL.below hB
        have hcW : ∀ j (hj : j < T.length), W.cell? ⟨gT, j, none⟩ = some (B T[j]) := fun j hj => (hk.cell (p := ⟨gT, j, none⟩) (by dsimp only; omega) (by dsimp only; omega)).trans ((hBW.cell (p := ⟨gT, j, none⟩) hgT).trans (hcT j hj))
        have hRd := blk_rd hTq h0q hcW x
        have HST := Lib.hid hst
        clear hst
        gi_wp2_with (first
          | (refine wpListIn_loadB rfl 63 (.tmp 4) rfl Tryd.underlying63 size116 HST.out rfl rfl rfl ?_)
          | (refine ⟨trivial, ?_⟩; gi_at_call 44; refine (CallsIn.inRound l (callsIn_wide.2 (compress_any (st T q pre) _ _ (blk T q x) W hRd (by omega) hLW (st_ok _ _ _)))).mono ?_; rintro e W1 ⟨rfl, hB1⟩; have hs1 := Lib.hid (block_below HST.out hB1))
          | (refine wpListIn_storeB rfl 63 (.tmp 4) (.tmp 34) rfl size116 hs1.out (u32s_one (compress (st T q pre) (blk T q x)).list) rfl rfl rfl rfl ?_; intro W2 h2 hg2 hz2))
        have hKp := keep_store (n₀ := w4.heap.size + 4) (by have := hk.1; omega) hB1 hg2
        exact ⟨keepsOthers_store HST.out hB1 hg2, hKp, ⟨hk.trans hKp, by rw [st_snoc]; exact h2⟩, (hB.trans (hB1.mono hB.size)).grown hg2 (by have := hB1.size; have := hB.size; omega) (fun k e => by cases e; omega)⟩
      case done =>
        rintro D ys W hD rfl ⟨⟨hk, hst⟩, hB⟩ hK
        obtain ⟨S, hS⟩ : ∃ S, S = st T q (upto0 q) := ⟨_, rfl⟩
        have hSo : S.ok := by rw [hS]; exact st_ok _ _ _
        rw [← hS] at hst
        rw [st_all] at hS
        have HS := Lib.hid hS
        have HST := Lib.hid hst
        have HK := Lib.hid hK
        have hKlt : D < W.heap.size := (Array.getElem?_eq_some_iff.1 hK).1
        have hWz2 : w.heap.size < W.heap.size := by have := hk.1; omega
        have hRES := Lib.hid ((hk.2 w.heap.size (by omega) (by omega)).trans (block_below hres4.out hBW))
        clear hS hst hK hk hchs
        obtain ⟨wo, rfl⟩ : ∃ wo : World, wo = W := ⟨_, rfl⟩
        go_wp2_with (first
          | (refine wpList_loadB rfl 63 (.tmp 4) rfl Tryd.underlying63 size116 HST.out rfl rfl rfl ?_))
        go_loopw [7, 36] (fun v i wx => ∃ (j : Nat) (A5 : Option Addr) (c5 : Nat) (out : List UInt8), j ≤ 8 ∧ i = .int .i64 j ∧ v = .slice A5 out.length c5 ∧ wx.ownsRow wo.heap.size 5 1 (.slice A5 out.length c5) out.length (bv out) ∧ Hid (out = (S.list.take j).flatMap (toBE 4)) ∧ out.length = 4 * j ∧
            wx.heap[w.heap.size]? = some (.cells (List.replicate 32 (Value.int .u8 0)).toArray 53 (0, 0)) ∧ wx.heap[D]? = some (.deferred (some [])) ∧ Below w.heap.size w wx ∧ wo.heap.size ≤ wx.heap.size) (fun v i _ => 8 - (intOf i).toNat)
        case atStart => exact ⟨0, none, 0, [], by omega, rfl, rfl, World.ownsRow_nil _ _ _ _, Lib.hid rfl, rfl, hRES.out, HK.out, hB, Nat.le_refl _⟩
        case round =>
          obtain ⟨j, A5, c5, out, hj, rfl, rfl, hown5, hO, hol, hres5, hK5, hB6, hz6⟩ := hrel
          have HR5 := Lib.hid hres5
          have HK5 := Lib.hid hK5
          clear hres5 hK5 hRES HK HST
          by_cases hlt : j < 8
          · have hix := fun W : World => run_index_arr (P := Tryd.prog) W 63 61 8 (u32s S.list) j (.int .u32 ((S.list.getD j 0 : Nat) : Int)) Tryd.underlying63 (fun _ => by kernel_rfl) (fun _ => by kernel_rfl) hlt (by simpa using list_at S j hlt)
            have hwl := list_lt hSo j
            obtain ⟨wj, hwj⟩ : ∃ x, x = S.list.getD j 0 := ⟨_, rfl⟩
            rw [← hwj] at hix hwl
            have HW := Lib.hid hwj
            have HOL := Lib.hid hol
            have hol32 : out.length ≤ 32 := by omega
            clear hwj hol
            go_wp2_with (first
              | (go_at_call 43; go_must (refine (store_any' wo.heap.size _ _ _ out wj 4 _ _ _ hown5 rfl (by omega) rfl hz6 (by omega) (by omega) (by omega)).mono ?_); rintro e w7 ⟨A7, c7, rfl, hown7, hg7, hat7⟩))
            go_roundw
            case rel =>
              refine ⟨j + 1, A7, c7, out ++ toBE 4 wj, by omega, by simp, ?v, hown7, Lib.hid ?_, by have := HOL.out; simp [toBE]; omega, block_kept HR5.out hg7 (fun e => by have := own_ge hown5 _ e.symm; omega), block_kept HK5.out hg7 (fun e => by have := own_ge hown5 _ e.symm; omega), hB6.grown hg7 (by omega) (fun k e => by have := own_ge hown5 k e; omega), Nat.le_trans hz6 hg7.size⟩
              case v => rw [List.length_append]
              rw [hO.out, HW.out, list_take_succ S j hlt]
              simp
            case measure => simp [intOf]; omega
          · obtain rfl : j = 8 := by omega
            have hl32 : out.length = 32 := by omega
            obtain ⟨g5, hA5, hg5, hn5, _, hc5⟩ := text_at hown5 (by omega)
            subst hA5
            have hrange : wr.rangeAt g5 0 (bv out) := fun i v hv => by
              have hi : i < out.length := by simpa [bv] using (List.getElem?_eq_some_iff.1 hv).1
              rw [Nat.zero_add, hc5 i hi, ← hv, bv_at hi]
            have hbl : (bv out).length = 32 := by rw [bv_length, hl32]
            have HRG := Lib.hid hrange
            clear hrange hc5 hol
            have harr := fun W : World => run_arrayAt (P := Tryd.prog) W Tryd.underlying53 (some ⟨g5, 0, none⟩) 32 c5 (Nat.le_refl _)
            go_wp2_with (first
              | (refine wpList_load_mid rfl 53 (.tmp 45) rfl g5 0 rfl (bv out) _ HRG.out Tryd.underlying53 rfl (by rw [hbl]; exact size27) ?_)
              | (refine wpList_storeB rfl 53 (.tmp 2) (.tmp 46) rfl size27 HR5.out (bv_one out) hbl (by rfl) rfl rfl ?_; intro w8 h8 hg8 hz8))
            refine ⟨by simp, .inl ⟨_, _, rfl, run_takeDeferred (block_kept HK5.out hg8 (by simp; omega)), ?_⟩⟩
            have hT1 : padded m = T := by rw [HT.out, HPE.out]; rfl
            have hT2 : T.length / 64 = q := by omega
            have hsha : sha m = out := by rw [hO.out]; unfold sha; rw [hT1, hT2, ← HS.out]; rfl
            have hB8 : Below w.heap.size w w8 := hB6.grown hg8 (by omega) (fun k e => by cases e; omega)
            have hD8 : w8.heap[D]? = some (.deferred (some [])) := block_kept HK5.out hg8 (by simp; omega)
            have hr8 : (w8.putObj D (.deferred none)).heap[w.heap.size]? = some (.cells (bv out).toArray 53 (0, 0)) := (World.putObj_heap_other (by omega)).trans h8
            refine ⟨_, results_cell_row rfl _ _ w.heap.size 53 (bv out).toArray (0, 0) _ rfl hr8 Tryd.underlying53 rfl (by simp only [List.size_toArray]; rw [hbl]; exact size27), by rw [hsha], ?_⟩
            exact hB8.trans (belowK_b (w := w) (Nat.le_refl _) w8 D _ _ (by omega) hD8 rfl rfl)
      case stop =>
        rintro D c pre W _ _ h _
        exact h.elim
    · have hne : ¬ ((p.length : Int) % 64 = 56) := by omega
      have hnd := need_succ p.length hlt
      have HN := Lib.hid hnd
      clear hnd
      have hpl2 : p.length ≤ 1073741824 + 65 := by
        have h := congrArg List.length hP.out
        have h2 : zeros m.length < 64 := by unfold zeros; omega
        simp at h; omega
      go_wp2_with (at_builtin; go_must (refine wpList_app1 rfl _ _ 41 rfl (w.heap.size + 1) 5 1 (.int .u8 0) Tryd.underlying41 info5 rfl (by decide) _ _ _ _ hown3 rfl rfl rfl (by omega) (by omega) ?_); intro A4 c4 w4 hown4 hg4 hat4)
      have hs := own_snoc (x := 0) hown4 rfl
      go_roundw
      case rel =>
        refine ⟨A4, c4, p ++ [0], by simp, by simp; omega, ?_, hs, block_kept HR3.out hg4 (fun e => by have := own_ge hown3 _ e.symm; omega), hB3.grown hg4 (by omega) (fun k e => by have := own_ge hown3 k e; omega)⟩
        show _ = _
        rw [← hP.out, HN.out]
        simp [List.replicate_succ]
      case measure => simp [lenOf]; rw [HN.out]; omega
end Go.Proofs.YtpgakdioaebikaaDoor
