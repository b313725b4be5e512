/- append onto a full slice; sha.HMAC. -/
import Derived.Test.YtpgakdioaebikaaDoorShaE
import Derived.Test.YtpgakdioaebikaaDoorShaB
import Derived.Deep.Cut
import Derived.Deep.RegionHeldLaw
namespace Go.Proofs.YtpgakdioaebikaaDoor
open Go.RowKit Go.Shelf

/-- 'append(s, ys...)', s a slice that is full: the bytes of both are read in what comes back, and whatever lay lies as it lay. -/
theorem run_append_full {P : Program} (w : World) (t ty : TypeId) (ht : P.underlying t = some (.slice 5)) (hinfo : (P.info? 5).map (fun i => (i.zero, i.size, i.bytes)) = some (some (.int .u8 0), 1, 1))
    (g n : Nat) (xs ys : List UInt8) (A : Option Addr) (m c : Nat) (hx : Rd w (some ⟨g, 0, none⟩) n xs) (hy : Rd w A m ys) (h0 : 0 < n) (hl : n + m ≤ 1099511627776) :
    ∃ A1 c1 w1, (Builtin.append_ #[t, t] ty #[.slice (some ⟨g, 0, none⟩) n n, .slice A m c]).run P w = .ok (.slice A1 (n + m) c1) w1 ∧ Rd w1 A1 (n + m) (xs ++ ys) ∧ Below w.heap.size w w1 ∧ n + m ≤ c1 := by
  obtain ⟨i0, hi, hz0, hz1, hz2⟩ := info_parts hinfo
  have hxl := hx.len
  have hyl := hy.len
  rcases Nat.eq_zero_or_pos m with hm | hm
  · subst hm
    obtain rfl : ys = [] := List.eq_nil_of_length_eq_zero hyl
    refine ⟨some ⟨g, 0, none⟩, n, w, ?_, by simpa using hx, Below.refl _ _, Nat.le_refl _⟩
    cases A with
    | none => simp [Builtin.append_, run_underlying ht, sizeOf, typeInfo, hi, Builtin.lenOf, Builtin.firstCells, storeCells]
    | some a => simp [Builtin.append_, run_underlying ht, sizeOf, typeInfo, hi, Builtin.lenOf, Builtin.firstCells, storeCells, loadCells, loadCellsFrom]
  · obtain ⟨b, off, rfl, hyc⟩ := hy.at_ hm
    obtain ⟨b2, off2, hb2, hxc⟩ := hx.at_ h0
    cases hb2
    have hrun := run_append_grow (P := P) (w := w) t ty 5 i0 (.int .u8 0) ht hi hz0 ⟨g, 0, none⟩ n n (bv xs) (by rw [bv_length, hz1, hxl]; omega)
      (fun j u hu => by
        have hj : j < xs.length := by simpa [bv] using (List.getElem?_eq_some_iff.1 hu).1
        rw [add_off, hxc j hj, ← hu, bv_at hj])
      ⟨b, off, none⟩ m c (bv ys) (by rw [bv_length, hz1, hyl]; omega)
      (fun j u hu => by
        have hj : j < ys.length := by simpa [bv] using (List.getElem?_eq_some_iff.1 hu).1
        rw [add_off, hyc j hj, ← hu, bv_at hj])
      (by omega) (by omega) (growslice_fits (by omega) (by rw [hz2]; omega))
    refine ⟨_, _, _, hrun, ⟨by simp [hxl, hyl], ?_⟩, (Below.drew (Below.refl _ _)).alloc (by simp) _, grownCap_ge _ _ _ _⟩
    have e : (bv xs).toArray ++ (bv ys).toArray ++ Builtin.zeroCells (Value.int .u8 0).cells (grownCap w (n + m) n 5 - (n + m)) = (bv (xs ++ ys) ++ (Builtin.zeroCells (Value.int .u8 0).cells (grownCap w (n + m) n 5 - (n + m))).toList).toArray := by
      apply Array.ext'; simp [bv]
    rw [e]
    exact cells_of_block (heap_alloc_new w.drew _)

theorem wpList_appf {P : Program} {ops : Array Oper} {rest : List Oper} {o : Oper} {a : Act} {Q : Exit → Act → World → Prop} {w : World} (hgd : o.guard = none) (s x : Operand) (t : TypeId)
    (ho : o.op = .call { callee := .builtin .append, args := #[s, x], argTypes := #[t, t] }) (ht : P.underlying t = some (.slice 5)) (hinfo : (P.info? 5).map (fun i => (i.zero, i.size, i.bytes)) = some (some (.int .u8 0), 1, 1))
    (g n : Nat) (xs ys : List UInt8) (A : Option Addr) (m c : Nat) (hX : Rd w (some ⟨g, 0, none⟩) n xs) (hY : Rd w A m ys) (hs : a.eval s = .slice (some ⟨g, 0, none⟩) n n) (hx : a.eval x = .slice A m c) (h0 : 0 < n) (hl : n + m ≤ 1099511627776)
    (h : ∀ A1 c1 w1, Rd w1 A1 (n + m) (xs ++ ys) → Below w.heap.size w w1 → n + m ≤ c1 → wpList P ops Q rest (a.put o.dst (.slice A1 (n + m) c1)) w1) : wpList P ops Q (o :: rest) a w := by
  obtain ⟨A1, c1, w1, hr, h2, h3, h4⟩ := run_append_full (P := P) w t o.type ht hinfo g n xs ys A m c hX hY h0 hl
  refine wpList_plain hgd fun K hK => ?_
  unfold Oper.wp execOp
  simp only [ho, resolve, invoke, builtin, Sem.run_bind, Sem.run_pure, Result.andThen_ok, List.map_toArray, List.map_cons, List.map_nil, hs, hx, hr]
  exact hK _ _ (h A1 c1 w1 h2 h3 h4)

/-- The same in a region that draws its order ('go_region_held_law'). -/
theorem step_appf {P : Program} {ops : Array Oper} {o : Oper} {a : Act} {w : World} {K : Act → World → Prop} {Q : Exit → Act → World → Prop} {E : Prop}
    (hgd : o.guard = none) (s x : Operand) (t : TypeId) (ho : o.op = .call { callee := .builtin .append, args := #[s, x], argTypes := #[t, t] }) (ht : P.underlying t = some (.slice 5)) (hinfo : (P.info? 5).map (fun i => (i.zero, i.size, i.bytes)) = some (some (.int .u8 0), 1, 1))
    (g n : Nat) (xs ys : List UInt8) (A : Option Addr) (m c : Nat) (hX : Rd w (some ⟨g, 0, none⟩) n xs) (hY : Rd w A m ys) (hs : a.eval s = .slice (some ⟨g, 0, none⟩) n n) (hx : a.eval x = .slice A m c) (h0 : 0 < n) (hl : n + m ≤ 1099511627776)
    (h : ∀ A1 c1 w1, Rd w1 A1 (n + m) (xs ++ ys) → Below w.heap.size w w1 → n + m ≤ c1 → K (a.put o.dst (.slice A1 (n + m) c1)) w1) :
    if Region.wanted o (yielded ops a.tmps) = true then Oper.wp P o a w K Q else E := by
  obtain ⟨A1, c1, w1, hr, h2, h3, h4⟩ := run_append_full (P := P) w t o.type ht hinfo g n xs ys A m c hX hY h0 hl
  rw [if_pos (by simp [Region.wanted, hgd])]
  unfold Oper.wp execOp
  simp only [ho, resolve, invoke, builtin, Sem.run_bind, Sem.run_pure, Result.andThen_ok, List.map_toArray, List.map_cons, List.map_nil, hs, hx, hr]
  exact h A1 c1 w1 h2 h3 h4

theorem there_row {w : World} {g : Nat} {t : TypeId} {old : List Value} (hg : w.heap[g]? = some (.cells old.toArray t (0, 0))) : w.there g 0 old.length := fun j hj => by
  refine ⟨?_, frozen_of_row _ _ _ _ _ hg⟩
  rw [cell_of_row _ _ _ _ _ _ hg]
  simp [hj]
/-- A whole row is written cell by cell. -/
theorem setCells_row (w : World) (g : Nat) (t : TypeId) (old cs : List Value) (hg : w.heap[g]? = some (.cells old.toArray t (0, 0))) (h1 : ∀ v ∈ cs, v.oneCell' = true) (hn : cs.length = old.length) :
    (w.setCells g 0 cs).heap[g]? = some (.cells cs.toArray t (0, 0)) ∧ w.grownBy (w.setCells g 0 cs) (some g) := by
  have h := run_storeCells_from (P := Tryd.prog) g t cs 0 old.toArray w hg (by simp; omega) h1
  have ht := there_row hg
  have h2 := run_storeCells_cells (P := Tryd.prog) g 0 cs 0 w (fun j hj => by simpa using (ht j (by omega)).1) (fun j hj => by simpa using (ht j (by omega)).2) h1
  rw [h] at h2
  have e : w.setRow g (old.toArray.toList.take 0 ++ cs).toArray = w.setCells g 0 cs := by injection h2
  rw [← e]
  exact ⟨by simpa using setRow_heap w g _ _ t _ hg, ⟨rfl, rfl, rfl, by simp, fun k _ hk => setRow_other w g k _ (fun e => hk (by rw [e]))⟩⟩

/-- The key of HMAC: it is hashed if it is longer than a block. -/
def hkey (key : List UInt8) : List UInt8 := if 64 < key.length then sha key else key
def hmac (key m : List UInt8) : List UInt8 := sha (padkey (hkey key) 92 ++ sha (padkey (hkey key) 54 ++ m))
theorem sha_length (m : List UInt8) : (sha m).length = 32 := by
  unfold sha S8.bytes S8.list
  simp [toBE]
theorem hkey_length (key : List UInt8) : (hkey key).length ≤ 64 := by
  unfold hkey
  split
  · rw [sha_length]; omega
  · omega

theorem pad_rd (x : UInt8) (xx : Int) (hxx : xx = (x.toNat : Int)) (kb : Nat) (A : Option Addr) (n c : Nat) (key : List UInt8) (w : World) (hk : w.cell? ⟨kb, 0, none⟩ = some (.slice A n c)) (hr : Rd w A n key) (hn : n ≤ 64) :
    Calls Tryd.prog 60 #[.int .u8 xx, .pointer (some ⟨kb, 0, none⟩)] w fun e w' => ∃ g, e = .returned (.slice (some ⟨g, 0, none⟩) 64 64) ∧ Rd w' (some ⟨g, 0, none⟩) 64 (padkey key x) ∧ Below w.heap.size w w' := by
  subst hxx
  refine (pad_any x kb A n c key w hk hr hn).mono ?_
  rintro e w' ⟨g, pad, rfl, _, hc, hB⟩
  exact ⟨g, rfl, ⟨padkey_length _ _ (by rw [hr.len]; exact hn), cells_of_block hc⟩, hB⟩

/-- A new block was laid and written. -/
theorem below_put {w1 w2 : World} {o : Obj} (hg : (w1.alloc o).grownBy w2 (some w1.heap.size)) : Below w1.heap.size w1 w2 := ((Below.refl _ w1).alloc (Nat.le_refl _) _).grown hg (by simp) (fun k e => by cases e; exact Nat.le_refl _)
theorem kept_put {w1 w2 : World} {o o' : Obj} {k : Nat} (hg : (w1.alloc o).grownBy w2 (some w1.heap.size)) (h : w1.heap[k]? = some o') : w2.heap[k]? = some o' := block_below h (below_put hg)
theorem rd_block {w : World} {g n : Nat} {cs : List UInt8} {t : TypeId} {f : Nat × Nat} (h : w.heap[g]? = some (.cells (bv cs).toArray t f)) (hn : cs.length = n) : Rd w (some ⟨g, 0, none⟩) n cs :=
  ⟨hn, cells_of_block (pad := []) (by rw [List.append_nil]; exact h)⟩

set_option maxHeartbeats 1000000 in
set_option maxRecDepth 100000 in
theorem hmac_any (A : Option Addr) (n c : Nat) (key : List UInt8) (A2 : Option Addr) (n2 c2 : Nat) (m : List UInt8) (w : World) (hr : Rd w A n key) (hr2 : Rd w A2 n2 m) (hn : n ≤ 1073741824) (hn2 : n2 ≤ 1073741000) (hL : Laid w) :
    Calls Tryd.prog 57 #[.slice A n c, .slice A2 n2 c2] w fun e w' => e = .returned (.agg (bv (hmac key m)).toArray) ∧ Below w.heap.size w w' := by
  obtain rfl := hr.len
  obtain rfl := hr2.len
  have hB0 : Below w.heap.size w ((w.alloc (.cells #[.slice A key.length c] 41)).alloc (.cells (List.replicate 32 (Value.int .u8 0)).toArray 53)) := ((Below.refl _ w).alloc (Nat.le_refl _) _).alloc (by simp) _
  go_enter Tryd.func57, Tryd.ntmps57
  go_upto_if 10 with (fail)
  have hbox : ((w.alloc (.cells #[.slice A key.length c] 41)).alloc (.cells (List.replicate 32 (Value.int .u8 0)).toArray 53)).heap[w.heap.size]? = some (.cells #[.slice A key.length c] 41 (0, 0)) := (heap_alloc_old _ _ (by simp)).trans (heap_alloc_new _ _)
  have hres : ((w.alloc (.cells #[.slice A key.length c] 41)).alloc (.cells (List.replicate 32 (Value.int .u8 0)).toArray 53)).heap[w.heap.size + 1]? = some (.cells (List.replicate 32 (Value.int .u8 0)).toArray 53 (0, 0)) := heap_at _ _ _ (by simp)
  have hz0 : ((w.alloc (.cells #[.slice A key.length c] 41)).alloc (.cells (List.replicate 32 (Value.int .u8 0)).toArray 53)).heap.size = w.heap.size + 2 := by simp
  have HBOX := Lib.hid hbox
  have HRES := Lib.hid hres
  clear hbox hres
  go_cut [] from 8 (fun W => ∃ (A' : Option Addr) (n' c' : Nat), W.cell? ⟨w.heap.size, 0, none⟩ = some (.slice A' n' c') ∧ Rd W A' n' (hkey key) ∧ n' ≤ 64 ∧ W.heap[w.heap.size + 1]? = some (.cells (List.replicate 32 (Value.int .u8 0)).toArray 53 (0, 0)) ∧ Below w.heap.size w W ∧ w.heap.size + 2 ≤ W.heap.size)
  case first =>
    by_cases hk : 64 < key.length
    · have hhk : hkey key = sha key := if_pos hk
      have HHK := Lib.hid hhk
      clear hhk
      go_wp2_with (first
        | (go_at_call 33; go_must (refine (sum_any _ _ _ key _ (hr.below hB0) (by omega) (hL.below hB0)).mono ?_); rintro e w1 ⟨rfl, hB1⟩;
           have hz1 := hB1.size; rw [hz0] at hz1;
           have hbox1 := block_below HBOX.out hB1; have HRES1 := Lib.hid (block_below HRES.out hB1))
        | (refine wpList_storeB rfl 53 (.tmp 5) (.tmp 12) rfl size27 (heap_alloc_new w1 _) (bv_one (sha key)) (by rw [bv_length, sha_length]) (by rfl) rfl rfl ?_; intro w2 h2 hg2 hz2;
           have hbox2 := kept_put hg2 hbox1; have hres2 := Lib.hid (kept_put hg2 HRES1.out); have cbox := cell_of_row0 hbox2; have fbox := frozen_of_row _ _ 0 _ _ hbox2; have HB2 := Lib.hid h2; have HBX2 := Lib.hid hbox2; have hB2 := below_put hg2;
           clear h2 hg2 hz2 hbox1 hbox2))
      have hB3 : Below w.heap.size w w2 := (hB0.trans (hB1.mono (by omega))).trans (hB2.mono (by omega))
      go_meet
      case rel =>
        refine ⟨some ⟨w1.heap.size, 0, none⟩, 32, 32, World.cell?_setCell_same' _ _ _ (by rw [cbox]; rfl), ?_, by omega, ?_, hB3.setCell (Nat.le_refl _) _, ?_⟩
        · rw [HHK.out]
          exact rd_block (t := 53) (f := (0, 0)) (by rw [heap_setCell_other _ _ _ _ (by show _ ≠ w.heap.size; omega)]; exact HB2.out) (sha_length _)
        · rw [heap_setCell_other _ _ _ _ (by show _ ≠ w.heap.size; omega)]; exact hres2.out
        · have := hB2.size; simp; omega
    · have hhk : hkey key = key := if_neg hk
      have HHK := Lib.hid hhk
      clear hhk
      go_wp2
      go_meet
      case rel => exact ⟨A, key.length, c, cell_of_row0 HBOX.out, by rw [HHK.out]; exact hr.below hB0, by omega, HRES.out, hB0, by simp⟩
  case rest =>
    obtain ⟨A', n', c', hk, hrk, hn', hres, hB, hz⟩ := hcut
    clear HBOX HRES hB0 hz0
    have HRES := Lib.hid hres
    have hpl := fun x => padkey_length (hkey key) x (hkey_length key)
    clear hres
    go_wp2_with (first
      | (go_at_call 60; go_must (refine (pad_rd 54 _ (by decide) _ _ _ _ (hkey key) _ hk hrk hn').mono ?_); rintro e w1 ⟨g1, rfl, hrd1, hB1⟩;
         have hr21 := (hr2.below hB).below hB1; have hk1 := cell_kept hB1 hk; have hrk1 := hrk.below hB1; have HRES1 := Lib.hid (block_below HRES.out hB1); have hBw1 := hB.trans (hB1.mono hB.size))
      | (at_builtin; go_must (refine wpList_appf rfl _ _ 41 rfl Tryd.underlying41 info5 _ _ _ _ _ _ _ hrd1 hr21 rfl rfl (by omega) (by omega) ?_); intro A3 c3 w2 hrd2 hB2 hc3;
         have hk2 := cell_kept hB2 hk1; have hrk2 := hrk1.below hB2; have HRES2 := Lib.hid (block_below HRES1.out hB2); have hBw2 := hBw1.trans (hB2.mono hBw1.size))
      | (go_at_call 33; go_must (refine (sum_any _ _ _ _ _ hrd2 (by omega) (hL.below hBw2)).mono ?_); rintro e w3 ⟨rfl, hB3⟩;
         have hk3 := cell_kept hB3 hk2; have hrk3 := hrk2.below hB3; have HRES3 := Lib.hid (block_below HRES2.out hB3); have hBw3 := hBw2.trans (hB3.mono hBw2.size))
      | (refine wpList_storeB rfl 53 (.tmp 7) (.tmp 19) rfl size27 (heap_alloc_new w3 _) (bv_one (sha (padkey (hkey key) 54 ++ m))) (by rw [bv_length, sha_length]) (by rfl) rfl rfl ?_; intro w4 h4 hg4 hz4;
         have hB4 := below_put hg4; have hk4 := cell_kept hB4 hk3; have hrk4 := hrk3.below hB4; have HRES4 := Lib.hid (block_below HRES3.out hB4); have hBw4 := hBw3.trans (hB4.mono hBw3.size); have hrd4 := rd_block h4 (sha_length _)))
    clear hg4 hz4 h4 hk hrk hk1 hrk1 hk2 hrk2 hk3 hrk3 hrd1 hrd2 hr21 hr2 hr HRES HRES1 HRES2 HRES3 hB1 hB2 hB3 hB4 hBw1 hBw2 hBw3 hB
    have hBd : Below w4.heap.size w4 w4.drew := Below.drew (Below.refl _ _)
    have hk5 := cell_kept hBd hk4
    have hrk5 := hrk4.below hBd
    have hrd5 := hrd4.below hBd
    have HRES5 := Lib.hid (block_below HRES4.out hBd)
    have hBw5 := hBw4.trans (hBd.mono hBw4.size)
    obtain ⟨inner, hinn⟩ : ∃ x, x = sha (padkey (hkey key) 54 ++ m) := ⟨_, rfl⟩
    have hil : inner.length = 32 := by rw [hinn, sha_length]
    have hfl : (bv (sha (padkey (hkey key) 92 ++ inner))).length = 32 := by rw [bv_length, sha_length]
    rw [← hinn] at hrd5 hrd4 ⊢
    have HINN := Lib.hid hinn
    clear hinn
    have hone := bv_one (sha (padkey (hkey key) 92 ++ inner))
    have hs27 := size27
    go_region_held_law (fun _ => True) (trivial) (first
      | (go_at_call 60; go_must (refine (pad_rd 92 _ (by decide) _ _ _ _ (hkey key) _ hk5 hrk5 hn').mono ?_); rintro e w6 ⟨g6, rfl, hrd6, hB6⟩;
         have hrd56 := hrd5.below hB6; have HRES6 := Lib.hid (block_below HRES5.out hB6); have hBw6 := hBw5.trans (hB6.mono hBw5.size))
      | (refine step_appf rfl _ _ 41 rfl Tryd.underlying41 info5 _ _ _ _ _ _ _ hrd6 hrd56 rfl rfl (by omega) (by omega) ?_; intro A7 c7 w7 hrd7 hB7 hc7;
         have HRES7 := Lib.hid (block_below HRES6.out hB7); have hBw7 := hBw6.trans (hB7.mono hBw6.size))
      | (go_at_call 33; go_must (refine (sum_any _ _ _ _ _ hrd7 (by omega) (hL.below hBw7)).mono ?_); rintro e w8 ⟨rfl, hB8⟩;
         have HRES8 := Lib.hid (block_below HRES7.out hB8); have hBw8 := hBw7.trans (hB8.mono hBw7.size);
         have hth := there_row HRES8.out; rw [List.length_replicate] at hth))
    obtain ⟨h9, hg9⟩ := setCells_row w8 _ 53 _ (bv (sha (padkey (hkey key) 92 ++ inner))) HRES8.out hone (by rw [hfl]; rfl)
    generalize w8.setCells (w.heap.size + 1) 0 (bv (sha (padkey (hkey key) 92 ++ inner))) = w9 at h9 hg9 ⊢
    go_wp2
    refine ret_agg rfl Tryd.underlying53 size27 rfl h9 hfl rfl rfl ?_
    exact ⟨by unfold hmac; rw [HINN.out], hBw8.grown hg9 hBw8.size (fun k e => by cases e; omega)⟩
end Go.Proofs.YtpgakdioaebikaaDoor
