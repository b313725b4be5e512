/- bytes.Repeat at one byte, sixty-four times; the pad of HMAC. -/
import Derived.Test.YtpgakdioaebikaaDoorShaA
import Derived.Laws.CopyOwn
import Derived.Lib.MakeNoZero
import Derived.Deep.RegionLaw
namespace Go.Proofs.YtpgakdioaebikaaDoor
open Go.RowKit

set_option maxRecDepth 100000 in
theorem mul_any (w : World) : Calls Tryd.prog 63 #[.int .u64 1, .int .u64 64] w fun e w' => e = .returned (.tuple #[.int .u64 0, .int .u64 64]) ∧ w = w' := by
  have a1 : bits BinOp.and IntKind.u64 1 4294967295 = 1 := by decide +kernel
  have a2 : bits BinOp.and IntKind.u64 64 4294967295 = 64 := by decide +kernel
  have a3 : bits BinOp.and IntKind.u64 0 4294967295 = 0 := by decide +kernel
  go_enter Tryd.func63, Tryd.ntmps63
  go_wp2
  go_ret2
  exact ⟨by congr 3, rfl⟩

theorem size5 : (Tryd.prog.info? 5).map (·.size) = some 1 := by kernel_rfl
theorem one_src2 {w : World} {b off : Nat} {x : UInt8} (hc : w.cell? ⟨b, off, none⟩ = some (.int .u8 (x.toNat : Int))) (o : Obj) : ∀ j v, (bv [x])[j]? = some v → (w.alloc o).cell? ⟨b, off + j, none⟩ = some v := by
  intro j v hj
  match j, hj with
  | 0, hj =>
    simp [bv, B] at hj
    subst hj
    exact cell_kept ((Below.refl _ w).alloc (Nat.le_refl _) o) hc
theorem one_src {w : World} {b off : Nat} {x : UInt8} (hc : w.cell? ⟨b, off, none⟩ = some (.int .u8 (x.toNat : Int))) (o : Obj) : ∀ j v, (bv [x])[j]? = some v → ((w.alloc o).drew.drew).cell? ((⟨b, off, none⟩ : Addr).add j) = some v := by
  intro j v hj
  match j, hj with
  | 0, hj =>
    simp [bv, B] at hj
    subst hj
    rw [add_off]
    exact cell_kept (((Below.refl _ w).alloc (Nat.le_refl _) o).drew.drew) hc
set_option maxHeartbeats 400000 in
set_option maxRecDepth 100000 in
theorem repeat_any (x : UInt8) (b off c : Nat) (w : World) (hc : w.cell? ⟨b, off, none⟩ = some (.int .u8 (x.toNat : Int))) :
    Calls Tryd.prog 61 #[.slice (some ⟨b, off, none⟩) 1 c, .int .i64 64] w fun e w' => ∃ g pad, e = .returned (.slice (some ⟨g, 0, none⟩) 64 64) ∧ w.heap.size ≤ g ∧ w'.heap[g]? = some (.cells (bv (List.replicate 64 x) ++ pad).toArray 5 (0, 0)) ∧ Below w.heap.size w w' := by
  obtain ⟨cs, hrunM, hle, _⟩ := Lib.run_makeNoZero (P := Tryd.prog) w #[3] 41 5 Tryd.underlying41 64 (by omega)
  have hmk : (callFunc 64 #[.int .i64 64]).run Tryd.prog w = .ok (.value (.slice (some ⟨w.heap.size, 0, none⟩) 64 cs.size)) (w.drew.drew.alloc (.cells cs 5)) := by
    rw [run_callFunc_extern Tryd.func64 (by kernel_rfl) (by kernel_rfl) (by kernel_rfl) (e := Extern.BytealgMakeNoZero.makeNoZero #[3] #[41]) (by kernel_rfl)]
    rw [show (64 : Int) = ((64 : Nat) : Int) from rfl, hrunM]
    rfl
  have hcs : cs.toList.length = cs.size := Array.length_toList
  clear hrunM
  go_enter Tryd.func61, Tryd.ntmps61
  go_wp2_with (first
    | (go_at_call 63; go_must (refine (mul_any _).mono ?_); rintro e w' ⟨rfl, rfl⟩)
    | (with_reducible refine wpList_copy_splice rfl (.tmp 58) (.tmp 59) 41 41 rfl 5 Tryd.underlying41 size5 _ _ _ _ _ _ rfl rfl w.heap.size 0 cs.toList 5 ?h1 (bv [x]) ?h2 ?h3 ?h4 (bv_one _) w.heap.size w ?h5 (Nat.le_refl _) ?_; rotate_right; intro w2 hg2 hB2))
  case h1 => rw [Array.toArray_toList]; exact heap_alloc_new w _
  case h2 => rfl
  case h3 => exact fun _ => one_src2 hc _
  case h4 => rw [bv_length, hcs]; simp; omega
  case h5 => exact ((Below.refl _ w).alloc (Nat.le_refl _) _).drew.drew
  have hg3 : Hid (∃ cur : List Value, w2.heap[w.heap.size]? = some (.cells cur.toArray 5 (0, 0)) ∧ cur.length = cs.size ∧ cur.take 1 = bv (List.replicate 1 x)) :=
    ⟨_, hg2.out, by rw [length_splice _ _ _ (by simp [bv]; omega)]; simp, by simp [splice, bv]⟩
  clear hg2 hmk hc
  go_loopw [10] (fun i wr => ∃ m : Nat, i = .int .i64 m ∧ 1 ≤ m ∧ m ≤ 64 ∧ Hid (∃ cur : List Value, wr.heap[w.heap.size]? = some (.cells cur.toArray 5 (0, 0)) ∧ cur.length = cs.size ∧ cur.take m = bv (List.replicate m x)) ∧ Below w.heap.size w wr)
    (fun i _ => 64 - (intOf i).toNat)
  case atStart => exact ⟨1, by simp [bv], by omega, by omega, hg3, hB2⟩
  case round =>
    obtain ⟨m, rfl, hm1, hm2, hcur, hB⟩ := hrel
    clear hg3
    by_cases hlt : m < 64
    · obtain ⟨cur, hc1, hc2, hc3⟩ := hcur.out
      have hC3 := Lib.hid hc3
      have hC2 := Lib.hid hc2
      clear hc2 hc3 hcur
      have f1 : (m : Int) ≤ 64 := by omega
      have f2 : ¬ (64 = m) := by omega
      obtain ⟨n1, hn1, hn2, hn3, hn4⟩ : ∃ n1, n1 = Nat.min m (64 - m) ∧ 1 ≤ n1 ∧ n1 ≤ 64 - m ∧ n1 ≤ m := ⟨_, rfl, by simp only [Nat.min_def]; split <;> omega, by simp only [Nat.min_def]; split <;> omega, by simp only [Nat.min_def]; split <;> omega⟩
      obtain ⟨w5, h5, h6, h7⟩ : ∃ w5, (Builtin.copy_ #[41, 41] 3 #[.slice (some ⟨w.heap.size, m, none⟩) (64 - m) (64 - m), .slice (some ⟨w.heap.size, 0, none⟩) m 64]).run Tryd.prog wr.drew = .ok (.int .i64 (n1 : Int)) w5 ∧
          Hid (∃ cur2 : List Value, w5.heap[w.heap.size]? = some (.cells cur2.toArray 5 (0, 0)) ∧ cur2.length = cs.size ∧ cur2.take (m + n1) = bv (List.replicate (m + n1) x)) ∧ Below w.heap.size w w5 := by
        have hl3 := hC3.out
        have hl2 := hC2.out
        have hr := run_copy_row (P := Tryd.prog) wr.drew 41 41 3 5 w.heap.size m (64 - m) (64 - m) ⟨w.heap.size, 0, none⟩ m 64 cur.toArray 5 (bv (List.replicate n1 x)) Tryd.underlying41 size5 hc1 (by rw [bv_length, List.length_replicate, hn1]) (fun j v hj => by
          have hjl := (List.getElem?_eq_some_iff.1 hj).1
          rw [bv_length, List.length_replicate] at hjl
          rw [add_plain]
          show wr.cell? _ = _
          rw [cell_of_row _ _ _ _ _ _ hc1]
          have e : cur[j]? = (cur.take m)[j]? := by rw [List.getElem?_take, if_pos (by omega)]
          rw [List.getElem?_toArray, e, hl3, ← hj]
          simp only [bv, List.map_replicate, List.getElem?_replicate]
          rw [if_pos (by omega), if_pos (by omega)]) (by simp [bv]; omega) (bv_one _)
        rw [bv_length, List.length_replicate] at hr
        refine ⟨_, hr, ⟨_, setRow_heap wr.drew w.heap.size _ _ 5 _ hc1, ?_, ?_⟩, below_setRow hB.drew (Nat.le_refl _) _⟩
        · simp [bv]; omega
        · rw [hl3]
          have e : bv (List.replicate m x) ++ bv (List.replicate n1 x) = bv (List.replicate (m + n1) x) := by rw [← bv_append, List.replicate_append_replicate]
          rw [e]
          exact List.take_left' (by rw [bv_length, List.length_replicate])
      have hN := Lib.hid hn1
      clear hc1 hn1
      go_wp2
      go_region
      all_goals go_wp2
      go_roundw
      case rel => exact ⟨m + n1, by simp, by omega, by omega, h6, h7⟩
      case measure => simp [intOf]; omega
    · obtain rfl : m = 64 := by omega
      go_wp2
      go_ret
      obtain ⟨cur, hc1, hc2, hc3⟩ := hcur.out
      exact ⟨w.heap.size, cur.drop 64, rfl, Nat.le_refl _, by rw [← hc3, List.take_append_drop]; exact hc1, hB⟩

/-- The key's bytes and zeros, sixty-four of them, each by exclusive or with x. -/
def padkey (key : List UInt8) (x : UInt8) : List UInt8 := (key ++ List.replicate (64 - key.length) 0).map (· ^^^ x)

/-- The pad when the first k bytes of the key are in. -/
def padk (key : List UInt8) (x : UInt8) (k : Nat) : List UInt8 := (key.take k).map (· ^^^ x) ++ List.replicate (64 - k) x
theorem padk_set (key : List UInt8) (x : UInt8) (k : Nat) (hk : k < key.length) (h64 : k < 64) (pad : List Value) (y : Int) (hy : ((key[k] ^^^ x).toNat : Int) = y) :
    (bv (padk key x k) ++ pad).toArray.setIfInBounds k (.int .u8 y) = (bv (padk key x (k + 1)) ++ pad).toArray := by
  subst hy
  have e1 : 64 - k = (64 - (k + 1)) + 1 := by omega
  have e2 : (bv ((key.take k).map (· ^^^ x))).length = k := by rw [bv_length, List.length_map, List.length_take]; omega
  have e3 : padk key x k = (key.take k).map (· ^^^ x) ++ x :: List.replicate (64 - (k + 1)) x := by unfold padk; rw [e1]; rfl
  have e4 : padk key x (k + 1) = (key.take k).map (· ^^^ x) ++ (key[k] ^^^ x) :: List.replicate (64 - (k + 1)) x := by
    unfold padk; rw [List.take_succ_eq_append_getElem hk, List.map_append, List.append_assoc]; rfl
  rw [e3, e4]
  simp only [bv_append, List.append_assoc, List.setIfInBounds_toArray]
  rw [List.set_append_right _ _ (by omega), e2, Nat.sub_self]
  rfl
theorem padk_at (key : List UInt8) (x : UInt8) (k : Nat) (hk : k < key.length) (h64 : k < 64) (pad : List Value) : (bv (padk key x k) ++ pad).toArray[k]? = some (.int .u8 (x.toNat : Int)) := by
  have e2 : (bv ((key.take k).map (· ^^^ x))).length = k := by rw [bv_length, List.length_map, List.length_take]; omega
  have e1 : 64 - k = (64 - (k + 1)) + 1 := by omega
  have e3 : padk key x k = (key.take k).map (· ^^^ x) ++ x :: List.replicate (64 - (k + 1)) x := by unfold padk; rw [e1]; rfl
  rw [e3, bv_append, List.append_assoc, List.getElem?_toArray, List.getElem?_append_right (by omega), e2, Nat.sub_self]
  rfl
theorem padk_end (key : List UInt8) (x : UInt8) (_h : key.length ≤ 64) : padk key x key.length = padkey key x := by
  unfold padk padkey
  simp
theorem padkey_length (key : List UInt8) (x : UInt8) (h : key.length ≤ 64) : (padkey key x).length = 64 := by
  unfold padkey
  simp
  omega

set_option maxHeartbeats 1000000 in
set_option maxRecDepth 100000 in
theorem pad_any (x : UInt8) (kb : Nat) (A : Option Addr) (n c : Nat) (key : List UInt8) (w : World) (hk : w.cell? ⟨kb, 0, none⟩ = some (.slice A n c)) (hr : Rd w A n key) (hn : n ≤ 64) :
    Calls Tryd.prog 60 #[.int .u8 (x.toNat : Int), .pointer (some ⟨kb, 0, none⟩)] w fun e w' => ∃ g pad, e = .returned (.slice (some ⟨g, 0, none⟩) 64 64) ∧ w.heap.size ≤ g ∧ w'.heap[g]? = some (.cells (bv (padkey key x) ++ pad).toArray 5 (0, 0)) ∧ Below w.heap.size w w' := by
  have hlen := hr.len
  go_enter Tryd.func60, Tryd.ntmps60
  go_wp2_with (go_at_call 61; go_must (refine (repeat_any x _ _ _ _ (cell_new0 _ _ _)).mono ?_); rintro e w1 ⟨g, pad, rfl, hg, hc, hB0⟩; have hB1 : Below w.heap.size w w1 := ((Below.refl _ w).alloc (Nat.le_refl _) _).trans (hB0.mono (by simp)); have hk1 : w1.cell? ⟨kb, 0, none⟩ = some (.slice A n c) := cell_kept hB1 hk; have hg1 : w.heap.size ≤ g := (by simp at hg; omega); clear hB0 hg)
  go_loopw [5, 6, 12] (fun _ _ i wr => ∃ k : Nat, k ≤ n ∧ i = .int .i64 k ∧ wr.heap[g]? = some (.cells (bv (padk key x k) ++ pad).toArray 5 (0, 0)) ∧ Below w.heap.size w wr)
    (fun _ _ i _ => n - (intOf i).toNat)
  case atStart => exact ⟨0, by omega, rfl, by simpa [padk] using hc, hB1⟩
  case round =>
    obtain ⟨k, hkn, rfl, hcur, hB⟩ := hrel
    clear hc hk1 hB1
    by_cases hlt : k < n
    · obtain ⟨b, off, rfl, hcell⟩ := (hr.below hB).at_ (by omega)
      have hck := hcell k (by omega)
      simp only [B] at hck
      have hgk : wr.cell? ⟨g, k, none⟩ = some (.int .u8 (x.toNat : Int)) := by rw [cell_of_row _ _ _ _ _ _ hcur]; exact padk_at key x k (by omega) (by omega) pad
      have hfk : wr.frozen? ⟨g, k, none⟩ = false := frozen_of_row _ _ _ _ _ hcur
      have hy : bits BinOp.xor IntKind.u8 (x.toNat : Int) ((key[k]'(by omega)).toNat : Int) = (((key[k]'(by omega)) ^^^ x).toNat : Int) := by
        rw [u8_xor_nat _ _ x.toNat_lt (key[k]'(by omega)).toNat_lt, Nat.xor_comm]
        simp
      obtain ⟨y, hyy⟩ : ∃ y : Nat, y = (key[k]'(by omega)).toNat := ⟨_, rfl⟩
      rw [← hyy] at hck hy
      have hY := Lib.hid hy
      clear hyy hy hcell hk hr
      have hnk : (k : Int) < 64 := by omega
      have hC := Lib.hid hcur
      clear hcur
      go_wp2
      go_roundw
      case rel =>
        refine ⟨k + 1, by omega, by simp, ?_, hB.setCell hg1 _⟩
        rw [heap_setCell_same _ _ _ _ _ _ hC.out, hY.out, padk_set key x k (by omega) (by omega) pad _ rfl]
      case measure => simp [intOf]; omega
    · obtain rfl : k = n := by omega
      go_wp2
      go_ret
      subst hlen
      exact ⟨g, pad, rfl, hg1, by rw [← padk_end key x hn]; exact hcur, hB⟩
end Go.Proofs.YtpgakdioaebikaaDoor
