/- The statements of chapter 02 that do not compare with the reference: sanity, long keys, tags. -/
import Derived.Test.YtghkdkobclhbcaaDoorRefC
import Derived.Test.YtghkdkobclhbcaaDoorShaH
import Derived.Test.YtghkdkobclhbcaaDoorEq
import Derived.Lib.SlBytesConst
import Derived.Lib.AppendZeros
namespace Go.Proofs.YtghkdkobclhbcaaDoor
open Go.RowKit Go.Shelf

theorem sn0 : (bv (sha []))[0]? = some (.int .u8 227) := by kernel_rfl
theorem sn1 : (bv (sha []))[1]? = some (.int .u8 176) := by kernel_rfl
theorem sn2 : (bv (sha []))[2]? = some (.int .u8 196) := by kernel_rfl
theorem sn3 : (bv (sha []))[3]? = some (.int .u8 66) := by kernel_rfl
theorem sa0 : (bv (sha [97, 98, 99]))[0]? = some (.int .u8 186) := by kernel_rfl
theorem sa1 : (bv (sha [97, 98, 99]))[1]? = some (.int .u8 120) := by kernel_rfl
theorem sa2 : (bv (sha [97, 98, 99]))[2]? = some (.int .u8 22) := by kernel_rfl
theorem sa3 : (bv (sha [97, 98, 99]))[3]? = some (.int .u8 191) := by kernel_rfl
theorem cell_at {w : World} {g j : Nat} {cs : List Value} {t : TypeId} {f : Nat × Nat} {v : Value} (h : w.heap[g]? = some (.cells cs.toArray t f)) (hj : cs[j]? = some v) : w.cell? ⟨g, j, none⟩ = some v := by
  rw [cell_of_row _ _ _ _ _ _ h, List.getElem?_toArray, hj]

set_option maxHeartbeats 1000000 in
set_option maxRecDepth 100000 in
theorem sanity_any (w : World) (hL : Laid w) :
    Calls Tryd.prog 9 #[] w fun e w' => e = .returned (.bool true) ∧ Below w.heap.size w w' := by
  have kc := fun (w : World) (C : Array Value) (n c : Nat) => Lib.run_convert_bytes_const (P := Tryd.prog) w 22 5 C n c Tryd.underlying22 Tryd.underlying5
  go_enter Tryd.func9, Tryd.ntmps9
  go_wp2_with (first
    | (go_at_call_of 13 (Value.slice none 0 0); go_must (refine (sum_any _ _ _ [] _ (Rd.nil _ _) (by omega) hL).mono ?_); rintro e w1 ⟨rfl, hB1⟩)
    | (refine wpList_storeB rfl 27 (.tmp 1) (.tmp 3) rfl size27 (heap_alloc_new w1 _) (bv_one (sha [])) (by rw [bv_length, sha_length]) (by rfl) rfl rfl ?_; intro w2 h2 hg2 hz2;
       have hB2 := hB1.trans ((below_put hg2).mono hB1.size); have h2' := Lib.hid h2; clear h2 hg2 hz2;
       have hB3 := hB2.alloc hB2.size (.cells (bv [97, 98, 99]).toArray 5 (3, 4)); have hr3 : Rd _ _ 3 [97, 98, 99] := rd_block (heap_alloc_new w2 (.cells (bv [97, 98, 99]).toArray 5 (3, 4))) rfl; have h3' := Lib.hid ((heap_alloc_old w2 (.cells (bv [97, 98, 99]).toArray 5 (3, 4)) (Array.getElem?_eq_some_iff.1 h2'.out).1).trans h2'.out))
    | (go_at_call 13; go_must (refine (sum_any _ _ _ [97, 98, 99] _ hr3 (by omega) (hL.below hB3)).mono ?_); rintro e w4 ⟨rfl, hB4⟩; have h4' := Lib.hid (block_below h3'.out hB4); have hB4' := hB3.trans (hB4.mono hB3.size))
    | (refine wpList_storeB rfl 27 (.tmp 2) (.tmp 6) rfl size27 (heap_alloc_new w4 _) (bv_one (sha [97, 98, 99])) (by rw [bv_length, sha_length]) (by rfl) rfl rfl ?_; intro w5 h5 hg5 hz5;
       have hB5 := hB4'.trans ((below_put hg5).mono hB4'.size); have k1 := kept_put hg5 h4'.out; clear hg5 hz5;
       have a0 := cell_at k1 sn0; have a1 := cell_at k1 sn1; have a2 := cell_at k1 sn2; have a3 := cell_at k1 sn3;
       have b0 := cell_at h5 sa0; have b1 := cell_at h5 sa1; have b2 := cell_at h5 sa2; have b3 := cell_at h5 sa3; clear h5 k1)
    | (go_at_call 10; go_must (refine (stream_any _ _ _ [] 40 _ (Rd.nil _ _) (by omega) (by omega) (hL.below hB5)).mono ?_); rintro e w6 ⟨A6, c6, rfl, hown6, hB6⟩; rw [stream_length]))
  go_ret
  exact ⟨rfl, hB5.trans (hB6.mono hB5.size)⟩

theorem tag_mod {a b : Int} (h : a % 256 = b % 256) (ps : List (List UInt8)) : digest a ps = digest b ps := by unfold digest tagByte; rw [h]
theorem digest_as (tt tag : Int) (A2 : Option Addr) (n2 c2 : Nat) (ps : List (List UInt8)) (w : World) (ht : tt % 256 = tag % 256) (hr : RdL w A2 n2 ps) (h2 : n2 ≤ 4096) (h3 : ∀ p ∈ ps, p.length ≤ 65536) (hL : Laid w) :
    Calls Tryd.prog 20 #[.int .i64 tt, .slice A2 n2 c2] w fun e w' => e = .returned (.agg (bv (digest tag ps)).toArray) ∧ Below w.heap.size w w' := by
  rw [← tag_mod ht]
  exact digest_any tt A2 n2 c2 ps w hr h2 h3 hL

set_option maxHeartbeats 1000000 in
set_option maxRecDepth 100000 in
theorem separatesTags_any (tag more : Int) (A : Option Addr) (n c : Nat) (ps : List (List UInt8)) (w : World) (_mt : (Lit.int .i64 tag).wf = true) (mm : (Lit.int .i8 more).wf = true) (hr : RdL w A n ps) (hm : n ≤ maxLen) (hL : Laid w) :
    Calls Tryd.prog 6 #[.int .i64 tag, .int .i8 more, .slice A n c] w fun e w' => e = .returned (.bool true) ∧ Below w.heap.size w w' := by
  have hb : -128 ≤ more ∧ more ≤ 127 := by simp [Lit.wf, IntKind.min, IntKind.max, IntKind.signed, IntKind.bits] at mm; omega
  have hb1 := hb.1
  have hb2 := hb.2
  clear hb mm
  have hgd := guard16
  have heq := fun W => run_eql16 W (digest tag ps) (digest tag ps) (digest_length tag ps) (digest_length tag ps)
  simp only [decide_true] at heq
  cases hs : shortB ps with
  | false =>
    have HS := Lib.hid hs
    clear hs
    go_enter Tryd.func6, Tryd.ntmps6
    go_wp2_with (first
      | (go_at_call 9; go_must (refine (sanity_any _ hL).mono ?_); rintro e w1 ⟨rfl, hB1⟩; have r1 := hr.below hB1)
      | (go_at_call 19; go_must (refine (isShort_any _ _ _ ps _ r1 hm).mono ?_); rintro e w2 ⟨rfl, rfl⟩; rw [HS.out]))
    go_ret
    exact ⟨rfl, hB1⟩
  | true =>
    obtain ⟨h20, h300⟩ := shortB_parts hs
    have hn := hr.len
    have h4096 : n ≤ 4096 := by omega
    have h65536 : ∀ p ∈ ps, p.length ≤ 65536 := fun p hp => Nat.le_trans (h300 p hp) (by omega)
    have H65 := Lib.hid h65536
    have HS := Lib.hid hs
    clear hs hn h300 h65536 h20
    go_enter Tryd.func6, Tryd.ntmps6
    go_wp2_with (first
      | (go_at_call 9; go_must (refine (sanity_any _ hL).mono ?_); rintro e w1 ⟨rfl, hB1⟩; have r1 := hr.below hB1; have hL1 := Lib.hid (hL.below hB1))
      | (go_at_call 19; go_must (refine (isShort_any _ _ _ ps _ r1 hm).mono ?_); rintro e w2 ⟨rfl, rfl⟩; rw [HS.out])
      | (go_at_call_of 20 (Value.int IntKind.i64 tag); go_must (refine (digest_as _ tag _ _ _ ps _ rfl r1 h4096 H65.out hL1.out).mono ?_); rintro e w3 ⟨rfl, hB3⟩; have r3 := r1.below hB3; have hL3 := Lib.hid (hL1.out.below hB3))
      | (go_at_call 20; go_must (refine (digest_as _ tag _ _ _ ps _ (by first | (rw [IntKind.wrap_i64]; omega) | omega | (unfold wrap64; omega)) r3 h4096 H65.out hL3.out).mono ?_); rintro e w4 ⟨rfl, hB4⟩))
    go_ret
    exact ⟨rfl, (hB1.trans (hB3.mono hB1.size)).trans (hB4.mono (Nat.le_trans hB1.size hB3.size))⟩
end Go.Proofs.YtghkdkobclhbcaaDoor
