/- sha.Digest. -/
import Derived.Test.YtpgakdioaebikaaDoorShaG
namespace Go.Proofs.YtpgakdioaebikaaDoor
open Go.RowKit Go.Shelf

def tagByte (tag : Int) : UInt8 := UInt8.ofNat (tag % 256).toNat
def digest (tag : Int) (ps : List (List UInt8)) : List UInt8 := (sha ([tagByte tag] ++ joined ps)).take 16
theorem tagByte_val (tag : Int) : ((tagByte tag).toNat : Int) = tag % 256 := by
  unfold tagByte
  have h1 := Int.emod_nonneg tag (show (256 : Int) ≠ 0 by decide)
  have h2 := Int.emod_lt_of_pos tag (show (0 : Int) < 256 by decide)
  simp only [UInt8.toNat_ofNat']
  omega
theorem digest_length (tag : Int) (ps : List (List UInt8)) : (digest tag ps).length = 16 := by unfold digest; rw [List.length_take, sha_length]; rfl

set_option maxHeartbeats 1000000 in
set_option maxRecDepth 100000 in
theorem digest_any (tag : Int) (A2 : Option Addr) (n2 c2 : Nat) (ps : List (List UInt8)) (w : World) (hr : RdL w A2 n2 ps) (h2 : n2 ≤ 4096) (h3 : ∀ p ∈ ps, p.length ≤ 65536) (hL : Laid w) :
    Calls Tryd.prog 20 #[.int .i64 tag, .slice A2 n2 c2] w fun e w' => e = .returned (.agg (bv (digest tag ps)).toArray) ∧ Below w.heap.size w w' := by
  have hB0 : Below w.heap.size w (w.alloc (.cells (List.replicate 16 (Value.int .u8 0)).toArray 23)) := (Below.refl _ w).alloc (Nat.le_refl _) _
  have HS := Lib.hid (heap_alloc_new w (.cells (List.replicate 16 (Value.int .u8 0)).toArray 23))
  have hml : (bv ((sha ([tagByte tag] ++ joined ps)).take 16)).length = 16 := by rw [bv_length, List.length_take, sha_length]; rfl
  have htg := tagByte_val tag
  have hown0 : ((w.alloc (.cells (List.replicate 16 (Value.int .u8 0)).toArray 23)).alloc (.cells #[.int .u8 (tag % 256)] 5)).ownsRow (w.alloc (.cells (List.replicate 16 (Value.int .u8 0)).toArray 23)).heap.size 5 1 (.slice (some ⟨w.heap.size + 1, 0, none⟩) [tagByte tag].length 1) [tagByte tag].length (bv [tagByte tag]) := by
    have h := own_new (w.alloc (.cells (List.replicate 16 (Value.int .u8 0)).toArray 23)) (w.alloc (.cells (List.replicate 16 (Value.int .u8 0)).toArray 23)).heap.size 5 1 1 (bv [tagByte tag]) (Nat.le_refl _) (by simp [bv]) (by simp [maxLen])
    have e : bv [tagByte tag] = [.int .u8 (tag % 256)] := by simp [bv, B, htg]
    rw [e] at h ⊢
    simpa using h
  have hb1 := joined_le ps 65536 h3
  have hpl := hr.len
  have hjl : ([tagByte tag] ++ joined ps).length ≤ 300000000 := by
    have := Nat.le_trans hb1 (Nat.mul_le_mul_right _ (show ps.length ≤ 4096 by omega))
    rw [List.length_append]
    simp only [List.length_cons, List.length_nil]
    omega
  go_enter Tryd.func20, Tryd.ntmps20
  go_wp2_with (first
    | (go_at_call 34; go_must (refine (join_any _ _ _ [tagByte tag] _ _ _ ps _ _ hown0 rfl (hr.below hB0) ((Below.refl _ _).alloc (Nat.le_refl _) _) (by simp) h2 h3).mono ?_); rintro e w1 ⟨A1, c1, rfl, hown1, hB1⟩;
       have hBw1 := hB0.trans (hB1.mono hB0.size); have HS1 := Lib.hid (block_below HS.out hB1))
    | (go_at_call 33; go_must (refine (sum_any _ _ _ _ _ ⟨rfl, own_cells hown1⟩ (by omega) (hL.below hBw1)).mono ?_); rintro e w2 ⟨rfl, hB2⟩; have hBw2 := hBw1.trans (hB2.mono hBw1.size); have HS2 := Lib.hid (block_below HS1.out hB2))
    | (go_at_call 32; go_must (refine (short_any _ _ (sha_length _)).mono ?_); rintro e w3 ⟨rfl, hB3⟩; have hBw3 := hBw2.trans (hB3.mono hBw2.size); have HS3 := Lib.hid (block_below HS2.out hB3))
    | (refine wpList_storeB rfl 23 (.tmp 4) (.tmp 11) rfl size32 HS3.out (bv_one ((sha ([tagByte tag] ++ joined ps)).take 16)) hml (by rfl) rfl rfl ?_; intro w4 h4 hg4 hz4))
  refine ret_agg rfl Tryd.underlying23 size32 rfl h4 hml rfl rfl ?_
  exact ⟨by unfold digest; rfl, hBw3.grown hg4 hBw3.size (fun k e => by cases e; omega)⟩
end Go.Proofs.YtpgakdioaebikaaDoor
