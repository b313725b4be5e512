/- The reference of chapter 02: Digest. -/
import Derived.Test.YtghkdkobclhbcaaDoorRefE
import Derived.Test.YtghkdkobclhbcaaDoorShaI
namespace Go.Proofs.YtghkdkobclhbcaaDoor
open Go.RowKit Go.Shelf

set_option maxHeartbeats 1000000 in
set_option maxRecDepth 100000 in
theorem rdigest_any (tag : Int) (A2 : Option Addr) (n2 c2 : Nat) (ps : List (List UInt8)) (w : World) (hr : RdL w A2 n2 ps) (h2 : n2 ≤ 4096) (h3 : ∀ p ∈ ps, p.length ≤ 65536) :
    Calls Tryd.prog 21 #[.int .i64 tag, .slice A2 n2 c2] w fun e w' => e = .returned (.agg (bv (digest tag ps)).toArray) ∧ Below w.heap.size w w' := by
  obtain ⟨hlen, vs, hvl, hvc, hvr⟩ := hr
  have htg := tagByte_val tag
  have hBS : Below w.heap.size w ((w.alloc (.cells (List.replicate 16 (Value.int .u8 0)).toArray 32)).alloc (.cells #[.int .u8 (tag % 256)] 5)) := ((Below.refl _ w).alloc (Nat.le_refl _) _).alloc (by simp) _
  have HSS := Lib.hid ((heap_alloc_old (w.alloc (.cells (List.replicate 16 (Value.int .u8 0)).toArray 32)) (.cells #[.int .u8 (tag % 256)] 5) (by simp)).trans (heap_alloc_new w (.cells (List.replicate 16 (Value.int .u8 0)).toArray 32)))
  obtain ⟨pre, hpre0⟩ : ∃ pre, pre = [tagByte tag] := ⟨_, rfl⟩
  have hpl : pre.length = 1 := by rw [hpre0]; rfl
  have ownS : ((w.alloc (.cells (List.replicate 16 (Value.int .u8 0)).toArray 32)).alloc (.cells #[.int .u8 (tag % 256)] 5)).ownsRow (w.heap.size + 1) 5 1 (.slice (some ⟨w.heap.size + 1, 0, none⟩) pre.length 1) pre.length (bv pre) := by
    have h := own_new (w.alloc (.cells (List.replicate 16 (Value.int .u8 0)).toArray 32)) (w.heap.size + 1) 5 1 1 (bv [tagByte tag]) (by simp) (by simp [bv]) (by simp [maxLen])
    have e : bv [tagByte tag] = [.int .u8 (tag % 256)] := by simp [bv, B, htg]
    rw [hpre0]
    rw [e] at h ⊢
    simpa using h
  have HPRE := Lib.hid hpre0
  have HPL := Lib.hid hpl
  clear hpre0 hpl htg
  have hpl : pre.length ≤ 1 := by have := HPL.out; omega
  have hml : (bv ((sha (pre ++ joined ps)).take 16)).length = 16 := by rw [bv_length, List.length_take, sha_length]; rfl
  go_enter Tryd.func21, Tryd.ntmps21
  go_wp2
  go_loopw [5, 6] (fun v i wr => ∃ (k : Nat) (A1 : Option Addr) (c1 : Nat), k ≤ n2 ∧ i = .int .i64 k ∧ v = .slice A1 (pre ++ joined (ps.take k)).length c1 ∧ wr.ownsRow (w.heap.size + 1) 5 1 (.slice A1 (pre ++ joined (ps.take k)).length c1) (pre ++ joined (ps.take k)).length (bv (pre ++ joined (ps.take k))) ∧
      wr.heap[w.heap.size]? = some (.cells (List.replicate 16 (Value.int .u8 0)).toArray 32 (0, 0)) ∧ Below w.heap.size w wr)
    (fun _ i _ => n2 - (intOf i).toNat)
  case atStart => exact ⟨0, some ⟨w.heap.size + 1, 0, none⟩, 1, by omega, rfl, by simp [joined, HPL.out], by simpa [joined, HPL.out] using ownS, HSS.out, hBS⟩
  case round =>
    clear ownS HSS hBS
    obtain ⟨k, A1, c1, hk, rfl, rfl, hown1, hres, hB1⟩ := hrel
    have HRS := Lib.hid hres
    have hzr : w.heap.size < wr.heap.size := (Array.getElem?_eq_some_iff.1 hres).1
    clear hres
    by_cases hlt : k < n2
    · have hkp : k < ps.length := by omega
      obtain ⟨Ak, nk, ck, hvk, hrk⟩ := hvr k hkp
      have hrk := hrk.below hB1
      obtain ⟨b, off, rfl, hcell⟩ := (hvc.below hB1) (by omega)
      have hck := hcell k _ hvk
      have hnk := hrk.len
      have hpk := h3 ps[k] (List.getElem_mem _)
      have hpre : (pre ++ joined (ps.take k)).length ≤ 300000000 := by
        have := joined_le (ps.take k) 65536 (fun p hp => h3 p (List.mem_of_mem_take hp))
        rw [List.length_append]
        rw [List.length_take] at this
        have hm : min k ps.length ≤ 4096 := by omega
        have := Nat.le_trans this (Nat.mul_le_mul_right _ hm)
        omega
      obtain ⟨P, hP⟩ : ∃ P, P = pre ++ joined (ps.take k) := ⟨_, rfl⟩
      have hPn : P ++ encBytes ps[k] = pre ++ joined (ps.take (k + 1)) := by rw [hP, joined_snoc ps k hkp, List.append_assoc]
      rw [← hP] at hown1 hpre ⊢
      have HP := Lib.hid hPn
      obtain ⟨X, hX⟩ : ∃ X, X = ps[k] := ⟨_, rfl⟩
      rw [← hX] at hrk hnk hpk HP
      have hel := encBytes_le X
      clear hP hPn hX hcell hvk hvc hvr
      go_wp2_with (first
        | (refine wpList_str rfl _ 22 9 rfl Tryd.underlying22 Tryd.underlying5 Tryd.underlying9 hrk rfl ?_)
        | (go_at_call 38; go_must (refine (rbytes_any ⟨X.toArray⟩ _ (by show X.toArray.size ≤ _; simp; omega)).mono ?_); rintro e w1 ⟨A3, c3, rfl, hown3, hB3⟩)
        | (at_builtin; go_must (refine wpList_app rfl _ _ 22 rfl (w.heap.size + 1) 5 1 1 _ Tryd.underlying22 info5 rfl (by decide) (by decide) _ _ _ (bv (encBytes X)) _ _ _ (own_below hown1 hB3) (own_cells hown3) rfl rfl (by rw [bv_length]; simp) (bv_one _) (by have := hB3.size; omega) (by omega) ?_); intro A4 c4 w4 hown4 hg4 hat4))
      have e : P.length + (encBytes X).length = (pre ++ joined (ps.take (k + 1))).length := by rw [← HP.out, List.length_append]
      rw [e, ← bv_append, HP.out] at hown4
      go_roundw
      case rel => exact ⟨k + 1, A4, c4, by omega, by simp, by rw [e], hown4, block_kept (block_below HRS.out hB3) hg4 (fun e => by have := own_ge hown1 _ e.symm; omega), (hB1.trans (hB3.mono hB1.size)).grown hg4 (by have := hB1.size; have := hB3.size; omega) (fun k e => by have := own_ge hown1 k e; omega)⟩
      case measure => simp [intOf]; omega
    · obtain rfl : k = n2 := by omega
      have e : ps.take k = ps := List.take_of_length_le (by omega)
      rw [e] at hown1 ⊢
      have hjl : (pre ++ joined ps).length ≤ 300000000 := by
        have := joined_le ps 65536 h3
        have := Nat.le_trans this (Nat.mul_le_mul_right _ (show ps.length ≤ 4096 by omega))
        rw [List.length_append]
        omega
      clear e
      go_wp2_with (first
        | (go_at_call 15; go_must (refine (rsum_any _ _ _ (pre ++ joined ps) _ ⟨by simp, own_cells hown1⟩ (by rw [List.length_append] at hjl; omega)).mono ?_); rintro e w2 ⟨rfl, hB2⟩; have hBw2 := hB1.trans (hB2.mono hB1.size); have HS2 := Lib.hid (block_below HRS.out hB2))
        | (go_at_call 36; go_must (refine (rshort_any _ _ (sha_length _)).mono ?_); rintro e w3 ⟨rfl, hB3⟩; have hBw3 := hBw2.trans (hB3.mono hBw2.size); have HS3 := Lib.hid (block_below HS2.out hB3))
        | (refine wpList_storeB rfl 32 (.tmp 4) (.tmp 26) rfl size32 HS3.out (bv_one ((sha (pre ++ joined ps)).take 16)) hml (by rfl) rfl rfl ?_; intro w4 h4 hg4 hz4))
      refine ret_agg rfl Tryd.underlying32 size32 rfl h4 hml rfl rfl ?_
      exact ⟨by unfold digest; rw [← HPRE.out], hBw3.grown hg4 hBw3.size (fun k e => by cases e; omega)⟩
end Go.Proofs.YtghkdkobclhbcaaDoor
