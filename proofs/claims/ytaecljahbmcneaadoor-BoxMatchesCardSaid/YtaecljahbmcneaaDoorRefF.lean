/- The reference of chapter 02: Derive. -/
import Derived.Test.YtaecljahbmcneaaDoorRefE
namespace Go.Proofs.YtaecljahbmcneaaDoor
open Go.RowKit Go.Shelf

set_option maxHeartbeats 1000000 in
set_option maxRecDepth 100000 in
theorem rderive_any (A : Option Addr) (n c : Nat) (key : List UInt8) (label : ByteArray) (A2 : Option Addr) (n2 c2 : Nat) (ps : List (List UInt8)) (w : World) (hrk : Rd w A n key) (hr : RdL w A2 n2 ps) (hn : n ≤ 1073741824) (hl : label.size ≤ 900000) (h2 : n2 ≤ 4096) (h3 : ∀ p ∈ ps, p.length ≤ 65536) :
    Calls Tryd.prog 55 #[.slice A n c, .string label, .slice A2 n2 c2] w fun e w' => e = .returned (.agg (bv (derive key label.data.toList ps)).toArray) ∧ Below w.heap.size w w' := by
  obtain ⟨hlen, vs, hvl, hvc, hvr⟩ := hr
  have hB0 : Below w.heap.size w ((w.alloc (.cells (List.replicate 16 (Value.int .u8 0)).toArray 34)).alloc (.cells #[] 5)) := ((Below.refl _ w).alloc (Nat.le_refl _) _).alloc (by simp) _
  have HS := Lib.hid ((heap_alloc_old (w.alloc (.cells (List.replicate 16 (Value.int .u8 0)).toArray 34)) (.cells #[] 5) (by simp)).trans (heap_alloc_new w (.cells (List.replicate 16 (Value.int .u8 0)).toArray 34)))
  have own0 := own_new (w.alloc (.cells (List.replicate 16 (Value.int .u8 0)).toArray 34)) (w.heap.size + 1) 5 1 0 [] (by simp) rfl (by simp [maxLen])
  rw [World.size_alloc] at own0
  have hel := encBytes_le label.data.toList
  rw [size_bytes] at hel
  obtain ⟨pre, hpre0⟩ : ∃ pre, pre = encBytes label.data.toList := ⟨_, rfl⟩
  have hpl : pre.length ≤ 1000000 := by rw [hpre0]; omega
  have HPRE := Lib.hid hpre0
  clear hpre0
  have hml : (bv (mac key (pre ++ joined ps))).length = 16 := by rw [bv_length, mac_length]
  go_enter Tryd.func55, Tryd.ntmps55
  go_wp2_with (first
    | (go_at_call 44; go_must (refine (rbytes_any label _ (by omega)).mono ?_); rintro e w1 ⟨A1, c1, rfl, hown1, hB1⟩; rw [← HPRE.out] at hown1 ⊢; have own0' := own_below own0 hB1; have hz1 := hB1.size; simp at hz1)
    | (at_builtin; go_must (refine wpList_app rfl _ _ 48 rfl (w.heap.size + 1) 5 1 1 _ Tryd.underlying48 info5 rfl (by decide) (by decide) _ _ _ (bv pre) _ _ _ own0' (own_cells hown1) rfl rfl (by rw [bv_length]; simp) (bv_one _) (by omega) (by omega) ?_); intro A3 c3 w3 own3 hg3 hat3; simp only [Nat.zero_add, List.nil_append] at own3))
  have hBS := (hB0.trans (hB1.mono hB0.size)).grown hg3 (by omega) (fun k e => by have := own_ge own0' k e; omega)
  have HSS := Lib.hid (block_kept (block_below HS.out hB1) hg3 (fun e => by have := own_ge own0' _ e.symm; omega))
  have ownS := own3
  clear own3 hg3 hat3 own0' hown1 hB1 own0 HS hB0 hz1
  go_loopw [7, 8] (fun v i wr => ∃ (k : Nat) (A1 : Option Addr) (c1 : Nat), k ≤ n2 ∧ i = .int .i64 k ∧ v = .slice A1 (pre ++ joined (ps.take k)).length c1 ∧ wr.ownsRow (w.heap.size + 1) 5 1 (.slice A1 (pre ++ joined (ps.take k)).length c1) (pre ++ joined (ps.take k)).length (bv (pre ++ joined (ps.take k))) ∧
      wr.heap[w.heap.size]? = some (.cells (List.replicate 16 (Value.int .u8 0)).toArray 34 (0, 0)) ∧ Below w.heap.size w wr)
    (fun _ i _ => n2 - (intOf i).toNat)
  case atStart => exact ⟨0, A3, c3, by omega, rfl, by simp [joined], by simpa [joined] using ownS, HSS.out, hBS⟩
  case round =>
    clear ownS HSS hBS
    obtain ⟨k, A1, c1, hk, rfl, rfl, hown1, hres, hB1⟩ := hrel
    have HRS := Lib.hid hres
    have hzr : w.heap.size < wr.heap.size := (Array.getElem?_eq_some_iff.1 hres).1
    clear hres
    by_cases hlt : k < n2
    · have hkp : k < ps.length := by omega
      obtain ⟨Ak, nk, ck, hvk, hrk⟩ := hvr k hkp
      have hrk := hrk.below hB1
      obtain ⟨b, off, rfl, hcell⟩ := (hvc.below hB1) (by omega)
      have hck := hcell k _ hvk
      have hnk := hrk.len
      have hpk := h3 ps[k] (List.getElem_mem _)
      have hpre : (pre ++ joined (ps.take k)).length ≤ 300000000 := by
        have := joined_le (ps.take k) 65536 (fun p hp => h3 p (List.mem_of_mem_take hp))
        rw [List.length_append]
        rw [List.length_take] at this
        have hm : min k ps.length ≤ 4096 := by omega
        have := Nat.le_trans this (Nat.mul_le_mul_right _ hm)
        omega
      obtain ⟨P, hP⟩ : ∃ P, P = pre ++ joined (ps.take k) := ⟨_, rfl⟩
      have hPn : P ++ encBytes ps[k] = pre ++ joined (ps.take (k + 1)) := by rw [hP, joined_snoc ps k hkp, List.append_assoc]
      rw [← hP] at hown1 hpre ⊢
      have HP := Lib.hid hPn
      obtain ⟨X, hX⟩ : ∃ X, X = ps[k] := ⟨_, rfl⟩
      rw [← hX] at hrk hnk hpk HP
      have hel := encBytes_le X
      clear hP hPn hX hcell hvk hvc hvr
      go_wp2_with (first
        | (refine wpList_str rfl _ 48 9 rfl Tryd.underlying48 Tryd.underlying5 Tryd.underlying9 hrk rfl ?_)
        | (go_at_call 44; go_must (refine (rbytes_any ⟨X.toArray⟩ _ (by show X.toArray.size ≤ _; simp; omega)).mono ?_); rintro e w1 ⟨A3, c3, rfl, hown3, hB3⟩)
        | (at_builtin; go_must (refine wpList_app rfl _ _ 48 rfl (w.heap.size + 1) 5 1 1 _ Tryd.underlying48 info5 rfl (by decide) (by decide) _ _ _ (bv (encBytes X)) _ _ _ (own_below hown1 hB3) (own_cells hown3) rfl rfl (by rw [bv_length]; simp) (bv_one _) (by have := hB3.size; omega) (by omega) ?_); intro A4 c4 w4 hown4 hg4 hat4))
      have e : P.length + (encBytes X).length = (pre ++ joined (ps.take (k + 1))).length := by rw [← HP.out, List.length_append]
      rw [e, ← bv_append, HP.out] at hown4
      go_roundw
      case rel => exact ⟨k + 1, A4, c4, by omega, by simp, by rw [e], hown4, block_kept (block_below HRS.out hB3) hg4 (fun e => by have := own_ge hown1 _ e.symm; omega), (hB1.trans (hB3.mono hB1.size)).grown hg4 (by have := hB1.size; have := hB3.size; omega) (fun k e => by have := own_ge hown1 k e; omega)⟩
      case measure => simp [intOf]; omega
    · obtain rfl : k = n2 := by omega
      have e : ps.take k = ps := List.take_of_length_le (by omega)
      rw [e] at hown1 ⊢
      have hjl : (pre ++ joined ps).length ≤ 300000000 := by
        have := joined_le ps 65536 h3
        have := Nat.le_trans this (Nat.mul_le_mul_right _ (show ps.length ≤ 4096 by omega))
        rw [List.length_append]
        omega
      clear e
      have hrk2 := hrk.below hB1
      go_wp2_with (first
        | (go_at_call 63; go_must (refine (rmac_any _ _ _ key _ _ _ (pre ++ joined ps) _ hrk2 ⟨by simp, own_cells hown1⟩ hn (by rw [List.length_append] at hjl; omega)).mono ?_); rintro e w3 ⟨rfl, hB3⟩; have hBw3 := hB1.trans (hB3.mono hB1.size); have HS3 := Lib.hid (block_below HRS.out hB3))
        | (refine wpList_storeB rfl 34 (.tmp 6) (.tmp 29) rfl size32 HS3.out (bv_one (mac key (pre ++ joined ps))) hml (by rfl) rfl rfl ?_; intro w4 h4 hg4 hz4))
      refine ret_agg rfl Tryd.underlying34 size32 rfl h4 hml rfl rfl ?_
      exact ⟨by unfold derive; rw [← HPRE.out], hBw3.grown hg4 hBw3.size (fun k e => by cases e; omega)⟩
end Go.Proofs.YtaecljahbmcneaaDoor
