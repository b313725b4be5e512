/- The reference of chapter 02: Same, Short. -/
import Derived.Test.YtghkdkobclhbcaaDoorRefC
namespace Go.Proofs.YtghkdkobclhbcaaDoor
open Go.RowKit Go.Shelf

theorem ret_bool {a b : Bool} (h : a = b) : Ending.returned (.bool a) = .returned (.bool b) := by rw [h]
set_option maxRecDepth 100000 in
theorem same_any (A : Option Addr) (n c : Nat) (xs : List UInt8) (A2 : Option Addr) (n2 c2 : Nat) (ys : List UInt8) (w : World) (hr : Rd w A n xs) (hr2 : Rd w A2 n2 ys) :
    Calls Tryd.prog 11 #[.slice A n c, .slice A2 n2 c2] w fun e w' => e = .returned (.bool (decide (xs = ys))) ∧ w = w' := by
  go_enter Tryd.func11, Tryd.ntmps11
  go_wp2_with (first
    | (refine wpList_str rfl (.tmp 5) 22 9 rfl Tryd.underlying22 Tryd.underlying5 Tryd.underlying9 hr rfl ?_)
    | (refine wpList_str rfl (.tmp 7) 22 9 rfl Tryd.underlying22 Tryd.underlying5 Tryd.underlying9 hr2 rfl ?_))
  go_ret
  refine ⟨ret_bool ?_, rfl⟩
  rw [Bool.eq_iff_iff]
  simp

/-- At most twenty parts of at most three hundred bytes. -/
def shortB (ps : List (List UInt8)) : Bool := decide (ps.length ≤ 20) && ps.all fun p => decide (p.length ≤ 300)
theorem shortB_parts {ps : List (List UInt8)} (h : shortB ps = true) : ps.length ≤ 20 ∧ ∀ p ∈ ps, p.length ≤ 300 := by
  simpa [shortB] using h

set_option maxHeartbeats 1000000 in
set_option maxRecDepth 100000 in
theorem isShort_any (A : Option Addr) (n c : Nat) (ps : List (List UInt8)) (w : World) (hr : RdL w A n ps) (hm : n ≤ maxLen) :
    Calls Tryd.prog 19 #[.slice A n c] w fun e w' => e = .returned (.bool (shortB ps)) ∧ w = w' := by
  obtain ⟨hlen, vs, hvl, hvc, hvr⟩ := hr
  subst hlen
  unfold maxLen at hm
  by_cases h20 : ps.length ≤ 20
  · have hi20 : ¬ ((20 : Int) < (ps.length : Int)) := by omega
    go_enter Tryd.func19, Tryd.ntmps19
    go_wp2
    go_loopw [3] (fun i wr => ∃ k : Nat, k ≤ ps.length ∧ i = .int .i64 k ∧ ((ps.take k).all fun p => decide (p.length ≤ 300)) = true ∧ w = wr) (fun i _ => ps.length - (intOf i).toNat)
    case atStart => exact ⟨0, by omega, rfl, by simp, rfl⟩
    case round =>
      obtain ⟨k, hk, rfl, hall, rfl⟩ := hrel
      have HALL := Lib.hid hall
      clear hall
      by_cases hlt : k < ps.length
      · obtain ⟨Ak, nk, ck, hvk, hrk⟩ := hvr k hlt
        obtain ⟨b, off, rfl, hcell⟩ := hvc (by omega)
        have hck := hcell k _ hvk
        have hnk := Lib.hid hrk.len
        clear hcell hvk hrk
        have hs : (ps.take (k + 1)).all (fun p => decide (p.length ≤ 300)) = ((ps.take k).all (fun p => decide (p.length ≤ 300)) && decide (ps[k].length ≤ 300)) := by
          rw [List.take_succ_eq_append_getElem hlt, List.all_append]; simp
        have HS := Lib.hid hs
        clear hs
        by_cases h300 : nk ≤ 300
        · have h3 : ¬ ((300 : Int) < (nk : Int)) := by omega
          go_wp2
          go_roundw
          case rel => exact ⟨k + 1, by omega, by simp, by rw [HS.out, HALL.out, hnk.out]; simpa using h300, trivial⟩
          case measure => simp [intOf]; omega
        · have h3 : ((300 : Int) < (nk : Int)) := by omega
          go_wp2
          go_ret
          refine ⟨ret_bool ?_, rfl⟩
          have hm : ps[k] ∈ ps := List.getElem_mem _
          have : ¬ (ps[k].length ≤ 300) := by rw [hnk.out]; omega
          symm
          simp only [shortB, Bool.and_eq_false_iff, List.all_eq_false, decide_eq_true_eq]
          exact .inr ⟨ps[k], hm, this⟩
      · obtain rfl : k = ps.length := by omega
        go_wp2
        go_ret
        refine ⟨ret_bool ?_, rfl⟩
        have h := HALL.out
        rw [List.take_length] at h
        simp [shortB, h20] at h ⊢
        exact h
  · have hi20 : ((20 : Int) < (ps.length : Int)) := by omega
    go_enter Tryd.func19, Tryd.ntmps19
    go_wp2
    go_ret
    exact ⟨ret_bool (by simp [shortB, h20]), rfl⟩
end Go.Proofs.YtghkdkobclhbcaaDoor
