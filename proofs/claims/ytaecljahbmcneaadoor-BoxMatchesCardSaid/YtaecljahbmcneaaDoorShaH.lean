/- sha.Stream. -/
import Derived.Test.YtaecljahbmcneaaDoorShaG
namespace Go.Proofs.YtaecljahbmcneaaDoor
open Go.RowKit Go.Shelf

def blocks (key : List UInt8) : Nat → List UInt8
  | 0 => []
  | k + 1 => blocks key k ++ hmac key (encInt k)
def stream (key : List UInt8) (n : Nat) : List UInt8 := (blocks key ((n + 31) / 32)).take n
theorem blocks_length (key : List UInt8) (k : Nat) : (blocks key k).length = 32 * k := by
  induction k with
  | zero => rfl
  | succ k ih => rw [blocks, List.length_append, ih, hmac_length]; omega
theorem stream_length (key : List UInt8) (n : Nat) : (stream key n).length = n := by
  unfold stream
  rw [List.length_take, blocks_length]
  omega
theorem blocks_take (key : List UInt8) (k n : Nat) (h : 32 * k < n) (j : Nat) (hj : j = min 32 (n - 32 * k)) : (blocks key (k + 1)).take n = blocks key k ++ (hmac key (encInt k)).take j := by
  rw [blocks, List.take_append, blocks_length]
  rw [List.take_of_length_le (by rw [blocks_length]; omega)]
  congr 1
  by_cases h2 : n - 32 * k ≤ 32
  · rw [hj, Nat.min_eq_right h2]
  · rw [hj, Nat.min_eq_left (by omega), List.take_of_length_le (by rw [hmac_length]; omega), List.take_of_length_le (by rw [hmac_length]; omega)]

theorem rd_take {w : World} {g n j : Nat} {cs : List UInt8} {t : TypeId} {f : Nat × Nat} (h : w.heap[g]? = some (.cells (bv cs).toArray t f)) (hn : cs.length = n) (hj : j ≤ n) : Rd w (some ⟨g, 0, none⟩) j (cs.take j) := by
  refine ⟨by rw [List.length_take]; omega, cells_of_block (pad := bv (cs.drop j)) (t := t) (fr := f) ?_⟩
  rw [← bv_append, List.take_append_drop]
  exact h

set_option maxHeartbeats 1000000 in
set_option maxRecDepth 100000 in
theorem stream_any (A : Option Addr) (m c : Nat) (key : List UInt8) (n : Int) (w : World) (hr : Rd w A m key) (hm : m ≤ 1073741824) (hn : n ≤ 1073741824) (hL : Laid w) :
    Calls Tryd.prog 62 #[.slice A m c, .int .i64 n] w fun e w' => ∃ A1 c1, e = .returned (.slice A1 (stream key n.toNat).length c1) ∧ w'.ownsRow w.heap.size 5 1 (.slice A1 (stream key n.toNat).length c1) (stream key n.toNat).length (bv (stream key n.toNat)) ∧ Below w.heap.size w w' := by
  go_enter Tryd.func62, Tryd.ntmps62
  go_wp2
  go_loopw [5, 6] (fun v i wr => ∃ (k : Nat) (A1 : Option Addr) (c1 : Nat) (out : List UInt8), i = .int .i64 k ∧ v = .slice A1 out.length c1 ∧ Hid (out = (blocks key k).take n.toNat) ∧ (32 * k < n.toNat + 32) ∧ (out.length = min (32 * k) n.toNat) ∧ wr.ownsRow w.heap.size 5 1 (.slice A1 out.length c1) out.length (bv out) ∧ Below w.heap.size w wr)
    (fun v _ _ => n.toNat - lenOf v)
  case atStart => exact ⟨0, none, 0, [], rfl, rfl, Lib.hid (by simp [blocks]), by omega, by simp, World.ownsRow_nil _ _ _ _, Below.refl _ _⟩
  case round =>
    obtain ⟨k, A1, c1, out, rfl, rfl, hO, hk, hol, hown1, hB1⟩ := hrel
    by_cases hlt : 32 * k < n.toNat
    · have hol2 : out.length = 32 * k := by omega
      have hn0 : (n.toNat : Int) = n := by omega
      obtain ⟨j, hj⟩ : ∃ j, j = min 32 (n.toNat - 32 * k) := ⟨_, rfl⟩
      have hlt2 : (out.length : Int) < n := by omega
      have HOL := Lib.hid hol2
      have HJ := Lib.hid hj
      have hcase : ((32 : Int) ≤ n - (out.length : Int) ∧ j = 32) ∨ (¬ ((32 : Int) ≤ n - (out.length : Int)) ∧ n - (out.length : Int) = (j : Int)) := by omega
      have hj32 : j ≤ 32 := by omega
      have hj32i : (j : Int) ≤ 32 := by omega
      have hbt := blocks_take key k n.toNat hlt j hj
      have hol3 : out.length ≤ 1073741824 := by omega
      have HBT := Lib.hid hbt
      clear hol hol2 hj hbt
      have hr1 := hr.below hB1
      have hL1 := Lib.hid (hL.below hB1)
      have hup : w.heap.size ≤ wr.heap.size := hB1.size
      obtain ⟨D, hD⟩ : ∃ D, D = hmac key (encInt k) := ⟨_, rfl⟩
      have hDl : D.length = 32 := by rw [hD, hmac_length]
      have HD := Lib.hid hD
      rw [← hD] at HBT
      clear hD
      rcases hcase with ⟨hc, rfl⟩ | ⟨hc, hnj⟩
      all_goals
        go_wp2_with (first
          | (go_at_call 28; go_must (refine (int_any _ _ (by omega) (by omega)).mono ?_); rintro e w2 ⟨A2, c2, rfl, hown2, hB2⟩; have hr2 := hr1.below hB2; have hL2 := Lib.hid (hL1.out.below hB2))
          | (go_at_call 54; go_must (refine (hmac_any _ _ _ key _ _ _ (encInt k) _ hr2 ⟨rfl, own_cells hown2⟩ hm (by have := encInt_le k; omega) hL2.out).mono ?_); rintro e w3 ⟨rfl, hB3⟩; rw [← HD.out])
          | (refine wpList_storeB rfl 78 (.tmp 7) (.tmp 17) rfl size27 (heap_alloc_new w3 _) (bv_one D) (by rw [bv_length, hDl]) (by rfl) rfl rfl ?_; intro w4 h4 hg4 hz4;
             have hB4 := below_put hg4; have hB14 := (hB2.trans (hB3.mono hB2.size)).trans (hB4.mono (Nat.le_trans hB2.size hB3.size)); have hrd4 := rd_take h4 hDl hj32)
          | (at_builtin; go_must (refine wpList_app rfl _ _ 48 rfl w.heap.size 5 1 1 _ Tryd.underlying48 info5 rfl (by decide) (by decide) _ _ _ _ _ _ _ (own_below hown1 hB14) hrd4.cells rfl rfl (by simp only [bv_length, hrd4.len, Nat.mul_one]) (bv_one _) (Nat.le_trans hup hB14.size) (by omega) ?_); intro A5 c5 w5 hown5 hg5 hat5))
        have hoe : blocks key k = out := by rw [hO.out, List.take_of_length_le (by rw [blocks_length]; omega)]
        have HBT' := HBT.out
        rw [hoe] at HBT'
        have hHJ := HJ.out
        have hHOL := HOL.out
        have hlen := hrd4.len
        rw [← bv_append, ← HBT'] at hown5
        have hlN := congrArg List.length HBT'
        rw [List.length_append, hlen] at hlN
        rw [← hlN] at hown5
        go_roundw
        case rel => exact ⟨k + 1, A5, c5, _, by simp, by rw [hlN], Lib.hid rfl, by omega, by rw [hlN]; omega, hown5, (hB1.trans (hB14.mono hup)).grown hg5 (Nat.le_trans hup hB14.size) (own_ge hown1)⟩
        case measure => simp [lenOf]; omega
    · have hol2 : out.length = n.toNat := by omega
      have hge : n ≤ (out.length : Int) := by omega
      go_wp2
      go_ret
      have e : out = stream key n.toNat := by
        rw [hO.out]
        unfold stream
        have hk2 : n.toNat ≤ 32 * k := by omega
        have hk3 : (n.toNat + 31) / 32 = k := by omega
        rw [hk3]
      subst e
      exact ⟨A1, c1, rfl, hown1, hB1⟩
end Go.Proofs.YtaecljahbmcneaaDoor
