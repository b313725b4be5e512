/- The reference of chapter 02: Stream. -/
import Derived.Test.YtaecljahbmcneaaDoorRefE
import Derived.Test.YtaecljahbmcneaaDoorShaH
namespace Go.Proofs.YtaecljahbmcneaaDoor
open Go.RowKit Go.Shelf

theorem blocks_take_le (key : List UInt8) (k n : Nat) (h : (n + 31) / 32 ≤ k) : (blocks key k).take n = stream key n := by
  obtain ⟨d, rfl⟩ : ∃ d, k = (n + 31) / 32 + d := ⟨k - (n + 31) / 32, by omega⟩
  clear h
  induction d with
  | zero => rfl
  | succ d ih =>
    rw [← Nat.add_assoc, blocks, List.take_append_of_le_length (by rw [blocks_length]; omega)]
    exact ih

theorem own_cap {w : World} {base : Nat} {e : TypeId} {size n c : Nat} {A : Option Addr} {xs : List Value} (h : w.ownsRow base e size (.slice A n c) n xs) : n ≤ c := by
  rcases h.2 with ⟨h0, h1⟩ | ⟨g, cap, cur, hv, _, _, hnc, _⟩
  · omega
  · cases hv
    exact hnc
theorem rd_pre {w : World} {A : Option Addr} {xs : List UInt8} (n : Nat) (h : Cells w A (bv xs)) (hn : n ≤ xs.length) : Rd w A n (xs.take n) := by
  refine ⟨by rw [List.length_take]; omega, fun hp => ?_⟩
  have hp' : 0 < n ∧ 0 < xs.length := by rw [bv_length, List.length_take] at hp; omega
  obtain ⟨b, off, rfl, hc⟩ := h (by rw [bv_length]; omega)
  refine ⟨b, off, rfl, fun j u hu => hc j u ?_⟩
  have hj := (List.getElem?_eq_some_iff.1 hu).1
  rw [bv_length, List.length_take] at hj
  rw [← hu]
  simp [bv, show j < n by omega]

set_option maxHeartbeats 1000000 in
set_option maxRecDepth 100000 in
theorem rstream_any (A : Option Addr) (m c : Nat) (key : List UInt8) (n : Int) (w : World) (hr : Rd w A m key) (hm : m ≤ 1073741824) (hn : n ≤ 1073741824) (_hn0 : -9223372036854775808 ≤ n) :
    Calls Tryd.prog 64 #[.slice A m c, .int .i64 n] w fun e w' => ∃ A1 c1, e = .returned (.slice A1 n.toNat c1) ∧ Rd w' A1 n.toNat (stream key n.toNat) ∧ Below w.heap.size w w' := by
  go_enter Tryd.func64, Tryd.ntmps64
  go_wp2
  go_loopw [5, 6] (fun v i wr => ∃ (k : Nat) (A1 : Option Addr) (c1 : Nat), i = .int .i64 k ∧ v = .slice A1 (32 * k) c1 ∧ (32 * k < n.toNat + 32) ∧ wr.ownsRow w.heap.size 5 1 (.slice A1 (32 * k) c1) (32 * k) (bv (blocks key k)) ∧ Below w.heap.size w wr)
    (fun v _ _ => n.toNat - lenOf v)
  case atStart => exact ⟨0, none, 0, rfl, rfl, by omega, World.ownsRow_nil _ _ _ _, Below.refl _ _⟩
  case round =>
    obtain ⟨k, A1, c1, rfl, rfl, hk, hown1, hB1⟩ := hrel
    by_cases hlt : 32 * k < n.toNat
    · have hlt2 : (32 * (k : Int)) < n := by omega
      have hr1 := hr.below hB1
      go_wp2_with (first
        | (go_at_call 45; go_must (refine (rint_any _ _ (by omega) (by omega)).mono ?_); rintro e w2 ⟨A2, c2, rfl, hown2, hB2⟩; have hr2 := hr1.below hB2)
        | (go_at_call 69; go_must (refine (rhmac_any _ _ _ key _ _ _ (encInt k) _ hr2 ⟨rfl, own_cells hown2⟩ hm (by have := encInt_le k; omega)).mono ?_); rintro e w3 ⟨rfl, hB3⟩)
        | (go_at_call 70; go_must (refine (all_any (hmac key (encInt k)) _ (hmac_length _ _)).mono ?_); rintro e w4 ⟨A4, c4, rfl, hown4, hB4⟩; have hB14 := (hB2.trans (hB3.mono hB2.size)).trans (hB4.mono (Nat.le_trans hB2.size hB3.size)); have hB4' := hB1.trans (hB14.mono hB1.size))
        | (at_builtin; go_must (refine wpList_app rfl _ _ 48 rfl w.heap.size 5 1 1 _ Tryd.underlying48 info5 rfl (by decide) (by decide) _ _ _ _ _ _ _ (own_below hown1 hB14) (own_cells hown4) rfl rfl (by rw [bv_length, hmac_length]) (bv_one _) hB4'.size (by omega) ?_); intro A5 c5 w5 hown5 hg5 hat5))
      have e1 : bv (blocks key k) ++ bv (hmac key (encInt k)) = bv (blocks key (k + 1)) := by rw [blocks, bv_append]
      rw [e1] at hown5
      go_roundw
      case rel => exact ⟨k + 1, A5, c5, by simp, by congr 1, by omega, hown5, hB4'.grown hg5 hB4'.size (own_ge hown1)⟩
      case measure => simp [lenOf]; omega
    · have hge : ¬ ((32 * (k : Int)) < n) := by omega
      have hle := blocks_take_le key k n.toNat (by omega)
      have HLE := Lib.hid hle
      clear hle
      have hcap := own_cap hown1
      have hpre := rd_pre n.toNat (own_cells hown1) (by rw [blocks_length]; omega)
      rw [HLE.out] at hpre
      by_cases hneg : n < 0
      · have hnz : n.toNat = 0 := by omega
        have HNZ := Lib.hid hnz
        clear hnz
        go_wp2
        go_ret
        refine ⟨A1, ⟨c1, ?_⟩, hpre, hB1⟩
        rw [HNZ.out]
        rfl
      · have hn0 : (n.toNat : Int) = n := by omega
        have hnc : n ≤ (c1 : Int) := by omega
        go_wp2
        go_ret
        exact ⟨A1, ⟨c1, rfl⟩, hpre, hB1⟩
end Go.Proofs.YtaecljahbmcneaaDoor
