/- The reference of chapter 02: word, words. -/
import Derived.Test.YtaecljahbmcneaaDoorShaC
namespace Go.Proofs.YtaecljahbmcneaaDoor
open Go.RowKit

def hexd (b : UInt8) : Nat := if 97 ≤ b.toNat then ((b.toNat - 97) + 10) % 256 else (b.toNat + 208) % 256
def hexw (s : List UInt8) : Nat := s.foldl (fun h b => (16 * h + hexd b) % 4294967296) 0
theorem hexw_snoc (s : List UInt8) (b : UInt8) : hexw (s ++ [b]) = (16 * hexw s + hexd b) % 4294967296 := by simp [hexw]
theorem hexw_lt (s : List UInt8) : hexw s < 4294967296 := by
  have h : ∀ (s : List UInt8) (h : Nat), h < 4294967296 → s.foldl (fun h b => (16 * h + hexd b) % 4294967296) h < 4294967296 := by
    intro s
    induction s with
    | nil => intro h hh; exact hh
    | cons b s ih => intro h _; exact ih _ (Nat.mod_lt _ (by decide))
  exact h s 0 (by decide)
theorem hexd_lt (b : UInt8) : hexd b < 256 := by unfold hexd; split <;> exact Nat.mod_lt _ (by decide)

set_option maxHeartbeats 1000000 in
set_option maxRecDepth 100000 in
theorem word_any (s : ByteArray) (i : Nat) (w : World) (h : 8 * i + 8 ≤ s.size) (hs : s.size ≤ 1099511627776) :
    Calls Tryd.prog 86 #[.string s, .int .i64 i] w fun e w' => e = .returned (.int .u32 ((hexw ((s.data.toList.drop (8 * i)).take 8) : Nat) : Int)) ∧ w = w' := by
  go_enter Tryd.func86, Tryd.ntmps86
  go_wp2
  go_loopw [5, 6] (fun v j wr => ∃ k : Nat, k ≤ 8 ∧ j = .int .i64 ((8 * i + k : Nat) : Int) ∧ v = .int .u32 ((hexw ((s.data.toList.drop (8 * i)).take k) : Nat) : Int) ∧ w = wr) (fun _ j _ => 8 * i + 8 - (intOf j).toNat)
  case atStart => exact ⟨0, by omega, by simp, rfl, rfl⟩
  case round =>
    obtain ⟨k, hk, rfl, rfl, rfl⟩ := hrel
    by_cases hlt : k < 8
    · have hi : 8 * i + k < s.size := by omega
      have hst : (s.data.toList.drop (8 * i)).take (k + 1) = (s.data.toList.drop (8 * i)).take k ++ [s[8 * i + k]] := by
        have hl := size_bytes s
        rw [List.take_succ_eq_append_getElem (by rw [List.length_drop]; omega)]
        congr 2
        rw [List.getElem_drop]
        rfl
      have hx := hexw_snoc ((s.data.toList.drop (8 * i)).take k) s[8 * i + k]
      rw [← hst] at hx
      have HX := Lib.hid hx
      clear hst hx
      have hb := (s[8 * i + k]).toNat_lt
      go_wp2
      all_goals
        go_roundw
        case rel =>
          refine ⟨k + 1, by omega, by congr 1, ?_, trivial⟩
          congr 1
          rw [HX.out]
          unfold hexd
          split <;> omega
        case measure => simp [intOf]; omega
    · obtain rfl : k = 8 := by omega
      go_wp2
      go_ret
      exact ⟨rfl, rfl⟩

/-- The words that a text of hexadecimal digits gives. -/
def hexws (s : List UInt8) (n : Nat) : List Nat := (List.range n).map (fun i => hexw ((s.drop (8 * i)).take 8))
theorem hexws_succ (s : List UInt8) (n : Nat) : hexws s (n + 1) = hexws s n ++ [hexw ((s.drop (8 * n)).take 8)] := by simp [hexws, List.range_succ]
theorem hexws_length (s : List UInt8) (n : Nat) : (hexws s n).length = n := by simp [hexws]
theorem info114 : (Tryd.prog.info? 93).map (fun i => (i.zero, i.size, i.bytes)) = some (some (.int .u32 0), 1, 4) := by kernel_rfl

set_option maxHeartbeats 1000000 in
set_option maxRecDepth 100000 in
theorem words_any (s : ByteArray) (n : Nat) (w : World) (h : 8 * n ≤ s.size) (hs : s.size ≤ 1048576) :
    Calls Tryd.prog 83 #[.string s, .int .i64 n] w fun e w' => ∃ A c, e = .returned (.slice A n c) ∧ w'.ownsRow w.heap.size 93 1 (.slice A n c) n (u32s (hexws s.data.toList n)) ∧ Below w.heap.size w w' := by
  go_enter Tryd.func83, Tryd.ntmps83
  go_wp2
  go_loopw [5, 6] (fun v j wr => ∃ (k : Nat) (A : Option Addr) (c : Nat), k ≤ n ∧ j = .int .i64 (k : Int) ∧ v = .slice A k c ∧ wr.ownsRow w.heap.size 93 1 (.slice A k c) k (u32s (hexws s.data.toList k)) ∧ Below w.heap.size w wr) (fun _ j _ => n - (intOf j).toNat)
  case atStart => exact ⟨0, none, 0, by omega, rfl, rfl, World.ownsRow_nil _ _ _ _, Below.refl _ _⟩
  case round =>
    obtain ⟨k, A, c, hk, rfl, rfl, hown, hB⟩ := hrel
    by_cases hlt : k < n
    · go_wp2_with (first
        | (go_at_call 86; go_must (refine (word_any s k _ (by omega) (by omega)).mono ?_); rintro e w1 ⟨rfl, rfl⟩)
        | (at_builtin; go_must (refine wpList_app1 rfl _ _ 111 rfl w.heap.size 93 4 (.int .u32 0) Tryd.underlying111 info114 rfl (by decide) _ _ _ _ hown rfl rfl rfl hB.size (by omega) ?_); intro A1 c1 w1 hown1 hg1 hat1))
      rw [show u32s (hexws s.data.toList k) ++ [Value.int IntKind.u32 ((hexw ((s.data.toList.drop (8 * k)).take 8) : Nat) : Int)] = u32s (hexws s.data.toList (k + 1)) from by rw [hexws_succ]; simp [u32s]] at hown1
      go_roundw
      case rel => exact ⟨k + 1, A1, c1, by omega, by simp, rfl, hown1, below_grown hB hg1 hB.size (own_ge hown)⟩
      case measure => simp [intOf]; omega
    · obtain rfl : k = n := by omega
      go_wp2
      go_ret
      exact ⟨A, c, rfl, hown, hB⟩
end Go.Proofs.YtaecljahbmcneaaDoor
