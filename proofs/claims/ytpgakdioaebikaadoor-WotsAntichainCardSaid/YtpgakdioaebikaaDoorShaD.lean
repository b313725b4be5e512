/- slices.Chunk at 64 bytes: the iterator's contract. -/
import Derived.Test.YtpgakdioaebikaaDoorShaC
import Derived.RangeFuncNested
import Derived.RangeFuncBound
import Derived.RangeFuncCalls
import Derived.RangeFuncLeaves
import Derived.RangeFuncFrom
import Derived.RangeFuncBox
import Derived.Shelf.Abstract
import Derived.Shelf.RegionOpen
import Derived.OwnWalkIn
import Derived.TacticsInMore
import Derived.LoopNIn
import Derived.LoopIn
namespace Go.Proofs.YtpgakdioaebikaaDoor
open Go.RowKit Go.Shelf

attribute [local go_sem] Oper.semAt_some

/-- What a round of the loop over the blocks keeps: whatever lay below n₀, but for block hb. -/
def Keep (n₀ hb : Nat) (A B : World) : Prop := A.heap.size ≤ B.heap.size ∧ ∀ k, k < n₀ → k ≠ hb → B.heap[k]? = A.heap[k]?
theorem Keep.trans {n₀ hb : Nat} {A B C : World} (h : Keep n₀ hb A B) (k : Keep n₀ hb B C) : Keep n₀ hb A C := ⟨Nat.le_trans h.1 k.1, fun i hi hn => (k.2 i hi hn).trans (h.2 i hi hn)⟩
theorem Keep.book {n₀ hb : Nat} {w : World} (hn : n₀ ≤ w.heap.size) (W : World) (l : Nat) (o o' : Obj) (hl : w.heap.size ≤ l) (h : W.heap[l]? = some o) (_ : o.isCells = false) (_ : o.isWalk = false) : Keep n₀ hb W (W.putObj l o') := by
  have hg := grownBy_putObj' W l o'
  refine ⟨hg.size, fun k hk _ => hg.block k ?_ (fun e => by cases e; omega)⟩
  have := (Array.getElem?_eq_some_iff.1 h).1
  omega
theorem Keep.cell {n₀ hb : Nat} {A B : World} (h : Keep n₀ hb A B) {p : Addr} (hp : p.block < n₀) (hne : p.block ≠ hb) : B.cell? p = A.cell? p := World.cell?_of_block (h.2 _ hp hne)

def upto0 (k : Nat) : List Nat := List.range k
theorem upto0_succ (k : Nat) : upto0 (k + 1) = upto0 k ++ [k] := by simp [upto0, List.range_succ]
theorem upto0_length (k : Nat) : (upto0 k).length = k := by simp [upto0]
/-- The k-th of q blocks of the text at block b. -/
def enc64 (b q : Nat) (k : Nat) : Array Value := #[.slice (some ⟨b, 64 * (k % q), none⟩) 64 64]

set_option maxRecDepth 100000 in
set_option maxHeartbeats 2000000 in
theorem chunk1_in (F : Fence) (n : Nat) (hf : F.fn 54) (hro : F.round = none) (hn : 1 ≤ n) (l Bs Bn n₀ hb b q c : Nat) (hq : q ≤ 1099511627776) (hc : 64 * q ≤ c) (hs : Bs < n₀) (hs' : Bs ≠ hb) (hn' : Bn < n₀) (hn'' : Bn ≠ hb) (J Jx : List Nat → World → Prop) (hJd : ∀ pre W, J pre W → J pre W.drew)
    (hY : ∀ pre x W, J pre W → pre.length < q → YieldAt F (n - 1) Tryd.prog l (enc64 b q x) W fun e W' =>
      (e = .returned (.bool true) ∧ J (pre ++ [x]) W' ∧ Keep n₀ hb W W') ∨ (e = .returned (.bool false) ∧ Jx (pre ++ [x]) W'))
    (W : World) (hBs : W.cell? ⟨Bs, 0, none⟩ = some (.slice (some ⟨b, 0, none⟩) (64 * q) c)) (hBn : W.cell? ⟨Bn, 0, none⟩ = some (.int .i64 64)) (h0 : J [] W) :
    CallsIn F n Tryd.prog 54 #[.func (.yield l) #[] #[], .pointer (some ⟨Bs, 0, none⟩), .pointer (some ⟨Bn, 0, none⟩)] W fun e W' => (∃ v, e = .returned v) ∧
      ((∃ ys, ys = upto0 q ∧ J ys W') ∨ (∃ pre, (∃ k, k ≤ q ∧ pre = upto0 k) ∧ Jx pre W')) := by
  refine callsIn_of_wp Tryd.func54 rfl hf ?_ hro
  simp only [Tryd.ntmps54, List.size_toArray, List.length_cons, List.length_nil, Nat.reduceAdd, Nat.reduceSub, Array.replicate_succ, Array.replicate_zero, List.push_toArray, List.append_toArray, List.nil_append, List.cons_append]
  gi_wp2
  gi_loopw [4] (fun i wr => ∃ k : Nat, k ≤ q ∧ i = .int .i64 ((64 * k : Nat) : Int) ∧ J (upto0 k) wr ∧ Keep n₀ hb W wr)
    (fun i _ => 64 * q - (intOf i).toNat)
  case atStart => exact ⟨0, Nat.zero_le _, rfl, h0, Nat.le_refl _, fun _ _ _ => rfl⟩
  case round =>
    obtain ⟨k, hk, rfl, hJs, hnx⟩ := hrel
    have c1 : wr.cell? ⟨Bs, 0, none⟩ = some (.slice (some ⟨b, 0, none⟩) (64 * q) c) := (hnx.cell (p := ⟨Bs, 0, none⟩) hs hs').trans hBs
    have c2 : wr.cell? ⟨Bn, 0, none⟩ = some (.int .i64 64) := (hnx.cell (p := ⟨Bn, 0, none⟩) hn' hn'').trans hBn
    by_cases hlt : k < q
    · obtain ⟨fn, tmps, assign, body, hy, hR⟩ := hY _ k wr.drew (hJd _ _ hJs) (by rw [upto0_length]; exact hlt)
      dsimp only [enc64] at hy
      rw [Nat.mod_eq_of_lt hlt] at hy
      have hne : ¬ (c = 64 * k) := by omega
      have g1 : ((64 * k : Nat) : Int) ≤ ((64 * q : Nat) : Int) := by omega
      have g2 : (64 : Int) ≤ ((64 * q - 64 * k : Nat) : Int) := by omega
      gi_wp2
      gi_region
      all_goals
        gi_wp2
        refine hR.mono ?_
        rintro e W3 (⟨rfl, hJ3, hk3⟩ | ⟨rfl, hJx3⟩)
        · have hk4 : Keep n₀ hb wr W3 := ⟨hk3.1, hk3.2⟩
          have c3 : W3.cell? ⟨Bn, 0, none⟩ = some (.int .i64 64) := (hk4.cell (p := ⟨Bn, 0, none⟩) hn' hn'').trans c2
          gi_wp2
          go_roundw
          case rel => exact ⟨k + 1, by omega, by go_num, by rw [upto0_succ]; exact hJ3, hnx.trans hk4⟩
          case measure => simp [intOf]; omega
        · gi_wp2
          refine bodyPost_ret (results_none rfl _ _ _) rfl ?_
          exact ⟨⟨_, rfl⟩, .inr ⟨_, ⟨k + 1, by omega, (upto0_succ _).symm⟩, hJx3⟩⟩
    · obtain rfl : k = q := by omega
      gi_wp2
      go_end0
      exact ⟨⟨_, rfl⟩, .inl ⟨_, rfl, hJs⟩⟩

theorem chunk_stops (n : Nat) (hn : 1 ≤ n) (Bs Bn n₀ hb b q c : Nat) (hq : q ≤ 1099511627776) (hc : 64 * q ≤ c) (hs : Bs < n₀) (hs' : Bs ≠ hb) (hn' : Bn < n₀) (hn'' : Bn ≠ hb) (w : World) (hw : n₀ ≤ w.heap.size)
    (hBs : w.cell? ⟨Bs, 0, none⟩ = some (.slice (some ⟨b, 0, none⟩) (64 * q) c)) (hBn : w.cell? ⟨Bn, 0, none⟩ = some (.int .i64 64)) :
    SeqStopsK Fence.wide n Tryd.prog 54 #[.pointer (some ⟨Bs, 0, none⟩), .pointer (some ⟨Bn, 0, none⟩)] (enc64 b q) (Keep n₀ hb) (fun ys => ys = upto0 q) (fun _ => True) q w := fun l J Jx W hW hJ _ hY h0 => by
  refine (chunk1_in Fence.wide n trivial rfl hn l Bs Bn n₀ hb b q c hq hc hs hs' hn' hn'' J Jx (fun pre W h => hJ pre W W.drew none h (grown_below (Below.drew (Below.refl _ _)) none) (fun r e => by cases e)) hY W
    ((hW.cell (p := ⟨Bs, 0, none⟩) (by show Bs < _; omega)).trans hBs) ((hW.cell (p := ⟨Bn, 0, none⟩) (by show Bn < _; omega)).trans hBn) h0).mono ?_
  rintro e W' ⟨he, ⟨ys, hy, hj⟩ | ⟨pre, _, hj⟩⟩
  · exact ⟨he, .inl ⟨ys, hy, hj⟩⟩
  · exact ⟨he, .inr ⟨pre, trivial, hj⟩⟩

set_option maxRecDepth 100000 in
theorem chunk_any (A : Option Addr) (n c : Nat) (w : World) :
    Calls Tryd.prog 45 #[.slice A n c, .int .i64 64] w fun e w' => e = .returned (.func (.func 54) #[] #[.pointer (some ⟨w.heap.size, 0, none⟩), .pointer (some ⟨w.heap.size + 1, 0, none⟩)]) ∧ (w.alloc (.cells #[.slice A n c] 41)).alloc (.cells #[.int .i64 64] 3) = w' := by
  go_enter Tryd.func45, Tryd.ntmps45
  go_wp2
  go_ret
  exact ⟨rfl, rfl⟩
end Go.Proofs.YtpgakdioaebikaaDoor
