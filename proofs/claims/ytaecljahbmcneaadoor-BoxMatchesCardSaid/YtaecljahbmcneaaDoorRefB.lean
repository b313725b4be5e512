/- The reference of chapter 02: compress. -/
import Derived.Test.YtaecljahbmcneaaDoorRefA
import Derived.Deep.OwnRows
import Derived.StillTailTactics
namespace Go.Proofs.YtaecljahbmcneaaDoor
open Go.RowKit

theorem or24 (a b c d : UInt8) :
    bits BinOp.or IntKind.u32 (bits BinOp.or IntKind.u32 (bits BinOp.or IntKind.u32 ((a.toNat : Int) % 4294967296 * 16777216 % 4294967296) ((b.toNat : Int) % 4294967296 * 65536 % 4294967296)) ((c.toNat : Int) % 4294967296 * 256 % 4294967296)) ((d.toNat : Int) % 4294967296) = ((be [a, b, c, d] : Nat) : Int) := by
  have ha := a.toNat_lt
  have hb := b.toNat_lt
  have hc := c.toNat_lt
  have hd := d.toNat_lt
  rw [show (a.toNat : Int) % 4294967296 * 16777216 % 4294967296 = ((a.toNat * 16777216 : Nat) : Int) from by omega, show (b.toNat : Int) % 4294967296 * 65536 % 4294967296 = ((b.toNat * 65536 : Nat) : Int) from by omega, show (c.toNat : Int) % 4294967296 * 256 % 4294967296 = ((c.toNat * 256 : Nat) : Int) from by omega, show (d.toNat : Int) % 4294967296 = ((d.toNat : Nat) : Int) from by omega]
  have e1 : a.toNat * 16777216 ||| b.toNat * 65536 = (a.toNat * 256 + b.toNat) * 65536 := by
    have := Nat.two_pow_add_eq_or_of_lt (i := 24) (b := b.toNat * 65536) (by omega) a.toNat
    rw [show a.toNat * 16777216 = 2 ^ 24 * a.toNat from by omega, ← this]; omega
  have e2 : (a.toNat * 256 + b.toNat) * 65536 ||| c.toNat * 256 = ((a.toNat * 256 + b.toNat) * 256 + c.toNat) * 256 := by
    have := Nat.two_pow_add_eq_or_of_lt (i := 16) (b := c.toNat * 256) (by omega) (a.toNat * 256 + b.toNat)
    rw [show (a.toNat * 256 + b.toNat) * 65536 = 2 ^ 16 * (a.toNat * 256 + b.toNat) from by omega, ← this]; omega
  have e3 : ((a.toNat * 256 + b.toNat) * 256 + c.toNat) * 256 ||| d.toNat = ((a.toNat * 256 + b.toNat) * 256 + c.toNat) * 256 + d.toNat := by
    have := Nat.two_pow_add_eq_or_of_lt (i := 8) (b := d.toNat) (by omega) ((a.toNat * 256 + b.toNat) * 256 + c.toNat)
    rw [show ((a.toNat * 256 + b.toNat) * 256 + c.toNat) * 256 = 2 ^ 8 * ((a.toNat * 256 + b.toNat) * 256 + c.toNat) from by omega, ← this]
  rw [u32_or_nat _ _ (by omega) (by omega), e1, u32_or_nat _ _ (by omega) (by omega), e2, u32_or_nat _ _ (by omega) (by omega), e3]
  simp [be]

theorem cell_drewN (w : World) (n : Nat) (a : Addr) : (w.drewN n).cell? a = w.cell? a := rfl
theorem frozen_drewN (w : World) (n : Nat) (a : Addr) : (w.drewN n).frozen? a = w.frozen? a := rfl

theorem rot_q (x k : Nat) (w : World) (hx : x < 4294967296) (h0 : 0 < k) (h1 : k < 32) : Calls Tryd.prog 87 #[.int .u32 x, .int .i64 k] w fun e w' => e = .returned (.int .u32 (rr x k : Nat)) ∧ ∃ n, w' = w.drewN n :=
  (rot_any x k w hx h0 h1).mono fun _ _ ⟨he, n, hn⟩ => ⟨he, n, hn.symm⟩
theorem below_drewN {w : World} {n : Nat} (m : Nat) {w1 : World} (h : Below n w w1) : Below n w (w1.drewN m) := ⟨h.os, h.tape, h.output, h.size, h.block⟩

theorem sg_eq (x a b d : Nat) (hx : x < 4294967296) (hd : (x : Int) / d = ((x / d : Nat) : Int)) : bits BinOp.xor IntKind.u32 (bits BinOp.xor IntKind.u32 ((rr x a : Nat) : Int) ((rr x b : Nat) : Int)) ((x : Int) / d) = (((rr x a ^^^ rr x b) ^^^ (x / d) : Nat) : Int) := by
  rw [hd, u32_xor_nat _ _ (rr_lt x a hx) (rr_lt x b hx), u32_xor_nat _ _ (xor_lt (rr_lt x a hx) (rr_lt x b hx)) (Nat.lt_of_le_of_lt (Nat.div_le_self _ _) hx)]
theorem nx_sum (x16 s15 x7 s2 : Nat) : ((x16 : Int) + (s15 : Int) + (x7 : Int) + (s2 : Int)) % 4294967296 = (((x16 + s15 + x7 + s2) % 4294967296 : Nat) : Int) := by omega

theorem ch_eq (e f g : Nat) (he : e < 4294967296) (hf : f < 4294967296) (hg : g < 4294967296) : bits BinOp.xor IntKind.u32 (bits BinOp.and IntKind.u32 (e : Int) (f : Int)) (bits BinOp.and IntKind.u32 (bits BinOp.xor IntKind.u32 4294967295 (e : Int)) (g : Int)) = ((ch e f g : Nat) : Int) := by
  rw [show (4294967295 : Int) = ((4294967295 : Nat) : Int) from rfl, u32_and_nat e f he hf, u32_xor_nat _ e (by decide) he, u32_and_nat _ g (xor_lt (by decide) he) hg, u32_xor_nat _ _ (and_lt hf) (and_lt hg)]
  rfl
theorem S1_eq (e : Nat) (he : e < 4294967296) : bits BinOp.xor IntKind.u32 (bits BinOp.xor IntKind.u32 ((rr e 6 : Nat) : Int) ((rr e 11 : Nat) : Int)) ((rr e 25 : Nat) : Int) = ((S1 e : Nat) : Int) := by
  rw [u32_xor_nat _ _ (rr_lt e 6 he) (rr_lt e 11 he), u32_xor_nat _ _ (xor_lt (rr_lt e 6 he) (rr_lt e 11 he)) (rr_lt e 25 he)]
  rfl
theorem maj_eq (a b c : Nat) (ha : a < 4294967296) (hb : b < 4294967296) (hc : c < 4294967296) : bits BinOp.xor IntKind.u32 (bits BinOp.xor IntKind.u32 (bits BinOp.and IntKind.u32 (a : Int) (b : Int)) (bits BinOp.and IntKind.u32 (a : Int) (c : Int))) (bits BinOp.and IntKind.u32 (b : Int) (c : Int)) = ((maj a b c : Nat) : Int) := by
  rw [u32_and_nat a b ha hb, u32_and_nat a c ha hc, u32_and_nat b c hb hc, u32_xor_nat _ _ (and_lt hb) (and_lt hc), u32_xor_nat _ _ (xor_lt (and_lt hb) (and_lt hc)) (and_lt hc)]
  rfl
theorem S0_eq (a : Nat) (ha : a < 4294967296) : bits BinOp.xor IntKind.u32 (bits BinOp.xor IntKind.u32 ((rr a 2 : Nat) : Int) ((rr a 13 : Nat) : Int)) ((rr a 22 : Nat) : Int) = ((S0 a : Nat) : Int) := by
  rw [u32_xor_nat _ _ (rr_lt a 2 ha) (rr_lt a 13 ha), u32_xor_nat _ _ (xor_lt (rr_lt a 2 ha) (rr_lt a 13 ha)) (rr_lt a 22 ha)]
  rfl

theorem addone (a b : Nat) : Value.int .u32 (((a : Int) + (b : Int)) % 4294967296) = Value.int .u32 (((b + a) % 4294967296 : Nat) : Int) := by congr 1; omega
theorem addrow (u v : S8) : [Value.int .u32 (((v.a : Int) + (u.a : Int)) % 4294967296), Value.int .u32 (((v.b : Int) + (u.b : Int)) % 4294967296), Value.int .u32 (((v.c : Int) + (u.c : Int)) % 4294967296), Value.int .u32 (((v.d : Int) + (u.d : Int)) % 4294967296), Value.int .u32 (((v.e : Int) + (u.e : Int)) % 4294967296), Value.int .u32 (((v.f : Int) + (u.f : Int)) % 4294967296), Value.int .u32 (((v.g : Int) + (u.g : Int)) % 4294967296), Value.int .u32 (((v.h : Int) + (u.h : Int)) % 4294967296)] = u32s (u.add v).list := by
  rw [addone v.a, addone v.b, addone v.c, addone v.d, addone v.e, addone v.f, addone v.g, addone v.h]
  rfl
theorem madeWords : madeCells #[Value.int .u32 0] 64 = (List.replicate 64 (Value.int .u32 0)).toArray := by
  apply Array.ext'
  simp [madeCells]
  rfl

set_option maxHeartbeats 4000000 in
set_option maxRecDepth 100000 in
theorem rcompress_any (v : S8) (A0 : Option Addr) (c0 : Nat) (A1 : Option Addr) (c1 : Nat) (b : List UInt8) (A2 : Option Addr) (c2 : Nat) (w : World) (h0 : Cells w A0 (u32s v.list)) (hr : Rd w A1 64 b) (h2 : Cells w A2 (u32s ks)) (hv : v.ok) :
    Calls Tryd.prog 84 #[.slice A0 8 c0, .slice A1 64 c1, .slice A2 64 c2] w fun e w' => ∃ A c, e = .returned (.slice A 8 c) ∧ w'.ownsRow w.heap.size 93 1 (.slice A 8 c) 8 (u32s (compress v b).list) ∧ Below w.heap.size w w' := by
  have hlen := hr.len
  obtain ⟨g0, o0, rfl, hs0⟩ := h0 (by simp [u32s, S8.list])
  obtain ⟨g1, o1, rfl, hs1⟩ := hr.at_ (by omega)
  obtain ⟨g2, o2, rfl, hs2⟩ := h2 (by decide)
  have S0 := Lib.hid hs0
  have S1 := Lib.hid hs1
  have S2 := Lib.hid hs2
  have HR := Lib.hid hr
  clear hs0 hs1 hs2 h0 h2 hr
  obtain ⟨i114, hi114, hz114, hs114, hb114⟩ := info_parts info114
  have hmade : (w.alloc (.cells (madeCells #[Value.int .u32 0] 64) 93)).heap[w.heap.size]? = some (.cells (u32s (wrds b 0)).toArray 93 (0, 0)) := by
    rw [heap_alloc_new, show madeCells #[Value.int .u32 0] 64 = (u32s (wrds b 0)).toArray from madeWords]
  have HM := Lib.hid hmade
  clear hmade
  go_enter Tryd.func84, Tryd.ntmps84
  go_wp2_with (refine wpList_make_row _ rfl _ _ 111 rfl 93 i114 (.int .u32 0) Tryd.underlying111 hi114 hz114 hs114 rfl .i64 .i64 64 rfl rfl (by rw [hb114]; omega) (by omega) ?_)
  generalize hwm : w.alloc (.cells (madeCells #[Value.int .u32 0] 64) 93) = wm at HM ⊢
  have hBm : Below w.heap.size w wm := by rw [← hwm]; exact (Below.refl _ w).alloc (Nat.le_refl _) _
  clear hwm hi114 hz114 hs114 hb114
  go_loopw [8] (fun i wr => ∃ k : Nat, k ≤ 16 ∧ i = .int .i64 k ∧ wr.heap[w.heap.size]? = some (.cells (u32s (wrds b k)).toArray 93 (0, 0)) ∧ Below w.heap.size w wr) (fun i _ => 16 - (intOf i).toNat)
  case atStart => exact ⟨0, by omega, rfl, HM.out, hBm⟩
  case round =>
    obtain ⟨k, hk, rfl, hrow, hB⟩ := hrel
    by_cases hlt : k < 16
    · have q0 : wr.cell? ⟨g1, o1 + 4 * k, none⟩ = some (.int .u8 ((b[4 * k]'(by omega)).toNat : Int)) := cell_kept hB (S1.out (4 * k) (by omega))
      have q1 : wr.cell? ⟨g1, o1 + (4 * k + 1), none⟩ = some (.int .u8 ((b[4 * k + 1]'(by omega)).toNat : Int)) := cell_kept hB (S1.out (4 * k + 1) (by omega))
      have q2 : wr.cell? ⟨g1, o1 + (4 * k + 2), none⟩ = some (.int .u8 ((b[4 * k + 2]'(by omega)).toNat : Int)) := cell_kept hB (S1.out (4 * k + 2) (by omega))
      have q3 : wr.cell? ⟨g1, o1 + (4 * k + 3), none⟩ = some (.int .u8 ((b[4 * k + 3]'(by omega)).toNat : Int)) := cell_kept hB (S1.out (4 * k + 3) (by omega))
      have hbe := or24 (b[4 * k]'(by omega)) (b[4 * k + 1]'(by omega)) (b[4 * k + 2]'(by omega)) (b[4 * k + 3]'(by omega))
      have hx : rsch b (k + 1) = be [b[4 * k]'(by omega), b[4 * k + 1]'(by omega), b[4 * k + 2]'(by omega), b[4 * k + 3]'(by omega)] :: rsch b k := by
        rw [rsch, if_pos hlt]
        congr 1
        unfold ld
        rw [List.drop_eq_getElem_cons (by omega), List.take_succ_cons, List.drop_eq_getElem_cons (by omega), List.take_succ_cons, List.drop_eq_getElem_cons (by omega), List.take_succ_cons, List.drop_eq_getElem_cons (by omega), List.take_succ_cons, List.take_zero]
      obtain ⟨x0, hx0⟩ : ∃ x, x = b[4 * k]'(by omega) := ⟨_, rfl⟩
      obtain ⟨x1, hx1⟩ : ∃ x, x = b[4 * k + 1]'(by omega) := ⟨_, rfl⟩
      obtain ⟨x2, hx2⟩ : ∃ x, x = b[4 * k + 2]'(by omega) := ⟨_, rfl⟩
      obtain ⟨x3, hx3⟩ : ∃ x, x = b[4 * k + 3]'(by omega) := ⟨_, rfl⟩
      rw [← hx0] at q0
      rw [← hx1] at q1
      rw [← hx2] at q2
      rw [← hx3] at q3
      rw [← hx0, ← hx1, ← hx2, ← hx3] at hbe hx
      have hcl : wr.cell? ⟨w.heap.size, k, none⟩ = some (.int .u32 0) := by rw [cell_of_row _ _ _ _ _ _ hrow]; exact wrds_new b k (by omega)
      have hfr : wr.frozen? ⟨w.heap.size, k, none⟩ = false := frozen_of_row _ _ _ _ _ hrow
      have HROW := Lib.hid hrow
      have HBE := Lib.hid hbe
      have HX := Lib.hid hx
      clear hrow hbe hx hx0 hx1 hx2 hx3
      have k64 : (k : Int) < 64 := by omega
      go_wp2
      go_region
      all_goals go_wp2
      go_roundw
      case rel =>
        refine ⟨k + 1, by omega, by simp, ?_, (hB.setCell (by show _ ≤ w.heap.size; omega) _).drew⟩
        rw [heap_drew, heap_setCell_same _ _ _ _ _ _ HROW.out, wrds_set b k (by omega) _ _ HX.out HBE.out.symm]
      case measure => simp [intOf]; omega
    · have hk16 : k = 16 := by omega
      have HK16 := Lib.hid hk16
      clear HM hBm hk16
      have HROW := Lib.hid hrow
      clear hrow
      obtain ⟨wo, rfl⟩ : ∃ wo : World, wo = wr := ⟨_, rfl⟩
      go_wp2
      go_loopw [9] (fun i wr => ∃ k : Nat, 16 ≤ k ∧ k ≤ 64 ∧ i = .int .i64 k ∧ wr.heap[w.heap.size]? = some (.cells (u32s (wrds b k)).toArray 93 (0, 0)) ∧ Below w.heap.size w wr) (fun i _ => 64 - (intOf i).toNat)
      case atStart => exact ⟨16, by omega, by omega, rfl, by rw [← HK16.out]; exact HROW.out, hB⟩
      case round =>
        obtain ⟨k, hk16, hk64, rfl, hrow, hB2⟩ := hrel
        clear hB HROW
        by_cases hlt : k < 64
        · have c15 : wr.cell? ⟨w.heap.size, k - 15, none⟩ = some (.int .u32 ((rsch b k).getD 14 0 : Nat)) := by rw [cell_of_row _ _ _ _ _ _ hrow, ← wrds_old b k 14 (by omega)]; congr 1
          have c2 : wr.cell? ⟨w.heap.size, k - 2, none⟩ = some (.int .u32 ((rsch b k).getD 1 0 : Nat)) := by rw [cell_of_row _ _ _ _ _ _ hrow, ← wrds_old b k 1 (by omega)]; congr 1
          have c16 : wr.cell? ⟨w.heap.size, k - 16, none⟩ = some (.int .u32 ((rsch b k).getD 15 0 : Nat)) := by rw [cell_of_row _ _ _ _ _ _ hrow, ← wrds_old b k 15 (by omega)]; congr 1
          have c7 : wr.cell? ⟨w.heap.size, k - 7, none⟩ = some (.int .u32 ((rsch b k).getD 6 0 : Nat)) := by rw [cell_of_row _ _ _ _ _ _ hrow, ← wrds_old b k 6 (by omega)]; congr 1
          have b15 := rsch_get_lt b k 14
          have b2 := rsch_get_lt b k 1
          have b16 := rsch_get_lt b k 15
          have b7 := rsch_get_lt b k 6
          obtain ⟨x15, hx15⟩ : ∃ x, x = (rsch b k).getD 14 0 := ⟨_, rfl⟩
          obtain ⟨x2, hx2⟩ : ∃ x, x = (rsch b k).getD 1 0 := ⟨_, rfl⟩
          obtain ⟨x16, hx16⟩ : ∃ x, x = (rsch b k).getD 15 0 := ⟨_, rfl⟩
          obtain ⟨x7, hx7⟩ : ∃ x, x = (rsch b k).getD 6 0 := ⟨_, rfl⟩
          rw [← hx15] at c15 b15
          rw [← hx2] at c2 b2
          rw [← hx16] at c16 b16
          rw [← hx7] at c7 b7
          have hcl : wr.cell? ⟨w.heap.size, k, none⟩ = some (.int .u32 0) := by rw [cell_of_row _ _ _ _ _ _ hrow]; exact wrds_new b k hlt
          have hfr : wr.frozen? ⟨w.heap.size, k, none⟩ = false := frozen_of_row _ _ _ _ _ hrow
          have HROW := Lib.hid hrow
          have X : Hid (x15 = (rsch b k).getD 14 0 ∧ x2 = (rsch b k).getD 1 0 ∧ x16 = (rsch b k).getD 15 0 ∧ x7 = (rsch b k).getD 6 0) := ⟨hx15, hx2, hx16, hx7⟩
          clear hrow hx15 hx2 hx16 hx7
          have k15a : ((k : Int) - 15) < 64 := by omega
          have k15b : 0 ≤ ((k : Int) - 15) := by omega
          have k15c : ((k : Int) - 15).toNat = k - 15 := by omega
          have k15d : IntKind.i64.wrap ((k : Int) - 15) = (k : Int) - 15 := IntWalk.i64_in _ (by omega)
          have k2a : ((k : Int) - 2) < 64 := by omega
          have k2b : 0 ≤ ((k : Int) - 2) := by omega
          have k2c : ((k : Int) - 2).toNat = k - 2 := by omega
          have k2d : IntKind.i64.wrap ((k : Int) - 2) = (k : Int) - 2 := IntWalk.i64_in _ (by omega)
          have e15 : bits BinOp.xor IntKind.u32 (bits BinOp.xor IntKind.u32 ((rr x15 7 : Nat) : Int) ((rr x15 18 : Nat) : Int)) ((x15 : Int) / 8) = ((s0 x15 : Nat) : Int) := sg_eq x15 7 18 8 b15 (by omega)
          have e2 : bits BinOp.xor IntKind.u32 (bits BinOp.xor IntKind.u32 ((rr x2 17 : Nat) : Int) ((rr x2 19 : Nat) : Int)) ((x2 : Int) / 1024) = ((s1 x2 : Nat) : Int) := sg_eq x2 17 19 1024 b2 (by omega)
          go_wp2
          go_quiet ((go_at_call 87; exact Calls.quiet_of (rot_q x15 _ _ b15 (by decide) (by decide))))
          have d2 : (wr.drewN nq).cell? ⟨w.heap.size, k - 2, none⟩ = some (.int .u32 (x2 : Nat)) := c2
          have d16 : (wr.drewN nq).cell? ⟨w.heap.size, k - 16, none⟩ = some (.int .u32 (x16 : Nat)) := c16
          have d7 : (wr.drewN nq).cell? ⟨w.heap.size, k - 7, none⟩ = some (.int .u32 (x7 : Nat)) := c7
          have dk : (wr.drewN nq).cell? ⟨w.heap.size, k, none⟩ = some (.int .u32 0) := hcl
          have df : (wr.drewN nq).frozen? ⟨w.heap.size, k, none⟩ = false := hfr
          have hB3 : Below w.heap.size w (wr.drewN nq) := below_drewN nq hB2
          have E : Hid ((wr.drewN nq).heap[w.heap.size]? = some (.cells (u32s (wrds b k)).toArray 93 (0, 0))) := HROW
          clear HROW hB2 c15 c2 c16 c7 hcl hfr
          generalize wr.drewN nq = wq at *
          go_wp2
          go_quiet ((go_at_call 87; exact Calls.quiet_of (rot_q x2 _ _ b2 (by decide) (by decide))))
          have f16 : (wq.drewN nq).cell? ⟨w.heap.size, k - 16, none⟩ = some (.int .u32 (x16 : Nat)) := d16
          have f7 : (wq.drewN nq).cell? ⟨w.heap.size, k - 7, none⟩ = some (.int .u32 (x7 : Nat)) := d7
          have fk : (wq.drewN nq).cell? ⟨w.heap.size, k, none⟩ = some (.int .u32 0) := dk
          have ff : (wq.drewN nq).frozen? ⟨w.heap.size, k, none⟩ = false := df
          have hB4 : Below w.heap.size w (wq.drewN nq) := below_drewN nq hB3
          have E4 : Hid ((wq.drewN nq).heap[w.heap.size]? = some (.cells (u32s (wrds b k)).toArray 93 (0, 0))) := E
          clear E hB3 d2 d16 d7 dk df e15 e2 k15a k15b k15c k15d k2a k2b k2c k2d
          generalize wq.drewN nq = wz at *
          have k16a : ((k : Int) - 16) < 64 := by omega
          have k16b : 0 ≤ ((k : Int) - 16) := by omega
          have k16c : ((k : Int) - 16).toNat = k - 16 := by omega
          have k16d : IntKind.i64.wrap ((k : Int) - 16) = (k : Int) - 16 := IntWalk.i64_in _ (by omega)
          have k7a : ((k : Int) - 7) < 64 := by omega
          have k7b : 0 ≤ ((k : Int) - 7) := by omega
          have k7c : ((k : Int) - 7).toNat = k - 7 := by omega
          have k7d : IntKind.i64.wrap ((k : Int) - 7) = (k : Int) - 7 := IntWalk.i64_in _ (by omega)
          have hx : rsch b (k + 1) = ((x16 + s0 x15 + x7 + s1 x2) % 4294967296) :: rsch b k := by
            obtain ⟨q1, q2, q3, q4⟩ := X.out
            rw [rsch, if_neg (by omega), nx, q1, q2, q3, q4]
          have HX := Lib.hid hx
          clear hx
          go_wp2
          go_region
          all_goals go_wp2
          go_roundw
          case rel =>
            refine ⟨k + 1, by omega, by omega, by simp, ?_, (hB4.setCell (by show _ ≤ w.heap.size; omega) _).drew⟩
            rw [heap_drew, heap_setCell_same _ _ _ _ _ _ E4.out, wrds_set b k (by omega) _ _ HX.out (nx_sum _ _ _ _).symm]
          case measure => simp [intOf]; omega
        · have hk6 : k = 64 := by omega
          rw [hk6] at hrow
          have HROW := Lib.hid hrow
          clear hrow hk6
          obtain ⟨wo, rfl⟩ : ∃ wo : World, wo = wr := ⟨_, rfl⟩
          have st : ∀ j (x : Nat), (u32s v.list)[j]? = some (.int .u32 (x : Int)) → wo.cell? ⟨g0, o0 + j, none⟩ = some (.int .u32 (x : Int)) := fun j x hx => cell_kept hB2 (S0.out j _ hx)
          have t0 : wo.cell? ⟨g0, o0, none⟩ = some (.int .u32 (v.a : Int)) := st 0 v.a rfl
          have t1 := st 1 v.b rfl
          have t2 := st 2 v.c rfl
          have t3 := st 3 v.d rfl
          have t4 := st 4 v.e rfl
          have t5 := st 5 v.f rfl
          have t6 := st 6 v.g rfl
          have t7 := st 7 v.h rfl
          clear st
          go_wp2
          go_loopw [12, 13, 14, 15, 16, 17, 18, 19, 20] (fun a b' c d e f g h i wx => ∃ (j : Nat) (z : S8), j ≤ 64 ∧ i = .int .i64 j ∧ Hid (z = upto v b j) ∧ z.ok ∧ a = .int .u32 (z.a : Int) ∧ b' = .int .u32 (z.b : Int) ∧ c = .int .u32 (z.c : Int) ∧ d = .int .u32 (z.d : Int) ∧ e = .int .u32 (z.e : Int) ∧ f = .int .u32 (z.f : Int) ∧ g = .int .u32 (z.g : Int) ∧ h = .int .u32 (z.h : Int) ∧
              wx.heap[w.heap.size]? = some (.cells (u32s (wrds b 64)).toArray 93 (0, 0)) ∧ Below w.heap.size w wx) (fun _ _ _ _ _ _ _ _ i _ => 64 - (intOf i).toNat)
          case atStart => exact ⟨0, v, by omega, rfl, Lib.hid rfl, hv, rfl, rfl, rfl, rfl, rfl, rfl, rfl, rfl, HROW.out, hB2⟩
          case round =>
            obtain ⟨j, z, hj, rfl, hZ, hzo, rfl, rfl, rfl, rfl, rfl, rfl, rfl, rfl, hrow, hB3⟩ := hrel
            clear t0 t1 t2 t3 t4 t5 t6 t7 HROW hB2
            obtain ⟨a, b1, cc, d, e, f, g, hh⟩ := z
            obtain ⟨oa, ob, oc, od, oe, of, og, oh⟩ := hzo
            dsimp only at oa ob oc od oe of og oh ⊢
            by_cases hlt : j < 64
            · have hup := upto_succ v b j hlt
              have qk : wr.cell? ⟨g2, o2 + j, none⟩ = some (.int .u32 ((ks.getD j 0 : Nat) : Int)) := cell_kept hB3 (S2.out j _ (by rw [u32s_at (by rw [ks_length]; exact hlt)]; simp [List.getD_eq_getElem?_getD, List.getElem?_eq_getElem (show j < ks.length by rw [ks_length]; exact hlt)]))
              have qw : wr.cell? ⟨w.heap.size, j, none⟩ = some (.int .u32 (((rsch b 64).getD (63 - j) 0 : Nat) : Int)) := by
                rw [cell_of_row _ _ _ _ _ _ hrow, ← wrds_old b 64 (63 - j) (by omega)]; congr 1; omega
              have bw := rsch_get_lt b 64 (63 - j)
              obtain ⟨wj, hwj⟩ : ∃ x, x = (rsch b 64).getD (63 - j) 0 := ⟨_, rfl⟩
              obtain ⟨kj, hkj⟩ : ∃ x, x = ks.getD j 0 := ⟨_, rfl⟩
              rw [← hwj] at qw bw hup
              rw [← hkj] at qk hup
              rw [← hZ.out] at hup
              have R1 := Lib.hid (S1_eq e oe)
              have R2 := Lib.hid (ch_eq e f g oe of og)
              have R3 := Lib.hid (S0_eq a oa)
              have R4 := Lib.hid (maj_eq a b1 cc oa ob oc)
              have HU := Lib.hid hup
              have HROW := Lib.hid hrow
              clear hup hrow hwj hkj hZ
              go_wp2
              go_quiet ((go_at_call 87; exact Calls.quiet_of (rot_q e _ _ oe (by decide) (by decide))))
              have hB4 : Below w.heap.size w (wr.drewN nq) := below_drewN nq hB3
              have E4 : Hid ((wr.drewN nq).heap[w.heap.size]? = some (.cells (u32s (wrds b 64)).toArray 93 (0, 0))) := HROW
              clear HROW hB3 qk qw
              generalize wr.drewN nq = wz at *
              go_wp2_with (go_at_call 87; go_must (refine (rot_any a _ _ oa (by decide) (by decide)).mono ?_); rintro e w' ⟨rfl, nd, rfl⟩)
              go_roundw
              case rel =>
                refine ⟨j + 1, round ⟨a, b1, cc, d, e, f, g, hh⟩ kj wj, by omega, by simp, Lib.hid HU.out.symm, round_ok ⟨oa, ob, oc, od, oe, of, og, oh⟩ _ _, ?_, rfl, rfl, rfl, ?_, rfl, rfl, rfl, E4.out, below_drewN _ hB4⟩
                · simp only [R1.out, R2.out, R3.out, R4.out]
                  unfold round
                  congr 1
                  dsimp only
                  omega
                · simp only [R1.out, R2.out]
                  unfold round
                  congr 1
                  dsimp only
                  omega
              case measure => simp [intOf]; omega
            · obtain rfl : j = 64 := by omega
              have st : ∀ j (x : Nat), (u32s v.list)[j]? = some (.int .u32 (x : Int)) → wr.cell? ⟨g0, o0 + j, none⟩ = some (.int .u32 (x : Int)) := fun j x hx => cell_kept hB3 (S0.out j _ hx)
              have t0 : wr.cell? ⟨g0, o0, none⟩ = some (.int .u32 (v.a : Int)) := st 0 v.a rfl
              have t1 := st 1 v.b rfl
              have t2 := st 2 v.c rfl
              have t3 := st 3 v.d rfl
              have t4 := st 4 v.e rfl
              have t5 := st 5 v.f rfl
              have t6 := st 6 v.g rfl
              have t7 := st 7 v.h rfl
              clear st hrow
              go_wp2
              go_still_tail 40, (by kernel_rfl)
              change wpList _ _ _ _ _ wr.drew
              have hBt : Below w.heap.size w wr.drew := Below.drew hB3
              clear t0 t1 t2 t3 t4 t5 t6 t7 hB3
              generalize wr.drew = wt at *
              go_wp2
              go_ret
              have hA : ∀ L : List Value, L = u32s (compress v b).list → (wt.alloc (.cells L.toArray 93)).ownsRow w.heap.size 93 1 (.slice (some ⟨wt.heap.size, 0, none⟩) 8 8) 8 (u32s (compress v b).list) := fun L hL => by
                subst hL
                exact own_new wt w.heap.size 93 1 8 _ hBt.size (by simp [u32s, S8.list]) (by simp [maxLen])
              refine ⟨some ⟨wt.heap.size, 0, none⟩, 8, rfl, hA [_, _, _, _, _, _, _, _] ?_, hBt.alloc hBt.size _⟩
              rw [← upto_end, ← hZ.out]
              exact addrow ⟨a, b1, cc, d, e, f, g, hh⟩ v
end Go.Proofs.YtaecljahbmcneaaDoor
