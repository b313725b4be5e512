/- sha.short, MAC, join, Digest, Derive, Stream. -/
import Derived.Test.YtpgakdioaebikaaDoorShaF
import Derived.Test.YtpgakdioaebikaaDoorWireB
namespace Go.Proofs.YtpgakdioaebikaaDoor
open Go.RowKit Go.Shelf

theorem size32 : (Tryd.prog.info? 23).map (·.size) = some 16 := by kernel_rfl

set_option maxHeartbeats 1000000 in
set_option maxRecDepth 100000 in
theorem short_any (d : List UInt8) (w : World) (hd : d.length = 32) :
    Calls Tryd.prog 32 #[.agg (bv d).toArray] w fun e w' => e = .returned (.agg (bv (d.take 16)).toArray) ∧ Below w.heap.size w w' := by
  have hbl : (bv d).length = 32 := by rw [bv_length, hd]
  have htl : (bv (d.take 16)).length = 16 := by rw [bv_length, List.length_take, hd]; rfl
  have hB0 : Below w.heap.size w ((w.alloc (.cells (bv d).toArray 53)).alloc (.cells (List.replicate 16 (Value.int .u8 0)).toArray 23)) := ((Below.refl _ w).alloc (Nat.le_refl _) _).alloc (by simp) _
  have hrow : ((w.alloc (.cells (bv d).toArray 53)).alloc (.cells (List.replicate 16 (Value.int .u8 0)).toArray 23)).heap[w.heap.size]? = some (.cells (bv d).toArray 53 (0, 0)) := (heap_alloc_old _ _ (by simp)).trans (heap_alloc_new _ _)
  have hres : ((w.alloc (.cells (bv d).toArray 53)).alloc (.cells (List.replicate 16 (Value.int .u8 0)).toArray 23)).heap[w.heap.size + 1]? = some (.cells (List.replicate 16 (Value.int .u8 0)).toArray 23 (0, 0)) := heap_at _ _ _ (by simp)
  have hrange : ((w.alloc (.cells (bv d).toArray 53)).alloc (.cells (List.replicate 16 (Value.int .u8 0)).toArray 23)).rangeAt w.heap.size 0 (bv (d.take 16)) := fun i v hv => by
    have hi := (List.getElem?_eq_some_iff.1 hv).1
    rw [Nat.zero_add, cell_of_row _ _ _ _ _ _ hrow, List.getElem?_toArray, ← hv]
    rw [htl] at hi
    simp [bv, hi]
  have HR := Lib.hid hrange
  have HS := Lib.hid hres
  have harr := fun W : World => run_arrayAt (P := Tryd.prog) W Tryd.underlying23 (some ⟨w.heap.size, 0, none⟩) 16 32 (Nat.le_refl _)
  clear hrange hrow hres
  go_enter Tryd.func32, Tryd.ntmps32
  go_wp2_with (first
    | (refine wpList_load_mid rfl 23 (.tmp 4) rfl w.heap.size 0 rfl (bv (d.take 16)) _ HR.out Tryd.underlying23 rfl (by rw [htl]; exact size32) ?_)
    | (refine wpList_storeB rfl 23 (.tmp 2) (.tmp 5) rfl size32 HS.out (bv_one (d.take 16)) htl (by rfl) rfl rfl ?_; intro w1 h1 hg1 hz1))
  refine ret_agg rfl Tryd.underlying23 size32 rfl h1 htl rfl rfl ?_
  exact ⟨rfl, hB0.grown hg1 (by simp; omega) (fun k e => by cases e; omega)⟩

def mac (key m : List UInt8) : List UInt8 := (hmac key m).take 16
theorem hmac_length (key m : List UInt8) : (hmac key m).length = 32 := sha_length _
theorem mac_length (key m : List UInt8) : (mac key m).length = 16 := by unfold mac; rw [List.length_take, hmac_length]; rfl

set_option maxHeartbeats 1000000 in
set_option maxRecDepth 100000 in
theorem mac_any (A : Option Addr) (n c : Nat) (key : List UInt8) (A2 : Option Addr) (n2 c2 : Nat) (m : List UInt8) (w : World) (hr : Rd w A n key) (hr2 : Rd w A2 n2 m) (hn : n ≤ 1073741824) (hn2 : n2 ≤ 1073741000) (hL : Laid w) :
    Calls Tryd.prog 49 #[.slice A n c, .slice A2 n2 c2] w fun e w' => e = .returned (.agg (bv (mac key m)).toArray) ∧ Below w.heap.size w w' := by
  have hB0 : Below w.heap.size w (w.alloc (.cells (List.replicate 16 (Value.int .u8 0)).toArray 23)) := (Below.refl _ w).alloc (Nat.le_refl _) _
  have HS := Lib.hid (heap_alloc_new w (.cells (List.replicate 16 (Value.int .u8 0)).toArray 23))
  have hml : (bv (mac key m)).length = 16 := by rw [bv_length, mac_length]
  go_enter Tryd.func49, Tryd.ntmps49
  go_wp2_with (first
    | (go_at_call 57; go_must (refine (hmac_any _ _ _ key _ _ _ m _ (hr.below hB0) (hr2.below hB0) hn hn2 (hL.below hB0)).mono ?_); rintro e w1 ⟨rfl, hB1⟩)
    | (go_at_call 32; go_must (refine (short_any (hmac key m) _ (hmac_length key m)).mono ?_); rintro e w2 ⟨rfl, hB2⟩; have HS2 := Lib.hid (block_below (block_below HS.out hB1) hB2))
    | (refine wpList_storeB rfl 23 (.tmp 4) (.tmp 8) rfl size32 HS2.out (bv_one (mac key m)) hml (by rfl) rfl rfl ?_; intro w3 h3 hg3 hz3))
  refine ret_agg rfl Tryd.underlying23 size32 rfl h3 hml rfl rfl ?_
  have hBa : Below w.heap.size w w2 := (hB0.trans (hB1.mono hB0.size)).trans (hB2.mono (Nat.le_trans hB0.size hB1.size))
  exact ⟨rfl, hBa.grown hg3 hBa.size (fun k e => by cases e; omega)⟩

/-- A slice of slices of bytes is read. -/
structure RdL (w : World) (A : Option Addr) (n : Nat) (ps : List (List UInt8)) : Prop where
  len : ps.length = n
  row : ∃ vs : List Value, vs.length = n ∧ Cells w A vs ∧ ∀ k (hk : k < ps.length), ∃ Ak nk ck, vs[k]? = some (.slice Ak nk ck) ∧ Rd w Ak nk ps[k]
theorem RdL.below {w w1 : World} {A : Option Addr} {n : Nat} {ps : List (List UInt8)} (h : RdL w A n ps) (hb : Below w.heap.size w w1) : RdL w1 A n ps := by
  obtain ⟨h0, vs, h1, h2, h3⟩ := h
  refine ⟨h0, vs, h1, h2.below hb, fun k hk => ?_⟩
  obtain ⟨Ak, nk, ck, h4, h5⟩ := h3 k hk
  exact ⟨Ak, nk, ck, h4, h5.below hb⟩

def joined (ps : List (List UInt8)) : List UInt8 := (ps.map encBytes).flatten
theorem joined_snoc (ps : List (List UInt8)) (k : Nat) (hk : k < ps.length) : joined (ps.take (k + 1)) = joined (ps.take k) ++ encBytes ps[k] := by
  unfold joined
  rw [List.take_succ_eq_append_getElem hk]
  simp only [List.map_append, List.map_cons, List.map_nil, List.flatten_append, List.flatten_cons, List.flatten_nil, List.append_nil]
theorem joined_le (ps : List (List UInt8)) (N : Nat) (h : ∀ p ∈ ps, p.length ≤ N) : (joined ps).length ≤ ps.length * (10 + N) := by
  induction ps with
  | nil => simp [joined]
  | cons p ps ih =>
    have h1 := ih (fun q hq => h q (List.mem_cons_of_mem _ hq))
    have h2 := h p (List.mem_cons_self ..)
    have h3 := encBytes_le p
    have e : joined (p :: ps) = encBytes p ++ joined ps := rfl
    rw [e, List.length_append, List.length_cons, Nat.succ_mul]
    omega

set_option maxHeartbeats 1000000 in
set_option maxRecDepth 100000 in
theorem join_any (w0 : World) (A : Option Addr) (c : Nat) (pre : List UInt8) (A2 : Option Addr) (n2 c2 : Nat) (ps : List (List UInt8)) (n : Nat) (w : World) (hown : w.ownsRow w0.heap.size 5 1 (.slice A pre.length c) pre.length (bv pre)) (hn : n = pre.length) (hr : RdL w0 A2 n2 ps) (hB : Below w0.heap.size w0 w)
    (h1 : pre.length ≤ 1000000) (h2 : n2 ≤ 4096) (h3 : ∀ p ∈ ps, p.length ≤ 65536) :
    Calls Tryd.prog 34 #[.slice A n c, .slice A2 n2 c2] w fun e w' => ∃ A1 c1, e = .returned (.slice A1 (pre ++ joined ps).length c1) ∧ w'.ownsRow w0.heap.size 5 1 (.slice A1 (pre ++ joined ps).length c1) (pre ++ joined ps).length (bv (pre ++ joined ps)) ∧ Below w0.heap.size w0 w' := by
  subst hn
  obtain ⟨hlen, vs, hvl, hvc, hvr⟩ := hr
  have hb1 := joined_le ps 65536 h3
  go_enter Tryd.func34, Tryd.ntmps34
  go_wp2
  go_loopw [0, 9] (fun v i wr => ∃ (k : Nat) (A1 : Option Addr) (c1 : Nat), k ≤ n2 ∧ i = .int .i64 k ∧ v = .slice A1 (pre ++ joined (ps.take k)).length c1 ∧ wr.ownsRow w0.heap.size 5 1 (.slice A1 (pre ++ joined (ps.take k)).length c1) (pre ++ joined (ps.take k)).length (bv (pre ++ joined (ps.take k))) ∧ Below w0.heap.size w0 wr)
    (fun _ i _ => n2 - (intOf i).toNat)
  case atStart => exact ⟨0, A, c, by omega, rfl, by simp [joined], by simpa [joined] using hown, hB⟩
  case round =>
    obtain ⟨k, A1, c1, hk, rfl, rfl, hown1, hB1⟩ := hrel
    clear hown hB
    by_cases hlt : k < n2
    · have hkp : k < ps.length := by omega
      obtain ⟨Ak, nk, ck, hvk, hrk⟩ := hvr k hkp
      have hrk := hrk.below hB1
      obtain ⟨b, off, rfl, hcell⟩ := (hvc.below hB1) (by omega)
      have hck := hcell k _ hvk
      have hnk := hrk.len
      have hpk := h3 ps[k] (List.getElem_mem _)
      have hpre : (pre ++ joined (ps.take k)).length ≤ 300000000 := by
        have := joined_le (ps.take k) 65536 (fun p hp => h3 p (List.mem_of_mem_take hp))
        rw [List.length_append]
        rw [List.length_take] at this
        have hm : min k ps.length ≤ 4096 := by omega
        have := Nat.le_trans this (Nat.mul_le_mul_right _ hm)
        omega
      obtain ⟨P, hP⟩ : ∃ P, P = pre ++ joined (ps.take k) := ⟨_, rfl⟩
      have hPn : P ++ encBytes ps[k] = pre ++ joined (ps.take (k + 1)) := by rw [hP, joined_snoc ps k hkp, List.append_assoc]
      rw [← hP] at hown1 hpre ⊢
      have HP := Lib.hid hPn
      obtain ⟨X, hX⟩ : ∃ X, X = ps[k] := ⟨_, rfl⟩
      rw [← hX] at hrk hnk hpk HP
      have hel := encBytes_le X
      clear hP hPn hX hcell hvk hvc hvr
      go_wp2_with (first
        | (refine wpList_str rfl _ 41 9 rfl Tryd.underlying41 Tryd.underlying5 Tryd.underlying9 hrk rfl ?_)
        | (go_at_call 46; go_must (refine (bytes_any ⟨X.toArray⟩ _ (by show X.toArray.size ≤ _; simp; omega)).mono ?_); rintro e w1 ⟨A3, c3, rfl, hown3, hB3⟩)
        | (at_builtin; go_must (refine wpList_app rfl _ _ 41 rfl w0.heap.size 5 1 1 _ Tryd.underlying41 info5 rfl (by decide) (by decide) _ _ _ (bv (encBytes X)) _ _ _ (own_below hown1 hB3) (own_cells hown3) rfl rfl (by rw [bv_length]; simp) (bv_one _) (by have := hB1.size; have := hB3.size; omega) (by omega) ?_); intro A4 c4 w4 hown4 hg4 hat4))
      have e : P.length + (encBytes X).length = (pre ++ joined (ps.take (k + 1))).length := by rw [← HP.out, List.length_append]
      rw [e, ← bv_append, HP.out] at hown4
      go_roundw
      case rel => exact ⟨k + 1, A4, c4, by omega, by simp, by rw [e], hown4, (hB1.trans (hB3.mono hB1.size)).grown hg4 (by have := hB1.size; have := hB3.size; omega) (own_ge hown1)⟩
      case measure => simp [intOf]; omega
    · obtain rfl : k = n2 := by omega
      go_wp2
      go_ret
      have e : ps.take k = ps := List.take_of_length_le (by omega)
      rw [e] at hown1
      exact ⟨A1, c1, by simp [e], hown1, hB1⟩

def derive (key label : List UInt8) (ps : List (List UInt8)) : List UInt8 := mac key (encBytes label ++ joined ps)

set_option maxHeartbeats 1000000 in
set_option maxRecDepth 100000 in
theorem derive_any (A : Option Addr) (n c : Nat) (key : List UInt8) (label : ByteArray) (A2 : Option Addr) (n2 c2 : Nat) (ps : List (List UInt8)) (w : World) (hrk : Rd w A n key) (hr : RdL w A2 n2 ps) (hn : n ≤ 1073741824) (hl : label.size ≤ 900000) (h2 : n2 ≤ 4096) (h3 : ∀ p ∈ ps, p.length ≤ 65536) (hL : Laid w) :
    Calls Tryd.prog 39 #[.slice A n c, .string label, .slice A2 n2 c2] w fun e w' => e = .returned (.agg (bv (derive key label.data.toList ps)).toArray) ∧ Below w.heap.size w w' := by
  have hB0 : Below w.heap.size w (w.alloc (.cells (List.replicate 16 (Value.int .u8 0)).toArray 23)) := (Below.refl _ w).alloc (Nat.le_refl _) _
  have HS := Lib.hid (heap_alloc_new w (.cells (List.replicate 16 (Value.int .u8 0)).toArray 23))
  have hml : (bv (mac key (encBytes label.data.toList ++ joined ps))).length = 16 := by rw [bv_length, mac_length]
  have hb1 := joined_le ps 65536 h3
  have hpl := hr.len
  have hel := encBytes_le label.data.toList
  rw [size_bytes] at hel
  have hjl : (encBytes label.data.toList ++ joined ps).length ≤ 300000000 := by
    have := Nat.le_trans hb1 (Nat.mul_le_mul_right _ (show ps.length ≤ 4096 by omega))
    rw [List.length_append]
    omega
  go_enter Tryd.func39, Tryd.ntmps39
  go_wp2_with (first
    | (go_at_call 46; go_must (refine (bytes_any label _ (by omega)).mono ?_); rintro e w0 ⟨A0, c0, rfl, hown0, hBb⟩)
    | (go_at_call 34; go_must (refine (join_any (w.alloc (.cells (List.replicate 16 (Value.int .u8 0)).toArray 23)) _ _ _ _ _ _ ps _ _ hown0 rfl (hr.below hB0) hBb (by omega) h2 h3).mono ?_); rintro e w1 ⟨A1, c1, rfl, hown1, hB1⟩;
       have hBw1 := hB0.trans (hB1.mono hB0.size); have HS1 := Lib.hid (block_below HS.out hB1))
    | (go_at_call 49; go_must (refine (mac_any _ _ _ key _ _ _ _ _ (hrk.below hBw1) ⟨by simp, own_cells hown1⟩ hn (by rw [List.length_append] at hjl; omega) (hL.below hBw1)).mono ?_); rintro e w3 ⟨rfl, hB3⟩; have hBw3 := hBw1.trans (hB3.mono hBw1.size); have HS3 := Lib.hid (block_below HS1.out hB3))
    | (refine wpList_storeB rfl 23 (.tmp 6) (.tmp 12) rfl size32 HS3.out (bv_one (mac key (encBytes label.data.toList ++ joined ps))) hml (by rfl) rfl rfl ?_; intro w4 h4 hg4 hz4))
  refine ret_agg rfl Tryd.underlying23 size32 rfl h4 hml rfl rfl ?_
  exact ⟨by unfold derive; rfl, hBw3.grown hg4 hBw3.size (fun k e => by cases e; omega)⟩
end Go.Proofs.YtpgakdioaebikaaDoor
