/- The reference of chapter 02: HMAC, MAC, Derive. -/
import Derived.Test.YtaecljahbmcneaaDoorRefD
import Derived.Test.YtaecljahbmcneaaDoorShaG
import Derived.Deep.Cut
namespace Go.Proofs.YtaecljahbmcneaaDoor
open Go.RowKit Go.Shelf

/-- The two rows lie in two blocks. -/
def Apart2 (v u : Value) : Prop := ∀ b, v.ownBlock = some b → u.ownBlock ≠ some b
theorem apart_nil (u : Value) : Apart2 (.slice none 0 0) u := fun b h => by cases h
theorem Apart2.symm {v u : Value} (h : Apart2 v u) : Apart2 u v := fun b h1 h2 => h b h2 h1
theorem own_apart {w w1 : World} {base : Nat} {e : TypeId} {size n : Nat} {v u : Value} {xs : List Value} (h : w.ownsRow base e size v n xs) (hg : w.grownBy w1 u.ownBlock) (ha : Apart2 v u) : w1.ownsRow base e size v n xs := by
  refine World.ownsRow.kept h hg ?_
  cases hv : v.ownBlock with
  | none => exact .inl rfl
  | some b => exact .inr (fun e => ha b hv e.symm)
theorem apart_step {w : World} {base : Nat} {e : TypeId} {size n : Nat} {v u u1 : Value} {xs : List Value} (h : w.ownsRow base e size v n xs) (ha : Apart2 v u) (h1 : u1.ownBlock = u.ownBlock ∨ ∃ b, u1.ownBlock = some b ∧ w.heap.size ≤ b) : Apart2 v u1 := by
  intro b hb hb1
  rcases h1 with h1 | ⟨b2, h1, hle⟩
  · exact ha b hb (h1 ▸ hb1)
  · have := (World.ownsRow.lt h b hb).2
    rw [h1] at hb1
    injection hb1 with e
    omega

/-- The key, filled up with zeros. -/
def full (key : List UInt8) : List UInt8 := key ++ List.replicate (64 - key.length) 0
theorem full_length (key : List UInt8) (h : key.length ≤ 64) : (full key).length = 64 := by unfold full; simp; omega
theorem full_lo (key : List UInt8) (j : Nat) (h : j < key.length) (h2 : j < (full key).length) : (full key)[j] = key[j] := by simp [full, h]
theorem full_hi (key : List UInt8) (j : Nat) (h : key.length ≤ j) (h2 : j < (full key).length) : (full key)[j] = 0 := by simp [full, List.getElem_append_right h]
theorem padkey_full (key : List UInt8) (x : UInt8) : padkey key x = (full key).map (· ^^^ x) := rfl
theorem pad_snoc (key : List UInt8) (x : UInt8) (j : Nat) (h : j < (full key).length) : ((full key).take (j + 1)).map (· ^^^ x) = ((full key).take j).map (· ^^^ x) ++ [(full key)[j] ^^^ x] := by
  rw [List.take_succ_eq_append_getElem h, List.map_append]; rfl
theorem xor_val (b x : UInt8) (xx : Int) (hx : xx = (x.toNat : Int)) : (((b ^^^ x).toNat : Nat) : Int) = bits BinOp.xor IntKind.u8 (b.toNat : Int) xx := by
  subst hx
  rw [u8_xor_nat _ _ b.toNat_lt x.toNat_lt]
  simp

set_option maxHeartbeats 4000000 in
set_option maxRecDepth 100000 in
theorem rhmac_any (A : Option Addr) (n c : Nat) (key : List UInt8) (A2 : Option Addr) (n2 c2 : Nat) (m : List UInt8) (w : World) (hr : Rd w A n key) (hr2 : Rd w A2 n2 m) (hn : n ≤ 1073741824) (hn2 : n2 ≤ 1073741000) :
    Calls Tryd.prog 69 #[.slice A n c, .slice A2 n2 c2] w fun e w' => e = .returned (.agg (bv (hmac key m)).toArray) ∧ Below w.heap.size w w' := by
  have hlen := hr.len
  have hB0 : Below w.heap.size w (w.alloc (.cells (List.replicate 32 (Value.int .u8 0)).toArray 78)) := (Below.refl _ w).alloc (Nat.le_refl _) _
  have HRES := Lib.hid (heap_alloc_new w (.cells (List.replicate 32 (Value.int .u8 0)).toArray 78))
  have r0 := hr.below hB0
  go_enter Tryd.func69, Tryd.ntmps69
  go_upto_if 11 with (fail)
  go_cut [0] from 9 (fun v W => ∃ (A' : Option Addr) (n' c' : Nat), v = .slice A' n' c' ∧ Rd W A' n' (hkey key) ∧ n' ≤ 64 ∧ W.heap[w.heap.size]? = some (.cells (List.replicate 32 (Value.int .u8 0)).toArray 78 (0, 0)) ∧ Below w.heap.size w W)
  case first =>
    by_cases hk : 64 < n
    · have hhk : hkey key = sha key := if_pos (by omega)
      have HHK := Lib.hid hhk
      have HLEN := Lib.hid hlen
      clear hhk hlen
      go_wp2_with (first
        | (go_at_call 77; go_must (refine (rsum_any _ _ _ key _ r0 hn).mono ?_); rintro e w1 ⟨rfl, hB1⟩)
        | (go_at_call 70; go_must (refine (all_any (sha key) _ (sha_length key)).mono ?_); rintro e w2 ⟨A3, c3, rfl, hown2, hB2⟩))
      go_meet
      case rel =>
        have h12 := hB1.trans (hB2.mono hB1.size)
        exact ⟨A3, 32, c3, rfl, by rw [HHK.out]; exact ⟨sha_length key, own_cells hown2⟩, by omega, block_below HRES.out h12, hB0.trans (h12.mono hB0.size)⟩
    · have hhk : hkey key = key := if_neg (by omega)
      have HHK := Lib.hid hhk
      have HLEN := Lib.hid hlen
      clear hhk hlen
      go_wp2
      go_meet
      case rel => exact ⟨A, n, c, rfl, by rw [HHK.out]; exact r0, by omega, HRES.out, hB0⟩
  case rest =>
    obtain ⟨A', n', c', rfl, hrk, hn', hres, hB⟩ := hcut
    have HR := Lib.hid hres
    have hz : w.heap.size < wc.heap.size := (Array.getElem?_eq_some_iff.1 hres).1
    have hkl := hkey_length key
    have hfl := full_length (hkey key) hkl
    have HFL := Lib.hid hfl
    have hnk := Lib.hid hrk.len
    have hr2c := hr2.below hB
    clear hres hB0 HRES r0 hlen hfl hkl
    go_wp2
    go_loopw [5, 6, 7, 8] (fun vi vo i _ wr => ∃ (j : Nat) (A5 A6 : Option Addr) (c5 c6 : Nat), j ≤ 64 ∧ i = .int .i64 j ∧ vi = .slice A5 j c5 ∧ vo = .slice A6 j c6 ∧ wr.ownsRow wc.heap.size 5 1 (.slice A5 j c5) j (bv (((full (hkey key)).take j).map (· ^^^ 54))) ∧ wr.ownsRow wc.heap.size 5 1 (.slice A6 j c6) j (bv (((full (hkey key)).take j).map (· ^^^ 92))) ∧
        Apart2 (.slice A5 j c5) (.slice A6 j c6) ∧ Below wc.heap.size wc wr) (fun _ _ i _ _ => 64 - (intOf i).toNat)
    case atStart => exact ⟨0, none, none, 0, 0, by omega, rfl, rfl, rfl, World.ownsRow_nil _ _ _ _, World.ownsRow_nil _ _ _ _, apart_nil _, Below.refl _ _⟩
    case round =>
      obtain ⟨j, A5, A6, c5, c6, hj, rfl, rfl, rfl, own5, own6, hap, hBr⟩ := hrel
      by_cases hlt : j < 64
      · have hjf : j < (full (hkey key)).length := by have := HFL.out; omega
        obtain ⟨b, hb⟩ : ∃ b, b = (full (hkey key))[j] := ⟨_, rfl⟩
        have hx1 := xor_val b 54 54 (by decide)
        have hx2 := xor_val b 92 92 (by decide)
        have s1 := pad_snoc (hkey key) 54 j hjf
        have s2 := pad_snoc (hkey key) 92 j hjf
        rw [← hb] at s1 s2
        have HX1 := Lib.hid hx1
        have HX2 := Lib.hid hx2
        have S1 := Lib.hid s1
        have S2 := Lib.hid s2
        have HAP := Lib.hid hap
        have hj64 : (j : Int) < 64 := by omega
        have hzw : wc.heap.size ≤ wr.heap.size := hBr.size
        clear hx1 hx2 s1 s2 hap
        have tok1 : True := trivial
        by_cases hjn : j < n'
        · have hbk : b = (hkey key)[j]'(by rw [hnk.out]; exact hjn) := by rw [hb, full_lo]
          obtain ⟨bb, off, rfl, hcell⟩ := (hrk.below hBr).at_ (by omega)
          have hcj : wr.cell? ⟨bb, off + j, none⟩ = some (.int .u8 (b.toNat : Int)) := by rw [hbk]; exact hcell j (by rw [hnk.out]; exact hjn)
          clear hcell hbk hb
          go_wp2_with (first
            | (at_builtin; have _t := tok1; refine wpList_app1 rfl _ _ 48 rfl wc.heap.size 5 1 (.int .u8 0) Tryd.underlying48 info5 rfl (by decide) _ _ _ _ own5 rfl rfl rfl hzw (by omega) ?_; intro A7 c7 w7 own7 hg7 hat7; have own6' := own_apart own6 hg7 (HAP.out.symm); have hap7 := apart_step own6 HAP.out.symm hat7; have hz7 := Nat.le_trans hzw hg7.size; clear tok1)
            | (at_builtin; refine wpList_app1 rfl _ _ 48 rfl wc.heap.size 5 1 (.int .u8 0) Tryd.underlying48 info5 rfl (by decide) _ _ _ _ own6' rfl rfl rfl hz7 (by omega) ?_; intro A8 c8 w8 own8 hg8 hat8; have own7' := own_apart own7 hg8 hap7.symm; have hap8 := apart_step own7 hap7.symm hat8))
          have e1 : bv (((full (hkey key)).take j).map (· ^^^ 54)) ++ [Value.int IntKind.u8 (bits BinOp.xor IntKind.u8 (b.toNat : Int) 54)] = bv (((full (hkey key)).take (j + 1)).map (· ^^^ 54)) := by rw [S1.out, bv_append, ← HX1.out]; rfl
          have e2 : bv (((full (hkey key)).take j).map (· ^^^ 92)) ++ [Value.int IntKind.u8 (bits BinOp.xor IntKind.u8 (b.toNat : Int) 92)] = bv (((full (hkey key)).take (j + 1)).map (· ^^^ 92)) := by rw [S2.out, bv_append, ← HX2.out]; rfl
          rw [e1] at own7'
          rw [e2] at own8
          go_roundw
          case rel => exact ⟨j + 1, A7, A8, c7, c8, by omega, by simp, rfl, rfl, own7', own8, hap8, (hBr.grown hg7 hzw (own_ge own5)).grown hg8 hz7 (own_ge own6)⟩
          case measure => simp [intOf]; omega
        · have hb0 : b = 0 := by rw [hb, full_hi _ _ (by rw [hnk.out]; omega)]
          have HB0 := Lib.hid hb0
          clear hb hb0
          go_wp2_with (first
            | (at_builtin; have _t := tok1; refine wpList_app1 rfl _ _ 48 rfl wc.heap.size 5 1 (.int .u8 0) Tryd.underlying48 info5 rfl (by decide) _ _ _ _ own5 rfl rfl rfl hzw (by omega) ?_; intro A7 c7 w7 own7 hg7 hat7; have own6' := own_apart own6 hg7 (HAP.out.symm); have hap7 := apart_step own6 HAP.out.symm hat7; have hz7 := Nat.le_trans hzw hg7.size; clear tok1)
            | (at_builtin; refine wpList_app1 rfl _ _ 48 rfl wc.heap.size 5 1 (.int .u8 0) Tryd.underlying48 info5 rfl (by decide) _ _ _ _ own6' rfl rfl rfl hz7 (by omega) ?_; intro A8 c8 w8 own8 hg8 hat8; have own7' := own_apart own7 hg8 hap7.symm; have hap8 := apart_step own7 hap7.symm hat8))
          have f1 : w8.ownsRow wc.heap.size 5 1 (.slice A7 (j + 1) c7) (j + 1) (bv (((full (hkey key)).take (j + 1)).map (· ^^^ 54))) := by rw [S1.out, bv_append, HB0.out]; exact own7'
          have f2 : w8.ownsRow wc.heap.size 5 1 (.slice A8 (j + 1) c8) (j + 1) (bv (((full (hkey key)).take (j + 1)).map (· ^^^ 92))) := by rw [S2.out, bv_append, HB0.out]; exact own8
          clear own7' own8
          go_roundw
          case rel => exact ⟨j + 1, A7, A8, c7, c8, by omega, by simp, rfl, rfl, f1, f2, hap8, (hBr.grown hg7 hzw (own_ge own5)).grown hg8 hz7 (own_ge own6)⟩
          case measure => simp [intOf]; omega
      · have hj64 : j = 64 := by omega
        subst hj64
        have e1 : (full (hkey key)).take 64 = full (hkey key) := List.take_of_length_le (by rw [HFL.out]; omega)
        rw [e1, ← padkey_full] at own5 own6
        have hzw : wc.heap.size ≤ wr.heap.size := hBr.size
        have hmr := hr2c.below hBr
        have tok1 : True := trivial
        have p1 := padkey_length (hkey key) 92 (hkey_length key)
        have P1 := Lib.hid p1
        clear e1 p1
        go_wp2_with (first
          | (at_builtin; have _t := tok1; refine wpList_app rfl _ _ 48 rfl wc.heap.size 5 1 1 _ Tryd.underlying48 info5 rfl (by decide) (by decide) _ _ _ _ _ _ _ own5 hmr.cells rfl rfl (by rw [bv_length, Nat.mul_one]; exact hmr.len) (bv_one m) hzw (by omega) ?_; intro A7 c7 w7 own7 hg7 hat7; have own6' := own_apart own6 hg7 hap.symm; have hB7 := hBr.grown hg7 hzw (own_ge own5); rw [← bv_append] at own7; clear tok1)
          | (go_at_call 77; refine (rsum_any _ _ _ (padkey (hkey key) 54 ++ m) _ ⟨by rw [List.length_append, padkey_length _ _ (hkey_length key), hmr.len], own_cells own7⟩ (by omega)).mono ?_; rintro e w8 ⟨rfl, hB8⟩; have own6'' := own_below own6' hB8; have hB8' := hB7.trans (hB8.mono hB7.size); clear own7)
          | (go_at_call 70; go_must (refine (all_any _ _ (sha_length _)).mono ?_); rintro e w9 ⟨A9, c9, rfl, own9, hB9⟩; have own69 := own_below own6'' hB9; have hB9' := hB8'.trans (hB9.mono hB8'.size))
          | (at_builtin; refine wpList_app rfl _ _ 48 rfl wc.heap.size 5 1 1 _ Tryd.underlying48 info5 rfl (by decide) (by decide) _ _ _ _ _ _ _ own69 (own_cells own9) rfl rfl (by rw [bv_length, sha_length]) (bv_one _) hB9'.size (by omega) ?_; intro A10 c10 w10 own10 hg10 hat10; have hB10 := hB9'.grown hg10 hB9'.size (own_ge own69); rw [← bv_append] at own10)
          | (go_at_call 77; go_must (refine (rsum_any _ _ _ (padkey (hkey key) 92 ++ sha (padkey (hkey key) 54 ++ m)) _ ⟨by rw [List.length_append, P1.out, sha_length], own_cells own10⟩ (by omega)).mono ?_); rintro e w11 ⟨rfl, hB11⟩; have hB11' := hB10.trans (hB11.mono hB10.size); have HR11 := Lib.hid (block_below HR.out hB11'))
          | (refine wpList_storeB rfl 78 (.tmp 4) (.tmp 46) rfl size27 HR11.out (bv_one (sha (padkey (hkey key) 92 ++ sha (padkey (hkey key) 54 ++ m)))) (by rw [bv_length, sha_length]) (by rfl) rfl rfl ?_; intro w12 h12 hg12 hz12))
        refine ret_agg rfl Tryd.underlying78 size27 rfl h12 (by rw [bv_length, sha_length]) rfl rfl ?_
        have hBf := hB.trans (hB11'.mono hB.size)
        exact ⟨rfl, hBf.grown hg12 hBf.size (fun k e => by cases e; omega)⟩

set_option maxHeartbeats 1000000 in
set_option maxRecDepth 100000 in
theorem rmac_any (A : Option Addr) (n c : Nat) (key : List UInt8) (A2 : Option Addr) (n2 c2 : Nat) (m : List UInt8) (w : World) (hr : Rd w A n key) (hr2 : Rd w A2 n2 m) (hn : n ≤ 1073741824) (hn2 : n2 ≤ 1073741000) :
    Calls Tryd.prog 63 #[.slice A n c, .slice A2 n2 c2] w fun e w' => e = .returned (.agg (bv (mac key m)).toArray) ∧ Below w.heap.size w w' := by
  have hB0 : Below w.heap.size w (w.alloc (.cells (List.replicate 16 (Value.int .u8 0)).toArray 34)) := (Below.refl _ w).alloc (Nat.le_refl _) _
  have HS := Lib.hid (heap_alloc_new w (.cells (List.replicate 16 (Value.int .u8 0)).toArray 34))
  have hml : (bv (mac key m)).length = 16 := by rw [bv_length, mac_length]
  go_enter Tryd.func63, Tryd.ntmps63
  go_wp2_with (first
    | (go_at_call 69; go_must (refine (rhmac_any _ _ _ key _ _ _ m _ (hr.below hB0) (hr2.below hB0) hn hn2).mono ?_); rintro e w1 ⟨rfl, hB1⟩)
    | (go_at_call 68; go_must (refine (rshort_any (hmac key m) _ (hmac_length key m)).mono ?_); rintro e w2 ⟨rfl, hB2⟩; have HS2 := Lib.hid (block_below (block_below HS.out hB1) hB2))
    | (refine wpList_storeB rfl 34 (.tmp 4) (.tmp 8) rfl size32 HS2.out (bv_one (mac key m)) hml (by rfl) rfl rfl ?_; intro w3 h3 hg3 hz3))
  refine ret_agg rfl Tryd.underlying34 size32 rfl h3 hml rfl rfl ?_
  have hBa : Below w.heap.size w w2 := (hB0.trans (hB1.mono hB0.size)).trans (hB2.mono (Nat.le_trans hB0.size hB1.size))
  exact ⟨rfl, hBa.grown hg3 hBa.size (fun k e => by cases e; omega)⟩
end Go.Proofs.YtaecljahbmcneaaDoor
