/- BoxStream. -/
import Derived.Test.YtaecljahbmcneaaDoorBoxS
import Derived.Test.YtaecljahbmcneaaDoorOpenB
import Derived.Test.YtaecljahbmcneaaDoorRBoxB
namespace Go.Proofs.YtaecljahbmcneaaDoor
open Go.RowKit Go.Shelf

theorem field_cipher (W : World) (n : Int) (c : ByteArray) (T : List UInt8) (h : T.length = 16) : (Instr.field 36 (.agg (boxv n c T).toArray) 1).run Tryd.prog W = .ok (.string c) W := by
  match T, h with
  | [_, _, _, _, _, _, _, _, _, _, _, _, _, _, _, _], _ => show _ = _; kernel_rfl
theorem blocks_get (key : List UInt8) (k : Nat) : ∀ (m : Nat) (_ : k ≤ m) (j : Nat) (_ : j < 32 * k), (blocks key m)[j]? = (blocks key k)[j]? := by
  intro m
  induction m with
  | zero => intro hk j hj; omega
  | succ m ih =>
    intro hk j hj
    rcases Nat.lt_or_ge m k with h | h
    · obtain rfl : k = m + 1 := by omega
      rfl
    · rw [show blocks key (m + 1) = blocks key m ++ hmac key (encInt m) from rfl, List.getElem?_append_left (by rw [blocks_length]; omega)]
      exact ih h j hj
theorem stream_get (key : List UInt8) (n m j : Nat) (h1 : j < n) (h2 : j < m) : (stream key n)[j]? = (stream key m)[j]? := by
  unfold stream
  rw [List.getElem?_take, List.getElem?_take, if_pos h1, if_pos h2]
  rcases Nat.le_total ((n + 31) / 32) ((m + 31) / 32) with h | h
  · exact (blocks_get key _ _ h j (by omega)).symm
  · exact blocks_get key _ _ h j (by omega)
theorem crypt_get (key : List UInt8) (nonce : Int) (s : List UInt8) (j : Nat) (hj : j < s.length) (h2 : j < (crypt key nonce s).length) (h3 : j < (stream (ekey key nonce) s.length).length) : (crypt key nonce s)[j] = s[j] ^^^ (stream (ekey key nonce) s.length)[j] := by
  simp only [crypt, cx, List.getElem_zipWith]
theorem crypt_pair (key : List UInt8) (nonce : Int) (a b : List UInt8) (j : Nat) (ha : j < a.length) (hb : j < b.length) (ha2 : j < (crypt key nonce a).length) (hb2 : j < (crypt key nonce b).length) :
    (crypt key nonce a)[j] ^^^ (crypt key nonce b)[j] = a[j] ^^^ b[j] := by
  have h1 : j < (stream (ekey key nonce) a.length).length := by rw [stream_length]; exact ha
  have h2 : j < (stream (ekey key nonce) b.length).length := by rw [stream_length]; exact hb
  rw [crypt_get key nonce a j ha ha2 h1, crypt_get key nonce b j hb hb2 h2]
  have h := stream_get (ekey key nonce) a.length b.length j ha hb
  rw [List.getElem?_eq_getElem h1, List.getElem?_eq_getElem h2] at h
  rw [Option.some.inj h]
  generalize (stream (ekey key nonce) b.length)[j] = t
  rw [UInt8.xor_assoc, UInt8.xor_comm b[j] t, ← UInt8.xor_assoc t t, UInt8.xor_self, UInt8.zero_xor]
theorem strlen_lt {x y : Nat} (h : x < y) : (x : Int) < (y : Int) := by omega

set_option maxHeartbeats 4000000 in
set_option maxRecDepth 100000 in
theorem stream_law_any (key : List UInt8) (nonce : Int) (a b : ByteArray) (w : World) (hk : key.length = 16) (mn : (Lit.int .i64 nonce).wf = true) (_ma : a.size ≤ maxLen) (_mb : b.size ≤ maxLen) (hL : Laid w) :
    Calls Tryd.prog 9 #[.agg (bv key).toArray, .int .i64 nonce, .string a, .string b] w fun e w' => e = .returned (.bool true) ∧ Below w.heap.size w w' := by
  obtain ⟨h0, h1⟩ : -9223372036854775808 ≤ nonce ∧ nonce < 9223372036854775808 := by
    simp [Lit.wf, IntKind.min, IntKind.max, IntKind.signed, IntKind.bits] at mn
    omega
  have HK := Lib.hid hk
  have HSN := Lib.hid (sanity_any (w.alloc (.cells (bv key).toArray 34)) (hL.below (below_al _ _)))
  have hKw := heap_alloc_new w (.cells (bv key).toArray 34)
  have HKW := Lib.hid hKw
  have ud := Tryd.underlying34
  clear hk hKw mn
  by_cases hma : a.size ≤ 300
  · have hmai : ¬ ((300 : Int) < (a.size : Int)) := by omega
    by_cases hmb : b.size ≤ 300
    · have hmbi : ¬ ((300 : Int) < (b.size : Int)) := by omega
      have ha9 : a.size ≤ 900000 := by omega
      have hb9 : b.size ≤ 900000 := by omega
      have HA := Lib.hid (seal_any key nonce a)
      have HB := Lib.hid (seal_any key nonce b)
      have hfa := fun W => field_cipher W nonce (crypts key nonce a) (btag key nonce (crypt key nonce a.data.toList)) (btag_length _ _ _)
      have hfb := fun W => field_cipher W nonce (crypts key nonce b) (btag key nonce (crypt key nonce b.data.toList)) (btag_length _ _ _)
      have hpair := Lib.hid (crypt_pair key nonce a.data.toList b.data.toList)
      obtain ⟨x, hx⟩ : ∃ x, x = crypts key nonce a := ⟨_, rfl⟩
      obtain ⟨y, hy⟩ : ∃ y, y = crypts key nonce b := ⟨_, rfl⟩
      have hxl : x.size = a.size := by rw [hx, crypts_size]
      have hyl : y.size = b.size := by rw [hy, crypts_size]
      have HXD := Lib.hid (show crypt key nonce a.data.toList = x.data.toList from by rw [hx]; rfl)
      have HYD := Lib.hid (show crypt key nonce b.data.toList = y.data.toList from by rw [hy]; rfl)
      rw [← hx] at HA hfa
      rw [← hy] at HB hfb
      rw [HXD.out, HYD.out] at hpair
      generalize btag key nonce (crypt key nonce a.data.toList) = TA at *
      generalize btag key nonce (crypt key nonce b.data.toList) = TB at *
      clear hx hy
      go_enter Tryd.func9, Tryd.ntmps9
      go_upto_region 5 with (first
        | (go_at_call 19; go_must (refine HSN.out.mono ?_); rintro e w1 ⟨rfl, hB1⟩; have HK1 := Lib.hid (block_below HKW.out hB1); have hBw1 := bt (below_al _ _) hB1; have hl1 := Lib.hid (hL.below hBw1))
        | (refine wpList_loadB rfl 34 (.tmp 4) rfl ud size32 HK1.out (by rw [bv_length, HK.out]) rfl rfl ?_)
        | (go_at_call 22; go_must (refine (HA.out w1 HK.out h0 h1 ha9 hl1.out).mono ?_); rintro e w2 ⟨rfl, hB2⟩; have HK2 := Lib.hid (block_below HK1.out hB2); have hBw2 := bt hBw1 hB2; have hl2 := Lib.hid (hL.below hBw2)))
      go_upto_region 8 with (first
        | (refine wpList_loadB rfl 34 (.tmp 4) rfl ud size32 HK2.out (by rw [bv_length, HK.out]) rfl rfl ?_)
        | (go_at_call 22; go_must (refine (HB.out w2 HK.out h0 h1 hb9 hl2.out).mono ?_); rintro e w3 ⟨rfl, hB3⟩; have hBw3 := bt hBw2 hB3))
      clear HA HB hfa hfb HK1 HK2 hl1 hl2 HSN HKW
      go_wp2
      go_loopw [12] (fun i wr => ∃ j : Nat, j ≤ a.size ∧ i = .int .i64 j ∧ Below w3.heap.size w3 wr) (fun i _ => a.size - (intOf i).toNat)
      case atStart => exact ⟨0, by omega, rfl, Below.refl _ _⟩
      case round =>
        obtain ⟨j, hj, rfl, hG⟩ := hrel
        have hBr := bt hBw3 hG
        have hz1 := size_bytes a
        have hz2 := size_bytes b
        have hz3 := size_bytes x
        have hz4 := size_bytes y
        by_cases hja : j < a.size
        · by_cases hjb : j < b.size
          · have hia := fun W => run_idx_str W a j (by omega)
            have hib := fun W => run_idx_str W b j (by omega)
            have hix := fun W => run_idx_str W x j (by omega)
            have hiy := fun W => run_idx_str W y j (by omega)
            have hp := hpair.out j (by omega) (by omega) (by omega) (by omega)
            generalize a.data.toList[j] = a1 at *
            generalize b.data.toList[j] = b1 at *
            generalize x.data.toList[j] = x1 at *
            generalize y.data.toList[j] = y1 at *
            have hxx : bits BinOp.xor IntKind.u8 (x1.toNat : Int) (y1.toNat : Int) = bits BinOp.xor IntKind.u8 (a1.toNat : Int) (b1.toNat : Int) := by rw [← xor_val x1 y1 _ rfl, ← xor_val a1 b1 _ rfl, hp]
            have hia1 : (j : Int) < (a.size : Int) := by omega
            have hib1 : (j : Int) < (b.size : Int) := by omega
            clear hp hz1 hz2 hz3 hz4 hpair HXD HYD
            go_wp2
            go_region
            go_wp2
            go_roundw
            case rel => exact ⟨j + 1, by omega, by simp, Below.drew hG⟩
            case measure => simp [intOf]; omega
          · have hia1 : (j : Int) < (a.size : Int) := by omega
            have hib1 : ¬ (j : Int) < (b.size : Int) := by omega
            clear hz1 hz2 hz3 hz4 hpair HXD HYD
            go_wp2
            go_ret
            exact ⟨rfl, hBr⟩
        · have hia1 : ¬ (j : Int) < (a.size : Int) := by omega
          clear hz1 hz2 hz3 hz4 hpair HXD HYD
          go_wp2
          go_ret
          exact ⟨rfl, hBr⟩
    · have hmbi : (300 : Int) < (b.size : Int) := by omega
      go_enter Tryd.func9, Tryd.ntmps9
      go_wp2_with (first
        | (go_at_call 19; go_must (refine HSN.out.mono ?_); rintro e w1 ⟨rfl, hB1⟩; have hBw1 := bt (below_al _ _) hB1))
      go_ret
      exact ⟨rfl, hBw1⟩
  · have hmai : (300 : Int) < (a.size : Int) := by omega
    go_enter Tryd.func9, Tryd.ntmps9
    go_wp2_with (first
      | (go_at_call 19; go_must (refine HSN.out.mono ?_); rintro e w1 ⟨rfl, hB1⟩; have hBw1 := bt (below_al _ _) hB1))
    go_ret
    exact ⟨rfl, hBw1⟩
end Go.Proofs.YtaecljahbmcneaaDoor
