/- The statements of chapter 02 that do not compare with the reference: sanity, long keys, tags. -/
import Derived.Test.YtghkdkobclhbcaaDoorRefS
import Derived.Test.YtghkdkobclhbcaaDoorShaH
import Derived.Test.YtghkdkobclhbcaaDoorShaI
import Derived.Test.YtghkdkobclhbcaaDoorEq
import Derived.Lib.SlBytesConst
import Derived.Lib.AppendZeros
namespace Go.Proofs.YtghkdkobclhbcaaDoor
open Go.RowKit Go.Shelf

theorem sn0 : (bv (sha []))[0]? = some (.int .u8 227) := by kernel_rfl
theorem sn1 : (bv (sha []))[1]? = some (.int .u8 176) := by kernel_rfl
theorem sn2 : (bv (sha []))[2]? = some (.int .u8 196) := by kernel_rfl
theorem sn3 : (bv (sha []))[3]? = some (.int .u8 66) := by kernel_rfl
theorem sa0 : (bv (sha [97, 98, 99]))[0]? = some (.int .u8 186) := by kernel_rfl
theorem sa1 : (bv (sha [97, 98, 99]))[1]? = some (.int .u8 120) := by kernel_rfl
theorem sa2 : (bv (sha [97, 98, 99]))[2]? = some (.int .u8 22) := by kernel_rfl
theorem sa3 : (bv (sha [97, 98, 99]))[3]? = some (.int .u8 191) := by kernel_rfl
theorem cell_at {w : World} {g j : Nat} {cs : List Value} {t : TypeId} {f : Nat × Nat} {v : Value} (h : w.heap[g]? = some (.cells cs.toArray t f)) (hj : cs[j]? = some v) : w.cell? ⟨g, j, none⟩ = some v := by
  rw [cell_of_row _ _ _ _ _ _ h, List.getElem?_toArray, hj]

set_option maxHeartbeats 1000000 in
set_option maxRecDepth 100000 in
theorem sanity_any (w : World) (hL : Laid w) :
    Calls Tryd.prog 9 #[] w fun e w' => e = .returned (.bool true) ∧ Below w.heap.size w w' := by
  have kc := fun (w : World) (C : Array Value) (n c : Nat) => Lib.run_convert_bytes_const (P := Tryd.prog) w 22 5 C n c Tryd.underlying22 Tryd.underlying5
  go_enter Tryd.func9, Tryd.ntmps9
  go_wp2_with (first
    | (go_at_call_of 13 (Value.slice none 0 0); go_must (refine (sum_any _ _ _ [] _ (Rd.nil _ _) (by omega) hL).mono ?_); rintro e w1 ⟨rfl, hB1⟩)
    | (refine wpList_storeB rfl 27 (.tmp 1) (.tmp 3) rfl size27 (heap_alloc_new w1 _) (bv_one (sha [])) (by rw [bv_length, sha_length]) (by rfl) rfl rfl ?_; intro w2 h2 hg2 hz2;
       have hB2 := hB1.trans ((below_put hg2).mono hB1.size); have h2' := Lib.hid h2; clear h2 hg2 hz2;
       have hB3 := hB2.alloc hB2.size (.cells (bv [97, 98, 99]).toArray 5 (3, 4)); have hr3 : Rd _ _ 3 [97, 98, 99] := rd_block (heap_alloc_new w2 (.cells (bv [97, 98, 99]).toArray 5 (3, 4))) rfl; have h3' := Lib.hid ((heap_alloc_old w2 (.cells (bv [97, 98, 99]).toArray 5 (3, 4)) (Array.getElem?_eq_some_iff.1 h2'.out).1).trans h2'.out))
    | (go_at_call 13; go_must (refine (sum_any _ _ _ [97, 98, 99] _ hr3 (by omega) (hL.below hB3)).mono ?_); rintro e w4 ⟨rfl, hB4⟩; have h4' := Lib.hid (block_below h3'.out hB4); have hB4' := hB3.trans (hB4.mono hB3.size))
    | (refine wpList_storeB rfl 27 (.tmp 2) (.tmp 6) rfl size27 (heap_alloc_new w4 _) (bv_one (sha [97, 98, 99])) (by rw [bv_length, sha_length]) (by rfl) rfl rfl ?_; intro w5 h5 hg5 hz5;
       have hB5 := hB4'.trans ((below_put hg5).mono hB4'.size); have k1 := kept_put hg5 h4'.out; clear hg5 hz5;
       have a0 := cell_at k1 sn0; have a1 := cell_at k1 sn1; have a2 := cell_at k1 sn2; have a3 := cell_at k1 sn3;
       have b0 := cell_at h5 sa0; have b1 := cell_at h5 sa1; have b2 := cell_at h5 sa2; have b3 := cell_at h5 sa3; clear h5 k1)
    | (go_at_call 10; go_must (refine (stream_any _ _ _ [] 40 _ (Rd.nil _ _) (by omega) (by omega) (hL.below hB5)).mono ?_); rintro e w6 ⟨A6, c6, rfl, hown6, hB6⟩; rw [stream_length]))
  go_ret
  exact ⟨rfl, hB5.trans (hB6.mono hB5.size)⟩

theorem tag_mod {a b : Int} (h : a % 256 = b % 256) (ps : List (List UInt8)) : digest a ps = digest b ps := by unfold digest tagByte; rw [h]
theorem digest_as (tt tag : Int) (A2 : Option Addr) (n2 c2 : Nat) (ps : List (List UInt8)) (w : World) (ht : tt % 256 = tag % 256) (hr : RdL w A2 n2 ps) (h2 : n2 ≤ 4096) (h3 : ∀ p ∈ ps, p.length ≤ 65536) (hL : Laid w) :
    Calls Tryd.prog 20 #[.int .i64 tt, .slice A2 n2 c2] w fun e w' => e = .returned (.agg (bv (digest tag ps)).toArray) ∧ Below w.heap.size w w' := by
  rw [← tag_mod ht]
  exact digest_any tt A2 n2 c2 ps w hr h2 h3 hL

set_option maxHeartbeats 1000000 in
set_option maxRecDepth 100000 in
theorem separatesTags_any (tag more : Int) (A : Option Addr) (n c : Nat) (ps : List (List UInt8)) (w : World) (_mt : (Lit.int .i64 tag).wf = true) (mm : (Lit.int .i8 more).wf = true) (hr : RdL w A n ps) (hm : n ≤ maxLen) (hL : Laid w) :
    Calls Tryd.prog 6 #[.int .i64 tag, .int .i8 more, .slice A n c] w fun e w' => e = .returned (.bool true) ∧ Below w.heap.size w w' := by
  have hb : -128 ≤ more ∧ more ≤ 127 := by simp [Lit.wf, IntKind.min, IntKind.max, IntKind.signed, IntKind.bits] at mm; omega
  have hb1 := hb.1
  have hb2 := hb.2
  clear hb mm
  have hgd := guard16
  have heq := fun W => run_eql16 W (digest tag ps) (digest tag ps) (digest_length tag ps) (digest_length tag ps)
  simp only [decide_true] at heq
  cases hs : shortB ps with
  | false =>
    have HS := Lib.hid hs
    clear hs
    go_enter Tryd.func6, Tryd.ntmps6
    go_wp2_with (first
      | (go_at_call 9; go_must (refine (sanity_any _ hL).mono ?_); rintro e w1 ⟨rfl, hB1⟩; have r1 := hr.below hB1)
      | (go_at_call 19; go_must (refine (isShort_any _ _ _ ps _ r1 hm).mono ?_); rintro e w2 ⟨rfl, rfl⟩; rw [HS.out]))
    go_ret
    exact ⟨rfl, hB1⟩
  | true =>
    obtain ⟨h20, h300⟩ := shortB_parts hs
    have hn := hr.len
    have h4096 : n ≤ 4096 := by omega
    have h65536 : ∀ p ∈ ps, p.length ≤ 65536 := fun p hp => Nat.le_trans (h300 p hp) (by omega)
    have H65 := Lib.hid h65536
    have HS := Lib.hid hs
    clear hs hn h300 h65536 h20
    go_enter Tryd.func6, Tryd.ntmps6
    go_wp2_with (first
      | (go_at_call 9; go_must (refine (sanity_any _ hL).mono ?_); rintro e w1 ⟨rfl, hB1⟩; have r1 := hr.below hB1; have hL1 := Lib.hid (hL.below hB1))
      | (go_at_call 19; go_must (refine (isShort_any _ _ _ ps _ r1 hm).mono ?_); rintro e w2 ⟨rfl, rfl⟩; rw [HS.out])
      | (go_at_call_of 20 (Value.int IntKind.i64 tag); go_must (refine (digest_as _ tag _ _ _ ps _ rfl r1 h4096 H65.out hL1.out).mono ?_); rintro e w3 ⟨rfl, hB3⟩; have r3 := r1.below hB3; have hL3 := Lib.hid (hL1.out.below hB3))
      | (go_at_call 20; go_must (refine (digest_as _ tag _ _ _ ps _ (by first | (rw [IntKind.wrap_i64]; omega) | omega | (unfold wrap64; omega)) r3 h4096 H65.out hL3.out).mono ?_); rintro e w4 ⟨rfl, hB4⟩))
    go_ret
    exact ⟨rfl, (hB1.trans (hB3.mono hB1.size)).trans (hB4.mono (Nat.le_trans hB1.size hB3.size))⟩

/-! ### 'append(v, make([]byte, m)...)' -/
theorem run_app_zeros0 {P : Program} (w : World) (t u s ty : TypeId) (ht : P.underlying t = some (.slice 5)) (hu : P.underlying u = some (.int .i64)) (hs : P.underlying s = some .string) (hinfo : (P.info? 5).map (fun i => (i.zero, i.size, i.bytes)) = some (some (.int .u8 0), 1, 1))
    (A : Option Addr) (sLen sCap n : Nat) (hcap : sLen ≤ sCap) (hl : sLen + n ≤ 140737488355328) (z : ByteArray) (hsz : z.size = n) (hf : ∀ W, (Builtin.firstCells 1 n (.string z)).run P W = .ok (Builtin.zeroCells (Value.int .u8 0).cells n) W) :
    (Builtin.append_ #[t, u] ty #[.slice A sLen sCap, .int .i64 n]).run P w = (Builtin.append_ #[t, s] ty #[.slice A sLen sCap, .string z]).run P w := by
  obtain ⟨i0, hi, hz0, hz1, hz2⟩ := info_parts hinfo
  have hw : IntKind.i64.wrap (n : Int) = n := by rw [IntKind.wrap_i64]; omega
  have hneg : ¬ ((n : Int) < 0) := by omega
  have h48i : ¬ (281474976710656 < (n : Int)) := by omega
  have h63 : ¬ (9223372036854775807 < ((sLen : Int) + (n : Int))) := by omega
  have hmax : ¬ (281474976710656 < Builtin.nextslicecap (sLen + n) sCap) ∨ sLen + n ≤ sCap := by
    by_cases hc : sLen + n ≤ sCap
    · exact .inr hc
    · have h1 : Builtin.nextslicecap (sLen + n) sCap * 1 ≤ 281474976710656 := growslice_fits (by omega) (by omega)
      exact .inl (by omega)
  by_cases h0 : n = 0
  · subst h0
    have hz : Builtin.zeroCells (Value.int IntKind.u8 0).cells 0 = #[] := by simp [Builtin.zeroCells]
    simp [Builtin.append_, run_underlying ht, run_underlying hu, run_underlying hs, sizeOf, typeInfo, zeroValue, hi, hz1, asInt, asIntOf, hcap, hf, hsz, Builtin.lenOf, hz, show IntKind.i64.wrap 0 = 0 from rfl]
  · by_cases hc : sLen + n ≤ sCap
    · simp [Builtin.append_, run_underlying ht, run_underlying hu, run_underlying hs, sizeOf, typeInfo, zeroValue, hi, hz0, hz1, hz2, asInt, asIntOf, hw, hneg, h48i, hc, hf, hsz, h0, Builtin.lenOf]
    · have h48 := hmax.resolve_right hc
      simp [Builtin.append_, run_underlying ht, run_underlying hu, run_underlying hs, sizeOf, typeInfo, zeroValue, hi, hz0, hz1, hz2, asInt, asIntOf, hw, hneg, h48i, hc, hf, hsz, h0, h63, h48, Builtin.lenOf]
theorem firstZeros {P : Program} (n : Nat) (W : World) : (Builtin.firstCells 1 n (.string ⟨(List.replicate n (0 : UInt8)).toArray⟩)).run P W = .ok (Builtin.zeroCells (Value.int .u8 0).cells n) W := by
  have h := Lib.run_firstCells_string (P := P) W 1 ⟨(List.replicate n (0 : UInt8)).toArray⟩
  rw [show ByteArray.size ⟨(List.replicate n (0 : UInt8)).toArray⟩ = n by show Array.size _ = n; simp] at h
  rw [h]
  congr 1
  apply Array.ext'
  apply List.ext_getElem
  · simp [Lib.strCells, Builtin.zeroCells, Value.cells]
  · intro i h1 h2
    simp [Lib.strCells, Builtin.zeroCells, Value.cells, Nat.mod_one]

theorem wpList_appz {P : Program} {ops : Array Oper} {rest : List Oper} {o : Oper} {a : Act} {Q : Exit → Act → World → Prop} {w : World} (hgd : o.guard = none) (s x : Operand) (t u str : TypeId)
    (ho : o.op = .call { callee := .builtin .append, args := #[s, x], argTypes := #[t, u] }) (base : Nat) (ht : P.underlying t = some (.slice 5)) (hu : P.underlying u = some (.int .i64)) (hstr : P.underlying str = some .string)
    (hinfo : (P.info? 5).map (fun i => (i.zero, i.size, i.bytes)) = some (some (.int .u8 0), 1, 1))
    (v : Value) (n m : Nat) (mm : Int) (hmm : mm = (m : Int)) (xs : List UInt8) (HO : w.ownsRow base 5 1 v n (bv xs)) (hs : a.eval s = v) (hx : a.eval x = .int .i64 mm) (hbase : base ≤ w.heap.size) (hl : n + m ≤ 140737488355328)
    (h : ∀ A1 c1 w1, w1.ownsRow base 5 1 (.slice A1 (n + m) c1) (n + m) (bv (xs ++ List.replicate m 0)) → w.grownBy w1 v.ownBlock → wpList P ops Q rest (a.put o.dst (.slice A1 (n + m) c1)) w1) : wpList P ops Q (o :: rest) a w := by
  subst hmm
  obtain ⟨i0, hi, hz0, hz1, hz2⟩ := info_parts hinfo
  have hsz : ByteArray.size ⟨(List.replicate m (0 : UInt8)).toArray⟩ = m := by show Array.size _ = m; simp
  obtain ⟨v1, w1, hr, h2, h3, _⟩ := Lib.run_append_own_string (P := P) w base t str o.type 5 i0 ht hstr hi hz0 hz1 hz2 v n (bv xs) HO ⟨(List.replicate m (0 : UInt8)).toArray⟩ (by rw [hsz]; simp only [maxLen]; omega) (by rw [hsz]; exact hl) hbase
  rw [hsz] at h2
  have hcap : ∃ A c, v = .slice A n c ∧ n ≤ c := by
    rcases HO.2 with ⟨rfl, h0⟩ | ⟨g, cap, cur, rfl, _, _, hnc, _⟩
    · exact ⟨none, 0, by rw [h0], by omega⟩
    · exact ⟨_, cap, rfl, hnc⟩
  obtain ⟨A, c, rfl, hnc⟩ := hcap
  rw [← run_app_zeros0 w t u str o.type ht hu hstr hinfo A n c m hnc hl _ hsz (firstZeros m)] at hr
  obtain ⟨A1, c1, rfl⟩ := own_form h2
  refine wpList_plain hgd fun K hK => ?_
  unfold Oper.wp execOp
  simp only [ho, resolve, invoke, builtin, Sem.run_bind, Sem.run_pure, Result.andThen_ok, List.map_toArray, List.map_cons, List.map_nil, hs, hx, hr]
  refine hK _ _ (h A1 c1 w1 ?_ h3)
  rw [bv_append]
  simpa [Lib.strCells, bv, B] using h2

/-- A guarded operation whose guard holds. -/
theorem wpList_wanted {P : Program} {ops : Array Oper} {rest : List Oper} {o : Oper} {a : Act} {Q : Exit → Act → World → Prop} {w : World} (hw : Region.wanted o (yielded ops a.tmps) = true) (h : wpList P ops Q ({ o with guard := none } :: rest) a w) : wpList P ops Q (o :: rest) a w := by
  unfold wpList at h ⊢
  rw [if_pos hw]
  rw [if_pos (by simp [Region.wanted])] at h
  exact h

theorem hmac_hashed (key b : List UInt8) (h : 64 < key.length) : hmac (sha key) b = hmac key b := by
  have h1 : hkey key = sha key := if_pos h
  have h2 : hkey (sha key) = sha key := if_neg (by rw [sha_length]; omega)
  unfold hmac
  rw [h1, h2]
theorem padkey_zeros (key : List UInt8) (x : UInt8) (m : Nat) (h : key.length + m ≤ 64) : padkey (key ++ List.replicate m 0) x = padkey key x := by
  unfold padkey
  rw [List.append_assoc, List.replicate_append_replicate, List.length_append, List.length_replicate, show m + (64 - (key.length + m)) = 64 - key.length from by omega]
theorem hmac_zeros (key b : List UInt8) (m : Nat) (h : key.length + m ≤ 64) : hmac (key ++ List.replicate m 0) b = hmac key b := by
  have h1 : hkey key = key := if_neg (by omega)
  have h2 : hkey (key ++ List.replicate m 0) = key ++ List.replicate m 0 := if_neg (by rw [List.length_append, List.length_replicate]; omega)
  unfold hmac
  rw [h1, h2, padkey_zeros _ _ _ h, padkey_zeros _ _ _ h]

theorem hmac_as (A : Option Addr) (n c : Nat) (key key2 : List UInt8) (A2 : Option Addr) (n2 c2 : Nat) (m : List UInt8) (w : World) (he : hmac key m = hmac key2 m) (hr : Rd w A n key) (hr2 : Rd w A2 n2 m) (hn : n ≤ 1073741824) (hn2 : n2 ≤ 1073741000) (hL : Laid w) :
    Calls Tryd.prog 14 #[.slice A n c, .slice A2 n2 c2] w fun e w' => e = .returned (.agg (bv (hmac key2 m)).toArray) ∧ Below w.heap.size w w' := by
  rw [← he]
  exact hmac_any A n c key A2 n2 c2 m w hr hr2 hn hn2 hL

set_option maxHeartbeats 1000000 in
set_option maxRecDepth 100000 in
theorem longKey_any (A : Option Addr) (n c : Nat) (key : List UInt8) (A2 : Option Addr) (n2 c2 : Nat) (b : List UInt8) (zeros : Int) (w : World) (hr : Rd w A n key) (hm : n ≤ maxLen) (hr2 : Rd w A2 n2 b) (hm2 : n2 ≤ maxLen) (mz : (Lit.int .u8 zeros).wf = true) (hL : Laid w) :
    Calls Tryd.prog 4 #[.slice A n c, .slice A2 n2 c2, .int .u8 zeros] w fun e w' => e = .returned (.bool true) ∧ Below w.heap.size w w' := by
  unfold maxLen at hm hm2
  have hz1 : 0 ≤ zeros ∧ zeros ≤ 255 := by simp [Lit.wf, IntKind.min, IntKind.max, IntKind.signed, IntKind.bits] at mz; omega
  have hz2 := hz1.2
  have hz1 := hz1.1
  clear mz
  have hgd := guard32
  have heq := fun W => run_eql32 W (hmac key b) (hmac key b) (hmac_length key b) (hmac_length key b)
  simp only [decide_true] at heq
  have hlen := hr.len
  by_cases hbig : n ≤ 300 ∧ n2 ≤ 300
  · obtain ⟨hb1, hb2⟩ := hbig
    have t1 : ¬ ((300 : Int) < (n : Int)) := by omega
    have t2 : ¬ ((300 : Int) < (n2 : Int)) := by omega
    by_cases h64 : 64 < n
    · have t3 : (64 : Int) < (n : Int) := by omega
      have he := Lib.hid (hmac_hashed key b (by omega))
      have HLEN := Lib.hid hlen
      clear hlen
      go_enter Tryd.func4, Tryd.ntmps4
      go_wp2_with (first
        | (go_at_call 9; go_must (refine (sanity_any _ hL).mono ?_); rintro e w1 ⟨rfl, hB1⟩; have r1 := hr.below hB1; have s1 := hr2.below hB1; have hL1 := Lib.hid (hL.below hB1))
        | (go_at_call 13; go_must (refine (sum_any _ _ _ key _ r1 (by omega) hL1.out).mono ?_); rintro e w2 ⟨rfl, hB2⟩; have r2 := r1.below hB2; have s2 := s1.below hB2; have hB12 := hB1.trans (hB2.mono hB1.size))
        | (refine wpList_storeB rfl 27 (.tmp 8) (.tmp 24) rfl size27 (heap_alloc_new w2 _) (bv_one (sha key)) (by rw [bv_length, sha_length]) (by rfl) rfl rfl ?_; intro w3 h3 hg3 hz3;
           have hB3 := below_put hg3; have r3 := r2.below hB3; have s3 := s2.below hB3; have hB13 := hB12.trans (hB3.mono hB12.size); have hL3 := Lib.hid (hL.below hB13);
           have q3 := rd_block h3 (sha_length key); clear h3 hg3 hz3))
      have hBd : Below w3.heap.size w3 w3.drew := Below.drew (Below.refl _ _)
      have r3d := r3.below hBd
      have s3d := s3.below hBd
      have q3d := q3.below hBd
      have hB3d := hB13.trans (hBd.mono hB13.size)
      have hL3d := Lib.hid (hL.below hB3d)
      go_region_held_law (fun _ => True) (trivial) (first
        | (go_at_call_of 14 (Value.slice A n c); go_must (refine (hmac_as _ _ _ key key _ _ _ b _ rfl r3d s3d (by omega) (by omega) hL3d.out).mono ?_); rintro e w4 ⟨rfl, hB4⟩; have q4 := q3d.below hB4; have s4 := s3d.below hB4; have hB14 := hB3d.trans (hB4.mono hB3d.size); have hL4 := Lib.hid (hL.below hB14))
        | (go_at_call 14; go_must (refine (hmac_as _ _ _ (sha key) key _ _ _ b _ he.out q4 s4 (by omega) (by omega) hL4.out).mono ?_); rintro e w5 ⟨rfl, hB5⟩))
      go_wp2
      go_ret
      exact ⟨rfl, hB14.trans (hB5.mono hB14.size)⟩
    · have t3 : ¬ ((64 : Int) < (n : Int)) := by omega
      obtain ⟨m, hmz⟩ : ∃ m : Nat, zeros % (65 - (n : Int)) = (m : Int) := ⟨(zeros % (65 - (n : Int))).toNat, by have := Int.emod_nonneg zeros (show (65 - (n : Int)) ≠ 0 by omega); omega⟩
      have hm65 : (m : Int) < 65 - (n : Int) := by rw [← hmz]; exact Int.emod_lt_of_pos _ (by omega)
      have he := Lib.hid (hmac_zeros key b m (by omega))
      have hne : ¬ ((65 : Int) - (n : Int) = 0) := by omega
      have hpos : 0 < (65 : Int) - (n : Int) := by omega
      have HLEN := Lib.hid hlen
      have HMZ := Lib.hid hmz
      clear hlen hmz
      go_enter Tryd.func4, Tryd.ntmps4
      go_wp2_with (first
        | (go_at_call 9; go_must (refine (sanity_any _ hL).mono ?_); rintro e w1 ⟨rfl, hB1⟩; have r1 := hr.below hB1; have s1 := hr2.below hB1; have hL1 := Lib.hid (hL.below hB1);
           have own1 := own_new w1 w1.heap.size 5 1 0 [] (Nat.le_refl _) rfl (by simp [maxLen]); have r1' := r1.below ((Below.refl _ w1).alloc (Nat.le_refl _) (.cells #[] 5)))
        | (at_builtin; refine wpList_wanted rfl ?_; refine wpList_app rfl _ _ 22 rfl w1.heap.size 5 1 1 _ Tryd.underlying22 info5 rfl (by decide) (by decide) _ _ _ _ _ _ _ own1 r1'.cells rfl rfl (by rw [bv_length, Nat.mul_one]; exact r1'.len) (bv_one key) (by simp) (by omega) ?_; intro A2' c2' w2 own2 hg2 hat2; simp only [Nat.zero_add, List.nil_append] at own2)
        | (at_builtin; refine wpList_wanted rfl ?_; refine wpList_appz rfl _ _ 22 3 9 rfl w1.heap.size Tryd.underlying22 Tryd.underlying3 Tryd.underlying9 info5 _ _ m _ HMZ.out key own2 rfl rfl (by have := hg2.size; simp at this; omega) (by omega) ?_; intro A3 c3 w3 own3 hg3;
           have h12 := ((Below.refl _ w1).alloc (Nat.le_refl _) (.cells #[] 5)).grown hg2 (by simp) (own_ge own1); have h13 := h12.grown hg3 h12.size (own_ge own2); have hB3 := hB1.trans (h13.mono hB1.size); have r3 := r1.below h13; have s3 := s1.below h13; have hL3 := Lib.hid (hL.below hB3);
           have q3 : Rd w3 A3 (n + m) (key ++ List.replicate m 0) := ⟨by rw [List.length_append, List.length_replicate, HLEN.out], own_cells own3⟩)
        | (go_at_call_of 14 (Value.slice A n c); go_must (refine (hmac_as _ _ _ key key _ _ _ b _ rfl r4 s4 (by omega) (by omega) hL4.out).mono ?_); rintro e w5 ⟨rfl, hB5⟩)
        | (go_at_call 14; go_must (refine (hmac_as _ _ _ (key ++ List.replicate m 0) key _ _ _ b _ he.out q3 s3 (by omega) (by omega) hL3.out).mono ?_); rintro e w4 ⟨rfl, hB4⟩; have r4 := r3.below hB4; have s4 := s3.below hB4; have hB14 := hB3.trans (hB4.mono hB3.size); have hL4 := Lib.hid (hL.below hB14)))
      go_ret
      exact ⟨rfl, hB14.trans (hB5.mono hB14.size)⟩
  · have HB := Lib.hid hbig
    clear hbig
    by_cases h1 : 300 < n
    · have t1 : (300 : Int) < (n : Int) := by omega
      clear hlen
      go_enter Tryd.func4, Tryd.ntmps4
      go_wp2_with (go_at_call 9; go_must (refine (sanity_any _ hL).mono ?_); rintro e w1 ⟨rfl, hB1⟩)
      go_ret
      exact ⟨rfl, hB1⟩
    · have t1 : ¬ ((300 : Int) < (n : Int)) := by omega
      have t2 : (300 : Int) < (n2 : Int) := by have := HB.out; omega
      clear hlen
      go_enter Tryd.func4, Tryd.ntmps4
      go_wp2_with (go_at_call 9; go_must (refine (sanity_any _ hL).mono ?_); rintro e w1 ⟨rfl, hB1⟩)
      go_ret
      exact ⟨rfl, hB1⟩
end Go.Proofs.YtghkdkobclhbcaaDoor
