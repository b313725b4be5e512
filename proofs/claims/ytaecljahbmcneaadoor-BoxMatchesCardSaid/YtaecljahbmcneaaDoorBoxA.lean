/- Package box: the tag. -/
import Derived.Test.YtaecljahbmcneaaDoorShaH
import Derived.Test.YtaecljahbmcneaaDoorEq
namespace Go.Proofs.YtaecljahbmcneaaDoor
open Go.RowKit Go.Shelf

def encL : List UInt8 := [101, 110, 99, 114, 121, 112, 116]
def authL : List UInt8 := [97, 117, 116, 104, 101, 110, 116, 105, 99, 97, 116, 101]
def btag (key : List UInt8) (nonce : Int) (c : List UInt8) : List UInt8 := mac (derive key authL []) (encInt nonce ++ encBytes c)
theorem btag_length (key : List UInt8) (nonce : Int) (c : List UInt8) : (btag key nonce c).length = 16 := mac_length _ _
theorem derive_len (key label : List UInt8) (ps : List (List UInt8)) : (derive key label ps).length = 16 := mac_length _ _
theorem RdL.nil (w : World) : RdL w none 0 [] := ⟨rfl, [], rfl, Cells.nil _ _, fun k hk => absurd hk (by simp)⟩

/-- 'append(v, ys...)', v the call's own, in a region that draws its order. -/
theorem step_app {P : Program} {ops : Array Oper} {o : Oper} {a : Act} {w : World} {K : Act → World → Prop} {Q : Exit → Act → World → Prop} {E : Prop}
    (hgd : o.guard = none) (s x : Operand) (t : TypeId) (ho : o.op = .call { callee := .builtin .append, args := #[s, x], argTypes := #[t, t] }) (base e : Nat) (size bytes : Nat) (z : Value) (ht : P.underlying t = some (.slice e)) (hinfo : (P.info? e).map (fun i => (i.zero, i.size, i.bytes)) = some (some z, size, bytes))
    (hzs : z.cells.size = size) (hsz : 0 < size) (hb0 : 0 < bytes)
    (v : Value) (n : Nat) (xs ys : List Value) (A : Option Addr) (m c : Nat) (HO : w.ownsRow base e size v n xs) (HR : Cells w A ys) (hs : a.eval s = v) (hx : a.eval x = .slice A m c) (hlen : ys.length = m * size) (h1 : ∀ u ∈ ys, u.oneCell' = true) (hbase : base ≤ w.heap.size) (hl : (n + m) * bytes ≤ 140737488355328)
    (h : ∀ A1 c1 w1, w1.ownsRow base e size (.slice A1 (n + m) c1) (n + m) (xs ++ ys) → w.grownBy w1 v.ownBlock → ((Value.slice A1 (n + m) c1).ownBlock = v.ownBlock ∨ (Value.slice A1 (n + m) c1).ownBlock = some w.heap.size) →
      K (a.put o.dst (.slice A1 (n + m) c1)) w1) : if Region.wanted o (yielded ops a.tmps) = true then Oper.wp P o a w K Q else E := by
  obtain ⟨A1, c1, w1, hr, h2, h3, h4⟩ := run_append_gen (P := P) w base t o.type e size bytes z ht hinfo hzs hsz hb0 v n xs ys A m c HO hlen HR h1 hbase hl
  rw [if_pos (by simp [Region.wanted, hgd])]
  unfold Oper.wp execOp
  simp only [ho, resolve, invoke, builtin, Sem.run_bind, Sem.run_pure, Result.andThen_ok, List.map_toArray, List.map_cons, List.map_nil, hs, hx, hr]
  exact h A1 c1 w1 h2 h3 h4

set_option maxHeartbeats 2000000 in
set_option maxRecDepth 100000 in
theorem tag_any (key : List UInt8) (nonce : Int) (s : ByteArray) (w : World) (hk : key.length = 16) (h0 : -9223372036854775808 ≤ nonce) (h1 : nonce < 9223372036854775808) (hs : s.size ≤ 900000) (hL : Laid w) :
    Calls Tryd.prog 47 #[.agg (bv key).toArray, .int .i64 nonce, .string s] w fun e w' => e = .returned (.agg (bv (btag key nonce s.data.toList)).toArray) ∧ Below w.heap.size w w' := by
  have hel := encInt_le nonce
  have hbl := encBytes_le s.data.toList
  rw [size_bytes] at hbl
  have hB0 : Below w.heap.size w ((w.alloc (.cells (bv key).toArray 34)).alloc (.cells (List.replicate 16 (Value.int .u8 0)).toArray 34)) := ((Below.refl _ w).alloc (Nat.le_refl _) _).alloc (by simp) _
  have rk : Rd ((w.alloc (.cells (bv key).toArray 34)).alloc (.cells (List.replicate 16 (Value.int .u8 0)).toArray 34)) (some ⟨w.heap.size, 0, none⟩) 16 key := rd_block ((heap_alloc_old _ _ (by simp)).trans (heap_alloc_new _ _)) hk
  have HS : Hid (((w.alloc (.cells (bv key).toArray 34)).alloc (.cells (List.replicate 16 (Value.int .u8 0)).toArray 34)).heap[w.heap.size + 1]? = some (.cells (List.replicate 16 (Value.int .u8 0)).toArray 34 (0, 0))) := heap_at _ _ _ (by simp)
  have hl0 := Lib.hid (hL.below hB0)
  have HK := Lib.hid hk
  clear hk
  go_enter Tryd.func47, Tryd.ntmps47
  go_wp2_with (first
    | (go_at_call 26; go_must (refine (derive_any _ _ _ key ⟨authL.toArray⟩ _ _ _ [] _ rk (RdL.nil _) (by omega) (by decide) (by omega) (by simp) hl0.out).mono ?_); rintro e w1 ⟨rfl, hB1⟩; have HS1 := Lib.hid (block_below HS.out hB1); have hBw1 := hB0.trans (hB1.mono hB0.size))
    | (refine wpList_storeB rfl 34 (.tmp 7) (.tmp 9) rfl size32 (heap_alloc_new w1 _) (bv_one (derive key authL [])) (by rw [bv_length, derive_len]) (by rfl) rfl rfl ?_; intro w2 h2 hg2 hz2;
       have hB2 := below_put hg2; have r2 := rd_block h2 (derive_len key authL []); have HS2 := Lib.hid (block_below HS1.out hB2); have hBw2 := hBw1.trans (hB2.mono hBw1.size); clear h2 hg2 hz2))
  have hBd : Below w2.heap.size w2 w2.drew := Below.drew (Below.refl _ _)
  have rd := r2.below hBd
  have HSd := Lib.hid (block_below HS2.out hBd)
  have hBwd := hBw2.trans (hBd.mono hBw2.size)
  have hmt : (bv (btag key nonce s.data.toList)).length = 16 := by rw [bv_length, btag_length]
  have hone := bv_one (btag key nonce s.data.toList)
  have hs32 := size32
  clear hB1 hB2 hBd HS HS1 HS2 rk r2 hBw1 hBw2 hl0 hB0
  go_region_held_law (fun _ => True) (trivial) (first
    | (go_at_call 28; go_must (refine (int_any nonce _ h0 (by omega)).mono ?_); rintro e w3 ⟨A3, c3, rfl, hown3, hB3⟩; have hBw3 := hBwd.trans (hB3.mono hBwd.size))
    | (go_at_call 29; go_must (refine (bytes_any s _ (by omega)).mono ?_); rintro e w4 ⟨A4, c4, rfl, hown4, hB4⟩; have hBw4 := hBw3.trans (hB4.mono hBw3.size); have hown34 := own_below hown3 hB4)
    | (refine step_app rfl _ _ 48 rfl _ 5 1 1 _ Tryd.underlying48 info5 rfl (by decide) (by decide) _ _ _ (bv (encBytes s.data.toList)) _ _ _ hown34 (own_cells hown4) rfl rfl (by rw [bv_length]; simp) (bv_one _) (Nat.le_trans hB3.size hB4.size) (by omega) ?_; intro A5 c5 w5 hown5 hg5 _; have hB35 := (hB3.trans (hB4.mono hB3.size)).grown hg5 (Nat.le_trans hB3.size hB4.size) (own_ge hown34); have hBw5 := hBwd.trans (hB35.mono hBwd.size); have rd5 := rd.below hB35; have HS5 := Lib.hid (block_below HSd.out hB35); have hL5 := Lib.hid (hL.below hBw5); rw [← bv_append] at hown5)
    | (go_at_call 27; go_must (refine (mac_any _ _ _ (derive key authL []) _ _ _ (encInt nonce ++ encBytes s.data.toList) _ rd5 ⟨by simp, own_cells hown5⟩ (by omega) (by omega) hL5.out).mono ?_); rintro e w6 ⟨rfl, hB6⟩; have HS6 := Lib.hid (block_below HS5.out hB6); have hBw6 := hBw5.trans (hB6.mono hBw5.size); have hth := there_row HS6.out; rw [List.length_replicate] at hth))
  obtain ⟨h9, hg9⟩ := setCells_row w6 _ 34 _ (bv (btag key nonce s.data.toList)) HS6.out hone (by rw [hmt]; rfl)
  unfold btag at h9 hg9 hmt
  generalize w6.setCells (w.heap.size + 1) 0 (bv (mac (derive key authL []) (encInt nonce ++ encBytes s.data.toList))) = w9 at h9 hg9 ⊢
  go_wp2
  refine ret_agg rfl Tryd.underlying34 size32 rfl h9 hmt rfl rfl ?_
  exact ⟨rfl, hBw6.grown hg9 hBw6.size (fun k e => by cases e; omega)⟩
end Go.Proofs.YtaecljahbmcneaaDoor
