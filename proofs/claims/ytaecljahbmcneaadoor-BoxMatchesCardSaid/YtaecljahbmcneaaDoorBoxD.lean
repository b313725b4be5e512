/- Package box: Seal. -/
import Derived.Test.YtaecljahbmcneaaDoorBoxC
namespace Go.Proofs.YtaecljahbmcneaaDoor
open Go.RowKit Go.Shelf

theorem built36 (nonce : Int) (c : ByteArray) (tag : List UInt8) (h : tag.length = 16) : Tryd.prog.built 36 [(0, .int .i64 nonce), (1, .string c), (2, .agg (bv tag).toArray)] = some (boxv nonce c tag).toArray := by
  match tag, h with
  | [_, _, _, _, _, _, _, _, _, _, _, _, _, _, _, _], _ => show _ = _; kernel_rfl
/-- 'api.Box{Nonce: .., Cipher: .., Tag: ..}'. -/
theorem wpList_boxed {ops : Array Oper} {rest : List Oper} {o : Oper} {a : Act} {Q : Exit → Act → World → Prop} {w : World} (hgd : o.guard = none) (x y z : Operand) (ho : o.op = .build 36 #[(0, x), (1, y), (2, z)]) (nonce : Int) (c : ByteArray) (tag : List UInt8) (ht : tag.length = 16)
    (hx : a.eval x = .int .i64 nonce) (hy : a.eval y = .string c) (hz : a.eval z = .agg (bv tag).toArray)
    (h : wpList Tryd.prog ops Q rest (a.put o.dst (.agg (boxv nonce c tag).toArray)) w) : wpList Tryd.prog ops Q (o :: rest) a w := by
  refine wpList_plain hgd fun K hK => ?_
  unfold Oper.wp execOp
  simp only [ho, List.map_toArray, List.map_cons, List.map_nil, hx, hy, hz, Sem.run_bind, run_build w 36 _ _ (built36 nonce c tag ht), Result.andThen_ok, Sem.run_pure]
  exact hK _ _ h

set_option maxHeartbeats 2000000 in
set_option maxRecDepth 100000 in
theorem seal_any (key : List UInt8) (nonce : Int) (s : ByteArray) (w : World) (hk : key.length = 16) (h0 : -9223372036854775808 ≤ nonce) (h1 : nonce < 9223372036854775808) (hs : s.size ≤ 900000) (hL : Laid w) :
    Calls Tryd.prog 22 #[.agg (bv key).toArray, .int .i64 nonce, .string s] w fun e w' => e = .returned (.agg (boxv nonce (crypts key nonce s) (btag key nonce (crypt key nonce s.data.toList))).toArray) ∧ Below w.heap.size w w' := by
  obtain ⟨c, hc⟩ : ∃ c, c = crypts key nonce s := ⟨_, rfl⟩
  have hcl : crypt key nonce s.data.toList = c.data.toList := by rw [hc]; rfl
  have hcs : c.size ≤ 900000 := by rw [hc, crypts_size]; exact hs
  have hck : (⟨(crypt key nonce s.data.toList).toArray⟩ : ByteArray) = c := hc.symm
  rw [hcl, ← hc]
  have HCL := Lib.hid hck
  have HK := Lib.hid hk
  have hB0 : Below w.heap.size w ((w.alloc (.cells (bv key).toArray 34)).alloc (.cells Z18.toArray 36)) := ((Below.refl _ w).alloc (Nat.le_refl _) _).alloc (by simp) _
  have HS : Hid (((w.alloc (.cells (bv key).toArray 34)).alloc (.cells Z18.toArray 36)).heap[w.heap.size]? = some (.cells (bv key).toArray 34 (0, 0))) := (heap_alloc_old _ _ (by simp)).trans (heap_alloc_new _ _)
  have HO : Hid (((w.alloc (.cells (bv key).toArray 34)).alloc (.cells Z18.toArray 36)).heap[w.heap.size + 1]? = some (.cells Z18.toArray 36 (0, 0))) := heap_at _ _ _ (by simp)
  have hl0 := Lib.hid (hL.below hB0)
  clear hc hcl hck hk
  go_enter Tryd.func22, Tryd.ntmps22
  go_wp2_with (first
    | (refine wpList_loadB rfl 34 (.tmp 3) rfl Tryd.underlying34 size32 HS.out (by rw [bv_length, HK.out]) rfl rfl ?_)
    | (go_at_call 48; go_must (refine (apply_any key nonce s _ HK.out h0 h1 hs hl0.out).mono ?_); rw [HCL.out]; rintro e w3 ⟨rfl, hB3⟩; have HS3 := Lib.hid (block_below HS.out hB3); have HO3 := Lib.hid (block_below HO.out hB3); have hBw3 := hB0.trans (hB3.mono hB0.size); have hl3 := Lib.hid (hL.below hBw3))
    | (refine wpList_loadB rfl 34 (.tmp 3) rfl Tryd.underlying34 size32 HS3.out (by rw [bv_length, HK.out]) rfl rfl ?_)
    | (go_at_call 47; go_must (refine (tag_any key nonce c _ HK.out h0 h1 hcs hl3.out).mono ?_); rintro e w4 ⟨rfl, hB4⟩; have HO4 := Lib.hid (block_below HO3.out hB4); have hBw4 := hBw3.trans (hB4.mono hBw3.size))
    | (refine wpList_boxed rfl _ _ _ rfl nonce c (btag key nonce c.data.toList) (btag_length _ _ _) rfl rfl rfl ?_)
    | (refine wpList_storeB rfl 36 (.tmp 6) (.tmp 18) rfl size36 HO4.out (boxv_one nonce c (btag key nonce c.data.toList)) (boxv_length _ _ _ (btag_length _ _ _)) (by rfl) rfl rfl ?_; intro w5 h5 hg5 hz5; clear hz5))
  refine ret_agg rfl Tryd.underlying36 size36 rfl h5 (boxv_length _ _ _ (btag_length _ _ _)) rfl rfl ?_
  exact ⟨rfl, hBw4.grown hg5 hBw4.size (fun k e => by cases e; omega)⟩

end Go.Proofs.YtaecljahbmcneaaDoor
