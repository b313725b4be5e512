/- Chapter 06: sanity. -/
import Derived.Test.YtaecljahbmcneaaDoorBoxD
import Derived.Test.YtaecljahbmcneaaDoorBoxK
namespace Go.Proofs.YtaecljahbmcneaaDoor
open Go.RowKit Go.Shelf

theorem cx_cx {s st : List UInt8} (h : st.length = s.length) : cx (cx s st) st = s := by
  apply List.ext_getElem
  · rw [cx_length (by rw [cx_length h]; exact h), cx_length h]
  · intro i h1 h2
    simp [cx, UInt8.xor_assoc]
theorem crypt_crypt (key : List UInt8) (nonce : Int) (s : List UInt8) : crypt key nonce (crypt key nonce s) = s := by
  have h := crypt_length key nonce s
  unfold crypt at h ⊢
  rw [h]
  exact cx_cx (by rw [stream_length])
theorem crypts_crypts (key : List UInt8) (nonce : Int) (s : ByteArray) : crypts key nonce (crypts key nonce s) = s := by
  unfold crypts
  simp only [crypt_crypt]
theorem bopen_good (key : List UInt8) (nonce : Int) (s : ByteArray) : bopens key nonce (crypts key nonce s) (btag key nonce (crypt key nonce s.data.toList)) = s ∧ bopene key nonce (crypts key nonce s) (btag key nonce (crypt key nonce s.data.toList)) = 0 :=
  ⟨by unfold bopens; rw [crypts_list, if_pos rfl, crypts_crypts], by unfold bopene; rw [crypts_list, if_pos rfl]⟩
theorem bopen_bad {key : List UInt8} {nonce : Int} {c : ByteArray} {tag : List UInt8} (h : btag key nonce c.data.toList ≠ tag) : bopens key nonce c tag = ⟨#[]⟩ ∧ bopene key nonce c tag = 8 := ⟨if_neg h, if_neg h⟩
theorem xor_one_ne (b x : UInt8) (h : x ≠ 0) : b ^^^ x ≠ b := by
  intro e
  apply h
  have : b ^^^ (b ^^^ x) = b ^^^ b := by rw [e]
  simpa [← UInt8.xor_assoc] using this

theorem wpList_wantedB {P : Program} {ops : Array Oper} {rest : List Oper} {o : Oper} {a : Act} {Q : Exit → Act → World → Prop} {w : World} (hw : Region.wanted o (yielded ops a.tmps) = true) (h : wpList P ops Q ({ o with guard := none } :: rest) a w) : wpList P ops Q (o :: rest) a w := by
  unfold wpList at h ⊢
  rw [if_pos hw]
  rw [if_pos (by simp [Region.wanted])] at h
  exact h
theorem box_cell {w : World} {g : Nat} {t : TypeId} {f : Nat × Nat} {n : Int} {c : ByteArray} {tag : List UInt8} (h : w.heap[g]? = some (.cells (boxv n c tag).toArray t f)) : w.cell? ⟨g, 0, none⟩ = some (.int .i64 n) ∧ w.cell? ⟨g, 1, none⟩ = some (.string c) ∧ w.rangeAt g 2 (bv tag) := by
  refine ⟨?_, ?_, fun i v hv => ?_⟩
  · rw [cell_of_row _ _ _ _ _ _ h]; rfl
  · rw [cell_of_row _ _ _ _ _ _ h]; rfl
  · rw [cell_of_row _ _ _ _ _ _ h, List.getElem?_toArray, Nat.add_comm]; exact hv
theorem HFL {t : TypeId} (C : ByteArray) (t0 : UInt8) (tl : List UInt8) (w : World) (g : Nat) (h : w.heap[g]? = some (.cells (boxv 3 C (t0 :: tl)).toArray t (0, 0))) :
    (w.setCell ⟨g, 2, none⟩ (.int .u8 (bits BinOp.xor IntKind.u8 (t0.toNat : Int) 1))).heap[g]? = some (.cells (boxv 3 C ((t0 ^^^ 1) :: tl)).toArray t (0, 0)) := by
  refine (heap_set_fr _ _ _ _ _ _ _ h).trans ?_
  rw [← xor_val t0 1 1 (by decide)]
  rfl
def secB : ByteArray := ⟨#[115, 101, 99, 114, 101, 116]⟩
set_option maxHeartbeats 1600000 in
set_option maxRecDepth 100000 in
theorem sanity_any (w : World) (hL : Laid w) : Calls Tryd.prog 19 #[] w fun e w' => e = .returned (.bool true) ∧ Below w.heap.size w w' := by
  have hS : ∀ w1, Laid w1 → Calls Tryd.prog 22 #[.agg (bv K7).toArray, .int .i64 3, .string secB] w1 fun e w' => e = .returned (.agg (boxv 3 (crypts K7 3 secB) (btag K7 3 secC)).toArray) ∧ Below w1.heap.size w1 w' := fun w1 h => seal_any K7 3 secB w1 rfl (by decide) (by decide) (by decide) h
  have hE : ∀ w1, Laid w1 → Calls Tryd.prog 22 #[.agg (bv K7).toArray, .int .i64 3, .string ⟨#[]⟩] w1 fun e w' => e = .returned (.agg (boxv 3 ⟨#[]⟩ (btag K7 3 [])).toArray) ∧ Below w1.heap.size w1 w' := fun w1 h => by
    have h1 := seal_any K7 3 ⟨#[]⟩ w1 rfl (by decide) (by decide) (by decide) h
    have e1 : crypt K7 3 (⟨#[]⟩ : ByteArray).data.toList = [] := List.eq_nil_of_length_eq_zero (by rw [crypt_length]; rfl)
    have e2 : crypts K7 3 ⟨#[]⟩ = ⟨#[]⟩ := by unfold crypts; rw [e1]
    rw [e1, e2] at h1
    exact h1
  have hO : ∀ key tag w1, key.length = 16 → tag.length = 16 → Laid w1 → Calls Tryd.prog 20 #[.agg (bv key).toArray, .agg (boxv 3 (crypts K7 3 secB) tag).toArray] w1 fun e w' => e = .returned (.tuple #[.string (bopens key 3 (crypts K7 3 secB) tag), .int .i64 (bopene key 3 (crypts K7 3 secB) tag)]) ∧ Below w1.heap.size w1 w' :=
    fun key tag w1 h1 h2 h => open_any key 3 _ tag w1 h1 h2 (by decide) (by decide) (by rw [crypts_size]; decide) h
  have g1 := bopen_good K7 3 secB
  have hCs : (crypts K7 3 secB).size = 6 := by rw [crypts_size]; rfl
  have hCn : crypts K7 3 secB ≠ secB := fun e => by
    have h1 : secC = secL := congrArg (fun s : ByteArray => s.data.toList) e
    have := sane1
    rw [decide_eq_true h1] at this
    cases this
  have hT8 : btag K8 3 (crypts K7 3 secB).data.toList ≠ btag K7 3 secC := of_decide_eq_false sane2
  have hTE : btag K7 3 [] ≠ btag K7 3 secC := of_decide_eq_false sane3
  have hTC : btag K7 3 (crypts K7 3 secB).data.toList = btag K7 3 secC := rfl
  have g8 := bopen_bad hT8
  have lE := btag_length K7 3 []
  have lT := btag_length K7 3 secC
  rw [show crypt K7 3 secB.data.toList = secC from rfl] at g1
  generalize btag K7 3 secC = T at *
  generalize btag K7 3 [] = TE at *
  generalize crypts K7 3 secB = C at *
  obtain ⟨t0, tl, rfl⟩ : ∃ t0 tl, T = t0 :: tl := by cases T with | nil => cases lT | cons a l => exact ⟨a, l, rfl⟩
  obtain ⟨t1, ht1⟩ : ∃ t1, t1 = t0 ^^^ 1 := ⟨_, rfl⟩
  have gb := bopen_bad (key := K7) (nonce := 3) (c := C) (tag := t1 :: tl) (by rw [hTC, ht1]; intro e; injection e with e1 _; exact xor_one_ne t0 1 (by decide) e1.symm)
  have HO7 := Lib.hid (hO K7 (t0 :: tl))
  rw [g1.1, g1.2] at HO7
  have HOB := Lib.hid (hO K7 (t1 :: tl))
  rw [gb.1, gb.2] at HOB
  have HO8 := Lib.hid (hO K8 (t0 :: tl))
  rw [g8.1, g8.2] at HO8
  have HSS := Lib.hid hS
  have HEE := Lib.hid hE
  have HTE := Lib.hid hTE
  clear hO g1 gb g8 hT8 hTC hS hE
  go_enter Tryd.func19, Tryd.ntmps19
  have lF : (t1 :: tl).length = 16 := by simpa using lT
  have ud := Tryd.underlying34
  have ub := Tryd.underlying36
  have hfl := HFL (t := 36) C t0 tl
  rw [← ht1] at hfl
  have HT1 := Lib.hid ht1
  clear ht1
  go_upto_region 6 with (first
    | (go_at_call 22; refine (HSS.out _ (hL.below (below_al _ _))).mono ?_; rintro e w1 ⟨rfl, hB1⟩; have HK1 := Lib.hid (block_below (heap_alloc_new w (.cells (bv K7).toArray 34)) hB1); have hBw1 := bt (below_al _ _) hB1)
    | (refine wpList_storeB rfl 36 (.tmp 2) (.tmp 13) rfl size36 (heap_alloc_new w1 _) (boxv_one 3 C (t0 :: tl)) (boxv_length _ _ _ lT) (by rfl) rfl rfl ?_; intro w2 h2 hg2 hz2; have hB2 := below_put hg2; have HK2 := Lib.hid (block_below HK1.out hB2); have H2 := Lib.hid h2; have hBw2 := bt hBw1 hB2; have hl2 := Lib.hid (hL.below hBw2); have z2 : w1.heap.size < w2.heap.size := (Array.getElem?_eq_some_iff.1 h2).1; clear h2 hg2 hz2)
    | (refine wpList_loadB rfl 34 (.tmp 1) rfl ud size32 HK2.out (by rfl) rfl rfl ?_)
    | (refine wpList_loadB rfl 36 (.tmp 2) rfl ub size36 H2.out (boxv_length _ _ _ lT) rfl rfl ?_)
    | (go_at_call 20; refine (HO7.out w2 rfl lT hl2.out).mono ?_; rintro e w3 ⟨rfl, hB3⟩; have HK3 := Lib.hid (block_below HK2.out hB3); have H3 := Lib.hid (block_below H2.out hB3); have hBw3 := bt hBw2 hB3; have z3 := hB3.size)
    | (refine wpList_loadB rfl 36 (.tmp 2) rfl ub size36 H3.out (boxv_length _ _ _ lT) rfl rfl ?_)
    | (refine wpList_storeB rfl 36 (.tmp 5) (.tmp 20) rfl size36 (heap_alloc_new w3 _) (boxv_one 3 C (t0 :: tl)) (boxv_length _ _ _ lT) (by rfl) rfl rfl ?_; intro w4 h4 hg4 hz4; have hB4 := below_put hg4; have HK4 := Lib.hid (block_below HK3.out hB4); have H4 := Lib.hid (block_below H3.out hB4); have hBw4 := bt hBw3 hB4;
       have c4 : w4.cell? ⟨w3.heap.size, 2, none⟩ = some (.int .u8 (t0.toNat : Int)) := (by rw [cell_of_row _ _ _ _ _ _ h4]; rfl); have f4 := frozen_of_row _ _ 2 _ _ h4; have F4 := Lib.hid h4; have z4 : w3.heap.size < w4.heap.size := (Array.getElem?_eq_some_iff.1 h4).1; clear h4 hg4 hz4))
  obtain ⟨w5, hw5⟩ : ∃ x, x = w4.setCell ⟨w3.heap.size, 2, none⟩ (.int .u8 (bits BinOp.xor IntKind.u8 (t0.toNat : Int) 1)) := ⟨_, rfl⟩
  have HB5 := Lib.hid (hfl w4 _ F4.out)
  rw [← hw5] at HB5 ⊢
  have hBw5 : Below w.heap.size w w5 := by rw [hw5]; exact hBw4.setCell (by show _ ≤ w3.heap.size; have := hBw3.size; omega) _
  have HK5 : Hid (w5.heap[w.heap.size]? = some (.cells (bv K7).toArray 34 (0, 0))) := by rw [hw5]; exact (heap_setCell_other _ _ _ _ (by show _ ≠ w3.heap.size; have := hBw1.size; omega)).trans HK4.out
  have H5 : Hid (w5.heap[w1.heap.size]? = some (.cells (boxv 3 C (t0 :: tl)).toArray 36 (0, 0))) := by rw [hw5]; exact (heap_setCell_other _ _ _ _ (by show _ ≠ w3.heap.size; omega)).trans H4.out
  have hl5 := Lib.hid (hL.below hBw5)
  have c7 : (secB.toList == [115, 101, 99, 114, 101, 116]) = true := by rw [ByteArray.toList_eq]; rfl
  have c8 : (C.toList == [115, 101, 99, 114, 101, 116]) = false := beq_eq_false_iff_ne.2 (fun e => hCn (by rw [ByteArray.toList_eq] at e; cases C with | mk d => cases d with | mk l => simp only at e; rw [e]; rfl))
  have hne := fun W => run_neq16 W TE (t0 :: tl) lE lT
  rw [decide_eq_false HTE.out] at hne
  have hg := guard16
  clear hw5 c4 f4 hfl F4
  go_upto_region 7 with (first
    | (refine wpList_loadB rfl 34 (.tmp 1) rfl ud size32 HK5.out (by rfl) rfl rfl ?_)
    | (refine wpList_loadB rfl 36 (.tmp 5) rfl ub size36 HB5.out (boxv_length _ _ _ lF) rfl rfl ?_)
    | (go_at_call 20; refine (HOB.out w5 rfl lF hl5.out).mono ?_; rintro e w6 ⟨rfl, hB6⟩; have HK6 := Lib.hid (block_below HK5.out hB6); have H6 := Lib.hid (block_below H5.out hB6); have hBw6 := bt hBw5 hB6; have hl6 := Lib.hid (hL.below hBw6)))
  clear HK5 HB5 H5 hl5 HOB
  go_upto_region 8 with (first
    | (refine wpList_loadB rfl 36 (.tmp 2) rfl ub size36 H6.out (boxv_length _ _ _ lT) rfl rfl ?_)
    | (go_at_call 20; refine (HO8.out w6 rfl lT hl6.out).mono ?_; rintro e w7 ⟨rfl, hB7⟩; have HK7 := Lib.hid (block_below HK6.out hB7); have H7 := Lib.hid (block_below H6.out hB7); have hBw7 := bt hBw6 hB7; have hl7 := Lib.hid (hL.below hBw7)))
  clear HK6 H6 hl6 HO8
  go_upto_region 9 with (first
    | (refine wpList_loadB rfl 34 (.tmp 1) rfl ud size32 HK7.out (by rfl) rfl rfl ?_)
    | (go_at_call 22; refine (HEE.out w7 hl7.out).mono ?_; rintro e w8 ⟨rfl, hB8⟩; have H8 := Lib.hid (block_below H7.out hB8); have hBw8 := bt hBw7 hB8)
    | (refine wpList_storeB rfl 36 (.tmp 10) (.tmp 40) rfl size36 (heap_alloc_new w8 _) (boxv_one 3 ⟨#[]⟩ TE) (boxv_length _ _ _ lE) (by rfl) rfl rfl ?_; intro w9 h9 hg9 hz9; have hB9 := below_put hg9; have hBw9 := bt hBw8 hB9; obtain ⟨a0, a1, ra⟩ := box_cell (block_below H8.out hB9); obtain ⟨b0, b1, rb⟩ := box_cell h9; have RA := Lib.hid ra; have RB := Lib.hid rb; clear h9 hg9 hz9 ra rb))
  clear HK7 H7 hl7 HEE
  go_wp2_with (first
    | (refine wpList_wantedB rfl ?_; refine wpList_load_mid rfl 34 (.tmp 77) rfl w8.heap.size 2 rfl (bv TE) _ RB.out ud rfl (by rw [bv_length, lE]; exact size32) ?_)
    | (refine wpList_wantedB rfl ?_; refine wpList_load_mid rfl 34 (.tmp 79) rfl w1.heap.size 2 rfl (bv (t0 :: tl)) _ RA.out ud rfl (by rw [bv_length, lT]; exact size32) ?_))
  go_ret
  exact ⟨rfl, hBw9⟩
end Go.Proofs.YtaecljahbmcneaaDoor
