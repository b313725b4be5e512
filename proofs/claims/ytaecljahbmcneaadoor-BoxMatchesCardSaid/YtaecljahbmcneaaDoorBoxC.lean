/- Package box: Open. -/
import Derived.Test.YtaecljahbmcneaaDoorBoxB
import Derived.Maps.RangeWalk
namespace Go.Proofs.YtaecljahbmcneaaDoor
open Go.RowKit Go.Shelf

theorem row_range {w : World} {g : Nat} {cs : List Value} {t : TypeId} {f : Nat × Nat} (h : w.heap[g]? = some (.cells cs.toArray t f)) : w.rangeAt g 0 cs := fun i v hv => by
  rw [Nat.zero_add, cell_of_row _ _ _ _ _ _ h, List.getElem?_toArray, hv]
theorem range_kept {w w1 : World} {g o : Nat} {cs : List Value} (h : w.rangeAt g o cs) (hb : Below w.heap.size w w1) : w1.rangeAt g o cs := fun i v hv => cell_kept hb (h i v hv)
theorem takeD {P : Program} {ops : Array Oper} {Q : Exit → Act → World → Prop} {md : Region.Mode} {S : World → Prop} {i : Nat} {oi : Oper} {v : Value} {fuel : Nat} {listed : Array Bool} {a : Act} {w : World} (d : Option Tmp) (hi : ops[i]? = some oi) (hd : oi.dst = d)
    (hs : Region.noSelect ops = true) (hf : Region.free md ops listed i = true) (hr : (Region.ready md ops listed).contains i = true)
    (hQ : ∀ c a w, Q (.panic c) (a.put d v) w → Q (.panic c) a w) (hy : YieldsIf P ops S oi v a) (hS : S w)
    (h : wpAnyH P md ops Q S fuel (listed.setIfInBounds i true) (a.put d v) w) : wpAnyH P md ops Q S (fuel + 1) listed a w := by
  subst hd
  exact wpAnyH_take hi hs hf hr hQ hy hS h

/-- A box, cell by cell. -/
def boxv (nonce : Int) (c : ByteArray) (tag : List UInt8) : List Value := .int .i64 nonce :: .string c :: bv tag
def crypts (key : List UInt8) (nonce : Int) (s : ByteArray) : ByteArray := ⟨(crypt key nonce s.data.toList).toArray⟩
def bopens (key : List UInt8) (nonce : Int) (c : ByteArray) (tag : List UInt8) : ByteArray := if btag key nonce c.data.toList = tag then crypts key nonce c else ⟨#[]⟩
def bopene (key : List UInt8) (nonce : Int) (c : ByteArray) (tag : List UInt8) : Int := if btag key nonce c.data.toList = tag then 0 else 8
theorem boxv_length (nonce : Int) (c : ByteArray) (tag : List UInt8) (h : tag.length = 16) : (boxv nonce c tag).length = 18 := by simp [boxv, bv_length, h]
def Z18 : List Value := .int .i64 0 :: .string ⟨#[]⟩ :: Z16
theorem crypt_length (key : List UInt8) (nonce : Int) (s : List UInt8) : (crypt key nonce s).length = s.length := cx_length (stream_length _ _)
theorem crypts_list (key : List UInt8) (nonce : Int) (s : ByteArray) : (crypts key nonce s).data.toList = crypt key nonce s.data.toList := rfl
theorem crypts_size (key : List UInt8) (nonce : Int) (s : ByteArray) : (crypts key nonce s).size = s.size := by rw [← size_bytes, crypts_list, crypt_length, size_bytes]
theorem size36 : (Tryd.prog.info? 36).map (·.size) = some 18 := by kernel_rfl
theorem boxv_one (nonce : Int) (c : ByteArray) (tag : List UInt8) : ∀ u ∈ boxv nonce c tag, u.oneCell' = true := by
  intro u hu
  simp only [boxv, List.mem_cons] at hu
  rcases hu with rfl | rfl | hu
  · rfl
  · rfl
  · exact bv_one tag u hu

theorem four {w w3 : World} {g : Nat} {key tag : List UInt8} {nonce : Int} {c : ByteArray} (h : w.rangeAt g 0 (bv key) ∧ w.rangeAt (g + 1) 2 (bv tag) ∧ w.cell? ⟨g + 1, 0, none⟩ = some (.int .i64 nonce) ∧ w.cell? ⟨g + 1, 1, none⟩ = some (.string c)) (hb : Below w.heap.size w w3) :
    w3.rangeAt g 0 (bv key) ∧ w3.rangeAt (g + 1) 2 (bv tag) ∧ w3.cell? ⟨g + 1, 0, none⟩ = some (.int .i64 nonce) ∧ w3.cell? ⟨g + 1, 1, none⟩ = some (.string c) :=
  ⟨range_kept h.1 hb, range_kept h.2.1 hb, cell_kept hb h.2.2.1, cell_kept hb h.2.2.2⟩
theorem four_new {w : World} {key tag : List UInt8} {nonce : Int} {c : ByteArray} {t u : TypeId} : let w3 := ((w.alloc (.cells (bv key).toArray t)).alloc (.cells (boxv nonce c tag).toArray u))
    w3.rangeAt w.heap.size 0 (bv key) ∧ w3.rangeAt (w.heap.size + 1) 2 (bv tag) ∧ w3.cell? ⟨w.heap.size + 1, 0, none⟩ = some (.int .i64 nonce) ∧ w3.cell? ⟨w.heap.size + 1, 1, none⟩ = some (.string c) := by
  intro w3
  have ha : w3.heap[w.heap.size]? = some (.cells (bv key).toArray t (0, 0)) := (heap_alloc_old _ _ (by simp)).trans (heap_alloc_new _ _)
  have hb : w3.heap[w.heap.size + 1]? = some (.cells (boxv nonce c tag).toArray u (0, 0)) := heap_at _ _ _ (by simp)
  refine ⟨row_range ha, fun i v hv => ?_, ?_, ?_⟩
  · rw [cell_of_row _ _ _ _ _ _ hb, List.getElem?_toArray, Nat.add_comm]; exact hv
  · rw [cell_of_row _ _ _ _ _ _ hb]; rfl
  · rw [cell_of_row _ _ _ _ _ _ hb]; rfl

set_option maxHeartbeats 4000000 in
set_option maxRecDepth 100000 in
theorem open_any (key : List UInt8) (nonce : Int) (c : ByteArray) (tag : List UInt8) (w : World) (hk : key.length = 16) (ht : tag.length = 16) (h0 : -9223372036854775808 ≤ nonce) (h1 : nonce < 9223372036854775808) (hs : c.size ≤ 900000) (hL : Laid w) :
    Calls Tryd.prog 20 #[.agg (bv key).toArray, .agg (boxv nonce c tag).toArray] w fun e w' => e = .returned (.tuple #[.string (bopens key nonce c tag), .int .i64 (bopene key nonce c tag)]) ∧ Below w.heap.size w w' := by
  have hB0 : Below w.heap.size w ((w.alloc (.cells (bv key).toArray 34)).alloc (.cells (boxv nonce c tag).toArray 36)) := ((Below.refl _ w).alloc (Nat.le_refl _) _).alloc (by simp) _
  have hf : _ := four_new (w := w) (key := key) (tag := tag) (nonce := nonce) (c := c) (t := 34) (u := 36)
  have HF0 := Lib.hid hf
  have ud := Tryd.underlying34
  have zk : (Tryd.prog.info? 34).map (·.size) = some (bv key).length := by rw [bv_length, hk]; exact size32
  have zt : (Tryd.prog.info? 34).map (·.size) = some (bv tag).length := by rw [bv_length, ht]; exact size32
  have hne := fun W => run_neq16 W (btag key nonce c.data.toList) tag (btag_length _ _ _) ht
  have hg := guard16
  clear hf
  go_enter Tryd.func20, Tryd.ntmps20
  go_upto_region 1 with (fail)
  obtain ⟨wd, hwd⟩ : ∃ x, x = ((w.alloc (.cells (bv key).toArray 34)).alloc (.cells (boxv nonce c tag).toArray 36)) := ⟨_, rfl⟩
  rw [← hwd] at hB0 HF0 ⊢
  have hBq : Below wd.heap.size wd wd.drew := Below.drew (Below.refl _ _)
  have HF := Lib.hid (four HF0.out hBq)
  have LD := Lib.hid ((hL.below hB0).below hBq)
  clear hwd
  go_cut [14] from 6 (fun v W => v = .bool (!decide (btag key nonce c.data.toList = tag)) ∧ Below wd.heap.size wd W)
  case first =>
    refine wp_region_held_drew (S := fun w' => w'.rangeAt w.heap.size 0 (bv key) ∧ w'.rangeAt (w.heap.size + 1) 2 (bv tag) ∧ w'.cell? ⟨w.heap.size + 1, 0, none⟩ = some (.int .i64 nonce) ∧ w'.cell? ⟨w.heap.size + 1, 1, none⟩ = some (.string c)) (by kernel_rfl) HF.out (fun hHeld => ?_)
    try go_frame
    refine takeD (i := 0) (oi := _) (v := _) (some 6) rfl rfl (by kernel_rfl) (by kernel_rfl) (by kernel_rfl) (fun _ _ _ h => h) (yieldsIf_load_mid (by rfl) 34 (.tmp 2) rfl (w.heap.size) 0 rfl (bv key) _ (fun w hSw => hSw.1) ud rfl zk) (by assumption) ?_
    try go_frame
    refine takeD (i := 1) (oi := _) (v := ?_) (some 7) rfl rfl (by kernel_rfl) (by kernel_rfl) (by kernel_rfl) (fun _ _ _ h => h) (Or.inl ⟨by rfl, ?_⟩) (by assumption) ?_
    rotate_left
    · intro w hSw; (try dsimp only at hSw); go_simp; (try with_reducible rfl)
    try go_frame
    refine takeD (i := 2) (oi := _) (v := ?_) (some 8) rfl rfl (by kernel_rfl) (by kernel_rfl) (by kernel_rfl) (fun _ _ _ h => h) (Or.inl ⟨by rfl, ?_⟩) (by assumption) ?_
    rotate_left
    · intro w hSw; (try dsimp only at hSw); go_simp; (try with_reducible rfl)
    try go_frame
    refine takeD (i := 3) (oi := _) (v := ?_) (some 9) rfl rfl (by kernel_rfl) (by kernel_rfl) (by kernel_rfl) (fun _ _ _ h => h) (Or.inl ⟨by rfl, ?_⟩) (by assumption) ?_
    rotate_left
    · intro w hSw; (try dsimp only at hSw); go_simp; (try with_reducible rfl)
    try go_frame
    refine takeD (i := 4) (oi := _) (v := ?_) (some 10) rfl rfl (by kernel_rfl) (by kernel_rfl) (by kernel_rfl) (fun _ _ _ h => h) (Or.inl ⟨by rfl, ?_⟩) (by assumption) ?_
    rotate_left
    · intro w hSw; (try dsimp only at hSw); go_simp; (try with_reducible rfl)
    try go_frame
    refine takeD (i := 6) (oi := _) (v := ?_) (some 12) rfl rfl (by kernel_rfl) (by kernel_rfl) (by kernel_rfl) (fun _ _ _ h => h) (Or.inl ⟨by rfl, ?_⟩) (by assumption) ?_
    rotate_left
    · intro w hSw; (try dsimp only at hSw); go_simp; (try with_reducible rfl)
    try go_frame
    refine takeD (i := 7) (oi := _) (v := _) (some 13) rfl rfl (by kernel_rfl) (by kernel_rfl) (by kernel_rfl) (fun _ _ _ h => h) (yieldsIf_load_mid (by rfl) 34 (.tmp 12) rfl (w.heap.size + 1) 2 rfl (bv tag) _ (fun w hSw => hSw.2.1) ud rfl zt) (by assumption) ?_
    try go_frame
    refine wpAnyH_ready (rs := [5]) (by kernel_rfl) (by simp) ?_
    refine AllReadyH.cons (o := _) rfl (fun K hK => ?_) AllReadyH.nil
    go_simp
    (go_at_call 47; refine (tag_any key nonce c _ hk h0 h1 hs LD.out).mono ?_; rintro e w3 ⟨rfl, hB3⟩)
    refine hK.out _ _ (four HF.out hB3) (fun hHeld => ?_)
    clear hK K
    try (show wpAnyH _ _ _ _ _ _ _ (Act.put _ (some 11) _) _)
    try go_frame
    refine takeD (i := 8) (oi := _) (v := ?_) (some 14) rfl rfl (by kernel_rfl) (by kernel_rfl) (by kernel_rfl) (fun _ _ _ h => h) (Or.inl ⟨by rfl, ?_⟩) (by assumption) ?_
    rotate_left
    · intro w hSw; (try dsimp only at hSw); go_simp; (try with_reducible rfl)
    try go_frame
    refine wpAnyH_done (by kernel_rfl) ?_ _

    go_wp2_with fail
    go_meet
    exact ⟨rfl, bt hBq hB3⟩
  case rest =>
    obtain ⟨rfl, hBc⟩ := hcut
    have hBw := bt hB0 hBc
    by_cases hcase : btag key nonce c.data.toList = tag
    · have e1 : bopens key nonce c tag = crypts key nonce c := if_pos hcase
      have e2 : bopene key nonce c tag = 0 := if_pos hcase
      have e3 : decide (btag key nonce c.data.toList = tag) = true := decide_eq_true hcase
      have R4 := four HF0.out hBc
      have HRK := Lib.hid R4.1
      have c0 := R4.2.2.1
      have c1 := R4.2.2.2
      have HE1 := Lib.hid e1
      have HE2 := Lib.hid e2
      have LW := Lib.hid (hL.below hBw)
      rw [e3]
      clear R4 e1 e2 e3 hcase
      go_wp2_with (first
        | (refine wpList_load_mid rfl 34 (.tmp 2) rfl w.heap.size 0 rfl (bv key) _ HRK.out ud rfl zk ?_)
        | (go_at_call 48; go_must (refine (apply_any key nonce c _ hk h0 h1 hs LW.out).mono ?_); rintro e w3 ⟨rfl, hB3⟩))
      refine bodyPost_ret (results_tmp2 rfl _ _ _) rfl ?_
      exact ⟨by rw [HE1.out, HE2.out]; rfl, bt hBw hB3⟩
    · have e1 : bopens key nonce c tag = ⟨#[]⟩ := if_neg hcase
      have e2 : bopene key nonce c tag = 8 := if_neg hcase
      have e3 : decide (btag key nonce c.data.toList = tag) = false := decide_eq_false hcase
      have HE1 := Lib.hid e1
      have HE2 := Lib.hid e2
      rw [e3]
      clear e1 e2 e3 hcase
      go_wp2
      refine bodyPost_ret (results_tmp2 rfl _ _ _) rfl ?_
      exact ⟨by rw [HE1.out, HE2.out]; rfl, hBw⟩
end Go.Proofs.YtaecljahbmcneaaDoor
