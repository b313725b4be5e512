/- The region that puts the text of a tag together and authenticates it: k[:], append(append([]byte{}, wire.Int(n)...), wire.Bytes(c)...), sha.MAC, in whatever order. -/
import Derived.Test.YtaecljahbmcneaaDoorMacR
import Derived.Test.YtaecljahbmcneaaDoorRegInv
namespace Go.Proofs.YtaecljahbmcneaaDoor
open Go.RowKit Go.Shelf

def macI (wd : World) (a0 : Act) (dA dB dI dP dY dQ dM : Nat) (xI xY T : List UInt8) (D : Nat → Bool) (a : Act) (w : World) : Prop :=
  a.defers = a0.defers ∧ a.tmps.size = a0.tmps.size ∧ (∀ t, t ≠ dA → t ≠ dB → t ≠ dI → t ≠ dP → t ≠ dY → t ≠ dQ → t ≠ dM → a.tmps.getD t undef = a0.tmps.getD t undef) ∧ Below wd.heap.size wd w ∧
  (D 1 = true → ∃ g, a.tmps.getD dB undef = .slice (some g) 0 0) ∧
  (D 9 = false → D 4 = true → ∃ A c, a.tmps.getD dI undef = .slice A xI.length c ∧ Rd w A xI.length xI) ∧
  (D 9 = false → D 5 = true → ∃ A c, a.tmps.getD dP undef = .slice A xI.length c ∧ w.ownsRow wd.heap.size 5 1 (.slice A xI.length c) xI.length (bv xI)) ∧
  (D 9 = false → D 8 = true → ∃ A c, a.tmps.getD dY undef = .slice A xY.length c ∧ Rd w A xY.length xY) ∧
  (D 9 = true → D 12 = false → ∃ A c, a.tmps.getD dQ undef = .slice A (xI.length + xY.length) c ∧ Rd w A (xI.length + xY.length) (xI ++ xY)) ∧
  (D 10 = true → a.tmps.getD dM undef = .agg (bv T).toArray) ∧
  (D 11 = true → ∃ k, a.tmps.getD dA undef = .pointer (some ⟨k, 0, none⟩) ∧ wd.heap.size ≤ k ∧ w.heap[k]? = some (.cells (if D 12 = true then bv T else Z16).toArray 34 (0, 0)))

section
variable {wd : World} {a0 : Act} {dA dB dI dP dY dQ dM : Nat} {xI xY T : List UInt8} {D : Nat → Bool} {a : Act} {w : World}
theorem macI.below {w1 : World} (h : macI wd a0 dA dB dI dP dY dQ dM xI xY T D a w) (hb : Below w.heap.size w w1) : macI wd a0 dA dB dI dP dY dQ dM xI xY T D a w1 := by
  obtain ⟨h1, h2, h3, h4, hB, hI, hP, hY, hQ, hM, hA⟩ := h
  refine ⟨h1, h2, h3, bt h4 hb, hB, fun e e2 => ?_, fun e e2 => ?_, fun e e2 => ?_, fun e e2 => ?_, hM, fun e => ?_⟩
  · obtain ⟨A, c, g1, g2⟩ := hI e e2; exact ⟨A, c, g1, g2.below hb⟩
  · obtain ⟨A, c, g1, g2⟩ := hP e e2; exact ⟨A, c, g1, own_below g2 hb⟩
  · obtain ⟨A, c, g1, g2⟩ := hY e e2; exact ⟨A, c, g1, g2.below hb⟩
  · obtain ⟨A, c, g1, g2⟩ := hQ e e2; exact ⟨A, c, g1, g2.below hb⟩
  · obtain ⟨k, g1, g2, g3⟩ := hA e; exact ⟨k, g1, g2, block_below g3 hb⟩
end

set_option maxHeartbeats 1000000 in
theorem mac_region {ops : Array Oper} {Q : Exit → Act → World → Prop} {S : World → Prop} {fuel : Nat} {L : Array Bool} (wd : World) (a0 : Act) (kA : Option Addr) (kc : Nat) (key : List UInt8) (nonce : Int) (c : ByteArray)
    (dA tK dB tN dI dP tC dY dQ dM : Nat) (o1 o4 o5 o8 o9 o10 o11 o12 : Oper)
    (hd : dA < tK ∧ tK < dB ∧ dB < tN ∧ tN < dI ∧ dI < dP ∧ dP < tC ∧ tC < dY ∧ dY < dQ ∧ dQ < dM ∧ dM < a0.tmps.size)
    (hsz : ops.size = 13) (hb : backward .any ops = true)
    (p5 : sub [1, 4] (depsOf .any ops 5) = true) (p9 : sub [5, 8] (depsOf .any ops 9) = true) (p10 : sub [0, 9] (depsOf .any ops 10) = true) (p12 : sub [10, 11] (depsOf .any ops 12) = true)
    (h1 : ops[1]? = some o1) (h4 : ops[4]? = some o4) (h5 : ops[5]? = some o5) (h8 : ops[8]? = some o8) (h9 : ops[9]? = some o9) (h10 : ops[10]? = some o10) (h11 : ops[11]? = some o11) (h12 : ops[12]? = some o12)
    (g1 : o1.guard = none) (g4 : o4.guard = none) (g5 : o5.guard = none) (g8 : o8.guard = none) (g9 : o9.guard = none) (g10 : o10.guard = none) (g11 : o11.guard = none) (g12 : o12.guard = none)
    (d1 : o1.dst = some dB) (d4 : o4.dst = some dI) (d5 : o5.dst = some dP) (d8 : o8.dst = some dY) (d9 : o9.dst = some dQ) (d10 : o10.dst = some dM) (d11 : o11.dst = some dA) (d12 : o12.dst = none)
    (x1 : ∀ (b : Act) W, (execOp b.eval o1).run Tryd.prog W = .ok (.value (.slice (some ⟨W.heap.size, 0, none⟩) 0 0)) (W.alloc (.cells #[] 5)))
    (x4 : ∀ (b : Act) W, (execOp b.eval o4).run Tryd.prog W = .ok (.enter 28 #[b.eval (.tmp tN)]) W)
    (e5 : o5.op = .call { callee := .builtin .append, args := #[.tmp dB, .tmp dI], argTypes := #[48, 48] })
    (x8 : ∀ (b : Act) W, (execOp b.eval o8).run Tryd.prog W = .ok (.enter 29 #[b.eval (.tmp tC)]) W)
    (e9 : o9.op = .call { callee := .builtin .append, args := #[.tmp dP, .tmp dY], argTypes := #[48, 48] })
    (x10 : ∀ (b : Act) W, (execOp b.eval o10).run Tryd.prog W = .ok (.enter 27 #[b.eval (.tmp tK), b.eval (.tmp dQ)]) W)
    (x11 : ∀ (b : Act) W, (execOp b.eval o11).run Tryd.prog W = .ok (.value (.pointer (some ⟨W.heap.size, 0, none⟩))) (W.alloc (.cells Z16.toArray 34)))
    (e12 : o12.op = .store 34 (.tmp dA) (.tmp dM))
    (hk : a0.tmps.getD tK undef = .slice kA 16 kc) (hn : a0.tmps.getD tN undef = .int .i64 nonce) (hc : a0.tmps.getD tC undef = .string c)
    (rk : Rd wd kA 16 key) (h0 : -9223372036854775808 ≤ nonce) (h1' : nonce < 9223372036854775808) (hs : c.size ≤ 900000) (hL : Laid wd)
    (hLs : L.size = 13) (hLf : falses L ≤ fuel) (hL1 : L.getD 0 true = true ∧ L.getD 1 true = false ∧ L.getD 2 true = true ∧ L.getD 3 true = true ∧ L.getD 4 true = false ∧ L.getD 5 true = false ∧ L.getD 6 true = true ∧ L.getD 7 true = true ∧ L.getD 8 true = false ∧ L.getD 9 true = false ∧ L.getD 10 true = false ∧ L.getD 11 true = false ∧ L.getD 12 true = false)
    (hS : ∀ W, Below wd.heap.size wd W → S W)
    (hQ : ∀ vB vI vP vY vQ k W, wd.heap.size ≤ k → W.heap[k]? = some (.cells (bv (mac key (encInt nonce ++ encBytes c.data.toList))).toArray 34 (0, 0)) → Below wd.heap.size wd W →
      Q .normal (((((((a0.put (some dA) (.pointer (some ⟨k, 0, none⟩))).put (some dB) vB).put (some dI) vI).put (some dP) vP).put (some dY) vY).put (some dQ) vQ).put (some dM) (.agg (bv (mac key (encInt nonce ++ encBytes c.data.toList))).toArray)) W)
    (w : World) (hw : Below wd.heap.size wd w) :
    wpAnyH Tryd.prog .any ops Q S fuel L a0 w := by
  have hel := encInt_le nonce
  have hbl := encBytes_le c.data.toList
  rw [size_bytes] at hbl
  obtain ⟨xI, hxI⟩ : ∃ x, x = encInt nonce := ⟨_, rfl⟩
  obtain ⟨xY, hxY⟩ : ∃ x, x = encBytes c.data.toList := ⟨_, rfl⟩
  have hIp : 0 < xI.length := by rw [hxI]; exact encInt_ne _
  rw [← hxI] at hel
  rw [← hxY] at hbl
  rw [← hxI, ← hxY] at hQ
  obtain ⟨T, hT⟩ : ∃ T, T = mac key (xI ++ xY) := ⟨_, rfl⟩
  rw [← hT] at hQ
  have hTl : T.length = 16 := by rw [hT]; exact mac_length _ _
  refine wpAnyH_inv hb (fun D a w => D 0 = true ∧ D 2 = true ∧ D 3 = true ∧ D 6 = true ∧ D 7 = true ∧ (∀ j, 13 ≤ j → D j = true) ∧ (D 12 = true → D 11 = true) ∧ (D 10 = true → D 9 = true) ∧ (D 9 = true → D 5 = true) ∧ (D 12 = true → D 10 = true) ∧ macI wd a0 dA dB dI dP dY dQ dM xI xY T D a w) ?_ ?_ fuel L a0 w (by rw [hLs, hsz]) hLf ?_
  · rintro D a w hD ⟨_, _, _, _, _, _, _, _, _, _, k1, k2, k3, k4, kB, kI, kP, kY, kQ, kM, kA⟩
    obtain ⟨k, m1, m2, m3⟩ := kA (hD 11)
    rw [if_pos (hD 12)] at m3
    have key := hQ (a.tmps.getD dB undef) (a.tmps.getD dI undef) (a.tmps.getD dP undef) (a.tmps.getD dY undef) (a.tmps.getD dQ undef) k w m2 m3 k4
    have he : a = (((((((a0.put (some dA) (.pointer (some ⟨k, 0, none⟩))).put (some dB) (a.tmps.getD dB undef)).put (some dI) (a.tmps.getD dI undef)).put (some dP) (a.tmps.getD dP undef)).put (some dY) (a.tmps.getD dY undef)).put (some dQ) (a.tmps.getD dQ undef)).put (some dM) (.agg (bv T).toArray)) := by
      refine act_ext (by simp only [put_defers]; exact k1) (by simp only [put_size]; exact k2) (fun t => ?_)
      by_cases tM : t = dM
      · rw [tM, put_same (by simp only [put_size]; omega)]; exact kM (hD 10)
      rw [put_ne tM]
      by_cases tQ : t = dQ
      · rw [tQ, put_same (by simp only [put_size]; omega)]
      rw [put_ne tQ]
      by_cases tY : t = dY
      · rw [tY, put_same (by simp only [put_size]; omega)]
      rw [put_ne tY]
      by_cases tP : t = dP
      · rw [tP, put_same (by simp only [put_size]; omega)]
      rw [put_ne tP]
      by_cases tI : t = dI
      · rw [tI, put_same (by simp only [put_size]; omega)]
      rw [put_ne tI]
      by_cases tB : t = dB
      · rw [tB, put_same (by simp only [put_size]; omega)]
      rw [put_ne tB]
      by_cases tA : t = dA
      · rw [tA, put_same (by omega)]; exact m1
      rw [put_ne tA]
      exact k3 t tA tB tI tP tY tQ tM
    rw [he]
    exact key
  · rintro D a w i hi hDi hdeps ⟨D0, D2, D3, D6, D7, D13, D1211, D109, D95, D1210, hI⟩
    have hpure : ∀ i, upd D i 0 = true ∧ upd D i 2 = true ∧ upd D i 3 = true ∧ upd D i 6 = true ∧ upd D i 7 = true ∧ (∀ j, 13 ≤ j → upd D i j = true) := fun i => ⟨upd_true D0, upd_true D2, upd_true D3, upd_true D6, upd_true D7, fun j hj => upd_true (D13 j hj)⟩
    have fin : ∀ i a' w', (i = 12 → D 11 = true ∧ D 10 = true) → (i = 10 → D 9 = true) → (i = 9 → D 5 = true) → macI wd a0 dA dB dI dP dY dQ dM xI xY T (upd D i) a' w' → S w' ∧ upd D i 0 = true ∧ upd D i 2 = true ∧ upd D i 3 = true ∧ upd D i 6 = true ∧ upd D i 7 = true ∧ (∀ j, 13 ≤ j → upd D i j = true) ∧ (upd D i 12 = true → upd D i 11 = true) ∧ (upd D i 10 = true → upd D i 9 = true) ∧ (upd D i 9 = true → upd D i 5 = true) ∧ (upd D i 12 = true → upd D i 10 = true) ∧ macI wd a0 dA dB dI dP dY dQ dM xI xY T (upd D i) a' w' := fun i a' w' f12 f10 f9 h => by
      obtain ⟨q0, q1, q2, q3, q4, q5⟩ := hpure i
      refine ⟨hS w' h.2.2.2.1, q0, q1, q2, q3, q4, q5, fun e => ?_, fun e => ?_, fun e => ?_, fun e => ?_, h⟩
      · by_cases hi : i = 12
        · exact upd_true (f12 hi).1
        · rw [upd_ne (Ne.symm hi)] at e; exact upd_true (D1211 e)
      · by_cases hi : i = 10
        · exact upd_true (f10 hi)
        · rw [upd_ne (Ne.symm hi)] at e; exact upd_true (D109 e)
      · by_cases hi : i = 9
        · exact upd_true (f9 hi)
        · rw [upd_ne (Ne.symm hi)] at e; exact upd_true (D95 e)
      · by_cases hi : i = 12
        · exact upd_true (f12 hi).2
        · rw [upd_ne (Ne.symm hi)] at e; exact upd_true (D1210 e)
    have ev : ∀ t, a.eval (.tmp t) = a.tmps.getD t undef := fun _ => rfl
    obtain ⟨u1, u2, u3, u4, uB, uI, uP, uY, uQ, uM, uA⟩ := hI
    match i, hi, hDi, hdeps with
    | 0, _, h, _ => rw [D0] at h; cases h
    | 2, _, h, _ => rw [D2] at h; cases h
    | 3, _, h, _ => rw [D3] at h; cases h
    | 6, _, h, _ => rw [D6] at h; cases h
    | 7, _, h, _ => rw [D7] at h; cases h
    | n + 13, hi, _, _ => omega
    | 1, _, h, _ =>
      refine wpOp_value h1 g1 (x1 _ w) (fin 1 _ _ (by intro hh; exact absurd hh (by decide)) (by intro hh; exact absurd hh (by decide)) (by intro hh; exact absurd hh (by decide)) ?_)
      rw [d1]
      have hb : Below w.heap.size w (w.alloc (.cells #[] 5)) := below_al _ _
      refine ⟨u1, by rw [put_size]; exact u2, fun t q1 q2 q3 q4 q5 q6 q7 => by rw [put_ne q2]; exact u3 t q1 q2 q3 q4 q5 q6 q7, bt u4 hb, fun _ => ⟨_, put_same (by omega)⟩, fun e e2 => ?_, fun e e2 => ?_, fun e e2 => ?_, fun e e2 => ?_, fun e => ?_, fun e => ?_⟩
      · obtain ⟨A, c, g1, g2⟩ := uI e e2; exact ⟨A, c, by rw [put_ne (by omega)]; exact g1, g2.below hb⟩
      · obtain ⟨A, c, g1, g2⟩ := uP e e2; exact ⟨A, c, by rw [put_ne (by omega)]; exact g1, own_below g2 hb⟩
      · obtain ⟨A, c, g1, g2⟩ := uY e e2; exact ⟨A, c, by rw [put_ne (by omega)]; exact g1, g2.below hb⟩
      · obtain ⟨A, c, g1, g2⟩ := uQ e e2; exact ⟨A, c, by rw [put_ne (by omega)]; exact g1, g2.below hb⟩
      · rw [put_ne (by omega)]; exact uM e
      · obtain ⟨k, g1, g2, g3⟩ := uA e; exact ⟨k, by rw [put_ne (by omega)]; exact g1, g2, block_below g3 hb⟩
    | 4, _, h, _ =>
      refine wpOp_enter h4 g4 (x4 _ w) (by rw [ev, u3 tN (by omega) (by omega) (by omega) (by omega) (by omega) (by omega) (by omega), hn]; exact int_any nonce w h0 h1') ?_
      rintro e w1 ⟨A1, c1, rfl, hown, hb⟩
      refine ⟨_, rfl, fin 4 _ _ (by intro hh; exact absurd hh (by decide)) (by intro hh; exact absurd hh (by decide)) (by intro hh; exact absurd hh (by decide)) ?_⟩
      rw [d4]
      refine ⟨u1, by rw [put_size]; exact u2, fun t q1 q2 q3 q4 q5 q6 q7 => by rw [put_ne q3]; exact u3 t q1 q2 q3 q4 q5 q6 q7, bt u4 hb, fun e => ?_, fun e e2 => ?_, fun e e2 => ?_, fun e e2 => ?_, fun e e2 => ?_, fun e => ?_, fun e => ?_⟩
      · obtain ⟨g, g1⟩ := uB e; exact ⟨g, by rw [put_ne (by omega)]; exact g1⟩
      · rw [hxI]; exact ⟨A1, c1, put_same (by omega), rd_own hown⟩
      · obtain ⟨A, c, g1, g2⟩ := uP e e2; exact ⟨A, c, by rw [put_ne (by omega)]; exact g1, own_below g2 hb⟩
      · obtain ⟨A, c, g1, g2⟩ := uY e e2; exact ⟨A, c, by rw [put_ne (by omega)]; exact g1, g2.below hb⟩
      · obtain ⟨A, c, g1, g2⟩ := uQ e e2; exact ⟨A, c, by rw [put_ne (by omega)]; exact g1, g2.below hb⟩
      · rw [put_ne (by omega)]; exact uM e
      · obtain ⟨k, g1, g2, g3⟩ := uA e; exact ⟨k, by rw [put_ne (by omega)]; exact g1, g2, block_below g3 hb⟩
    | 8, _, h, _ =>
      refine wpOp_enter h8 g8 (x8 _ w) (by rw [ev, u3 tC (by omega) (by omega) (by omega) (by omega) (by omega) (by omega) (by omega), hc]; exact bytes_any c w (by omega)) ?_
      rintro e w1 ⟨A1, c1, rfl, hown, hb⟩
      refine ⟨_, rfl, fin 8 _ _ (by intro hh; exact absurd hh (by decide)) (by intro hh; exact absurd hh (by decide)) (by intro hh; exact absurd hh (by decide)) ?_⟩
      rw [d8]
      refine ⟨u1, by rw [put_size]; exact u2, fun t q1 q2 q3 q4 q5 q6 q7 => by rw [put_ne q5]; exact u3 t q1 q2 q3 q4 q5 q6 q7, bt u4 hb, fun e => ?_, fun e e2 => ?_, fun e e2 => ?_, fun e e2 => ?_, fun e e2 => ?_, fun e => ?_, fun e => ?_⟩
      · obtain ⟨g, g1⟩ := uB e; exact ⟨g, by rw [put_ne (by omega)]; exact g1⟩
      · obtain ⟨A, c, g1, g2⟩ := uI e e2; exact ⟨A, c, by rw [put_ne (by omega)]; exact g1, g2.below hb⟩
      · obtain ⟨A, c, g1, g2⟩ := uP e e2; exact ⟨A, c, by rw [put_ne (by omega)]; exact g1, own_below g2 hb⟩
      · rw [hxY]; exact ⟨A1, c1, put_same (by omega), rd_own hown⟩
      · obtain ⟨A, c, g1, g2⟩ := uQ e e2; exact ⟨A, c, by rw [put_ne (by omega)]; exact g1, g2.below hb⟩
      · rw [put_ne (by omega)]; exact uM e
      · obtain ⟨k, g1, g2, g3⟩ := uA e; exact ⟨k, by rw [put_ne (by omega)]; exact g1, g2, block_below g3 hb⟩
    | 11, _, h, _ =>
      refine wpOp_value h11 g11 (x11 _ w) (fin 11 _ _ (by intro hh; exact absurd hh (by decide)) (by intro hh; exact absurd hh (by decide)) (by intro hh; exact absurd hh (by decide)) ?_)
      rw [d11]
      have hb : Below w.heap.size w (w.alloc (.cells Z16.toArray 34)) := below_al _ _
      have h12n : D 12 = false := by
        cases h12d : D 12 with
        | false => rfl
        | true => rw [D1211 h12d] at h; cases h
      refine ⟨u1, by rw [put_size]; exact u2, fun t q1 q2 q3 q4 q5 q6 q7 => by rw [put_ne q1]; exact u3 t q1 q2 q3 q4 q5 q6 q7, bt u4 hb, fun e => ?_, fun e e2 => ?_, fun e e2 => ?_, fun e e2 => ?_, fun e e2 => ?_, fun e => ?_, fun e => ?_⟩
      · obtain ⟨g, g1⟩ := uB e; exact ⟨g, by rw [put_ne (by omega)]; exact g1⟩
      · obtain ⟨A, c, g1, g2⟩ := uI e e2; exact ⟨A, c, by rw [put_ne (by omega)]; exact g1, g2.below hb⟩
      · obtain ⟨A, c, g1, g2⟩ := uP e e2; exact ⟨A, c, by rw [put_ne (by omega)]; exact g1, own_below g2 hb⟩
      · obtain ⟨A, c, g1, g2⟩ := uY e e2; exact ⟨A, c, by rw [put_ne (by omega)]; exact g1, g2.below hb⟩
      · obtain ⟨A, c, g1, g2⟩ := uQ e e2; exact ⟨A, c, by rw [put_ne (by omega)]; exact g1, g2.below hb⟩
      · rw [put_ne (by omega)]; exact uM e
      · refine ⟨w.heap.size, put_same (by omega), u4.size, ?_⟩
        rw [show upd D 11 12 = D 12 from upd_ne (by decide), h12n]
        exact heap_alloc_new _ _
    | 5, _, h, hdp =>
      replace hdp : ∀ j ∈ ([1, 4] : List Nat), D j = true := fun j hj => hdp j (sub_mem p5 hj)
      obtain ⟨g, eB⟩ := uB (hdp 1 (by simp))
      have h9 : D 9 = false := by
        cases h9d : D 9 with
        | false => rfl
        | true => exact absurd (D95 h9d) (by rw [h]; decide)
      obtain ⟨A, c, eI, rI⟩ := uI h9 (hdp 4 (by simp))
      obtain ⟨A1, c1, w1, hr, hown, hb⟩ := run_append_empty (P := Tryd.prog) w wd.heap.size 48 o5.type Tryd.underlying48 info5 g xI A xI.length c rI hIp (by omega) u4.size
      refine wpOp_value (v := .slice A1 xI.length c1) (w1 := w1) h5 g5 ?_ (fin 5 _ _ (by intro hh; exact absurd hh (by decide)) (by intro hh; exact absurd hh (by decide)) (by intro hh; exact absurd hh (by decide)) ?_)
      · unfold execOp
        simp only [e5, resolve, invoke, builtin, Sem.run_bind, Sem.run_pure, Result.andThen_ok, List.map_toArray, List.map_cons, List.map_nil, ev, eB, eI, hr]
      rw [d5]
      refine ⟨u1, by rw [put_size]; exact u2, fun t q1 q2 q3 q4 q5 q6 q7 => by rw [put_ne q4]; exact u3 t q1 q2 q3 q4 q5 q6 q7, bt u4 hb, fun e => ?_, fun e e2 => ?_, fun e e2 => ?_, fun e e2 => ?_, fun e e2 => ?_, fun e => ?_, fun e => ?_⟩
      · obtain ⟨g, g1⟩ := uB e; exact ⟨g, by rw [put_ne (by omega)]; exact g1⟩
      · obtain ⟨A, c, g1, g2⟩ := uI e e2; exact ⟨A, c, by rw [put_ne (by omega)]; exact g1, g2.below hb⟩
      · exact ⟨A1, c1, put_same (by omega), hown⟩
      · obtain ⟨A, c, g1, g2⟩ := uY e e2; exact ⟨A, c, by rw [put_ne (by omega)]; exact g1, g2.below hb⟩
      · obtain ⟨A, c, g1, g2⟩ := uQ e e2; exact ⟨A, c, by rw [put_ne (by omega)]; exact g1, g2.below hb⟩
      · rw [put_ne (by omega)]; exact uM e
      · obtain ⟨k, g1, g2, g3⟩ := uA e; exact ⟨k, by rw [put_ne (by omega)]; exact g1, g2, block_below g3 hb⟩
    | 9, _, h, hdp =>
      replace hdp : ∀ j ∈ ([5, 8] : List Nat), D j = true := fun j hj => hdp j (sub_mem p9 hj)
      obtain ⟨A, c, eP, oP⟩ := uP h (hdp 5 (by simp))
      obtain ⟨A2, c2, eY, rY⟩ := uY h (hdp 8 (by simp))
      obtain ⟨A1, c1, w1, hr, hown, hg, _⟩ := run_append_gen (P := Tryd.prog) w wd.heap.size 48 o9.type 5 1 1 _ Tryd.underlying48 info5 rfl (by decide) (by decide) _ _ (bv xI) (bv xY) A2 xY.length c2 oP (by rw [bv_length]; omega) rY.cells (bv_one _) u4.size (by omega)
      rw [← bv_append] at hown
      refine wpOp_value (v := .slice A1 (xI.length + xY.length) c1) (w1 := w1) h9 g9 ?_ (fin 9 _ _ (by intro hh; exact absurd hh (by decide)) (by intro hh; exact absurd hh (by decide)) (fun _ => hdp 5 (by simp)) ?_)
      · unfold execOp
        simp only [e9, resolve, invoke, builtin, Sem.run_bind, Sem.run_pure, Result.andThen_ok, List.map_toArray, List.map_cons, List.map_nil, ev, eP, eY, hr]
      rw [d9]
      have hbw : Below wd.heap.size wd w1 := u4.grown hg u4.size (own_ge oP)
      refine ⟨u1, by rw [put_size]; exact u2, fun t q1 q2 q3 q4 q5 q6 q7 => by rw [put_ne q6]; exact u3 t q1 q2 q3 q4 q5 q6 q7, hbw, fun e => ?_, fun e e2 => ?_, fun e e2 => ?_, fun e e2 => ?_, fun e e2 => ?_, fun e => ?_, fun e => ?_⟩
      · obtain ⟨g, g1⟩ := uB e; exact ⟨g, by rw [put_ne (by omega)]; exact g1⟩
      · cases e
      · cases e
      · cases e
      · exact ⟨A1, c1, put_same (by omega), ⟨by simp, own_cells hown⟩⟩
      · rw [put_ne (by omega)]; exact uM e
      · obtain ⟨k, g1, g2, g3⟩ := uA e; exact ⟨k, by rw [put_ne (by omega)]; exact g1, g2, block_kept g3 hg (own_neD oP g3)⟩
    | 10, _, h, hdp =>
      replace hdp : ∀ j ∈ ([0, 9] : List Nat), D j = true := fun j hj => hdp j (sub_mem p10 hj)
      have h12 : D 12 = false := by
        cases h12d : D 12 with
        | false => rfl
        | true => exact absurd (D1210 h12d) (by rw [h]; decide)
      obtain ⟨A, c, eQ, rQ⟩ := uQ (hdp 9 (by simp)) h12
      refine wpOp_enter h10 g10 (x10 _ w) (by rw [ev, ev, u3 tK (by omega) (by omega) (by omega) (by omega) (by omega) (by omega) (by omega), hk, eQ]; exact mac_any kA 16 kc key A _ c (xI ++ xY) w (rk.below u4) rQ (by omega) (by omega) (hL.below u4)) ?_
      rintro e w1 ⟨rfl, hb⟩
      rw [← hT]
      refine ⟨_, rfl, fin 10 _ _ (by intro hh; exact absurd hh (by decide)) (fun _ => hdp 9 (by simp)) (by intro hh; exact absurd hh (by decide)) ?_⟩
      rw [d10]
      refine ⟨u1, by rw [put_size]; exact u2, fun t q1 q2 q3 q4 q5 q6 q7 => by rw [put_ne q7]; exact u3 t q1 q2 q3 q4 q5 q6 q7, bt u4 hb, fun e => ?_, fun e e2 => ?_, fun e e2 => ?_, fun e e2 => ?_, fun e e2 => ?_, fun e => ?_, fun e => ?_⟩
      · obtain ⟨g, g1⟩ := uB e; exact ⟨g, by rw [put_ne (by omega)]; exact g1⟩
      · obtain ⟨A, c, g1, g2⟩ := uI e e2; exact ⟨A, c, by rw [put_ne (by omega)]; exact g1, g2.below hb⟩
      · obtain ⟨A, c, g1, g2⟩ := uP e e2; exact ⟨A, c, by rw [put_ne (by omega)]; exact g1, own_below g2 hb⟩
      · obtain ⟨A, c, g1, g2⟩ := uY e e2; exact ⟨A, c, by rw [put_ne (by omega)]; exact g1, g2.below hb⟩
      · obtain ⟨A, c, g1, g2⟩ := uQ e e2; exact ⟨A, c, by rw [put_ne (by omega)]; exact g1, g2.below hb⟩
      · exact put_same (by omega)
      · obtain ⟨k, g1, g2, g3⟩ := uA e; exact ⟨k, by rw [put_ne (by omega)]; exact g1, g2, block_below g3 hb⟩
    | 12, _, h, hdp =>
      replace hdp : ∀ j ∈ ([10, 11] : List Nat), D j = true := fun j hj => hdp j (sub_mem p12 hj)
      have h10 := hdp 10 (by simp)
      have h11 := hdp 11 (by simp)
      have h9 := D109 h10
      obtain ⟨k, eA, hkl, hA⟩ := uA h11
      rw [if_neg (by rw [h]; decide)] at hA
      have eM := uM h10
      have hr := run_storeVar_row (P := Tryd.prog) w k 34 34 Z16.toArray (bv T).toArray hA (by rw [size32]; simp [bv_length, hTl]) (by simp [bv_length, hTl, Z16]) (by simpa using bv_one T)
      have hset := setRow_heap w k Z16.toArray (bv T).toArray 34 (0, 0) hA
      have hg : w.grownBy (w.setRow k (bv T).toArray) (some k) := ⟨rfl, rfl, rfl, by simp, fun j _ hj => setRow_other w k j _ (fun e => hj (by rw [e]))⟩
      refine wpOp_step h12 (fun K' hK => ?_)
      rw [if_pos (by simp [Region.wanted, g12])]
      unfold Oper.wp execOp
      simp only [e12, ev, eA, eM, Instr.storeAt, Instr.sureAddr, Sem.run_bind, Sem.run_pure, Result.andThen_ok, hr]
      refine hK _ _ (fin 12 _ _ (fun _ => ⟨h11, h10⟩) (by intro hh; exact absurd hh (by decide)) (by intro hh; exact absurd hh (by decide)) ?_)
      rw [d12]
      refine ⟨u1, u2, u3, u4.grown hg u4.size (fun j e => by cases e; exact hkl), uB, fun e => ?_, fun e => ?_, fun e => ?_, fun _ e => ?_, uM, fun _ => ⟨k, eA, hkl, ?_⟩⟩
      · exact absurd ((h9.symm.trans e : true = false)) (by decide)
      · exact absurd ((h9.symm.trans e : true = false)) (by decide)
      · exact absurd ((h9.symm.trans e : true = false)) (by decide)
      · cases e
      · exact hset
  · obtain ⟨L0, L1, L2, L3, L4, L5, L6, L7, L8, L9, L10, L11, L12⟩ := hL1
    refine ⟨L0, L2, L3, L6, L7, fun j hj => ?_, fun e => ?_, fun e => ?_, fun e => ?_, fun e => ?_, rfl, rfl, fun _ _ _ _ _ _ _ _ => rfl, hw, fun e => ?_, fun _ e => ?_, fun _ e => ?_, fun _ e => ?_, fun e => ?_, fun e => ?_, fun e => ?_⟩
    · show L.getD j true = true
      rw [Array.getD_eq_getD_getElem?, Array.getElem?_eq_none (by omega)]; rfl
    · exact absurd (L12.symm.trans e) (by decide)
    · exact absurd (L10.symm.trans e) (by decide)
    · exact absurd (L9.symm.trans e) (by decide)
    · exact absurd (L12.symm.trans e) (by decide)
    · exact absurd (L1.symm.trans e) (by decide)
    · exact absurd (L4.symm.trans e) (by decide)
    · exact absurd (L5.symm.trans e) (by decide)
    · exact absurd (L8.symm.trans e) (by decide)
    · exact absurd (L9.symm.trans e) (by decide)
    · exact absurd (L10.symm.trans e) (by decide)
    · exact absurd (L11.symm.trans e) (by decide)
end Go.Proofs.YtaecljahbmcneaaDoor
