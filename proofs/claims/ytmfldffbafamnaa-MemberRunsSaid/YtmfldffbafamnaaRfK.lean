/- Walks: the reference's next. -/
import Derived.Test.YtmfldffbafamnaaRfJ
import Derived.Test.YtmfldffbafamnaaRfB
import Derived.Deep.DeepCutAuto
namespace Go.Proofs.Ytmfldffbafamnaa
open Go.RowKit
set_option linter.unusedVariables false
set_option linter.unusedSimpArgs false
set_option maxRecDepth 100000 in
set_option maxHeartbeats 4000000 in
theorem rnext_word_true (o : List UInt8) (m n : Nat) (p : List UInt8) (c : UInt8) (w : World) (ho : o.length ≤ 1000) (hp : p.length ≤ 1000) (hm10 : m < 10) (hn : n = 119) (hw : (wordS (p ++ [c])).2 = true) :
    Calls Try.prog 25 #[.agg #[.string (strOf o), .int .i64 m, .int .u8 n, .string (strOf p)], .int .u8 c.toNat] w fun x w' => x = .returned (rr (nextR ⟨o, m, n, p⟩ c)) ∧ Below w.heap.size w w' := by
  subst hn
  have K : Hid (nextR ⟨o, m, 119, p⟩ c = (⟨o, 5, 0, []⟩, true)) := by show _ = _; unfold nextR; rw [if_neg (by dsimp only; omega), if_pos rfl, if_pos hw]
  have kc := fun w a b => conv_at2 w a b c
  have hz := strOf_size p
  have hz1 := strOf_size [c]
  have ha := strOf_append
  have hT := strOf_toList
  have hc := UInt8.toNat_lt c
  have HW := Lib.hid (fun w => rword_any (p ++ [c]) w (by simp; omega))
  rw [hw] at HW
  have HS := Lib.hid (fun w => shut_any o m 119 (p ++ [c]) w)
  have HB := Lib.hid (fun b W => rbox_behind w ⟨o, m, 119, p⟩ b W)
  generalize (wordS (p ++ [c])).1 = y at *
  clear hw
  go_enter Try.func25, Try.ntmps25
  go_wp2_with fail
  refine (HW.out _).mono ?_
  rintro x w2 ⟨rfl, b2⟩
  obtain ⟨hA, hR, hb⟩ := HB.out _ _ rfl
  have hb2 := (hb.trans (b2.mono hb.size)).setCell (p := ⟨w.heap.size, 3, none⟩) (Nat.le_refl _) (.string (strOf (p ++ [c])))
  have hA2 : RdAt (w2.setCell ⟨w.heap.size, 3, none⟩ (.string (strOf (p ++ [c])))) w.heap.size ⟨o, m, 119, p ++ [c]⟩ := Blk.set_ (hA.below' b2) 3 (.string (strOf (p ++ [c])))
  have HR2 := Lib.hid ((hR.below' b2).far (a := ⟨w.heap.size, 3, none⟩) (by simp) (.string (strOf (p ++ [c]))))
  have HA2 := Lib.hid hA2
  obtain ⟨a0, a1, a2, a3⟩ := (hA.below' b2).facts
  obtain ⟨e0, e1, e2, e3⟩ := (hA.below' b2).frz
  clear hA hR hb b2 hA2
  dsimp only at a0 a1 a2 a3
  go_upto_region 21 with fail
  clear a0 a1 a2 a3 e0 e1 e2 e3
  generalize w2.setCell ⟨w.heap.size, 3, none⟩ (.string (strOf (p ++ [c]))) = w3 at *
  obtain ⟨a0, a1, a2, a3⟩ := HA2.out.facts
  obtain ⟨f0, f1, f2, f3⟩ := HR2.out.frz
  obtain ⟨r0, r1, r2, r3⟩ := HR2.out.facts
  dsimp only at a0 a1 a2 a3 r0 r1 r2 r3
  have e119 : ((119 : Nat) : Int) = 119 := rfl
  rw [e119] at a2
  clear r0 r1 r2 r3 f0 f1 f2 f3
  go_wp2_with fail
  refine (HS.out _).mono ?_
  rintro x w4 ⟨rfl, b4⟩
  have hb4 := hb2.trans (b4.mono hb2.size)
  obtain ⟨f0, f1, f2, f3⟩ := (HR2.out.below' b4).frz
  obtain ⟨r0, r1, r2, r3⟩ := (HR2.out.below' b4).facts
  have HR4 := Lib.hid (HR2.out.below' b4)
  clear a0 a1 a2 a3 b4
  dsimp only at r0 r1 r2 r3
  go_wp2_with fail
  obtain ⟨s0, s1, s2, s3⟩ := (RdAt.put HR4.out ⟨o, 5, 0, []⟩).facts
  dsimp only at s0 s1 s2 s3
  have e5 : ((5 : Nat) : Int) = 5 := rfl
  have e00 : ((0 : Nat) : Int) = 0 := rfl
  rw [e5, e00] at s0 s1 s2 s3
  refine bodyPost_ret (v := .tuple #[.agg #[.string (strOf o), .int .i64 5, .int .u8 0, .string (strOf [])], .bool true]) (by simp [results, Try.f25, go_sem, s0, s1, s2, s3]) rfl ⟨by rw [K.out]; rfl, ?_⟩
  exact rbelow_put hb4 (by simp) _ _ _ _
set_option maxRecDepth 100000 in
set_option maxHeartbeats 4000000 in
theorem rnext_word_false (o : List UInt8) (m n : Nat) (p : List UInt8) (c : UInt8) (w : World) (ho : o.length ≤ 1000) (hp : p.length ≤ 1000) (hm10 : m < 10) (hn : n = 119) (hw : (wordS (p ++ [c])).2 = false) :
    Calls Try.prog 25 #[.agg #[.string (strOf o), .int .i64 m, .int .u8 n, .string (strOf p)], .int .u8 c.toNat] w fun x w' => x = .returned (rr (nextR ⟨o, m, n, p⟩ c)) ∧ Below w.heap.size w w' := by
  subst hn
  have K : Hid (nextR ⟨o, m, 119, p⟩ c = (⟨o, m, 119, p ++ [c]⟩, (wordS (p ++ [c])).1)) := by show _ = _; unfold nextR; rw [if_neg (by dsimp only; omega), if_pos rfl, if_neg (by rw [hw]; decide)]
  have kc := fun w a b => conv_at2 w a b c
  have hz := strOf_size p
  have hz1 := strOf_size [c]
  have ha := strOf_append
  have hT := strOf_toList
  have hc := UInt8.toNat_lt c
  have HW := Lib.hid (fun w => rword_any (p ++ [c]) w (by simp; omega))
  rw [hw] at HW
  have HS := Lib.hid (fun w => shut_any o m 119 (p ++ [c]) w)
  have HB := Lib.hid (fun b W => rbox_behind w ⟨o, m, 119, p⟩ b W)
  generalize (wordS (p ++ [c])).1 = y at *
  clear hw
  go_enter Try.func25, Try.ntmps25
  go_wp2_with fail
  refine (HW.out _).mono ?_
  rintro x w2 ⟨rfl, b2⟩
  obtain ⟨hA, hR, hb⟩ := HB.out _ _ rfl
  have hb2 := (hb.trans (b2.mono hb.size)).setCell (p := ⟨w.heap.size, 3, none⟩) (Nat.le_refl _) (.string (strOf (p ++ [c])))
  have hA2 : RdAt (w2.setCell ⟨w.heap.size, 3, none⟩ (.string (strOf (p ++ [c])))) w.heap.size ⟨o, m, 119, p ++ [c]⟩ := Blk.set_ (hA.below' b2) 3 (.string (strOf (p ++ [c])))
  have HR2 := Lib.hid ((hR.below' b2).far (a := ⟨w.heap.size, 3, none⟩) (by simp) (.string (strOf (p ++ [c]))))
  have HA2 := Lib.hid hA2
  obtain ⟨a0, a1, a2, a3⟩ := (hA.below' b2).facts
  obtain ⟨e0, e1, e2, e3⟩ := (hA.below' b2).frz
  clear hA hR hb b2 hA2
  dsimp only at a0 a1 a2 a3
  go_upto_region 21 with fail
  clear a0 a1 a2 a3 e0 e1 e2 e3
  generalize w2.setCell ⟨w.heap.size, 3, none⟩ (.string (strOf (p ++ [c]))) = w3 at *
  obtain ⟨a0, a1, a2, a3⟩ := HA2.out.facts
  obtain ⟨f0, f1, f2, f3⟩ := HR2.out.frz
  obtain ⟨r0, r1, r2, r3⟩ := HR2.out.facts
  dsimp only at a0 a1 a2 a3 r0 r1 r2 r3
  have e119 : ((119 : Nat) : Int) = 119 := rfl
  rw [e119] at a2
  go_wp2_with fail
  obtain ⟨s0, s1, s2, s3⟩ := (RdAt.put HR2.out ⟨o, m, 119, p ++ [c]⟩).facts
  dsimp only at s0 s1 s2 s3
  rw [e119] at s0 s1 s2 s3
  refine bodyPost_ret (v := .tuple #[.agg #[.string (strOf o), .int .i64 m, .int .u8 119, .string (strOf (p ++ [c]))], .bool y]) (by simp [results, Try.f25, go_sem, s0, s1, s2, s3]) rfl ⟨by rw [K.out]; rfl, ?_⟩
  exact rbelow_put hb2 (by simp) _ _ _ _
set_option maxRecDepth 100000 in
set_option maxHeartbeats 4000000 in
theorem rnext_num_yes (o : List UInt8) (m n : Nat) (p : List UInt8) (c : UInt8) (w : World) (ho : o.length ≤ 1000) (hp : p.length ≤ 1000) (hm10 : m < 10) (hn : n = 110) (hy : (numR (p ++ [c])).1 = true) :
    Calls Try.prog 25 #[.agg #[.string (strOf o), .int .i64 m, .int .u8 n, .string (strOf p)], .int .u8 c.toNat] w fun x w' => x = .returned (rr (nextR ⟨o, m, n, p⟩ c)) ∧ Below w.heap.size w w' := by
  subst hn
  have K : Hid (nextR ⟨o, m, 110, p⟩ c = (⟨o, m, 110, p ++ [c]⟩, true)) := by show _ = _; unfold nextR; rw [if_neg (by dsimp only; omega), if_neg (by dsimp only; omega), if_pos rfl, if_pos hy]
  have kc := fun w a b => conv_at2 w a b c
  have hz := strOf_size p
  have hz1 := strOf_size [c]
  have ha := strOf_append
  have hT := strOf_toList
  have hc := UInt8.toNat_lt c
  have HN := Lib.hid (fun w => num_any (p ++ [c]) w (by simp; omega))
  rw [hy] at HN
  generalize (numR (p ++ [c])).2 = y at *
  clear hy
  go_enter Try.func25, Try.ntmps25
  go_wp2_with fail
  refine (HN.out _).mono ?_
  rintro x w2 ⟨rfl, rfl⟩
  go_wp2_with fail
  refine bodyPost_ret (v := .tuple #[.agg #[.string (strOf o), .int .i64 m, .int .u8 110, .string (strOf (p ++ [c]))], .bool true]) (by simp [results, Try.f25, go_sem]; try rfl) rfl ⟨by rw [K.out]; rfl, ?_⟩
  go_grown
set_option maxRecDepth 100000 in
set_option maxHeartbeats 4000000 in
theorem rnext_num_no (o : List UInt8) (m n : Nat) (p : List UInt8) (c : UInt8) (w : World) (ho : o.length ≤ 1000) (hp : p.length ≤ 1000) (hm10 : m < 10) (hn : n = 110) (hy : (numR (p ++ [c])).1 = false) (hv : (numR p).2 = false) :
    Calls Try.prog 25 #[.agg #[.string (strOf o), .int .i64 m, .int .u8 n, .string (strOf p)], .int .u8 c.toNat] w fun x w' => x = .returned (rr (nextR ⟨o, m, n, p⟩ c)) ∧ Below w.heap.size w w' := by
  subst hn
  have K : Hid (nextR ⟨o, m, 110, p⟩ c = (⟨o, m, 110, p⟩, false)) := by show _ = _; unfold nextR; rw [if_neg (by dsimp only; omega), if_neg (by dsimp only; omega), if_pos rfl, if_neg (by rw [hy]; decide), if_neg (by rw [hv]; decide)]
  have kc := fun w a b => conv_at2 w a b c
  have hz := strOf_size p
  have hz1 := strOf_size [c]
  have ha := strOf_append
  have hT := strOf_toList
  have hc := UInt8.toNat_lt c
  have HN := Lib.hid (fun w => num_any (p ++ [c]) w (by simp; omega))
  have HM := Lib.hid (fun w => num_any p w (by omega))
  rw [hy] at HN
  rw [hv] at HM
  generalize (numR (p ++ [c])).2 = y at *
  generalize (numR p).1 = y1 at *
  clear hy hv
  go_enter Try.func25, Try.ntmps25
  go_wp2_with fail
  refine (HN.out _).mono ?_
  rintro x w2 ⟨rfl, rfl⟩
  go_wp2_with fail
  refine (HM.out _).mono ?_
  rintro x w2 ⟨rfl, rfl⟩
  go_wp2_with fail
  refine bodyPost_ret (v := .tuple #[.agg #[.string (strOf o), .int .i64 m, .int .u8 110, .string (strOf p)], .bool false]) (by simp [results, Try.f25, go_sem]; try rfl) rfl ⟨by rw [K.out]; rfl, ?_⟩
  go_grown
set_option maxRecDepth 100000 in
set_option maxHeartbeats 4000000 in
theorem rnext_num_out (o : List UInt8) (m n : Nat) (p : List UInt8) (c : UInt8) (w : World) (ho : o.length ≤ 1000) (hp : p.length ≤ 1000) (hm10 : m < 10) (hn : n = 110) (hy : (numR (p ++ [c])).1 = false) (hv : (numR p).2 = true) (HOUT : ∀ w, Calls Try.prog 45 #[.agg #[.string (strOf o), .int .i64 5, .int .u8 0, .string (strOf [])], .int .u8 c.toNat] w fun x w' => x = .returned (rr (outR ⟨o, 5, 0, []⟩ c)) ∧ Below w.heap.size w w') :
    Calls Try.prog 25 #[.agg #[.string (strOf o), .int .i64 m, .int .u8 n, .string (strOf p)], .int .u8 c.toNat] w fun x w' => x = .returned (rr (nextR ⟨o, m, n, p⟩ c)) ∧ Below w.heap.size w w' := by
  subst hn
  have K : Hid (nextR ⟨o, m, 110, p⟩ c = outR ⟨o, 5, 0, []⟩ c) := by show _ = _; unfold nextR; rw [if_neg (by dsimp only; omega), if_neg (by dsimp only; omega), if_pos rfl, if_neg (by rw [hy]; decide), if_pos hv]
  have kc := fun w a b => conv_at2 w a b c
  have hz := strOf_size p
  have hz1 := strOf_size [c]
  have ha := strOf_append
  have hT := strOf_toList
  have hc := UInt8.toNat_lt c
  have HN := Lib.hid (fun w => num_any (p ++ [c]) w (by simp; omega))
  have HM := Lib.hid (fun w => num_any p w (by omega))
  rw [hy] at HN
  rw [hv] at HM
  generalize (numR (p ++ [c])).2 = y9 at *
  generalize (numR p).1 = y1 at *
  have HC := Lib.hid HOUT
  have HS := Lib.hid (fun w => shut_any o m 110 p w)
  have HB := Lib.hid (fun b W => rbox_behind w ⟨o, m, 110, p⟩ b W)
  generalize outR ⟨o, 5, 0, []⟩ c = r at *
  obtain ⟨⟨x1, x2, x3, x4⟩, y⟩ := r
  unfold rr RD.v at HC
  dsimp only at HC
  clear hy hv HOUT
  go_enter Try.func25, Try.ntmps25
  go_wp2_with fail
  refine (HN.out _).mono ?_
  rintro x w2 ⟨rfl, rfl⟩
  go_wp2_with fail
  refine (HM.out _).mono ?_
  rintro x w2 ⟨rfl, rfl⟩
  go_wp2_with fail
  refine (HS.out _).mono ?_
  rintro x w1 ⟨rfl, b1⟩
  go_wp2_with fail
  refine (HC.out _).mono ?_
  rintro x w2 ⟨rfl, b2'⟩
  obtain ⟨hA, hR, hb⟩ := HB.out _ _ rfl
  have b2 := b1.trans (b2'.mono b1.size)
  have hb2 := hb.trans (b2.mono hb.size)
  have HR2 := Lib.hid (hR.below' b2)
  obtain ⟨f0, f1, f2, f3⟩ := (hR.below' b2).frz
  obtain ⟨r0, r1, r2, r3⟩ := (hR.below' b2).facts
  clear hA hR hb b2
  dsimp only at r0 r1 r2 r3
  go_wp2_with fail
  obtain ⟨s0, s1, s2, s3⟩ := (RdAt.put HR2.out ⟨x1, x2, x3, x4⟩).facts
  dsimp only at s0 s1 s2 s3
  refine bodyPost_ret (v := .tuple #[.agg #[.string (strOf x1), .int .i64 x2, .int .u8 x3, .string (strOf x4)], .bool y]) (by simp [results, Try.f25, go_sem, s0, s1, s2, s3]) rfl ⟨by rw [K.out]; rfl, ?_⟩
  exact rbelow_put hb2 (by simp) _ _ _ _
set_option maxRecDepth 100000 in
set_option maxHeartbeats 4000000 in
theorem rnext_else (o : List UInt8) (m n : Nat) (p : List UInt8) (c : UInt8) (w : World) (ho : o.length ≤ 1000) (hp : p.length ≤ 1000) (hm10 : m < 10) (hn : ¬ (n = 115 ∨ n = 107) ∧ n ≠ 119 ∧ n ≠ 110) (hn256 : n < 256) (HOUT : ∀ w, Calls Try.prog 45 #[.agg #[.string (strOf o), .int .i64 m, .int .u8 n, .string (strOf p)], .int .u8 c.toNat] w fun x w' => x = .returned (rr (outR ⟨o, m, n, p⟩ c)) ∧ Below w.heap.size w w') :
    Calls Try.prog 25 #[.agg #[.string (strOf o), .int .i64 m, .int .u8 n, .string (strOf p)], .int .u8 c.toNat] w fun x w' => x = .returned (rr (nextR ⟨o, m, n, p⟩ c)) ∧ Below w.heap.size w w' := by
  have K : Hid (nextR ⟨o, m, n, p⟩ c = outR ⟨o, m, n, p⟩ c) := by show _ = _; unfold nextR; rw [if_neg hn.1, if_neg hn.2.1, if_neg hn.2.2]
  have kc := fun w a b => conv_at2 w a b c
  have hz := strOf_size p
  have hz1 := strOf_size [c]
  have ha := strOf_append
  have hT := strOf_toList
  have hc := UInt8.toNat_lt c
  have q115 : ((n : Int) == 115) = false := by simp only [beq_eq_false_iff_ne]; omega
  have q107 : ((n : Int) == 107) = false := by simp only [beq_eq_false_iff_ne]; omega
  have q119 : ((n : Int) == 119) = false := by simp only [beq_eq_false_iff_ne]; omega
  have q110 : ((n : Int) == 110) = false := by simp only [beq_eq_false_iff_ne]; omega
  have HC := Lib.hid HOUT
  have HB := Lib.hid (fun b W => rbox_behind w ⟨o, m, n, p⟩ b W)
  generalize outR ⟨o, m, n, p⟩ c = r at *
  obtain ⟨⟨x1, x2, x3, x4⟩, y⟩ := r
  unfold rr RD.v at HC
  dsimp only at HC
  clear hn HOUT
  go_enter Try.func25, Try.ntmps25
  go_wp2_with fail
  refine (HC.out _).mono ?_
  rintro x w2 ⟨rfl, b2⟩
  obtain ⟨hA, hR, hb⟩ := HB.out _ _ rfl
  have hb2 := hb.trans (b2.mono hb.size)
  have HR2 := Lib.hid (hR.below' b2)
  obtain ⟨f0, f1, f2, f3⟩ := (hR.below' b2).frz
  obtain ⟨r0, r1, r2, r3⟩ := (hR.below' b2).facts
  clear hA hR hb b2
  dsimp only at r0 r1 r2 r3
  go_wp2_with fail
  obtain ⟨s0, s1, s2, s3⟩ := (RdAt.put HR2.out ⟨x1, x2, x3, x4⟩).facts
  dsimp only at s0 s1 s2 s3
  refine bodyPost_ret (v := .tuple #[.agg #[.string (strOf x1), .int .i64 x2, .int .u8 x3, .string (strOf x4)], .bool y]) (by simp [results, Try.f25, go_sem, s0, s1, s2, s3]) rfl ⟨by rw [K.out]; rfl, ?_⟩
  exact rbelow_put hb2 (by simp) _ _ _ _
end Go.Proofs.Ytmfldffbafamnaa
