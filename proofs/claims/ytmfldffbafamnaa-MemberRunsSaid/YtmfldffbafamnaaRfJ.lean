/- Walks: the reference's next. -/
import Derived.Test.YtmfldffbafamnaaRfD
import Derived.Test.YtmfldffbafamnaaRfE
import Derived.Test.YtmfldffbafamnaaCjK
import Derived.Deep.DeepCutAuto
namespace Go.Proofs.Ytmfldffbafamnaa
open Go.RowKit
set_option linter.unusedVariables false
set_option linter.unusedSimpArgs false
def nextR (r : RD) (c : UInt8) : RD × Bool :=
  if r.n = 115 ∨ r.n = 107 then
    (if r.p ≠ [] ∨ c.toNat = 92 then (⟨r.o, r.m, r.n, if (escR (r.p ++ [c])).2 = true then [] else r.p ++ [c]⟩, (escR (r.p ++ [c])).1)
    else if c.toNat = 34 then (⟨r.o, if r.n = 107 then 4 else 5, 0, []⟩, true)
    else (r, decide (32 ≤ (c.toNat : Int))))
  else if r.n = 119 then (if (wordS (r.p ++ [c])).2 = true then (⟨r.o, 5, 0, []⟩, true) else (⟨r.o, r.m, 119, r.p ++ [c]⟩, (wordS (r.p ++ [c])).1))
  else if r.n = 110 then (if (numR (r.p ++ [c])).1 = true then (⟨r.o, r.m, 110, r.p ++ [c]⟩, true) else if (numR r.p).2 = true then outR ⟨r.o, 5, 0, []⟩ c else (⟨r.o, r.m, 110, r.p⟩, false))
  else outR r c
set_option maxRecDepth 100000 in
set_option maxHeartbeats 4000000 in
theorem rnext_esc_true115 (o : List UInt8) (m n : Nat) (p : List UInt8) (c : UInt8) (w : World) (ho : o.length ≤ 1000) (hp : p.length ≤ 1000) (hm10 : m < 10) (hn : n = 115) (hh : p ≠ [] ∨ c.toNat = 92) (hw : (escR (p ++ [c])).2 = true) :
    Calls Try.prog 25 #[.agg #[.string (strOf o), .int .i64 m, .int .u8 n, .string (strOf p)], .int .u8 c.toNat] w fun x w' => x = .returned (rr (nextR ⟨o, m, n, p⟩ c)) ∧ Below w.heap.size w w' := by
  have K : Hid (nextR ⟨o, m, n, p⟩ c = (⟨o, m, n, []⟩, (escR (p ++ [c])).1)) := by show _ = _; unfold nextR; rw [if_pos (by dsimp only; omega), if_pos hh, if_pos hw]
  have kc := fun w a b => conv_at2 w a b c
  have hz := strOf_size p
  have hz1 := strOf_size [c]
  have ha := strOf_append
  have hT := strOf_toList
  have hc := UInt8.toNat_lt c
  have HE := Lib.hid (fun w => esc_any (p ++ [c]) w (by simp; omega) (by simp))
  rw [hw] at HE
  have hcase : ((!(p.isEmpty)) = true) ∨ (p.isEmpty = true ∧ ((c.toNat : Int) == 92) = true) := by
    cases p with
    | nil => right; refine ⟨rfl, ?_⟩; rcases hh with h | h
             · exact absurd rfl h
             · rw [h]; rfl
    | cons a t => left; rfl
  generalize (escR (p ++ [c])).1 = y at *
  clear hh hw
  subst hn
  rcases hcase with h1 | ⟨h1, h2⟩
  all_goals
    go_enter Try.func25, Try.ntmps25
    go_wp2_with fail
    refine (HE.out _).mono ?_
    rintro x w2 ⟨rfl, rfl⟩
    go_wp2_with fail
    refine bodyPost_ret (v := .tuple #[.agg #[.string (strOf o), .int .i64 m, .int .u8 115, .string (strOf [])], .bool y]) (by simp [results, Try.f25, go_sem]; try rfl) rfl ⟨by rw [K.out]; rfl, ?_⟩
    go_grown
set_option maxRecDepth 100000 in
set_option maxHeartbeats 4000000 in
theorem rnext_esc_true107 (o : List UInt8) (m n : Nat) (p : List UInt8) (c : UInt8) (w : World) (ho : o.length ≤ 1000) (hp : p.length ≤ 1000) (hm10 : m < 10) (hn : n = 107) (hh : p ≠ [] ∨ c.toNat = 92) (hw : (escR (p ++ [c])).2 = true) :
    Calls Try.prog 25 #[.agg #[.string (strOf o), .int .i64 m, .int .u8 n, .string (strOf p)], .int .u8 c.toNat] w fun x w' => x = .returned (rr (nextR ⟨o, m, n, p⟩ c)) ∧ Below w.heap.size w w' := by
  have K : Hid (nextR ⟨o, m, n, p⟩ c = (⟨o, m, n, []⟩, (escR (p ++ [c])).1)) := by show _ = _; unfold nextR; rw [if_pos (by dsimp only; omega), if_pos hh, if_pos hw]
  have kc := fun w a b => conv_at2 w a b c
  have hz := strOf_size p
  have hz1 := strOf_size [c]
  have ha := strOf_append
  have hT := strOf_toList
  have hc := UInt8.toNat_lt c
  have HE := Lib.hid (fun w => esc_any (p ++ [c]) w (by simp; omega) (by simp))
  rw [hw] at HE
  have hcase : ((!(p.isEmpty)) = true) ∨ (p.isEmpty = true ∧ ((c.toNat : Int) == 92) = true) := by
    cases p with
    | nil => right; refine ⟨rfl, ?_⟩; rcases hh with h | h
             · exact absurd rfl h
             · rw [h]; rfl
    | cons a t => left; rfl
  generalize (escR (p ++ [c])).1 = y at *
  clear hh hw
  subst hn
  rcases hcase with h1 | ⟨h1, h2⟩
  all_goals
    go_enter Try.func25, Try.ntmps25
    go_wp2_with fail
    refine (HE.out _).mono ?_
    rintro x w2 ⟨rfl, rfl⟩
    go_wp2_with fail
    refine bodyPost_ret (v := .tuple #[.agg #[.string (strOf o), .int .i64 m, .int .u8 107, .string (strOf [])], .bool y]) (by simp [results, Try.f25, go_sem]; try rfl) rfl ⟨by rw [K.out]; rfl, ?_⟩
    go_grown
set_option maxRecDepth 100000 in
set_option maxHeartbeats 4000000 in
theorem rnext_esc_false115 (o : List UInt8) (m n : Nat) (p : List UInt8) (c : UInt8) (w : World) (ho : o.length ≤ 1000) (hp : p.length ≤ 1000) (hm10 : m < 10) (hn : n = 115) (hh : p ≠ [] ∨ c.toNat = 92) (hw : (escR (p ++ [c])).2 = false) :
    Calls Try.prog 25 #[.agg #[.string (strOf o), .int .i64 m, .int .u8 n, .string (strOf p)], .int .u8 c.toNat] w fun x w' => x = .returned (rr (nextR ⟨o, m, n, p⟩ c)) ∧ Below w.heap.size w w' := by
  have K : Hid (nextR ⟨o, m, n, p⟩ c = (⟨o, m, n, (p ++ [c])⟩, (escR (p ++ [c])).1)) := by show _ = _; unfold nextR; rw [if_pos (by dsimp only; omega), if_pos hh, if_neg (by rw [hw]; decide)]
  have kc := fun w a b => conv_at2 w a b c
  have hz := strOf_size p
  have hz1 := strOf_size [c]
  have ha := strOf_append
  have hT := strOf_toList
  have hc := UInt8.toNat_lt c
  have HE := Lib.hid (fun w => esc_any (p ++ [c]) w (by simp; omega) (by simp))
  rw [hw] at HE
  have hcase : ((!(p.isEmpty)) = true) ∨ (p.isEmpty = true ∧ ((c.toNat : Int) == 92) = true) := by
    cases p with
    | nil => right; refine ⟨rfl, ?_⟩; rcases hh with h | h
             · exact absurd rfl h
             · rw [h]; rfl
    | cons a t => left; rfl
  generalize (escR (p ++ [c])).1 = y at *
  clear hh hw
  subst hn
  rcases hcase with h1 | ⟨h1, h2⟩
  all_goals
    go_enter Try.func25, Try.ntmps25
    go_wp2_with fail
    refine (HE.out _).mono ?_
    rintro x w2 ⟨rfl, rfl⟩
    go_wp2_with fail
    refine bodyPost_ret (v := .tuple #[.agg #[.string (strOf o), .int .i64 m, .int .u8 115, .string (strOf (p ++ [c]))], .bool y]) (by simp [results, Try.f25, go_sem]; try rfl) rfl ⟨by rw [K.out]; rfl, ?_⟩
    go_grown
set_option maxRecDepth 100000 in
set_option maxHeartbeats 4000000 in
theorem rnext_esc_false107 (o : List UInt8) (m n : Nat) (p : List UInt8) (c : UInt8) (w : World) (ho : o.length ≤ 1000) (hp : p.length ≤ 1000) (hm10 : m < 10) (hn : n = 107) (hh : p ≠ [] ∨ c.toNat = 92) (hw : (escR (p ++ [c])).2 = false) :
    Calls Try.prog 25 #[.agg #[.string (strOf o), .int .i64 m, .int .u8 n, .string (strOf p)], .int .u8 c.toNat] w fun x w' => x = .returned (rr (nextR ⟨o, m, n, p⟩ c)) ∧ Below w.heap.size w w' := by
  have K : Hid (nextR ⟨o, m, n, p⟩ c = (⟨o, m, n, (p ++ [c])⟩, (escR (p ++ [c])).1)) := by show _ = _; unfold nextR; rw [if_pos (by dsimp only; omega), if_pos hh, if_neg (by rw [hw]; decide)]
  have kc := fun w a b => conv_at2 w a b c
  have hz := strOf_size p
  have hz1 := strOf_size [c]
  have ha := strOf_append
  have hT := strOf_toList
  have hc := UInt8.toNat_lt c
  have HE := Lib.hid (fun w => esc_any (p ++ [c]) w (by simp; omega) (by simp))
  rw [hw] at HE
  have hcase : ((!(p.isEmpty)) = true) ∨ (p.isEmpty = true ∧ ((c.toNat : Int) == 92) = true) := by
    cases p with
    | nil => right; refine ⟨rfl, ?_⟩; rcases hh with h | h
             · exact absurd rfl h
             · rw [h]; rfl
    | cons a t => left; rfl
  generalize (escR (p ++ [c])).1 = y at *
  clear hh hw
  subst hn
  rcases hcase with h1 | ⟨h1, h2⟩
  all_goals
    go_enter Try.func25, Try.ntmps25
    go_wp2_with fail
    refine (HE.out _).mono ?_
    rintro x w2 ⟨rfl, rfl⟩
    go_wp2_with fail
    refine bodyPost_ret (v := .tuple #[.agg #[.string (strOf o), .int .i64 m, .int .u8 107, .string (strOf (p ++ [c]))], .bool y]) (by simp [results, Try.f25, go_sem]; try rfl) rfl ⟨by rw [K.out]; rfl, ?_⟩
    go_grown
set_option maxRecDepth 100000 in
set_option maxHeartbeats 4000000 in
theorem rnext_plain115 (o : List UInt8) (m n : Nat) (p : List UInt8) (c : UInt8) (w : World) (ho : o.length ≤ 1000) (hp : p.length ≤ 1000) (hm10 : m < 10) (hn : n = 115) (hh : p = []) (h92 : c.toNat ≠ 92) (h34 : c.toNat ≠ 34) :
    Calls Try.prog 25 #[.agg #[.string (strOf o), .int .i64 m, .int .u8 n, .string (strOf p)], .int .u8 c.toNat] w fun x w' => x = .returned (rr (nextR ⟨o, m, n, p⟩ c)) ∧ Below w.heap.size w w' := by
  subst hh
  have K : Hid (nextR ⟨o, m, n, []⟩ c = (⟨o, m, n, []⟩, decide (32 ≤ (c.toNat : Int)))) := by show _ = _; unfold nextR; rw [if_pos (by dsimp only; omega), if_neg (by simp; omega), if_neg h34]
  have kc := fun w a b => conv_at2 w a b c
  have hz := strOf_size []
  have hz1 := strOf_size [c]
  have ha := strOf_append
  have hT := strOf_toList
  have hc := UInt8.toNat_lt c
  have q92 : ((c.toNat : Int) == 92) = false := by simp only [beq_eq_false_iff_ne]; omega
  have q34 : ((c.toNat : Int) == 34) = false := by simp only [beq_eq_false_iff_ne]; omega
  clear h92 h34
  subst hn
  go_enter Try.func25, Try.ntmps25
  go_wp2_with fail
  refine bodyPost_ret (v := .tuple #[.agg #[.string (strOf o), .int .i64 m, .int .u8 115, .string (strOf [])], .bool (decide (32 ≤ (c.toNat : Int)))]) (by simp [results, Try.f25, go_sem]; try rfl) rfl ⟨by rw [K.out]; rfl, ?_⟩
  go_grown
set_option maxRecDepth 100000 in
set_option maxHeartbeats 4000000 in
theorem rnext_plain107 (o : List UInt8) (m n : Nat) (p : List UInt8) (c : UInt8) (w : World) (ho : o.length ≤ 1000) (hp : p.length ≤ 1000) (hm10 : m < 10) (hn : n = 107) (hh : p = []) (h92 : c.toNat ≠ 92) (h34 : c.toNat ≠ 34) :
    Calls Try.prog 25 #[.agg #[.string (strOf o), .int .i64 m, .int .u8 n, .string (strOf p)], .int .u8 c.toNat] w fun x w' => x = .returned (rr (nextR ⟨o, m, n, p⟩ c)) ∧ Below w.heap.size w w' := by
  subst hh
  have K : Hid (nextR ⟨o, m, n, []⟩ c = (⟨o, m, n, []⟩, decide (32 ≤ (c.toNat : Int)))) := by show _ = _; unfold nextR; rw [if_pos (by dsimp only; omega), if_neg (by simp; omega), if_neg h34]
  have kc := fun w a b => conv_at2 w a b c
  have hz := strOf_size []
  have hz1 := strOf_size [c]
  have ha := strOf_append
  have hT := strOf_toList
  have hc := UInt8.toNat_lt c
  have q92 : ((c.toNat : Int) == 92) = false := by simp only [beq_eq_false_iff_ne]; omega
  have q34 : ((c.toNat : Int) == 34) = false := by simp only [beq_eq_false_iff_ne]; omega
  clear h92 h34
  subst hn
  go_enter Try.func25, Try.ntmps25
  go_wp2_with fail
  refine bodyPost_ret (v := .tuple #[.agg #[.string (strOf o), .int .i64 m, .int .u8 107, .string (strOf [])], .bool (decide (32 ≤ (c.toNat : Int)))]) (by simp [results, Try.f25, go_sem]; try rfl) rfl ⟨by rw [K.out]; rfl, ?_⟩
  go_grown
set_option maxRecDepth 100000 in
set_option maxHeartbeats 4000000 in
theorem rnext_quote115 (o : List UInt8) (m n : Nat) (p : List UInt8) (c : UInt8) (w : World) (ho : o.length ≤ 1000) (hp : p.length ≤ 1000) (hm10 : m < 10) (hn : n = 115) (hh : p = []) (h34 : c.toNat = 34) :
    Calls Try.prog 25 #[.agg #[.string (strOf o), .int .i64 m, .int .u8 n, .string (strOf p)], .int .u8 c.toNat] w fun x w' => x = .returned (rr (nextR ⟨o, m, n, p⟩ c)) ∧ Below w.heap.size w w' := by
  subst hh
  subst hn
  have K : Hid (nextR ⟨o, m, 115, []⟩ c = (⟨o, 5, 0, []⟩, true)) := by show _ = _; unfold nextR; rw [if_pos (by dsimp only; omega), if_neg (by simp; omega), if_pos h34]; rfl
  have kc := fun w a b => conv_at2 w a b c
  have hz := strOf_size []
  have hz1 := strOf_size [c]
  have ha := strOf_append
  have hT := strOf_toList
  have hc := UInt8.toNat_lt c
  have q92 : ((c.toNat : Int) == 92) = false := by simp only [beq_eq_false_iff_ne]; omega
  have q34 : ((c.toNat : Int) == 34) = true := by simp only [beq_iff_eq]; omega
  have HS := Lib.hid (fun w => shut_any o m 115 [] w)
  have HB := Lib.hid (fun b W => rbox_behind w ⟨o, m, 115, []⟩ b W)
  clear h34
  go_enter Try.func25, Try.ntmps25
  go_wp2_with fail
  refine (HS.out _).mono ?_
  rintro x w2 ⟨rfl, b2⟩
  obtain ⟨hA, hR, hb⟩ := HB.out _ _ rfl
  have hb2 := hb.trans (b2.mono hb.size)
  have HA2 := Lib.hid (hA.below' b2)
  have HR2 := Lib.hid (hR.below' b2)
  obtain ⟨a0, a1, a2, a3⟩ := (hA.below' b2).facts
  obtain ⟨e0, e1, e2, e3⟩ := (hA.below' b2).frz
  clear hA hR hb b2
  dsimp only at a0 a1 a2 a3
  go_upto_region 14 with fail
  have hA3 : RdAt ((((w2.setCell ⟨w.heap.size, 0, none⟩ (.string (strOf o))).setCell ⟨w.heap.size, 1, none⟩ (.int .i64 5)).setCell ⟨w.heap.size, 2, none⟩ (.int .u8 0)).setCell ⟨w.heap.size, 3, none⟩ (.string (strOf []))) w.heap.size ⟨o, 5, 0, []⟩ := HA2.out.put ⟨o, 5, 0, []⟩
  have hR3 := (((HR2.out.far (a := ⟨w.heap.size, 0, none⟩) (by simp) (.string (strOf o))).far (a := ⟨w.heap.size, 1, none⟩) (by simp) (.int .i64 5)).far (a := ⟨w.heap.size, 2, none⟩) (by simp) (.int .u8 0)).far (a := ⟨w.heap.size, 3, none⟩) (by simp) (.string (strOf []))
  have hb3 := rbelow_put hb2 (g := w.heap.size) (Nat.le_refl _) (.string (strOf o)) (.int .i64 5) (.int .u8 0) (.string (strOf []))
  clear a0 a1 a2 a3 e0 e1 e2 e3 HA2 HR2
  generalize (((w2.setCell ⟨w.heap.size, 0, none⟩ (.string (strOf o))).setCell ⟨w.heap.size, 1, none⟩ (.int .i64 5)).setCell ⟨w.heap.size, 2, none⟩ (.int .u8 0)).setCell ⟨w.heap.size, 3, none⟩ (.string (strOf [])) = w3 at *
  obtain ⟨a0, a1, a2, a3⟩ := hA3.facts
  obtain ⟨e0, e1, e2, e3⟩ := hA3.frz
  obtain ⟨f0, f1, f2, f3⟩ := hR3.frz
  obtain ⟨r0, r1, r2, r3⟩ := hR3.facts
  have HR3 := Lib.hid hR3
  have HA3 := Lib.hid hA3
  clear hA3 hR3
  dsimp only at a0 a1 a2 a3 r0 r1 r2 r3
  have e5 : ((5 : Nat) : Int) = 5 := rfl
  have e00 : ((0 : Nat) : Int) = 0 := rfl
  rw [e5] at a1
  rw [e00] at a2
  clear e5 e00
  go_wp2_with fail
  obtain ⟨s0, s1, s2, s3⟩ := (RdAt.put HR3.out ⟨o, 5, 0, []⟩).facts
  dsimp only at s0 s1 s2 s3
  have e5 : ((5 : Nat) : Int) = 5 := rfl
  have e00 : ((0 : Nat) : Int) = 0 := rfl
  rw [e5, e00] at s0 s1 s2 s3
  refine bodyPost_ret (v := .tuple #[.agg #[.string (strOf o), .int .i64 5, .int .u8 0, .string (strOf [])], .bool true]) (by simp [results, Try.f25, go_sem, s0, s1, s2, s3]) rfl ⟨by rw [K.out]; rfl, ?_⟩
  exact rbelow_put hb3 (by simp) _ _ _ _
set_option maxRecDepth 100000 in
set_option maxHeartbeats 4000000 in
theorem rnext_quote107 (o : List UInt8) (m n : Nat) (p : List UInt8) (c : UInt8) (w : World) (ho : o.length ≤ 1000) (hp : p.length ≤ 1000) (hm10 : m < 10) (hn : n = 107) (hh : p = []) (h34 : c.toNat = 34) :
    Calls Try.prog 25 #[.agg #[.string (strOf o), .int .i64 m, .int .u8 n, .string (strOf p)], .int .u8 c.toNat] w fun x w' => x = .returned (rr (nextR ⟨o, m, n, p⟩ c)) ∧ Below w.heap.size w w' := by
  subst hh
  subst hn
  have K : Hid (nextR ⟨o, m, 107, []⟩ c = (⟨o, 4, 0, []⟩, true)) := by show _ = _; unfold nextR; rw [if_pos (by dsimp only; omega), if_neg (by simp; omega), if_pos h34]; rfl
  have kc := fun w a b => conv_at2 w a b c
  have hz := strOf_size []
  have hz1 := strOf_size [c]
  have ha := strOf_append
  have hT := strOf_toList
  have hc := UInt8.toNat_lt c
  have q92 : ((c.toNat : Int) == 92) = false := by simp only [beq_eq_false_iff_ne]; omega
  have q34 : ((c.toNat : Int) == 34) = true := by simp only [beq_iff_eq]; omega
  have HS := Lib.hid (fun w => shut_any o m 107 [] w)
  have HB := Lib.hid (fun b W => rbox_behind w ⟨o, m, 107, []⟩ b W)
  clear h34
  go_enter Try.func25, Try.ntmps25
  go_wp2_with fail
  refine (HS.out _).mono ?_
  rintro x w2 ⟨rfl, b2⟩
  obtain ⟨hA, hR, hb⟩ := HB.out _ _ rfl
  have hb2 := hb.trans (b2.mono hb.size)
  have HA2 := Lib.hid (hA.below' b2)
  have HR2 := Lib.hid (hR.below' b2)
  obtain ⟨a0, a1, a2, a3⟩ := (hA.below' b2).facts
  obtain ⟨e0, e1, e2, e3⟩ := (hA.below' b2).frz
  clear hA hR hb b2
  dsimp only at a0 a1 a2 a3
  go_upto_region 14 with fail
  have hA3 : RdAt ((((w2.setCell ⟨w.heap.size, 0, none⟩ (.string (strOf o))).setCell ⟨w.heap.size, 1, none⟩ (.int .i64 5)).setCell ⟨w.heap.size, 2, none⟩ (.int .u8 0)).setCell ⟨w.heap.size, 3, none⟩ (.string (strOf []))) w.heap.size ⟨o, 5, 0, []⟩ := HA2.out.put ⟨o, 5, 0, []⟩
  have hR3 := (((HR2.out.far (a := ⟨w.heap.size, 0, none⟩) (by simp) (.string (strOf o))).far (a := ⟨w.heap.size, 1, none⟩) (by simp) (.int .i64 5)).far (a := ⟨w.heap.size, 2, none⟩) (by simp) (.int .u8 0)).far (a := ⟨w.heap.size, 3, none⟩) (by simp) (.string (strOf []))
  have hb3 := rbelow_put hb2 (g := w.heap.size) (Nat.le_refl _) (.string (strOf o)) (.int .i64 5) (.int .u8 0) (.string (strOf []))
  clear a0 a1 a2 a3 e0 e1 e2 e3 HA2 HR2
  generalize (((w2.setCell ⟨w.heap.size, 0, none⟩ (.string (strOf o))).setCell ⟨w.heap.size, 1, none⟩ (.int .i64 5)).setCell ⟨w.heap.size, 2, none⟩ (.int .u8 0)).setCell ⟨w.heap.size, 3, none⟩ (.string (strOf [])) = w3 at *
  obtain ⟨a0, a1, a2, a3⟩ := hA3.facts
  obtain ⟨e0, e1, e2, e3⟩ := hA3.frz
  obtain ⟨f0, f1, f2, f3⟩ := hR3.frz
  obtain ⟨r0, r1, r2, r3⟩ := hR3.facts
  have HR3 := Lib.hid hR3
  have HA3 := Lib.hid hA3
  clear hA3 hR3
  dsimp only at a0 a1 a2 a3 r0 r1 r2 r3
  have e5 : ((5 : Nat) : Int) = 5 := rfl
  have e00 : ((0 : Nat) : Int) = 0 := rfl
  rw [e5] at a1
  rw [e00] at a2
  clear e5 e00
  go_wp2_with fail
  obtain ⟨s0, s1, s2, s3⟩ := (RdAt.put (HR3.out.far (a := ⟨w.heap.size, 1, none⟩) (by simp) (.int .i64 4)) ⟨o, 4, 0, []⟩).facts
  dsimp only at s0 s1 s2 s3
  have e5 : ((4 : Nat) : Int) = 4 := rfl
  have e00 : ((0 : Nat) : Int) = 0 := rfl
  rw [e5, e00] at s0 s1 s2 s3
  refine bodyPost_ret (v := .tuple #[.agg #[.string (strOf o), .int .i64 4, .int .u8 0, .string (strOf [])], .bool true]) (by simp [results, Try.f25, go_sem, s0, s1, s2, s3]) rfl ⟨by rw [K.out]; rfl, ?_⟩
  exact rbelow_put (hb3.setCell (p := ⟨w.heap.size, 1, none⟩) (Nat.le_refl _) _) (by simp) _ _ _ _
end Go.Proofs.Ytmfldffbafamnaa
