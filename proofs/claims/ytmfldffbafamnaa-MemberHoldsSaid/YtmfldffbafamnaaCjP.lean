/- Walks: a name's quote; a value's first byte outside. -/
import Derived.Test.YtmfldffbafamnaaCjV
namespace Go.Proofs.Ytmfldffbafamnaa
open Go.RowKit
set_option linter.unusedVariables false
set_option linter.unusedSimpArgs false
set_option maxRecDepth 100000 in
theorem out_quote (m : Nat) (o p : List UInt8) (c : UInt8) (w : World) (hq : Q.fit ⟨m, o, p⟩) (hh : c.toNat = 34) (hm : m = 2 ∨ m = 3) :
    Calls Try.prog 41 #[sv m o p, .int .u8 c.toNat] w fun x w' => x = .returned (qr (outS ⟨m, o, p⟩ c)) ∧ Below w.heap.size w w' := by
  have K : Hid (outS ⟨m, o, p⟩ c = (⟨7, o, []⟩, decide ((o.length : Int) < 32))) := by
    have : decide ((o.length : Int) < 32) = decide (o.length < 32) := by rw [decide_eq_decide]; omega
    show _ = _; unfold outS; rw [this]; simp [hh, hm]
  have hz := strOf_size o
  unfold sv
  rw [hh]
  clear hh hq
  rcases hm with rfl | rfl
  all_goals
    go_enter Try.func41, Try.ntmps41
    go_wp2_with fail
    go_region_held3 (fun w' => w'.cell? ⟨w.heap.size, 1, none⟩ = some (.string (strOf o))) (go_keep) (fail)
    go_wp2_with fail
    refine bodyPost_ret (v := .tuple #[.agg #[.int .i64 7, .string (strOf o), .string (strOf [])], .bool (decide ((o.length : Int) < 32))]) (by simp [results, Try.f41, go_sem]; try rfl) rfl ⟨by rw [K.out]; rfl, ?_⟩
    go_grown
set_option maxRecDepth 100000 in
theorem out_else (m : Nat) (o p : List UInt8) (c : UInt8) (w : World) (hq : Q.fit ⟨m, o, p⟩) (h1 : c.toNat ≠ 32 ∧ c.toNat ≠ 9 ∧ c.toNat ≠ 10 ∧ c.toNat ≠ 13 ∧ c.toNat ≠ 93 ∧ c.toNat ≠ 125 ∧ c.toNat ≠ 44 ∧ c.toNat ≠ 58) (h2 : ¬ (c.toNat = 34 ∧ (m = 2 ∨ m = 3))) :
    Calls Try.prog 41 #[sv m o p, .int .u8 c.toNat] w fun x w' => x = .returned (qr (outS ⟨m, o, p⟩ c)) ∧ Below w.heap.size w w' := by
  obtain ⟨a1, a2, a3, a4, a5, a6, a7, a8⟩ := h1
  have K : Hid (outS ⟨m, o, p⟩ c = beginS ⟨m, o, p⟩ c) := by
    show _ = _; unfold outS; rw [if_neg (by omega), if_neg a5, if_neg a6, if_neg a7, if_neg a8, if_neg h2]
  have HC := Lib.hid (fun w => begin_any ⟨m, o, p⟩ c w hq)
  have HB := Lib.hid (boxes_new w m o p)
  generalize beginS ⟨m, o, p⟩ c = r at *
  obtain ⟨⟨x1, x2, x3⟩, y⟩ := r
  unfold qr Q.v sv at HC
  unfold sv
  have hc := UInt8.toNat_lt c
  have q1 : ((c.toNat : Int) == 32) = false := by simp only [beq_eq_false_iff_ne]; omega
  have q2 : ((c.toNat : Int) == 9) = false := by simp only [beq_eq_false_iff_ne]; omega
  have q3 : ((c.toNat : Int) == 10) = false := by simp only [beq_eq_false_iff_ne]; omega
  have q4 : ((c.toNat : Int) == 13) = false := by simp only [beq_eq_false_iff_ne]; omega
  have q5 : ((c.toNat : Int) == 93) = false := by simp only [beq_eq_false_iff_ne]; omega
  have q6 : ((c.toNat : Int) == 125) = false := by simp only [beq_eq_false_iff_ne]; omega
  have q7 : ((c.toNat : Int) == 44) = false := by simp only [beq_eq_false_iff_ne]; omega
  have q8 : ((c.toNat : Int) == 58) = false := by simp only [beq_eq_false_iff_ne]; omega
  have hcase : ((c.toNat : Int) == 34) = false ∨ (((c.toNat : Int) == 34) = true ∧ ((m : Int) == 2) = false ∧ ((m : Int) == 3) = false) := by
    by_cases h : c.toNat = 34
    · right
      refine ⟨by simp only [beq_iff_eq]; omega, by simp only [beq_eq_false_iff_ne]; omega, by simp only [beq_eq_false_iff_ne]; omega⟩
    · left; simp only [beq_eq_false_iff_ne]; omega
  clear a1 a2 a3 a4 a5 a6 a7 a8 h2
  rcases hcase with q9 | ⟨q9, m2, m3⟩
  all_goals
    go_enter Try.func41, Try.ntmps41
    go_wp2_with fail
    refine (HC.out _).mono ?_
    rintro x w2 ⟨rfl, b2⟩
    obtain ⟨hA, hR, hb⟩ := HB.out
    have HR2 := Lib.hid (hR.below' b2)
    have hb2 := hb.trans (b2.mono hb.size)
    obtain ⟨c0, c1, c2, g0, g1, g2⟩ := (hR.below' b2).facts
    clear hA hR hb b2
    go_wp2_with fail
    obtain ⟨s0, s1, s2, _, _, _⟩ := (HR2.out.put ⟨x1, x2, x3⟩).facts
    refine bodyPost_ret (v := .tuple #[.agg #[.int .i64 x1, .string (strOf x2), .string (strOf x3)], .bool y]) (by simp [results, Try.f41, go_sem, s0, s1, s2]) rfl ⟨by rw [K.out]; rfl, ?_⟩
    exact below_put hb2 (by simp) _ _ _
end Go.Proofs.Ytmfldffbafamnaa
