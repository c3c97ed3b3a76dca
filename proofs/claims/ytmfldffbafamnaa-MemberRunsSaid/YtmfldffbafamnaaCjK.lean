/- Walks: the first byte of a number, of a word. -/
import Derived.Test.YtmfldffbafamnaaCjJ
namespace Go.Proofs.Ytmfldffbafamnaa
open Go.RowKit
set_option linter.unusedVariables false
set_option linter.unusedSimpArgs false
set_option maxRecDepth 100000 in
theorem begin_digit (m : Nat) (o p : List UInt8) (c : UInt8) (w : World) (hm : m = 0 ∨ m = 1) (ho : o.length < 32) (hh : digit c.toNat) :
    Calls Try.prog 59 #[sv m o p, .int .u8 c.toNat] w fun x w' => x = .returned (qr (beginS ⟨m, o, p⟩ c)) ∧ Below w.heap.size w w' := by
  have hh' := hh
  unfold digit at hh'
  have K : Hid (beginS ⟨m, o, p⟩ c = (⟨9, o, (numS [] c.toNat).1⟩, (numS [] c.toNat).2)) := by
    show _ = _; rw [beginS_yes hm ho, if_neg (by omega), if_neg (by omega), if_neg (by omega), if_neg (by omega), if_pos hh]
  have hz := strOf_size o
  have HN := Lib.hid (fun w => number_any [] c.toNat w (UInt8.toNat_lt c) (by simp))
  generalize numS [] c.toNat = r at *
  obtain ⟨r1, r2⟩ := r
  dsimp only at HN K
  obtain ⟨d1, d2⟩ := hh'
  have q1 : ((c.toNat : Int) == 91) = false := by simp only [beq_eq_false_iff_ne]; omega
  have q2 : ((c.toNat : Int) == 123) = false := by simp only [beq_eq_false_iff_ne]; omega
  have q3 : ((c.toNat : Int) == 34) = false := by simp only [beq_eq_false_iff_ne]; omega
  have q4 : ((c.toNat : Int) == 45) = false := by simp only [beq_eq_false_iff_ne]; omega
  clear hh
  unfold sv
  rcases hm with rfl | rfl
  all_goals
    go_enter Try.func59, Try.ntmps59
    go_wp2_with fail
    refine (HN.out _).mono ?_
    rintro x w' ⟨rfl, rfl⟩
    go_wp2_with fail
    refine bodyPost_ret (v := .tuple #[.agg #[.int .i64 9, .string (strOf o), .string (strOf r1)], .bool r2]) (by simp [results, Try.f59, go_sem]) rfl ⟨by rw [K.out]; rfl, ?_⟩
    go_grown
theorem conv_at2 (w : World) (a b : Obj) (c : UInt8) : (convert 33 9 (.slice (some ⟨w.heap.size + 1 + 1, 0, none⟩) 1 1)).run Try.prog (((w.alloc a).alloc b).alloc (.cells #[.int .u8 c.toNat] 5)) =
      .ok (.string (strOf [c])) (((w.alloc a).alloc b).alloc (.cells #[.int .u8 c.toNat] 5)) := by
  have h := conv_c ((w.alloc a).alloc b) c
  rw [World.size_alloc, World.size_alloc] at h
  exact h
set_option maxRecDepth 100000 in
theorem begin_word (m : Nat) (o p : List UInt8) (c : UInt8) (w : World) (hm : m = 0 ∨ m = 1) (ho : o.length < 32) (h1 : c.toNat ≠ 91) (h2 : c.toNat ≠ 123) (h3 : c.toNat ≠ 34) (h4 : c.toNat ≠ 45) (h5 : ¬ digit c.toNat) :
    Calls Try.prog 59 #[sv m o p, .int .u8 c.toNat] w fun x w' => x = .returned (qr (beginS ⟨m, o, p⟩ c)) ∧ Below w.heap.size w w' := by
  have K : Hid (beginS ⟨m, o, p⟩ c = (⟨8, o, [c]⟩, (wordS [c]).1)) := by
    show _ = _; rw [beginS_yes hm ho, if_neg h1, if_neg h2, if_neg h3, if_neg h4, if_neg h5]
  have hz := strOf_size o
  have kc := fun w a b => conv_at2 w a b c
  have HN := Lib.hid (fun w => word_any [c] w)
  have hc := UInt8.toNat_lt c
  have q1 : ((c.toNat : Int) == 91) = false := by simp only [beq_eq_false_iff_ne]; omega
  have q2 : ((c.toNat : Int) == 123) = false := by simp only [beq_eq_false_iff_ne]; omega
  have q3 : ((c.toNat : Int) == 34) = false := by simp only [beq_eq_false_iff_ne]; omega
  have q4 : ((c.toNat : Int) == 45) = false := by simp only [beq_eq_false_iff_ne]; omega
  have q5 : (c.toNat : Int) < 48 ∨ (48 ≤ (c.toNat : Int) ∧ 57 < (c.toNat : Int)) := by unfold digit at h5; omega
  clear h1 h2 h3 h4 h5
  generalize wordS [c] = r at *
  obtain ⟨r1, r2⟩ := r
  dsimp only at HN K
  unfold sv
  rcases hm with rfl | rfl <;> rcases q5 with q5 | ⟨q5, q6⟩
  all_goals
    go_enter Try.func59, Try.ntmps59
    go_wp2_with fail
    refine (HN.out _).mono ?_
    rintro x w' ⟨rfl, rfl⟩
    go_wp2_with fail
    refine bodyPost_ret (v := .tuple #[.agg #[.int .i64 8, .string (strOf o), .string (strOf [c])], .bool r1]) (by simp [results, Try.f59, go_sem]) rfl ⟨by rw [K.out]; rfl, ?_⟩
    go_grown
end Go.Proofs.Ytmfldffbafamnaa
