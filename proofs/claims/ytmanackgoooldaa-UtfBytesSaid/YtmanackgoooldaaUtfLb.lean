/- The laws of the text: Bytes, Fronts. -/
import Derived.Test.YtmanackgoooldaaUtfLaw
import Derived.Test.YtmanackgoooldaaUtfP
namespace Go.Proofs.Ytmanackgoooldaa
open Go.RowKit
set_option linter.unusedVariables false
set_option linter.unusedSimpArgs false
set_option maxRecDepth 100000 in
set_option maxHeartbeats 4000000 in
theorem lawBytes (n : Int) (w : World) (hn : -2147483648 ≤ n ∧ n ≤ 2147483647) :
    Calls Try.prog 4 #[.int .i32 n] w fun e w' => e = .returned (.bool true) ∧ Below w.heap.size w w' := by
  have HP := Lib.hid (fun w => pbytes_any n w)
  have HR := Lib.hid (fun w => rbytes_any n w)
  have hl := enc_length n
  have hsz : (strOf (enc n)).size = (enc n).length := strOf_size _
  have hnx : next (strOf (enc n)).data.toList = (rune n, (enc n).length) := by
    rw [strOf_list]; have := next_enc n []; rwa [List.append_nil] at this
  have HN := Lib.hid (fun w => next_to (strOf (enc n)) 0 (rune n) (enc n).length w (by omega) (by rw [List.drop_zero]; exact hnx))
  have hr := rune_is n
  have h0 : (((rune n : Nat) : Int) = n ∧ isRune n) ∨ (((rune n : Nat) : Int) = 65533 ∧ ¬ isRune n ∧ (((rune n : Nat) : Int) == n) = false) := by
    by_cases h : isRune n
    · left; exact ⟨rune_self h, h⟩
    · right
      have : rune n = 65533 := by unfold rune; rw [if_neg h]
      rw [this]
      refine ⟨rfl, h, ?_⟩
      simp only [beq_eq_false_iff_ne]
      intro e; subst e; exact h (by decide)
  clear hnx
  generalize enc n = bs at *
  generalize rune n = r at *
  unfold isRune at hr
  obtain ⟨hn1, hn2⟩ := hn
  rcases h0 with ⟨h1, h2⟩ | ⟨h1, h2, h3⟩
  · have HU := Lib.hid (fun w => rune_to n true w (decide_eq_true h2))
    clear h2 hn1 hn2
    subst h1
    go_enter Try.func4, Try.ntmps4
    go_wp2_with fail
    refine (HP.out _).mono ?_
    rintro e w2 ⟨rfl, b2⟩
    go_wp2_with fail
    refine (HN.out _).mono ?_
    rintro e w3 ⟨rfl, rfl⟩
    go_wp2_with fail
    refine (HR.out _).mono ?_
    rintro e w3 ⟨rfl, b3⟩
    go_wp2_with fail
    refine (HU.out _).mono ?_
    rintro e w4 ⟨rfl, rfl⟩
    go_wp2_with fail
    refine (HU.out _).mono ?_
    rintro e w4 ⟨rfl, rfl⟩
    go_wp2_with fail
    refine (awake_any _).mono ?_
    rintro e w4 ⟨rfl, b4⟩
    go_wp2_with fail
    go_ret
    exact ⟨rfl, (b2.trans (b3.mono b2.size)).trans (b4.mono (b2.trans (b3.mono b2.size)).size)⟩
  · have HU := Lib.hid (fun w => rune_to n false w (decide_eq_false h2))
    clear h2
    have h4 : ((r : Int) == 65533) = true := by rw [h1]; rfl
    have h5 : ((r : Int) == n) = false := by rw [h1]; simp only [beq_eq_false_iff_ne] at h3 ⊢; rw [← h1]; exact h3
    clear h1 h3
    go_enter Try.func4, Try.ntmps4
    go_wp2_with fail
    refine (HP.out _).mono ?_
    rintro e w2 ⟨rfl, b2⟩
    go_wp2_with fail
    refine (HN.out _).mono ?_
    rintro e w3 ⟨rfl, rfl⟩
    go_wp2_with fail
    refine (HR.out _).mono ?_
    rintro e w3 ⟨rfl, b3⟩
    go_wp2_with fail
    refine (HU.out _).mono ?_
    rintro e w4 ⟨rfl, rfl⟩
    go_wp2_with fail
    refine (HU.out _).mono ?_
    rintro e w4 ⟨rfl, rfl⟩
    go_wp2_with fail
    refine (awake_any _).mono ?_
    rintro e w4 ⟨rfl, b4⟩
    go_wp2_with fail
    go_ret
    exact ⟨rfl, (b2.trans (b3.mono b2.size)).trans (b4.mono (b2.trans (b3.mono b2.size)).size)⟩
end Go.Proofs.Ytmanackgoooldaa
