/- Walks: words. -/
import Derived.Test.YtmfldffbafamnaaCjB
import Derived.Test.YtmfldffbafamnaaShelf
import Derived.LoopN
import Derived.Handy
namespace Go.Proofs.Ytmfldffbafamnaa
open Go.RowKit
set_option linter.unusedVariables false
set_option linter.unusedSimpArgs false
def wT : List UInt8 := [116, 114, 117, 101]
def wF : List UInt8 := [102, 97, 108, 115, 101]
def wN : List UInt8 := [110, 117, 108, 108]
/-- Is a text the beginning of a word, and whole? -/
def wordS (p : List UInt8) : Bool × Bool :=
  if Lib.hasPrefix wT p then (true, wT == p) else if Lib.hasPrefix wF p then (true, wF == p) else if Lib.hasPrefix wN p then (true, wN == p) else (false, false)
theorem prefix_to (a p : List UInt8) (w : World) (b : Bool) (hb : Lib.hasPrefix a p = b) :
    Calls Try.prog 56 #[.string (strOf a), .string (strOf p)] w fun e w' => e = .returned (.bool b) ∧ w = w' := by
  subst hb
  refine (Try.strings_HasPrefix (strOf a) (strOf p) w).mono ?_
  rintro e w' ⟨he, rfl⟩
  rw [strOf_list, strOf_list] at he
  exact ⟨he, rfl⟩
theorem arr_under : Try.prog.underlying 85 = some (.array 3 9) := by kernel_rfl
theorem arr_cells : Try.prog.cellsOf 9 = 1 := by kernel_rfl
theorem index_arr (a b c : Value) (w : World) : (Instr.index 85 (.agg #[a, b, c]) (.int .i64 0)).run Try.prog w = .ok a w ∧ (Instr.index 85 (.agg #[a, b, c]) (.int .i64 1)).run Try.prog w = .ok b w ∧
    (Instr.index 85 (.agg #[a, b, c]) (.int .i64 2)).run Try.prog w = .ok c w := by
  refine ⟨?_, ?_, ?_⟩ <;> simp [Instr.index, run_underlying arr_under, arr_cells, asIntOf, go_sem]
set_option maxRecDepth 100000 in
theorem word_any (p : List UInt8) (w : World) :
    Calls Try.prog 38 #[.string (strOf p)] w fun e w' => e = .returned (.tuple #[.bool (wordS p).1, .bool (wordS p).2]) ∧ w = w' := by
  have hT := strOf_toList
  have hI := index_arr
  cases h1 : Lib.hasPrefix wT p
  · have H1 := Lib.hid (fun w => prefix_to wT p w false h1)
    cases h2 : Lib.hasPrefix wF p
    · have H2 := Lib.hid (fun w => prefix_to wF p w false h2)
      cases h3 : Lib.hasPrefix wN p
      · have H3 := Lib.hid (fun w => prefix_to wN p w false h3)
        have K : Hid (wordS p = (false, false)) := by show _ = _; unfold wordS; rw [h1, h2, h3]; rfl
        clear h1 h2 h3
        go_enter Try.func38, Try.ntmps38
        go_wp2_with fail
        refine wp_loop_rounds 4 ?_
        rw [rounds_succ]
        go_wp2_with fail
        refine (H1.out _).mono ?_
        rintro e w' ⟨rfl, rfl⟩
        go_wp2_with fail
        rw [rounds_succ]
        go_wp2_with fail
        refine (H2.out _).mono ?_
        rintro e w' ⟨rfl, rfl⟩
        go_wp2_with fail
        rw [rounds_succ]
        go_wp2_with fail
        refine (H3.out _).mono ?_
        rintro e w' ⟨rfl, rfl⟩
        go_wp2_with fail
        rw [rounds_succ]
        go_wp2_with fail
        go_ret2
        exact ⟨by rw [K.out]; rfl, rfl⟩
      · have H3 := Lib.hid (fun w => prefix_to wN p w true h3)
        have K : Hid (wordS p = (true, wN == p)) := by show _ = _; unfold wordS; rw [h1, h2, h3]; rfl
        clear h1 h2 h3
        go_enter Try.func38, Try.ntmps38
        go_wp2_with fail
        refine wp_loop_rounds 4 ?_
        rw [rounds_succ]
        go_wp2_with fail
        refine (H1.out _).mono ?_
        rintro e w' ⟨rfl, rfl⟩
        go_wp2_with fail
        rw [rounds_succ]
        go_wp2_with fail
        refine (H2.out _).mono ?_
        rintro e w' ⟨rfl, rfl⟩
        go_wp2_with fail
        rw [rounds_succ]
        go_wp2_with fail
        refine (H3.out _).mono ?_
        rintro e w' ⟨rfl, rfl⟩
        go_wp2_with fail
        go_ret2
        exact ⟨by rw [K.out]; rfl, rfl⟩
    · have H2 := Lib.hid (fun w => prefix_to wF p w true h2)
      have K : Hid (wordS p = (true, wF == p)) := by show _ = _; unfold wordS; rw [h1, h2]; rfl
      clear h1 h2
      go_enter Try.func38, Try.ntmps38
      go_wp2_with fail
      refine wp_loop_rounds 4 ?_
      rw [rounds_succ]
      go_wp2_with fail
      refine (H1.out _).mono ?_
      rintro e w' ⟨rfl, rfl⟩
      go_wp2_with fail
      rw [rounds_succ]
      go_wp2_with fail
      refine (H2.out _).mono ?_
      rintro e w' ⟨rfl, rfl⟩
      go_wp2_with fail
      go_ret2
      exact ⟨by rw [K.out]; rfl, rfl⟩
  · have H1 := Lib.hid (fun w => prefix_to wT p w true h1)
    have K : Hid (wordS p = (true, wT == p)) := by show _ = _; unfold wordS; rw [h1]; rfl
    clear h1
    go_enter Try.func38, Try.ntmps38
    go_wp2_with fail
    refine wp_loop_rounds 4 ?_
    rw [rounds_succ]
    go_wp2_with fail
    refine (H1.out _).mono ?_
    rintro e w' ⟨rfl, rfl⟩
    go_wp2_with fail
    go_ret2
    exact ⟨by rw [K.out]; rfl, rfl⟩
end Go.Proofs.Ytmfldffbafamnaa
