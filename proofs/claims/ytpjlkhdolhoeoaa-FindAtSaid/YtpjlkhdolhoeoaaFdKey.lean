/- The keys of the states' map: a state and a byte (chapter 03). -/
import Derived.Test.YtpjlkhdolhoeoaaFdSpec
import Derived.DeepKeys4
import Derived.MapViews
import Derived.Maps.OwnSet
import Derived.Maps.RangeWalk
namespace Go.Proofs.Ytpjlkhdolhoeoaa
open Go.Maps Go.ChangeShapes Go.WideShapes Go.WideMaps
set_option linter.unusedVariables false
set_option linter.unusedSimpArgs false
theorem laidOutF : laidOutB Try.prog = true := by kernel_rfl
theorem rowStep : (68 : TypeId) < Try.prog.types.size := of_decide_eq_true (by kernel_rfl)
theorem wideStep : (match Try.prog.underlying 68 with | some (.array _ _) | some (.struct _) => true | _ => false) = true := by rw [Try.underlying68]
set_option maxRecDepth 100000 in
theorem lawStep : Keyed Try.prog 68 := Keyed.of_law (deep_law_laid laidOutF (m := 2) (by omega) rowStep (by kernel_rfl) wideStep)
theorem cellsStep : Try.prog.cellsOf 68 = 2 := by kernel_rfl
theorem cellsInt : Try.prog.cellsOf 3 = 1 := by kernel_rfl
theorem keyTypeStep : Try.prog.keyType 68 = true := by kernel_rfl
theorem zeroIntF (w : World) : (zeroValue 3).run Try.prog w = .ok (.int .i64 0) w := by kernel_rfl
/-- What a key reads as. -/
def keyL (a c : Int) : Lit := .string (keyBytes [.int .i64 a, .int .i64 c])
theorem keyLits_step (d : Nat) (a c : Int) (ha : (Lit.int .i64 a).wf = true) (hc : (Lit.int .i64 c).wf = true) : Try.prog.keyLits (d + 2) 68 [.int .i64 a, .int .i64 c] = some [.int .i64 a, .int .i64 c] := by
  have h2 : List.range 2 = [0, 1] := rfl
  simp [Program.keyLits, Try.underlying68, Try.underlying3, cellsStep, cellsInt, h2, ha, hc]
theorem szStep : ∃ d, Try.prog.types.size + 1 = d + 2 := by
  have h : 0 < Try.prog.types.size := Nat.lt_of_le_of_lt (Nat.zero_le _) rowStep
  exact ⟨Try.prog.types.size - 1, by omega⟩
set_option maxRecDepth 100000 in
theorem keyOf_step (a c : Int) (ha : (Lit.int .i64 a).wf = true) (hc : (Lit.int .i64 c).wf = true) : keyOf Try.prog 68 (.agg #[.int .i64 a, .int .i64 c]) = some (keyL a c) := by
  obtain ⟨d, hd⟩ := szStep
  have hf : (Value.agg #[.int .i64 a, .int .i64 c]).formed Try.prog 68 = true := by simp [Value.formed, Try.underlying68, cellsStep]
  unfold keyOf
  rw [Try.underlying68, hd]
  simp only [keyTypeStep, hf, Bool.and_self, if_true]
  have hc2 : (Value.agg #[Value.int .i64 a, Value.int .i64 c]).cells.toList = [.int .i64 a, .int .i64 c] := rfl
  rw [hc2, keyLits_step d a c ha hc]
  rfl
set_option maxRecDepth 100000 in
theorem keyLits_int_inv {d : Nat} {x : Value} {l : List Lit} (h : Try.prog.keyLits (d + 1) 3 [x] = some l) : ∃ n, x = .int .i64 n ∧ (Lit.int .i64 n).wf = true := by
  unfold Program.keyLits at h
  rw [Try.underlying3] at h
  cases x <;> simp at h
  rename_i k n
  obtain ⟨⟨rfl, h2⟩, _⟩ := h
  exact ⟨n, rfl, h2⟩
set_option maxRecDepth 100000 in
theorem keyLits_pair {d : Nat} {x y : Value} {l : List Lit} (h : Try.prog.keyLits (d + 2) 68 [x, y] = some l) : (∃ l1, Try.prog.keyLits (d + 1) 3 [x] = some l1) ∧ ∃ l2, Try.prog.keyLits (d + 1) 3 [y] = some l2 := by
  have h2 : List.range 2 = [0, 1] := rfl
  unfold Program.keyLits at h
  rw [Try.underlying68] at h
  simp only [cellsStep, cellsInt, h2] at h
  have e0 : (List.drop (0 * 1) [x, y]).take 1 = [x] := rfl
  have e1 : (List.drop (1 * 1) [x, y]).take 1 = [y] := rfl
  simp only [List.mapM_cons, List.mapM_nil, e0, e1] at h
  cases h3 : Try.prog.keyLits (d + 1) 3 [x] with
  | none => rw [h3] at h; simp at h
  | some l1 =>
    cases h4 : Try.prog.keyLits (d + 1) 3 [y] with
    | none => rw [h3, h4] at h; simp at h
    | some l2 => exact ⟨⟨l1, rfl⟩, l2, rfl⟩
set_option maxRecDepth 100000 in
/-- Every key is two numbers. -/
theorem keyOf_shape {v : Value} {kl : Lit} (h : keyOf Try.prog 68 v = some kl) : ∃ p : Int × Int, v = .agg #[.int .i64 p.1, .int .i64 p.2] ∧ (Lit.int .i64 p.1).wf = true ∧ (Lit.int .i64 p.2).wf = true := by
  obtain ⟨d, hd⟩ := szStep
  unfold keyOf at h
  rw [Try.underlying68, hd] at h
  dsimp only at h
  split at h
  · rename_i hf
    simp only [keyTypeStep, Bool.true_and] at hf
    obtain ⟨ls, hl, _⟩ := Option.map_eq_some_iff.1 h
    cases v <;> simp [Value.formed, Try.underlying68, cellsStep] at hf
    rename_i cs
    obtain ⟨l⟩ := cs
    simp at hf
    match l, hf with
    | [x, y], _ =>
      obtain ⟨⟨l1, h1⟩, l2, h2⟩ := keyLits_pair (x := x) (y := y) hl
      obtain ⟨n1, rfl, w1⟩ := keyLits_int_inv h1
      obtain ⟨n2, rfl, w2⟩ := keyLits_int_inv h2
      exact ⟨(n1, n2), rfl, w1, w2⟩
  · cases h
theorem keyL_inj {a c a' c' : Int} (h1 : (Lit.int .i64 a).wf = true) (h2 : (Lit.int .i64 c).wf = true) (h3 : (Lit.int .i64 a').wf = true) (h4 : (Lit.int .i64 c').wf = true) (h : keyL a c = keyL a' c') : a = a' ∧ c = c' := by
  have e := lawStep.inj (keyOf_step a c h1 h2) ((keyOf_step a' c' h3 h4).trans (congrArg some h.symm))
  simp only [Value.agg.injEq, Array.mk.injEq, List.cons.injEq, Value.int.injEq, true_and, and_true] at e
  exact e
end Go.Proofs.Ytpjlkhdolhoeoaa
