/- Plain: the least place at which a text stands, three ways (chapter 03). -/
import Derived.Test.YtpjlkhdolhoeoaaFdFst
import Derived.Lib.IndexMore
namespace Go.Proofs.Ytpjlkhdolhoeoaa
open Go.Lib
set_option linter.unusedVariables false
set_option linter.unusedSimpArgs false
/-- The document's. -/
def atP (s x : Bs) (f : Int) (k : Nat) : Bool := decide (f ≤ (k : Int)) && standsB s x k
def atO (s x : Bs) (f : Int) : Option Nat := (List.range s.length).find? (atP s x f)
def atI (o : Option Nat) : Int := match o with | some k => (k : Int) | none => -1
theorem find_range (p : Nat → Bool) (n : Nat) : (∃ k, (List.range n).find? p = some k ∧ k < n ∧ p k = true ∧ ∀ j, j < k → p j = false) ∨ ((List.range n).find? p = none ∧ ∀ j, j < n → p j = false) := by
  induction n with
  | zero => right; exact ⟨rfl, fun j h => absurd h (by omega)⟩
  | succ n ih =>
    rw [List.range_succ, List.find?_append]
    rcases ih with ⟨k, h1, h2, h3, h4⟩ | ⟨h1, h2⟩
    · left
      exact ⟨k, by rw [h1]; rfl, by omega, h3, h4⟩
    · rw [h1]
      cases hp : p n
      · right
        refine ⟨by simp [hp], fun j hj => ?_⟩
        by_cases e : j = n
        · rw [e]; exact hp
        · exact h2 j (by omega)
      · left
        exact ⟨n, by simp [hp], by omega, hp, fun j hj => h2 j hj⟩
theorem at_hit {s x : Bs} {f : Int} {k : Nat} (hk : k < s.length) (hp : atP s x f k = true) (hn : ∀ j, j < k → atP s x f j = false) : atO s x f = some k := by
  rcases find_range (atP s x f) s.length with ⟨i, h1, h2, h3, h4⟩ | ⟨h1, h2⟩
  · unfold atO
    rw [h1]
    rcases Nat.lt_trichotomy i k with q | q | q
    · rw [hn i q] at h3; cases h3
    · rw [q]
    · rw [h4 k q] at hp; cases hp
  · rw [h2 k hk] at hp; cases hp
theorem at_none {s x : Bs} {f : Int} (hn : ∀ j, j < s.length → atP s x f j = false) : atO s x f = none := by
  rcases find_range (atP s x f) s.length with ⟨i, h1, h2, h3, h4⟩ | ⟨h1, h2⟩
  · rw [hn i h2] at h3; cases h3
  · exact h1
theorem atP_stands {s x : Bs} {f : Int} {k : Nat} : atP s x f k = true ↔ f ≤ (k : Int) ∧ x ≠ [] ∧ k ≤ s.length ∧ x <+: s.drop k := by
  unfold atP standsB
  simp only [Bool.and_eq_true, decide_eq_true_eq]
  constructor
  · rintro ⟨h1, h2, h3, h4⟩
    exact ⟨h1, h2, h3, by rw [List.prefix_iff_eq_take]; exact h4.symm⟩
  · rintro ⟨h1, h2, h3, h4⟩
    exact ⟨h1, h2, h3, by rw [List.prefix_iff_eq_take] at h4; exact h4.symm⟩
theorem at_f {s x : Bs} {f g : Int} (h : ∀ k : Nat, (f ≤ (k : Int)) ↔ (g ≤ (k : Int))) : atO s x f = atO s x g := by
  unfold atO
  congr 1
  funext k
  unfold atP
  rw [decide_eq_decide.2 (h k)]
/-- find.At, where the rest of the text is asked. -/
theorem at_index {s x : Bs} (F : Nat) (hF : F ≤ s.length) (hx : x ≠ []) : (index (s.drop F) x < 0 ∧ atO s x F = none) ∨ ∃ i : Nat, index (s.drop F) x = i ∧ atO s x F = some (F + i) := by
  have hlp := List.length_pos_iff.2 hx
  have occ : ∀ i, occAt (s.drop F) x i = true ↔ x <+: s.drop (F + i) := fun i => by
    unfold occAt
    rw [List.isPrefixOf_iff_prefix, List.drop_drop]
  rcases index_spec (s.drop F) x with ⟨h1, h2⟩ | ⟨i, h1, h2, h3, h4⟩
  · left
    refine ⟨by omega, at_none fun j hj => ?_⟩
    cases hp : atP s x F j
    · rfl
    · exfalso
      obtain ⟨q1, q2, q3, q4⟩ := atP_stands.1 hp
      have := h2 (j - F) (by rw [List.length_drop]; omega)
      have h9 := (occ (j - F)).2 (by rw [show F + (j - F) = j by omega]; exact q4)
      rw [h9] at this; cases this
  · right
    have hpre := (occ i).1 h3
    have hl := hpre.length_le
    rw [List.length_drop] at hl
    rw [List.length_drop] at h2
    refine ⟨i, h1, at_hit (by omega) (atP_stands.2 ⟨by omega, hx, by omega, hpre⟩) fun j hj => ?_⟩
    cases hp : atP s x F j
    · rfl
    · exfalso
      obtain ⟨q1, q2, q3, q4⟩ := atP_stands.1 hp
      have := h4 (j - F) (by omega)
      have h9 := (occ (j - F)).2 (by rw [show F + (j - F) = j by omega]; exact q4)
      rw [h9] at this; cases this
theorem at_empty (s : Bs) (f : Int) : atO s [] f = none := at_none fun j hj => by
  cases hp : atP s [] f j
  · rfl
  · exact absurd rfl (atP_stands.1 hp).2.1
theorem at_behind {s x : Bs} {f : Int} (h : (s.length : Int) < f) : atO s x f = none := at_none fun j hj => by
  cases hp : atP s x f j
  · rfl
  · have := (atP_stands.1 hp).1
    omega
/-- A Many of it alone tells the same. -/
theorem at_first (s x : Bs) (f : Int) : fstH (hitsJ [x] s) f = (atO s x f).map fun k => (k, 0) := by
  unfold fstH hitsJ atO
  generalize List.range s.length = l
  induction l with
  | nil => rfl
  | cons k r ih =>
    rw [List.flatMap_cons, List.find?_append, ih, List.find?_cons]
    have e : ((List.range [x].length).filter fun w => standsB s ([x].getD w []) k) = if standsB s x k then [0] else [] := by
      show [0].filter (fun w => standsB s ([x].getD w []) k) = _
      rw [List.filter_cons]
      rfl
    rw [e]
    unfold atP
    cases h1 : standsB s x k
    · simp
    · by_cases h2 : f ≤ (k : Int)
      · simp [h2]
      · simp [h2]
end Go.Proofs.Ytpjlkhdolhoeoaa
