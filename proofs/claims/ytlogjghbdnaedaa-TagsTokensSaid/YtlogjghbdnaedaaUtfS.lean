/- Plain: what the document says of whole texts, step by step. -/
import Derived.Test.YtlogjghbdnaedaaUtfSpec
namespace Go.Proofs.Ytlogjghbdnaedaa
set_option linter.unusedVariables false
set_option linter.unusedSimpArgs false
theorem stepsF_more : ∀ (f g : Nat) (l : List UInt8), l.length ≤ f → l.length ≤ g → stepsF f l = stepsF g l
  | 0, 0, _, _, _ => rfl
  | 0, g + 1, l, h, _ => by
    have : l = [] := by cases l <;> simp_all
    subst this; simp [stepsF]
  | f + 1, 0, l, _, h => by
    have : l = [] := by cases l <;> simp_all
    subst this; simp [stepsF]
  | f + 1, g + 1, l, hf, hg => by
    unfold stepsF
    split
    · rfl
    · rename_i hl
      have h1 := (next_bound l).2.2.2 hl
      rw [stepsF_more f g (l.drop (next l).2) (by rw [List.length_drop]; omega) (by rw [List.length_drop]; omega)]
theorem steps_nil : steps [] = [] := rfl
theorem steps_cons {l : List UInt8} (h : l ≠ []) : steps l = next l :: steps (l.drop (next l).2) := by
  have h1 := (next_bound l).2.2.2 h
  have hl : 1 ≤ l.length := by cases l <;> simp_all
  unfold steps
  obtain ⟨n, hn⟩ : ∃ n, l.length = n + 1 := ⟨l.length - 1, by omega⟩
  rw [hn]
  rw [stepsF, if_neg h]
  rw [stepsF_more n (l.drop (next l).2).length _ (by rw [List.length_drop]; omega) (Nat.le_refl _)]
theorem good_nil : good [] = true := rfl
theorem good_cons {l : List UInt8} (h : l ≠ []) : good l = (!((next l).1 == 65533 && (next l).2 == 1) && good (l.drop (next l).2)) := by
  unfold good; rw [steps_cons h]; rfl
theorem runes_cons {l : List UInt8} (h : l ≠ []) : runes l = (next l).1 :: runes (l.drop (next l).2) := by
  unfold runes; rw [steps_cons h]; rfl
theorem runes_nil : runes [] = [] := rfl
theorem runes_length_le (l : List UInt8) : (runes l).length ≤ l.length := by
  have : ∀ n (l : List UInt8), l.length ≤ n → (runes l).length ≤ l.length := by
    intro n
    induction n with
    | zero => intro l h; have : l = [] := by cases l <;> simp_all
              subst this; simp [runes_nil]
    | succ n ih =>
      intro l h
      by_cases hl : l = []
      · subst hl; simp [runes_nil]
      · have h1 := (next_bound l).2.2.2 hl
        have h2 := (next_bound l).2.2.1
        rw [runes_cons hl, List.length_cons]
        have := ih (l.drop (next l).2) (by rw [List.length_drop]; omega)
        rw [List.length_drop] at this
        omega
  exact this _ l (Nat.le_refl _)
/-- A rune as it may be shown. -/
def shownN (n : Nat) : Nat := if (n < 32 ∧ n ≠ 9 ∧ n ≠ 10) ∨ (127 ≤ n ∧ n ≤ 159) then 65533 else n
def cleanF : Nat → List UInt8 → List UInt8
  | 0, _ => []
  | f + 1, l => if l = [] then [] else
    if (next l).1 = 13 then (if bt (l.drop (next l).2) 0 = 10 then [] else enc 10) ++ cleanF f (l.drop (next l).2)
    else enc (shownN (next l).1) ++ cleanF f (l.drop (next l).2)
def clean (l : List UInt8) : List UInt8 := cleanF l.length l
theorem cleanF_more : ∀ (f g : Nat) (l : List UInt8), l.length ≤ f → l.length ≤ g → cleanF f l = cleanF g l
  | 0, 0, _, _, _ => rfl
  | 0, g + 1, l, h, _ => by
    have : l = [] := by cases l <;> simp_all
    subst this; simp [cleanF]
  | f + 1, 0, l, _, h => by
    have : l = [] := by cases l <;> simp_all
    subst this; simp [cleanF]
  | f + 1, g + 1, l, hf, hg => by
    unfold cleanF
    split
    · rfl
    · rename_i hl
      have h1 := (next_bound l).2.2.2 hl
      rw [cleanF_more f g (l.drop (next l).2) (by rw [List.length_drop]; omega) (by rw [List.length_drop]; omega)]
theorem clean_nil : clean [] = [] := rfl
/-- What one step of sanitising writes. -/
def piece (l : List UInt8) : List UInt8 :=
  if (next l).1 = 13 then (if bt (l.drop (next l).2) 0 = 10 then [] else enc 10) else enc (shownN (next l).1)
theorem clean_cons {l : List UInt8} (h : l ≠ []) : clean l = piece l ++ clean (l.drop (next l).2) := by
  have h1 := (next_bound l).2.2.2 h
  have hl : 1 ≤ l.length := by cases l <;> simp_all
  unfold clean piece
  obtain ⟨n, hn⟩ : ∃ n, l.length = n + 1 := ⟨l.length - 1, by omega⟩
  rw [hn]
  rw [cleanF, if_neg h]
  rw [cleanF_more n (l.drop (next l).2).length _ (by rw [List.length_drop]; omega) (Nat.le_refl _)]
  split <;> rfl
/-- How much of a text has room. -/
def frontF : Nat → List UInt8 → Int → Nat
  | 0, _, _ => 0
  | f + 1, l, m => if l = [] then 0 else if m < (next l).2 then 0 else (next l).2 + frontF f (l.drop (next l).2) (m - (next l).2)
def front (l : List UInt8) (m : Int) : Nat := frontF l.length l m
theorem frontF_more : ∀ (f g : Nat) (l : List UInt8) (m : Int), l.length ≤ f → l.length ≤ g → frontF f l m = frontF g l m
  | 0, 0, _, _, _, _ => rfl
  | 0, g + 1, l, m, h, _ => by
    have : l = [] := by cases l <;> simp_all
    subst this; simp [frontF]
  | f + 1, 0, l, m, _, h => by
    have : l = [] := by cases l <;> simp_all
    subst this; simp [frontF]
  | f + 1, g + 1, l, m, hf, hg => by
    unfold frontF
    split
    · rfl
    · rename_i hl
      have h1 := (next_bound l).2.2.2 hl
      rw [frontF_more f g (l.drop (next l).2) _ (by rw [List.length_drop]; omega) (by rw [List.length_drop]; omega)]
theorem front_nil (m : Int) : front [] m = 0 := rfl
theorem front_cons {l : List UInt8} (m : Int) (h : l ≠ []) : front l m = if m < (next l).2 then 0 else (next l).2 + front (l.drop (next l).2) (m - (next l).2) := by
  have h1 := (next_bound l).2.2.2 h
  have hl : 1 ≤ l.length := by cases l <;> simp_all
  unfold front
  obtain ⟨n, hn⟩ : ∃ n, l.length = n + 1 := ⟨l.length - 1, by omega⟩
  rw [hn]
  rw [frontF, if_neg h]
  rw [frontF_more n (l.drop (next l).2).length _ _ (by rw [List.length_drop]; omega) (Nat.le_refl _)]
theorem encN_length (n : Nat) : (encN n).length ≤ 4 ∧ 1 ≤ (encN n).length := by
  unfold encN; split
  · simp
  split
  · simp
  split <;> simp
theorem enc_length (n : Int) : (enc n).length ≤ 4 ∧ 1 ≤ (enc n).length := by unfold enc; rw [List.length_map]; exact encN_length _
theorem piece_length (l : List UInt8) : (piece l).length ≤ 4 := by
  unfold piece
  split
  · split
    · simp
    · exact (enc_length _).1
  · exact (enc_length _).1
theorem clean_length : ∀ (n : Nat) (l : List UInt8), l.length ≤ n → (clean l).length ≤ 4 * l.length
  | 0, l, h => by
    have : l = [] := by cases l <;> simp_all
    subst this; simp [clean_nil]
  | n + 1, l, h => by
    by_cases hl : l = []
    · subst hl; simp [clean_nil]
    · have h1 := (next_bound l).2.2.2 hl
      have h2 := (next_bound l).2.2.1
      rw [clean_cons hl, List.length_append]
      have h3 := clean_length n (l.drop (next l).2) (by rw [List.length_drop]; omega)
      have h4 := piece_length l
      rw [List.length_drop] at h3
      omega
end Go.Proofs.Ytlogjghbdnaedaa
