/- Plain: sanitising, and the front that has room, as a going through the steps. -/
import Derived.Test.YtlogjghbdnaedaaUtfI
import Derived.Test.YtlogjghbdnaedaaUtfG
namespace Go.Proofs.Ytlogjghbdnaedaa
set_option linter.unusedVariables false
set_option linter.unusedSimpArgs false
def total (l : List Stp) : Nat := (l.map (·.n)).sum
theorem total_nil : total [] = 0 := rfl
theorem total_cons (x : Stp) (l : List Stp) : total (x :: l) = x.n + total l := by simp [total]
theorem total_snoc (l : List Stp) (x : Stp) : total (l ++ [x]) = total l + x.n := by simp [total]
theorem total_le (l : List Stp) : total l ≤ 4 * l.length := by
  induction l with
  | nil => simp [total]
  | cons x l ih => rw [total_cons, List.length_cons]; have := x.h4; omega
/-- What a step writes that ends at a place. -/
def pieceP (l : List UInt8) (k : Nat) (x : Stp) : List UInt8 :=
  if x.r = 13 then (if bt l (k + x.n) = 10 then [] else enc 10) else enc (shownN x.r)
def cleanP (l : List UInt8) : Nat → List Stp → List UInt8
  | _, [] => []
  | k, x :: t => pieceP l k x ++ cleanP l (k + x.n) t
theorem cleanP_snoc (l : List UInt8) (x : Stp) : ∀ (p : List Stp) (k : Nat), cleanP l k (p ++ [x]) = cleanP l k p ++ pieceP l (k + total p) x
  | [], k => by simp [cleanP, total]
  | y :: t, k => by
    rw [List.cons_append, cleanP, cleanP_snoc l x t, cleanP, total_cons, List.append_assoc, Nat.add_assoc]
theorem cleanP_eq (l : List UInt8) : ∀ (n k : Nat), l.length - k ≤ n → cleanP l k (stps (l.drop k)) = clean (l.drop k)
  | n, k, h => by
    by_cases hk : l.length ≤ k
    · rw [List.drop_eq_nil_of_le hk]; rfl
    · have hne := drop_ne (l := l) (k := k) (by omega)
      rw [stps_cons hne, clean_cons hne, cleanP]
      have h1 := (next_bound (l.drop k)).2.2.2 hne
      have h2 := (next_bound (l.drop k)).2.2.1
      rw [List.length_drop] at h2
      congr 1
      · unfold pieceP piece stp
        dsimp only
        rw [bt_drop, Nat.add_zero, bt_drop]
      · rw [List.drop_drop]
        match n, h with
        | 0, h => omega
        | n + 1, h => exact cleanP_eq l n _ (by show l.length - (k + (next (l.drop k)).2) ≤ n; omega)
theorem cleanP_all (l : List UInt8) : cleanP l 0 (stps l) = clean l := by
  have := cleanP_eq l l.length 0 (by omega)
  simpa using this
theorem pieceP_length (l : List UInt8) (k : Nat) (x : Stp) : (pieceP l k x).length ≤ 4 := by
  unfold pieceP
  split
  · split
    · simp
    · exact (enc_length _).1
  · exact (enc_length _).1
theorem cleanP_length (l : List UInt8) : ∀ (p : List Stp) (k : Nat), (cleanP l k p).length ≤ 4 * p.length
  | [], _ => by simp [cleanP]
  | x :: t, k => by
    rw [cleanP, List.length_append, List.length_cons]
    have := pieceP_length l k x
    have := cleanP_length l t (k + x.n)
    omega
/-- How much has room, going through steps. -/
def frontS : List Stp → Int → Nat
  | [], _ => 0
  | x :: t, m => if m < x.n then 0 else x.n + frontS t (m - x.n)
theorem frontS_all (l : List UInt8) (m : Int) : frontS (stps l) m = front l m := by
  have : ∀ (n : Nat) (l : List UInt8) (m : Int), l.length ≤ n → frontS (stps l) m = front l m := by
    intro n
    induction n with
    | zero => intro l m h; have : l = [] := by cases l <;> simp_all
              subst this; rfl
    | succ n ih =>
      intro l m h
      by_cases hl : l = []
      · subst hl; rfl
      · have h1 := (next_bound l).2.2.2 hl
        rw [stps_cons hl, front_cons m hl, frontS]
        unfold stp
        dsimp only
        rw [ih (l.drop (next l).2) _ (by rw [List.length_drop]; omega)]
  exact this _ l m (Nat.le_refl _)
end Go.Proofs.Ytlogjghbdnaedaa
