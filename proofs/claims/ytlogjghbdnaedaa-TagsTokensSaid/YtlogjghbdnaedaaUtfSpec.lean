/- What the document says of runes and their bytes, in plain Lean: no program in sight. -/
import Derived.Below
namespace Go.Proofs.Ytlogjghbdnaedaa
set_option linter.unusedVariables false
set_option linter.unusedSimpArgs false
/-- Byte i of a text; 0 beyond its end. -/
def bt (l : List UInt8) (i : Nat) : Nat := (l.getD i 0).toNat
theorem bt_lt (l : List UInt8) (i : Nat) : bt l i < 256 := UInt8.toNat_lt _
theorem bt_drop (l : List UInt8) (k i : Nat) : bt (l.drop k) i = bt l (k + i) := by simp [bt, List.getD_eq_getElem?_getD]
theorem bt_get {l : List UInt8} {i : Nat} (h : i < l.length) : (l[i]).toNat = bt l i := by simp [bt, List.getD_eq_getElem?_getD, h]
def cont (b : Nat) : Prop := 128 ≤ b ∧ b < 192
instance (b : Nat) : Decidable (cont b) := by unfold cont; infer_instance
def isRune (n : Int) : Prop := 0 ≤ n ∧ n ≤ 1114111 ∧ ¬ (55296 ≤ n ∧ n ≤ 57343)
instance (n : Int) : Decidable (isRune n) := by unfold isRune; infer_instance
/-- The rune, and its size, that four bytes say of which m are there. -/
def nx (b0 b1 b2 b3 m : Nat) : Nat × Nat :=
  if b0 < 128 then (b0, 1)
  else if 192 ≤ b0 ∧ b0 < 224 ∧ 2 ≤ m ∧ cont b1 ∧ 128 ≤ (b0 - 192) * 64 + (b1 - 128) then ((b0 - 192) * 64 + (b1 - 128), 2)
  else if 224 ≤ b0 ∧ b0 < 240 ∧ 3 ≤ m ∧ cont b1 ∧ cont b2 ∧ 2048 ≤ (b0 - 224) * 4096 + (b1 - 128) * 64 + (b2 - 128) ∧ isRune (((b0 - 224) * 4096 + (b1 - 128) * 64 + (b2 - 128) : Nat) : Int)
    then ((b0 - 224) * 4096 + (b1 - 128) * 64 + (b2 - 128), 3)
  else if 240 ≤ b0 ∧ b0 < 248 ∧ 4 ≤ m ∧ cont b1 ∧ cont b2 ∧ cont b3 ∧ 65536 ≤ (b0 - 240) * 262144 + (b1 - 128) * 4096 + (b2 - 128) * 64 + (b3 - 128) ∧
      (b0 - 240) * 262144 + (b1 - 128) * 4096 + (b2 - 128) * 64 + (b3 - 128) ≤ 1114111
    then ((b0 - 240) * 262144 + (b1 - 128) * 4096 + (b2 - 128) * 64 + (b3 - 128), 4)
  else (65533, 1)
/-- The rune at the front of a text, and its size. -/
def next (l : List UInt8) : Nat × Nat := if l = [] then (0, 0) else nx (bt l 0) (bt l 1) (bt l 2) (bt l 3) l.length
def nextAt (l : List UInt8) (k : Int) : Nat × Nat := if k < 0 then (0, 0) else next (l.drop k.toNat)
/-- What so many bytes that go on say. -/
def tl : Nat → Nat → List UInt8 → Option Nat
  | 0, r, _ => some r
  | _ + 1, _, [] => none
  | m + 1, r, b :: t => if cont b.toNat then tl m (r * 64 + b.toNat % 64) t else none
/-- A rune's bytes. -/
def encN (n : Nat) : List Nat :=
  if n < 128 then [n]
  else if n < 2048 then [192 + n / 64, 128 + n % 64]
  else if n < 65536 then [224 + n / 4096, 128 + n / 64 % 64, 128 + n % 64]
  else [240 + n / 262144, 128 + n / 4096 % 64, 128 + n / 64 % 64, 128 + n % 64]
def rune (n : Int) : Nat := if isRune n then n.toNat else 65533
def enc (n : Int) : List UInt8 := (encN (rune n)).map UInt8.ofNat
/-- The steps of a text: its runes and their sizes; with so much fuel. -/
def stepsF : Nat → List UInt8 → List (Nat × Nat)
  | 0, _ => []
  | f + 1, l => if l = [] then [] else next l :: stepsF f (l.drop (next l).2)
def steps (l : List UInt8) : List (Nat × Nat) := stepsF l.length l
def runes (l : List UInt8) : List Nat := (steps l).map (·.1)
def good (l : List UInt8) : Bool := (steps l).all fun p => !(p.1 == 65533 && p.2 == 1)

theorem nx_bound (b0 b1 b2 b3 m : Nat) : (nx b0 b1 b2 b3 m).1 ≤ 1114111 ∧ 1 ≤ (nx b0 b1 b2 b3 m).2 ∧ (nx b0 b1 b2 b3 m).2 ≤ 4 ∧ (1 ≤ m → (nx b0 b1 b2 b3 m).2 ≤ m) := by
  unfold nx
  split
  · refine ⟨by dsimp only; omega, by simp, by simp, fun h => by simpa using h⟩
  split
  · rename_i h; obtain ⟨h1, h2, h3, ⟨h4, h5⟩, h6⟩ := h
    exact ⟨by dsimp only; omega, by simp, by simp, fun _ => h3⟩
  split
  · rename_i h; obtain ⟨h1, h2, h3, ⟨h4, h5⟩, ⟨h6, h7⟩, h8⟩ := h
    exact ⟨by dsimp only; omega, by simp, by simp, fun _ => h3⟩
  split
  · rename_i h; obtain ⟨h1, h2, h3, ⟨h4, h5⟩, ⟨h6, h7⟩, h8, h9, h10⟩ := h
    exact ⟨by dsimp only; omega, by simp, by simp, fun _ => h3⟩
  · exact ⟨by simp, by simp, by simp, fun h => h⟩
theorem next_bound (l : List UInt8) : (next l).1 ≤ 1114111 ∧ (next l).2 ≤ 4 ∧ (next l).2 ≤ l.length ∧ (l ≠ [] → 1 ≤ (next l).2) := by
  unfold next
  split
  · simp_all
  · rename_i h
    have hl : 1 ≤ l.length := by cases l <;> simp_all
    obtain ⟨a, b, c, d⟩ := nx_bound (bt l 0) (bt l 1) (bt l 2) (bt l 3) l.length
    exact ⟨a, c, d hl, fun _ => b⟩
end Go.Proofs.Ytlogjghbdnaedaa
