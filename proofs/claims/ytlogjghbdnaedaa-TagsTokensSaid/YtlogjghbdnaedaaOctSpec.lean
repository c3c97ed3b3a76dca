/- Plain: two digits of a byte; a text at a place; what stands at a place of a text in a JSON string. -/
import Derived.Test.YtlogjghbdnaedaaMem
import Derived.Test.YtlogjghbdnaedaaUtfP
namespace Go.Proofs.Ytlogjghbdnaedaa
set_option linter.unusedVariables false
set_option linter.unusedSimpArgs false
theorem next_rune_ {l : List UInt8} (h : l ≠ []) : isRune ((next l).1 : Int) := by
  rcases next_cases h with h | h
  · rw [h]; unfold isRune; omega
  · have := rune_is ((next l).1 : Int)
    rwa [h.2] at this
/-- What a digit counts; 16: it is none. -/
def wth (c : Nat) : Nat := if 48 ≤ c ∧ c ≤ 57 then c - 48 else if 65 ≤ c ∧ c ≤ 70 then c - 55 else if 97 ≤ c ∧ c ≤ 102 then c - 87 else 16
/-- A digit that counts so much. -/
def hexd (x : Nat) : Nat := if x < 10 then 48 + x else 55 + x
def pairL (c : Nat) : List UInt8 := [UInt8.ofNat (hexd (c / 16)), UInt8.ofNat (hexd (c % 16))]
/-- The byte whose two digits stand at a place. -/
def byteAt (l : List UInt8) (k : Nat) : Option Nat :=
  if k + 2 ≤ l.length ∧ wth (bt l k) < 16 ∧ wth (bt l (k + 1)) < 16 then some (16 * wth (bt l k) + wth (bt l (k + 1))) else none
theorem byteAt_lt {l : List UInt8} {k v : Nat} (h : byteAt l k = some v) : v < 256 := by
  unfold byteAt at h
  split at h
  · cases h; omega
  · cases h
theorem byteAt_drop (l : List UInt8) (d k : Nat) : byteAt (l.drop d) k = byteAt l (d + k) := by
  unfold byteAt
  rw [bt_drop, bt_drop, List.length_drop, ← Nat.add_assoc d k 1]
  by_cases h : d + k + 2 ≤ l.length
  · have h2 : k + 2 ≤ l.length - d := by omega
    simp only [h, h2, true_and]
  · rw [if_neg (fun x => h (by have := x.1; omega)), if_neg (fun x => h x.1)]
/-- The number of four digits behind a \u at a place. -/
def unitAt (l : List UInt8) (k : Nat) : Option Nat :=
  if bt l k = 92 ∧ bt l (k + 1) = 117 then
    match byteAt l (k + 2), byteAt l (k + 4) with
    | some a, some b => some (256 * a + b)
    | _, _ => none
  else none
theorem unitAt_lt {l : List UInt8} {k v : Nat} (h : unitAt l k = some v) : v < 65536 := by
  unfold unitAt at h
  split at h
  · split at h
    · rename_i a b ha hb
      cases h
      have := byteAt_lt ha; have := byteAt_lt hb; omega
    · cases h
  · cases h
theorem unitAt_drop (l : List UInt8) (d k : Nat) : unitAt (l.drop d) k = unitAt l (d + k) := by
  unfold unitAt
  rw [bt_drop, bt_drop, byteAt_drop, byteAt_drop]
  simp only [Nat.add_assoc]
/-- The letter behind a \ that stands for a rune; 0: none does. -/
def letN (n : Nat) : Nat := if n = 34 ∨ n = 92 then n else if n = 8 then 98 else if n = 12 then 102 else if n = 10 then 110 else if n = 13 then 114 else if n = 9 then 116 else 0
/-- The rune that a letter behind a \ stands for; 0: none. -/
def letR (c : Nat) : Nat := if c = 34 ∨ c = 92 ∨ c = 47 then c else if c = 98 then 8 else if c = 102 then 12 else if c = 110 then 10 else if c = 114 then 13 else if c = 116 then 9 else 0
/-- The escape at the front of a text: its rune and its size. -/
def escJ (l : List UInt8) : Option (Nat × Nat) :=
  if letR (bt l 1) ≠ 0 then some (letR (bt l 1), 2) else
  match unitAt l 0 with
  | none => none
  | some a =>
    if 56320 ≤ a ∧ a < 57344 then none
    else if 55296 ≤ a ∧ a < 56320 then
      match unitAt l 6 with
      | none => none
      | some b => if 56320 ≤ b ∧ b < 57344 then some (65536 + (a - 55296) * 1024 + (b - 56320), 12) else none
    else some (a, 6)
/-- What stands at the front of a text in a JSON string. -/
def oneJ (l : List UInt8) : Option (Nat × Nat) :=
  if l = [] then none
  else if bt l 0 = 92 then escJ l
  else if (next l).1 < 32 ∨ (next l).1 = 34 ∨ ((next l).1 = 65533 ∧ (next l).2 = 1) then none
  else some (next l)
def oneAt (l : List UInt8) (k : Int) : Option (Nat × Nat) := if k < 0 then none else oneJ (l.drop k.toNat)
theorem bt_pos_lt {l : List UInt8} {k : Nat} (h : bt l k ≠ 0) : k < l.length := by
  rcases Nat.lt_or_ge k l.length with h1 | h1
  · exact h1
  · exfalso; apply h
    simp [bt, List.getD_eq_getElem?_getD, List.getElem?_eq_none h1]
theorem byteAt_len {l : List UInt8} {k v : Nat} (h : byteAt l k = some v) : k + 2 ≤ l.length := by
  unfold byteAt at h
  split at h
  · rename_i h1; exact h1.1
  · cases h
theorem unitAt_len {l : List UInt8} {k v : Nat} (h : unitAt l k = some v) : k + 6 ≤ l.length := by
  unfold unitAt at h
  split at h
  · split at h
    · rename_i a b ha hb
      have := byteAt_len hb; omega
    · cases h
  · cases h
theorem escJ_bound {l : List UInt8} {r n : Nat} (h : escJ l = some (r, n)) : isRune (r : Int) ∧ 2 ≤ n ∧ n ≤ 12 ∧ n ≤ l.length := by
  unfold escJ at h
  split at h
  · rename_i h0
    simp only [Option.some.injEq, Prod.mk.injEq] at h
    obtain ⟨rfl, rfl⟩ := h
    have hb : bt l 1 ≠ 0 := by intro hz; rw [hz] at h0; exact h0 (by decide)
    have := bt_pos_lt hb
    refine ⟨?_, by omega, by omega, by omega⟩
    unfold isRune letR
    split
    · have := bt_lt l 1; omega
    repeat' (split; omega)
    omega
  · split at h
    · cases h
    · rename_i a ha
      have h1 := unitAt_lt ha
      have h2 := unitAt_len ha
      split at h
      · cases h
      · split at h
        · split at h
          · cases h
          · rename_i b hb
            have h3 := unitAt_lt hb
            have h4 := unitAt_len hb
            split at h
            · simp only [Option.some.injEq, Prod.mk.injEq] at h
              obtain ⟨rfl, rfl⟩ := h
              refine ⟨by unfold isRune; omega, by omega, by omega, by omega⟩
            · cases h
        · simp only [Option.some.injEq, Prod.mk.injEq] at h
          obtain ⟨rfl, rfl⟩ := h
          refine ⟨by unfold isRune; omega, by omega, by omega, by omega⟩
theorem oneJ_bound {l : List UInt8} {r n : Nat} (h : oneJ l = some (r, n)) : isRune (r : Int) ∧ 1 ≤ n ∧ n ≤ 12 ∧ n ≤ l.length := by
  unfold oneJ at h
  split at h
  · cases h
  rename_i hne
  split at h
  · have := escJ_bound h; exact ⟨this.1, by omega, this.2.2.1, this.2.2.2⟩
  split at h
  · cases h
  · have hb := next_bound l
    have hr := next_rune_ hne
    simp only [Option.some.injEq] at h
    rw [h] at hb hr
    exact ⟨hr, hb.2.2.2 hne, by have := hb.2.1; dsimp only at *; omega, hb.2.2.1⟩
/-- The text of a JSON string's bytes; with so much fuel. -/
def readF : Nat → List UInt8 → Option (List UInt8)
  | 0, _ => some []
  | f + 1, l => if l = [] then some [] else
    match oneJ l with
    | none => none
    | some (r, n) => (readF f (l.drop n)).map (enc r ++ ·)
def readJ (l : List UInt8) : Option (List UInt8) := readF l.length l
/-- Which runes are written by four digits. -/
def longN (n : Nat) : Prop := n < 32 ∨ n = 38 ∨ n = 60 ∨ n = 62 ∨ (127 ≤ n ∧ n ≤ 159) ∨ n = 8232 ∨ n = 8233
instance (n : Nat) : Decidable (longN n) := by unfold longN; infer_instance
/-- A rune as it is written. -/
def wrJ (n : Nat) : List UInt8 :=
  if letN n ≠ 0 then [92, UInt8.ofNat (letN n)]
  else if longN n then [92, 117] ++ pairL (n / 256) ++ pairL (n % 256)
  else enc n
def writeJ (l : List UInt8) : List UInt8 := (runes l).flatMap wrJ
end Go.Proofs.Ytlogjghbdnaedaa
