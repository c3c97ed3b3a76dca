/- Loops over the iterator: Front. -/
import Derived.Test.YtlogjghbdnaedaaUtfJ
import Derived.Test.YtlogjghbdnaedaaUtfK
namespace Go.Proofs.Ytlogjghbdnaedaa
open Go.RowKit Go.Shelf
set_option linter.unusedVariables false
set_option linter.unusedSimpArgs false
attribute [local go_sem] Oper.semAt_some
theorem frontS_le : ∀ (l : List Stp) (m : Int), frontS l m ≤ total l
  | [], _ => Nat.zero_le _
  | x :: t, m => by
    rw [frontS, total_cons]
    split
    · omega
    · have := frontS_le t (m - x.n); omega
theorem total_stps (l : List UInt8) : total (stps l) = l.length := by
  have : ∀ (n : Nat) (l : List UInt8), l.length ≤ n → total (stps l) = l.length := by
    intro n
    induction n with
    | zero => intro l h; have : l = [] := by cases l <;> simp_all
              subst this; rfl
    | succ n ih =>
      intro l h
      by_cases hl : l = []
      · subst hl; rfl
      · have h1 := (next_bound l).2.2.2 hl
        have h2 := (next_bound l).2.2.1
        rw [stps_cons hl, total_cons, ih _ (by rw [List.length_drop]; omega), List.length_drop]
        show (next l).2 + _ = _
        omega
  exact this _ l (Nat.le_refl _)
def FrontI (s : ByteArray) (m : Int) (B : Nat) (pre : List Stp) (W : World) : Prop :=
  (Blk W B 3 #[.int .i64 m] ∧ Blk W (B + 1) 3 #[.int .i64 (total pre)]) ∧ ((∀ rest, frontS (pre ++ rest) m = total pre + frontS rest (m - total pre)) ∧ (pre = [] ∨ (total pre : Int) ≤ m))
def FrontX (s : ByteArray) (m : Int) (B : Nat) (c : Code) (pre : List Stp) (W : World) : Prop :=
  c = .exit 0 ∧ Blk W B 3 #[.int .i64 m] ∧ ∃ v : Nat, Blk W (B + 1) 3 #[.int .i64 v] ∧ ∀ rest, frontS (pre ++ rest) m = v
theorem frontI_own (s : ByteArray) (m : Int) (B n : Nat) : OwnFrom n (FrontI s m B) := fun pre W W' row ⟨⟨a, b⟩, c⟩ hg hr =>
  ⟨⟨a.kept hg (fun r e => (hr r e).2), b.kept hg (fun r e => (hr r e).2)⟩, c⟩
theorem frontX_own (s : ByteArray) (m : Int) (B n : Nat) (c : Code) : OwnFrom n (FrontX s m B c) := fun pre W W' row ⟨a, b, v, d, e⟩ hg hr =>
  ⟨a, b.kept hg (fun r e => (hr r e).2), v, d.kept hg (fun r e => (hr r e).2), e⟩
end Go.Proofs.Ytlogjghbdnaedaa
