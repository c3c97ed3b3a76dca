/- Walks: how far a number was read; words. -/
import Derived.Test.YtmfldffbafamnaaCjA
namespace Go.Proofs.Ytmfldffbafamnaa
open Go.RowKit
set_option linter.unusedVariables false
set_option linter.unusedSimpArgs false
def digB (c : Nat) : Bool := decide (48 ≤ c ∧ c ≤ 57)
def eB (c : Nat) : Bool := c == 69 || c == 101
/-- How far a number was read, behind a byte. -/
def numS (p : List UInt8) (c : Nat) : List UInt8 × Bool :=
  if p = [45] ∨ p = [] then (if c = 48 then ([48], true) else ([49], digB c))
  else if p = [48] ∨ p = [49] then (if c = 46 then ([46], true) else if eB c then ([101], true) else ([49], digB c && p == [49]))
  else if p = [46] then ([53], digB c)
  else if p = [53] then (if eB c then ([101], true) else ([53], digB c))
  else if p = [101] then (if c = 43 ∨ c = 45 then ([43], true) else ([57], digB c))
  else ([57], digB c)
theorem or32c (c : Nat) (h : c < 256) : (bits BinOp.or IntKind.u8 (c : Int) 32 == 101) = eB c := by
  have : ∀ c : Fin 256, (bits BinOp.or IntKind.u8 (c.val : Int) 32 == 101) = eB c.val := by decide +kernel
  exact this ⟨c, h⟩
theorem number_any (p : List UInt8) (c : Nat) (w : World) (hc : c < 256) (hp : p ∈ [[], [45], [48], [49], [46], [53], [101], [43], [57]]) :
    Calls Try.prog 40 #[.string (strOf p), .int .u8 c] w fun e w' => e = .returned (.tuple #[.string (strOf (numS p c).1), .bool (numS p c).2]) ∧ w = w' := by
  have he := or32c c hc
  have hT := strOf_toList
  have key : ∀ (a : ByteArray) (b : Bool), (a = strOf (numS p c).1 ∧ b = (numS p c).2) → Ending.returned (.tuple #[.string a, .bool b]) = Ending.returned (.tuple #[.string (strOf (numS p c).1), .bool (numS p c).2]) := by
    rintro a b ⟨rfl, rfl⟩; rfl
  have K := Lib.hid key
  clear key
  simp only [List.mem_cons, List.not_mem_nil, or_false] at hp
  rcases hp with rfl | rfl | rfl | rfl | rfl | rfl | rfl | rfl | rfl
  all_goals
    go_enter Try.func40, Try.ntmps40
    go_wp2
    all_goals
      go_ret2
      refine ⟨K.out _ _ ?_, rfl⟩
      clear K hT he
      simp [numS, digB]
      try simp only [eB, beq_iff_eq, beq_eq_false_iff_ne, ne_eq, Bool.or_eq_true, Bool.or_eq_false_iff] at *
      try (repeat' split)
      all_goals first
        | (exfalso; omega)
        | exact ⟨rfl, rfl⟩
        | exact ⟨rfl, by omega⟩
        | exact ⟨rfl, by simp; omega⟩
        | exact ⟨rfl, by rw [Bool.eq_iff_iff]; simp; omega⟩
def cntB (p : List UInt8) : Bool := p == [48] || p == [49] || p == [53] || p == [57]
theorem counts_any (p : List UInt8) (w : World) :
    Calls Try.prog 30 #[.string (strOf p)] w fun e w' => e = .returned (.bool (cntB p)) ∧ w = w' := by
  have hT := strOf_toList
  go_enter Try.func30, Try.ntmps30
  go_wp2
  all_goals
    go_ret
    refine ⟨congrArg (fun b => Ending.returned (.bool b)) ?_, rfl⟩
    unfold cntB
    simp_all
def hexB (c : Nat) : Bool := decide (hexP c)
theorem or32a (c : Nat) (h : c < 256) : (decide (bits BinOp.or IntKind.u8 (c : Int) 32 ≥ 97) && decide (bits BinOp.or IntKind.u8 (c : Int) 32 ≤ 102)) = decide ((65 ≤ c ∧ c ≤ 70) ∨ (97 ≤ c ∧ c ≤ 102)) := by
  have : ∀ c : Fin 256, (decide (bits BinOp.or IntKind.u8 (c.val : Int) 32 ≥ 97) && decide (bits BinOp.or IntKind.u8 (c.val : Int) 32 ≤ 102)) = decide ((65 ≤ c.val ∧ c.val ≤ 70) ∨ (97 ≤ c.val ∧ c.val ≤ 102)) := by decide +kernel
  exact this ⟨c, h⟩
theorem hex_any (c : Nat) (w : World) (hc : c < 256) :
    Calls Try.prog 66 #[.int .u8 c] w fun e w' => e = .returned (.bool (hexB c)) ∧ w = w' := by
  have h1 := or32a c hc
  have h2 : 0 ≤ bits BinOp.or IntKind.u8 (c : Int) 32 ∧ bits BinOp.or IntKind.u8 (c : Int) 32 < 256 := by
    have : ∀ c : Fin 256, 0 ≤ bits BinOp.or IntKind.u8 (c.val : Int) 32 ∧ bits BinOp.or IntKind.u8 (c.val : Int) 32 < 256 := by decide +kernel
    exact this ⟨c, hc⟩
  obtain ⟨d, hd⟩ : ∃ d, bits BinOp.or IntKind.u8 (c : Int) 32 = d := ⟨_, rfl⟩
  rw [hd] at h1 h2
  have H := Lib.hid h1
  clear h1
  go_enter Try.func66, Try.ntmps66
  go_wp2
  all_goals
    go_ret
    refine ⟨congrArg (fun b => Ending.returned (.bool b)) ?_, rfl⟩
    have hx : hexB c = true ↔ hexP c := decide_eq_true_iff
    have := H.out
    rw [Bool.eq_iff_iff] at this ⊢
    rw [hx]
    unfold hexP digit
    simp at this ⊢
    omega
end Go.Proofs.Ytmfldffbafamnaa
