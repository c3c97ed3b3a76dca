/- Walks: the byte of two digits (both layers); a text at a place. -/
import Derived.Test.YtlogjghbdnaedaaOctA
import Derived.Test.YtlogjghbdnaedaaUtfF
import Derived.Test.YtlogjghbdnaedaaUtfG
namespace Go.Proofs.Ytlogjghbdnaedaa
open Go.RowKit
set_option linter.unusedVariables false
set_option linter.unusedSimpArgs false
def byteV (o : Option Nat) : Value := match o with | some v => .tuple #[.int .u8 v, .bool true] | none => .tuple #[.int .u8 0, .bool false]
theorem wth_le (c : Nat) : wth c ≤ 16 := by unfold wth; split <;> (try split) <;> (try split) <;> omega
theorem byte_out {s : ByteArray} {k : Nat} (hk : s.size < k + 2) : byteAt s.data.toList k = none := by
  unfold byteAt; rw [if_neg]; rw [← sz_len]; omega
theorem nib (p q : Nat) (hp : p < 16) (hq : q < 16) : bits BinOp.or IntKind.u8 (((p : Int) * 16) % 256) (q : Int) = ((16 * p + q : Nat) : Int) := by
  have : ∀ p q : Fin 16, bits BinOp.or IntKind.u8 (((p.val : Int) * 16) % 256) (q.val : Int) = ((16 * p.val + q.val : Nat) : Int) := by decide +kernel
  exact this ⟨p, hp⟩ ⟨q, hq⟩
theorem nib2 (p q : Nat) (hp : p < 16) (hq : q < 16) : bits BinOp.or IntKind.u8 ((p : Int) * 16) (q : Int) = 16 * (p : Int) + q := by
  have : ∀ p q : Fin 16, bits BinOp.or IntKind.u8 ((p.val : Int) * 16) (q.val : Int) = 16 * (p.val : Int) + q.val := by decide +kernel
  exact this ⟨p, hp⟩ ⟨q, hq⟩
/-- Does a text stand at a place? -/
def beginsL (l p : List UInt8) (k : Nat) : Bool := decide (k ≤ l.length) && decide ((l.drop k).take p.length = p)
theorem hasPrefix_iff (l p : List UInt8) : Lib.hasPrefix l p = decide (l.take p.length = p) := by
  unfold Lib.hasPrefix
  rw [Bool.eq_iff_iff, List.isPrefixOf_iff_prefix, decide_eq_true_iff, List.prefix_iff_eq_take]
  exact eq_comm
theorem rbegins_any (s p : ByteArray) (k : Nat) (w : World) (hs : s.size ≤ 9223372036854775807) (hp : p.size ≤ 9223372036854775807) :
    Calls Try.prog 40 #[.string s, .string p, .int .i64 k] w fun e w' => e = .returned (.bool (beginsL s.data.toList p.data.toList k)) ∧ w = w' := by
  have hl := Lib.hid (sz_len s)
  have hq := Lib.hid (sz_len p)
  by_cases hk : k ≤ s.size ∧ (p.size : Int) ≤ (s.size : Int) - k
  · obtain ⟨hk, hk2⟩ := hk
    have he : ((s.extract k (k + p.size)).toList == p.toList) = beginsL s.data.toList p.data.toList k := by
      rw [Bool.eq_iff_iff, beq_str, ext_take _ _ _ (by omega)]
      unfold beginsL
      have := hl.out
      rw [decide_eq_true (by omega : k ≤ s.data.toList.length), Bool.true_and, decide_eq_true_iff, hq.out]
    generalize beginsL s.data.toList p.data.toList k = v at *
    go_enter Try.func40, Try.ntmps40
    go_wp2
    go_ret
    exact ⟨rfl, rfl⟩
  · have HE : Hid (beginsL s.data.toList p.data.toList k = false) := by
      show _ = _
      unfold beginsL
      have h1 := hl.out
      have h2 := hq.out
      by_cases h3 : k ≤ s.size
      · rw [decide_eq_false (p := List.take _ _ = _), Bool.and_false]
        intro h
        have := congrArg List.length h
        rw [List.length_take, List.length_drop] at this
        omega
      · rw [decide_eq_false (by omega : ¬ k ≤ s.data.toList.length), Bool.false_and]
    by_cases h3 : k ≤ s.size
    · have h4 : ¬ ((p.size : Int) ≤ (s.size : Int) - k) := fun h => hk ⟨h3, h⟩
      clear hk
      go_enter Try.func40, Try.ntmps40
      go_wp2
      go_ret
      exact ⟨by rw [HE.out]; rfl, rfl⟩
    · clear hk
      go_enter Try.func40, Try.ntmps40
      go_wp2
      go_ret
      exact ⟨by rw [HE.out]; rfl, rfl⟩
end Go.Proofs.Ytlogjghbdnaedaa
