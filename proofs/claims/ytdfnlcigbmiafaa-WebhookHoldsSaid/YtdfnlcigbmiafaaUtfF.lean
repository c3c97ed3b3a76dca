/- Walks: the reference's Is, Front and Clean. -/
import Derived.Test.YtdfnlcigbmiafaaUtfE
import Derived.Test.YtdfnlcigbmiafaaUtfS
namespace Go.Proofs.Ytdfnlcigbmiafaa
open Go.RowKit
set_option linter.unusedVariables false
set_option linter.unusedSimpArgs false
theorem rnext_to (s : ByteArray) (k r n : Nat) (w : World) (hs : s.size ≤ 9223372036854775807) (hk : k < s.size) (h : next (s.data.toList.drop k) = (r, n)) :
    Calls Try.prog 54 #[.string s, .int .i64 k] w fun e w' => e = .returned (.tuple #[.int .i64 r, .int .i64 n]) ∧ Below w.heap.size w w' := by
  have := rnext_in s k w hs hk
  rw [h] at this; exact this
/-- What the next step at a place is. -/
theorem next_at {s : ByteArray} {k : Nat} (hk : k < s.size) : ∃ r n, next (s.data.toList.drop k) = (r, n) ∧ r ≤ 1114111 ∧ 1 ≤ n ∧ n ≤ 4 ∧ k + n ≤ s.size ∧ s.data.toList.drop k ≠ [] ∧ (s.data.toList.drop k).drop n = s.data.toList.drop (k + n) := by
  have hne : s.data.toList.drop k ≠ [] := drop_ne (by rw [← sz_len]; exact hk)
  obtain ⟨a, b, c, d⟩ := next_bound (s.data.toList.drop k)
  rw [List.length_drop, ← sz_len] at c
  have d' := d hne
  clear d
  generalize hp : next (s.data.toList.drop k) = p at *
  obtain ⟨r, n⟩ := p
  dsimp only at a b c d'
  exact ⟨r, n, rfl, a, d', b, by omega, hne, by rw [List.drop_drop]⟩
theorem drop_end {s : ByteArray} {k : Nat} (hk : s.size ≤ k) : s.data.toList.drop k = [] := List.drop_eq_nil_of_le (by rw [← sz_len]; exact hk)
theorem ext_eq (s : ByteArray) (a b : Nat) (h : b ≤ s.size) : strOf ((s.data.toList.drop a).take (b - a)) = s.extract a b := by
  rw [← strOf_data (s.extract a b)]
  congr 1
  rw [ByteArray.data_extract]
  simp [Array.toList_extract, List.extract_eq_take_drop]
theorem take_ext (s : ByteArray) (k : Nat) (h : k ≤ s.size) : strOf (s.data.toList.take k) = s.extract 0 k := by
  rw [← ext_eq s 0 k h]; simp
end Go.Proofs.Ytdfnlcigbmiafaa
