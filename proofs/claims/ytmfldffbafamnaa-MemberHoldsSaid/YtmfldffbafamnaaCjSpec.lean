/- Plain: where in a JSON text, as the package has it. -/
import Derived.Test.YtmfldffbafamnaaMem
import Derived.Test.YtmfldffbafamnaaUtfSpec
import Derived.Test.YtmfldffbafamnaaUtfG
namespace Go.Proofs.Ytmfldffbafamnaa
set_option linter.unusedVariables false
theorem strOf_toList (l : List UInt8) : (strOf l).toList = l := by rw [ByteArray.toList_eq, strOf_list]
theorem strOf_byte (l : List UInt8) (i : Nat) (h : i < (strOf l).size) : ((strOf l)[i]).toNat = bt l i := by
  rw [strOf_size] at h
  rw [← bt_get h]; rfl
theorem strOf_extract (l : List UInt8) (a b : Nat) : (strOf l).extract a b = strOf ((l.drop a).take (b - a)) := by
  rw [← strOf_data ((strOf l).extract a b)]
  congr 1
  rw [ByteArray.data_extract, Array.toList_extract, strOf_list]
/-- The bracket that was opened last. -/
def inB (o : List UInt8) : Nat := if o = [] then 0 else bt o (o.length - 1)
def digit (c : Nat) : Prop := 48 ≤ c ∧ c ≤ 57
instance (c : Nat) : Decidable (digit c) := by unfold digit; infer_instance
def hexP (c : Nat) : Prop := digit c ∨ (65 ≤ c ∧ c ≤ 70) ∨ (97 ≤ c ∧ c ≤ 102)
instance (c : Nat) : Decidable (hexP c) := by unfold hexP; infer_instance
end Go.Proofs.Ytmfldffbafamnaa
