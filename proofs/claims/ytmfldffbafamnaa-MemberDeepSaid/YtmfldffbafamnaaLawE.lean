/- The law MemberDeep, for any arguments. -/
import Derived.Test.YtmfldffbafamnaaLawD
namespace Go.Proofs.Ytmfldffbafamnaa
open Go.RowKit
theorem lawDeep (a how : Int) (leaf : Bool) (w : World) (ha : 0 ≤ a ∧ a ≤ 255) (hh : 0 ≤ how ∧ how ≤ 18446744073709551615) :
    Calls Try.prog 7 #[.int .u8 a, .int .u64 how, .bool leaf] w fun e w' => e = .returned (.bool true) ∧ Below w.heap.size w w' := by
  obtain ⟨N, rfl⟩ := Int.eq_ofNat_of_zero_le ha.1
  exact law_deep N how leaf w (by omega) hh
end Go.Proofs.Ytmfldffbafamnaa
