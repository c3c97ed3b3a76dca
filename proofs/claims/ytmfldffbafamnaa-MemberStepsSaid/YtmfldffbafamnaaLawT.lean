/- The law MemberSteps, for any arguments. -/
import Derived.Test.YtmfldffbafamnaaLawS
namespace Go.Proofs.Ytmfldffbafamnaa
open Go.RowKit
theorem lawSteps (s : ByteArray) (a : Int) (w : World) (hs : s.size ≤ 9223372036854775807) (ha : 0 ≤ a ∧ a ≤ 255) :
    Calls Try.prog 3 #[.string s, .int .u8 a] w fun e w' => e = .returned (.bool true) ∧ Below w.heap.size w w' := by
  obtain ⟨k, rfl⟩ := Int.eq_ofNat_of_zero_le ha.1
  have h := law_steps s.data.toList (UInt8.ofNat k) w (by rw [Array.length_toList]; exact hs)
  rw [strOf_data] at h
  have e : (UInt8.ofNat k).toNat = k := by simp; omega
  rwa [e] at h
end Go.Proofs.Ytmfldffbafamnaa
