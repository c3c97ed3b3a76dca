/- Walks: begin, whole. -/
import Derived.Test.YtmfldffbafamnaaCjK
namespace Go.Proofs.Ytmfldffbafamnaa
open Go.RowKit
theorem begin_any (q : Q) (c : UInt8) (w : World) (hq : q.fit) :
    Calls Try.prog 59 #[q.v, .int .u8 c.toNat] w fun x w' => x = .returned (qr (beginS q c)) ∧ Below w.heap.size w w' := by
  obtain ⟨m, o, p⟩ := q
  obtain ⟨h1, h2, h3⟩ := hq
  dsimp only at h1 h2 h3
  by_cases h : ¬ (m = 0 ∨ m = 1) ∨ 32 ≤ o.length
  · exact begin_not m o p c w h1 h2 h
  · have hm : m = 0 ∨ m = 1 := by omega
    have ho : o.length < 32 := by omega
    by_cases a1 : c.toNat = 91
    · exact begin_sq m o p c w hm ho a1
    by_cases a2 : c.toNat = 123
    · exact begin_br m o p c w hm ho a2
    by_cases a3 : c.toNat = 34
    · exact begin_qu m o p c w hm ho a3
    by_cases a4 : c.toNat = 45
    · exact begin_mi m o p c w hm ho a4
    by_cases a5 : digit c.toNat
    · exact begin_digit m o p c w hm ho a5
    · exact begin_word m o p c w hm ho a1 a2 a3 a4 a5
end Go.Proofs.Ytmfldffbafamnaa
