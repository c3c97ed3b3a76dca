/- Walks: the reference's outside and next, whole. -/
import Derived.Test.YtmfldffbafamnaaRfF
import Derived.Test.YtmfldffbafamnaaRfG
import Derived.Test.YtmfldffbafamnaaRfH
import Derived.Test.YtmfldffbafamnaaRfIsq0
import Derived.Test.YtmfldffbafamnaaRfIsq1
import Derived.Test.YtmfldffbafamnaaRfIsq2
import Derived.Test.YtmfldffbafamnaaRfIbr0
import Derived.Test.YtmfldffbafamnaaRfIbr1
import Derived.Test.YtmfldffbafamnaaRfIbr2
import Derived.Test.YtmfldffbafamnaaRfK
namespace Go.Proofs.Ytmfldffbafamnaa
open Go.RowKit
set_option linter.unusedVariables false
set_option linter.unusedSimpArgs false
theorem rout_any (o : List UInt8) (m n : Nat) (p : List UInt8) (c : UInt8) (w : World) (ho : o.length ≤ 1000) (hm10 : m < 10) :
    Calls Try.prog 45 #[.agg #[.string (strOf o), .int .i64 m, .int .u8 n, .string (strOf p)], .int .u8 c.toNat] w fun x w' => x = .returned (rr (outR ⟨o, m, n, p⟩ c)) ∧ Below w.heap.size w w' := by
  by_cases h1 : c.toNat = 32 ∨ c.toNat = 9 ∨ c.toNat = 10 ∨ c.toNat = 13
  · exact rout_blank o m n p c w ho hm10 h1
  by_cases h2 : c.toNat = 93
  · cases hi : ((inB o : Int) == 91)
    · exact rout_sq0 o m n p c w ho hm10 h2 (Lib.hid hi)
    · cases h : ((m : Int) == 1)
      · exact rout_sq1 o m n p c w ho hm10 h2 (Lib.hid hi) (Lib.hid h)
      · exact rout_sq2 o m n p c w ho hm10 h2 (Lib.hid hi) (Lib.hid h)
  by_cases h3 : c.toNat = 125
  · cases hi : ((inB o : Int) == 123)
    · exact rout_br0 o m n p c w ho hm10 h3 (Lib.hid hi)
    · cases h : ((m : Int) == 2)
      · exact rout_br1 o m n p c w ho hm10 h3 (Lib.hid hi) (Lib.hid h)
      · exact rout_br2 o m n p c w ho hm10 h3 (Lib.hid hi) (Lib.hid h)
  by_cases h4 : c.toNat = 44
  · exact rout_comma o m n p c w ho hm10 h4
  by_cases h5 : c.toNat = 58
  · exact rout_colon o m n p c w ho hm10 h5
  by_cases h6 : c.toNat = 91
  · exact rout_open91 o m n p c w ho hm10 h6
  by_cases h7 : c.toNat = 123
  · exact rout_open123 o m n p c w ho hm10 h7
  by_cases h8 : c.toNat = 34 ∧ (m = 2 ∨ m = 3)
  · exact rout_name o m n p c w ho hm10 h8.1 h8.2
  by_cases h9 : ¬ (m = 0 ∨ m = 1) ∨ 32 ≤ o.length
  · exact rout_not o m n p c w ho hm10 ⟨by omega, by omega, by omega, by omega, by omega, by omega, by omega, by omega, by omega, by omega⟩ h8 h9
  have hv : m = 0 ∨ m = 1 := by omega
  have h32 : o.length < 32 := by omega
  by_cases h10 : c.toNat = 34
  · exact rout_str o m n p c w ho hm10 h10 hv h32
  by_cases h11 : c.toNat = 45
  · exact rout_minus o m n p c w ho hm10 h11 hv h32
  cases h12 : digB c.toNat
  · exact rout_word o m n p c w ho hm10 ⟨by omega, by omega, by omega, by omega, by omega, by omega, by omega, by omega, by omega, by omega⟩ h10 h11 h12 hv h32
  · exact rout_digit o m n p c w ho hm10 h12 hv h32
theorem rnext_any (r : RD) (c : UInt8) (w : World) (ho : r.o.length ≤ 1000) (hp : r.p.length ≤ 1000) (hm10 : r.m < 10) (hn256 : r.n < 256) :
    Calls Try.prog 25 #[r.v, .int .u8 c.toNat] w fun x w' => x = .returned (rr (nextR r c)) ∧ Below w.heap.size w w' := by
  obtain ⟨o, m, n, p⟩ := r
  dsimp only at ho hp hm10 hn256
  by_cases h1 : n = 115
  · by_cases hh : p ≠ [] ∨ c.toNat = 92
    · cases hw : (escR (p ++ [c])).2
      · exact rnext_esc_false115 o m n p c w ho hp hm10 h1 hh hw
      · exact rnext_esc_true115 o m n p c w ho hp hm10 h1 hh hw
    have hpe : p = [] := by
      by_cases e : p = []
      · exact e
      · exact absurd (Or.inl e) hh
    by_cases h34 : c.toNat = 34
    · exact rnext_quote115 o m n p c w ho hp hm10 h1 hpe h34
    · exact rnext_plain115 o m n p c w ho hp hm10 h1 hpe (fun e => hh (Or.inr e)) h34
  by_cases h2 : n = 107
  · by_cases hh : p ≠ [] ∨ c.toNat = 92
    · cases hw : (escR (p ++ [c])).2
      · exact rnext_esc_false107 o m n p c w ho hp hm10 h2 hh hw
      · exact rnext_esc_true107 o m n p c w ho hp hm10 h2 hh hw
    have hpe : p = [] := by
      by_cases e : p = []
      · exact e
      · exact absurd (Or.inl e) hh
    by_cases h34 : c.toNat = 34
    · exact rnext_quote107 o m n p c w ho hp hm10 h2 hpe h34
    · exact rnext_plain107 o m n p c w ho hp hm10 h2 hpe (fun e => hh (Or.inr e)) h34
  by_cases h3 : n = 119
  · cases hw : (wordS (p ++ [c])).2
    · exact rnext_word_false o m n p c w ho hp hm10 h3 hw
    · exact rnext_word_true o m n p c w ho hp hm10 h3 hw
  by_cases h4 : n = 110
  · cases hy : (numR (p ++ [c])).1
    · cases hv : (numR p).2
      · exact rnext_num_no o m n p c w ho hp hm10 h4 hy hv
      · exact rnext_num_out o m n p c w ho hp hm10 h4 hy hv (fun w => rout_any o 5 0 [] c w ho (by omega))
    · exact rnext_num_yes o m n p c w ho hp hm10 h4 hy
  · exact rnext_else o m n p c w ho hp hm10 ⟨by omega, h3, h4⟩ hn256 (fun w => rout_any o m n p c w ho hm10)
end Go.Proofs.Ytmfldffbafamnaa
