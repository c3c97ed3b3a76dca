/- Walks: quoted, whole; the first byte of a value. -/
import Derived.Test.YtmfldffbafamnaaCjH
namespace Go.Proofs.Ytmfldffbafamnaa
open Go.RowKit
set_option linter.unusedVariables false
set_option linter.unusedSimpArgs false
theorem quoted_any (q : Q) (c : UInt8) (w : World) (hq : q.fit) :
    Calls Try.prog 37 #[q.v, .int .u8 c.toNat] w fun x w' => x = .returned (qr (quoteS q c)) ∧ Below w.heap.size w w' := by
  obtain ⟨m, o, p⟩ := q
  obtain ⟨h1, h2, h3⟩ := hq
  dsimp only at h1 h2 h3
  by_cases h : p ≠ [] ∨ c.toNat = 92
  · exact quoted_esc m o p c w h1 h3 h
  · have hp : p = [] := by
      by_cases e : p = []
      · exact e
      · exact absurd (Or.inl e) h
    subst hp
    exact quoted_plain m o c w h1 (fun e => h (Or.inr e))
def beginS (q : Q) (c : UInt8) : Q × Bool :=
  if ¬ (q.m = 0 ∨ q.m = 1) ∨ 32 ≤ q.o.length then (q, false)
  else if c.toNat = 91 then (⟨1, q.o ++ [91], []⟩, true)
  else if c.toNat = 123 then (⟨2, q.o ++ [123], []⟩, true)
  else if c.toNat = 34 then (⟨6, q.o, []⟩, true)
  else if c.toNat = 45 then (⟨9, q.o, [45]⟩, true)
  else if digit c.toNat then (⟨9, q.o, (numS [] c.toNat).1⟩, (numS [] c.toNat).2)
  else (⟨8, q.o, [c]⟩, (wordS [c]).1)
set_option maxRecDepth 100000 in
theorem begin_not (m : Nat) (o p : List UInt8) (c : UInt8) (w : World) (hm : m < 10) (ho : o.length ≤ 1000) (hh : ¬ (m = 0 ∨ m = 1) ∨ 32 ≤ o.length) :
    Calls Try.prog 59 #[sv m o p, .int .u8 c.toNat] w fun x w' => x = .returned (qr (beginS ⟨m, o, p⟩ c)) ∧ Below w.heap.size w w' := by
  have K : Hid (beginS ⟨m, o, p⟩ c = (⟨m, o, p⟩, false)) := by show _ = _; unfold beginS; rw [if_pos hh]
  have hc := UInt8.toNat_lt c
  have hz := strOf_size o
  unfold sv
  have hcase : (((m : Int) != 0) = true ∧ ((m : Int) != 1) = true) ∨ (((m : Int) != 0) = true ∧ ((m : Int) != 1) = false ∧ 32 ≤ o.length) ∨ (((m : Int) != 0) = false ∧ 32 ≤ o.length) := by
    by_cases h0 : m = 0
    · right; right; subst h0; exact ⟨rfl, by omega⟩
    · by_cases h1 : m = 1
      · right; left; subst h1; exact ⟨rfl, rfl, by omega⟩
      · left; exact ⟨by simp only [bne_iff_ne, ne_eq]; omega, by simp only [bne_iff_ne, ne_eq]; omega⟩
  clear hh
  rcases hcase with ⟨h1, h2⟩ | ⟨h1, h2, h3⟩ | ⟨h1, h3⟩
  all_goals
    go_enter Try.func59, Try.ntmps59
    go_wp2_with fail
    refine bodyPost_ret (v := .tuple #[.agg #[.int .i64 m, .string (strOf o), .string (strOf p)], .bool false]) (by simp [results, Try.f59, go_sem]; try rfl) rfl ⟨by rw [K.out]; rfl, ?_⟩
    go_grown
end Go.Proofs.Ytmfldffbafamnaa
