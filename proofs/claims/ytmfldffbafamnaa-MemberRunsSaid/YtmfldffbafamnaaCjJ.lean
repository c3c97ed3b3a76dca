/- Walks: the first byte of a value, taken. -/
import Derived.Test.YtmfldffbafamnaaCjI
namespace Go.Proofs.Ytmfldffbafamnaa
open Go.RowKit
set_option linter.unusedVariables false
set_option linter.unusedSimpArgs false
theorem beginS_yes {m : Nat} {o p : List UInt8} {c : UInt8} (h1 : m = 0 ∨ m = 1) (h2 : o.length < 32) : beginS ⟨m, o, p⟩ c =
    (if c.toNat = 91 then (⟨1, o ++ [91], []⟩, true)
    else if c.toNat = 123 then (⟨2, o ++ [123], []⟩, true)
    else if c.toNat = 34 then (⟨6, o, []⟩, true)
    else if c.toNat = 45 then (⟨9, o, [45]⟩, true)
    else if digit c.toNat then (⟨9, o, (numS [] c.toNat).1⟩, (numS [] c.toNat).2)
    else (⟨8, o, [c]⟩, (wordS [c]).1)) := by
  unfold beginS; rw [if_neg (by dsimp only; omega)]
set_option maxRecDepth 100000 in
theorem begin_sq (m : Nat) (o p : List UInt8) (c : UInt8) (w : World) (hm : m = 0 ∨ m = 1) (ho : o.length < 32) (hh : c.toNat = 91) :
    Calls Try.prog 59 #[sv m o p, .int .u8 c.toNat] w fun x w' => x = .returned (qr (beginS ⟨m, o, p⟩ c)) ∧ Below w.heap.size w w' := by
  have K : Hid (beginS ⟨m, o, p⟩ c = (⟨1, o ++ [91], []⟩, true)) := by show _ = _; rw [beginS_yes hm ho, hh]; rfl
  have hz := strOf_size o
  rw [hh]
  have hA : Hid (strOf o ++ ⟨#[91]⟩ = strOf (o ++ [91])) := strOf_append o [91]
  clear hh
  unfold sv
  rcases hm with rfl | rfl
  all_goals
    go_enter Try.func59, Try.ntmps59
    go_wp2_with fail
    refine bodyPost_ret (v := .tuple #[.agg #[.int .i64 1, .string (strOf o ++ ⟨#[91]⟩), .string (strOf [])], .bool true]) (by simp [results, Try.f59, go_sem]; try rfl) rfl ⟨by rw [K.out]; show _ = Ending.returned (.tuple #[.agg #[_, .string (strOf (o ++ [91])), _], _]); rw [← hA.out]; rfl, ?_⟩
    go_grown
set_option maxRecDepth 100000 in
theorem begin_br (m : Nat) (o p : List UInt8) (c : UInt8) (w : World) (hm : m = 0 ∨ m = 1) (ho : o.length < 32) (hh : c.toNat = 123) :
    Calls Try.prog 59 #[sv m o p, .int .u8 c.toNat] w fun x w' => x = .returned (qr (beginS ⟨m, o, p⟩ c)) ∧ Below w.heap.size w w' := by
  have K : Hid (beginS ⟨m, o, p⟩ c = (⟨2, o ++ [123], []⟩, true)) := by show _ = _; rw [beginS_yes hm ho, hh]; rfl
  have hz := strOf_size o
  rw [hh]
  have hA : Hid (strOf o ++ ⟨#[123]⟩ = strOf (o ++ [123])) := strOf_append o [123]
  clear hh
  unfold sv
  rcases hm with rfl | rfl
  all_goals
    go_enter Try.func59, Try.ntmps59
    go_wp2_with fail
    refine bodyPost_ret (v := .tuple #[.agg #[.int .i64 2, .string (strOf o ++ ⟨#[123]⟩), .string (strOf [])], .bool true]) (by simp [results, Try.f59, go_sem]; try rfl) rfl ⟨by rw [K.out]; show _ = Ending.returned (.tuple #[.agg #[_, .string (strOf (o ++ [123])), _], _]); rw [← hA.out]; rfl, ?_⟩
    go_grown
set_option maxRecDepth 100000 in
theorem begin_qu (m : Nat) (o p : List UInt8) (c : UInt8) (w : World) (hm : m = 0 ∨ m = 1) (ho : o.length < 32) (hh : c.toNat = 34) :
    Calls Try.prog 59 #[sv m o p, .int .u8 c.toNat] w fun x w' => x = .returned (qr (beginS ⟨m, o, p⟩ c)) ∧ Below w.heap.size w w' := by
  have K : Hid (beginS ⟨m, o, p⟩ c = (⟨6, o, []⟩, true)) := by show _ = _; rw [beginS_yes hm ho, hh]; rfl
  have hz := strOf_size o
  rw [hh]
  clear hh
  unfold sv
  rcases hm with rfl | rfl
  all_goals
    go_enter Try.func59, Try.ntmps59
    go_wp2_with fail
    refine bodyPost_ret (v := .tuple #[.agg #[.int .i64 6, .string (strOf o), .string (strOf [])], .bool true]) (by simp [results, Try.f59, go_sem]; try rfl) rfl ⟨by rw [K.out]; rfl, ?_⟩
    go_grown
set_option maxRecDepth 100000 in
theorem begin_mi (m : Nat) (o p : List UInt8) (c : UInt8) (w : World) (hm : m = 0 ∨ m = 1) (ho : o.length < 32) (hh : c.toNat = 45) :
    Calls Try.prog 59 #[sv m o p, .int .u8 c.toNat] w fun x w' => x = .returned (qr (beginS ⟨m, o, p⟩ c)) ∧ Below w.heap.size w w' := by
  have K : Hid (beginS ⟨m, o, p⟩ c = (⟨9, o, [45]⟩, true)) := by show _ = _; rw [beginS_yes hm ho, hh]; rfl
  have hz := strOf_size o
  rw [hh]
  clear hh
  unfold sv
  rcases hm with rfl | rfl
  all_goals
    go_enter Try.func59, Try.ntmps59
    go_wp2_with fail
    refine bodyPost_ret (v := .tuple #[.agg #[.int .i64 9, .string (strOf o), .string (strOf [45])], .bool true]) (by simp [results, Try.f59, go_sem]; try rfl) rfl ⟨by rw [K.out]; rfl, ?_⟩
    go_grown
end Go.Proofs.Ytmfldffbafamnaa
