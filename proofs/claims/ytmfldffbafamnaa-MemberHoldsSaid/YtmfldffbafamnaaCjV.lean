/- Walks: a byte that stands in no token. -/
import Derived.Test.YtmfldffbafamnaaCjW
namespace Go.Proofs.Ytmfldffbafamnaa
open Go.RowKit
set_option linter.unusedVariables false
set_option linter.unusedSimpArgs false
def outS (q : Q) (c : UInt8) : Q × Bool :=
  if c.toNat = 32 ∨ c.toNat = 9 ∨ c.toNat = 10 ∨ c.toNat = 13 then (q, true)
  else if c.toNat = 93 then closeS q 91 1
  else if c.toNat = 125 then closeS q 123 2
  else if c.toNat = 44 then (⟨if inB q.o = 123 then 3 else 0, q.o, []⟩, q.m == 5 && !q.o.isEmpty)
  else if c.toNat = 58 then (⟨0, q.o, []⟩, (q.m : Int) == 4)
  else if c.toNat = 34 ∧ (q.m = 2 ∨ q.m = 3) then (⟨7, q.o, []⟩, decide (q.o.length < 32))
  else beginS q c
set_option maxRecDepth 100000 in
theorem out_blank (m : Nat) (o p : List UInt8) (c : UInt8) (w : World) (hh : c.toNat = 32 ∨ c.toNat = 9 ∨ c.toNat = 10 ∨ c.toNat = 13) :
    Calls Try.prog 41 #[sv m o p, .int .u8 c.toNat] w fun x w' => x = .returned (qr (outS ⟨m, o, p⟩ c)) ∧ Below w.heap.size w w' := by
  have K : Hid (outS ⟨m, o, p⟩ c = (⟨m, o, p⟩, true)) := by show _ = _; unfold outS; rw [if_pos hh]
  unfold sv
  rcases hh with hh | hh | hh | hh
  all_goals
    rw [hh]
    clear hh
    go_enter Try.func41, Try.ntmps41
    go_wp2_with fail
    refine bodyPost_ret (v := .tuple #[.agg #[.int .i64 m, .string (strOf o), .string (strOf p)], .bool true]) (by simp [results, Try.f41, go_sem]; try rfl) rfl ⟨by rw [K.out]; rfl, ?_⟩
    go_grown
set_option maxRecDepth 100000 in
theorem out_sq (m : Nat) (o p : List UInt8) (c : UInt8) (w : World) (hq : Q.fit ⟨m, o, p⟩) (hh : c.toNat = 93) :
    Calls Try.prog 41 #[sv m o p, .int .u8 c.toNat] w fun x w' => x = .returned (qr (outS ⟨m, o, p⟩ c)) ∧ Below w.heap.size w w' := by
  have K : Hid (outS ⟨m, o, p⟩ c = closeS ⟨m, o, p⟩ 91 1) := by show _ = _; unfold outS; simp [hh]
  have HC := Lib.hid (fun w => closed_any ⟨m, o, p⟩ 91 1 w hq (by decide) (by decide))
  generalize closeS ⟨m, o, p⟩ 91 1 = r at *
  obtain ⟨⟨x1, x2, x3⟩, y⟩ := r
  have HB := Lib.hid (boxes_new w m o p)
  unfold qr Q.v sv at HC
  unfold sv
  rw [hh]
  clear hh
  go_enter Try.func41, Try.ntmps41
  go_wp2_with fail
  refine (HC.out _).mono ?_
  rintro x w2 ⟨rfl, b2⟩
  obtain ⟨hA, hR, hb⟩ := HB.out
  have HR2 := Lib.hid (hR.below' b2)
  have hb2 := hb.trans (b2.mono hb.size)
  obtain ⟨c0, c1, c2, g0, g1, g2⟩ := (hR.below' b2).facts
  clear hA hR hb b2
  go_wp2_with fail
  obtain ⟨s0, s1, s2, _, _, _⟩ := (HR2.out.put ⟨x1, x2, x3⟩).facts
  refine bodyPost_ret (v := .tuple #[.agg #[.int .i64 x1, .string (strOf x2), .string (strOf x3)], .bool y]) (by simp [results, Try.f41, go_sem, s0, s1, s2]) rfl ⟨by rw [K.out]; rfl, ?_⟩
  exact below_put hb2 (by simp) _ _ _
set_option maxRecDepth 100000 in
theorem out_br (m : Nat) (o p : List UInt8) (c : UInt8) (w : World) (hq : Q.fit ⟨m, o, p⟩) (hh : c.toNat = 125) :
    Calls Try.prog 41 #[sv m o p, .int .u8 c.toNat] w fun x w' => x = .returned (qr (outS ⟨m, o, p⟩ c)) ∧ Below w.heap.size w w' := by
  have K : Hid (outS ⟨m, o, p⟩ c = closeS ⟨m, o, p⟩ 123 2) := by show _ = _; unfold outS; simp [hh]
  have HC := Lib.hid (fun w => closed_any ⟨m, o, p⟩ 123 2 w hq (by decide) (by decide))
  generalize closeS ⟨m, o, p⟩ 123 2 = r at *
  obtain ⟨⟨x1, x2, x3⟩, y⟩ := r
  have HB := Lib.hid (boxes_new w m o p)
  unfold qr Q.v sv at HC
  unfold sv
  rw [hh]
  clear hh
  go_enter Try.func41, Try.ntmps41
  go_wp2_with fail
  refine (HC.out _).mono ?_
  rintro x w2 ⟨rfl, b2⟩
  obtain ⟨hA, hR, hb⟩ := HB.out
  have HR2 := Lib.hid (hR.below' b2)
  have hb2 := hb.trans (b2.mono hb.size)
  obtain ⟨c0, c1, c2, g0, g1, g2⟩ := (hR.below' b2).facts
  clear hA hR hb b2
  go_wp2_with fail
  obtain ⟨s0, s1, s2, _, _, _⟩ := (HR2.out.put ⟨x1, x2, x3⟩).facts
  refine bodyPost_ret (v := .tuple #[.agg #[.int .i64 x1, .string (strOf x2), .string (strOf x3)], .bool y]) (by simp [results, Try.f41, go_sem, s0, s1, s2]) rfl ⟨by rw [K.out]; rfl, ?_⟩
  exact below_put hb2 (by simp) _ _ _
end Go.Proofs.Ytmfldffbafamnaa

/- Walks: a colon. -/
namespace Go.Proofs.Ytmfldffbafamnaa
open Go.RowKit
set_option linter.unusedVariables false
set_option linter.unusedSimpArgs false
set_option maxRecDepth 100000 in
theorem out_colon (m : Nat) (o p : List UInt8) (c : UInt8) (w : World) (hq : Q.fit ⟨m, o, p⟩) (hh : c.toNat = 58) :
    Calls Try.prog 41 #[sv m o p, .int .u8 c.toNat] w fun x w' => x = .returned (qr (outS ⟨m, o, p⟩ c)) ∧ Below w.heap.size w w' := by
  have K : Hid (outS ⟨m, o, p⟩ c = (⟨0, o, []⟩, (m : Int) == 4)) := by show _ = _; unfold outS; simp [hh]
  have HB := Lib.hid (boxes_new w m o p)
  unfold sv
  rw [hh]
  clear hh
  go_enter Try.func41, Try.ntmps41
  go_wp2_with fail
  go_region_held3 (fun w' => w'.cell? ⟨w.heap.size, 0, none⟩ = some (.int .i64 m) ∧ w'.cell? ⟨w.heap.size, 1, none⟩ = some (.string (strOf o))) (go_keep) (fail)
  go_wp2_with fail
  refine bodyPost_ret (v := .tuple #[.agg #[.int .i64 0, .string (strOf o), .string (strOf [])], .bool ((m : Int) == 4)]) (by simp [results, Try.f41, go_sem]; try rfl) rfl ⟨by rw [K.out]; rfl, ?_⟩
  go_grown
end Go.Proofs.Ytmfldffbafamnaa
