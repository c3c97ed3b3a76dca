/- Walks: a colon. -/
import Derived.Test.YtmfldffbafamnaaCjM
namespace Go.Proofs.Ytmfldffbafamnaa
open Go.RowKit
set_option linter.unusedVariables false
set_option linter.unusedSimpArgs false
set_option maxRecDepth 100000 in
theorem out_colon (m : Nat) (o p : List UInt8) (c : UInt8) (w : World) (hq : Q.fit ⟨m, o, p⟩) (hh : c.toNat = 58) :
    Calls Try.prog 41 #[sv m o p, .int .u8 c.toNat] w fun x w' => x = .returned (qr (outS ⟨m, o, p⟩ c)) ∧ Below w.heap.size w w' := by
  have K : Hid (outS ⟨m, o, p⟩ c = (⟨0, o, []⟩, (m : Int) == 4)) := by show _ = _; unfold outS; simp [hh]
  have HB := Lib.hid (boxes_new w m o p)
  unfold sv
  rw [hh]
  clear hh
  go_enter Try.func41, Try.ntmps41
  go_wp2_with fail
  go_region_held3 (fun w' => w'.cell? ⟨w.heap.size, 0, none⟩ = some (.int .i64 m) ∧ w'.cell? ⟨w.heap.size, 1, none⟩ = some (.string (strOf o))) (go_keep) (fail)
  go_wp2_with fail
  refine bodyPost_ret (v := .tuple #[.agg #[.int .i64 0, .string (strOf o), .string (strOf [])], .bool ((m : Int) == 4)]) (by simp [results, Try.f41, go_sem]; try rfl) rfl ⟨by rw [K.out]; rfl, ?_⟩
  go_grown
end Go.Proofs.Ytmfldffbafamnaa
