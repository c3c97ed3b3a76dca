/- Walks: where in a JSON text; the small ones. -/
import Derived.Test.YtmfldffbafamnaaMem
import Derived.Test.YtmfldffbafamnaaCjSpec
namespace Go.Proofs.Ytmfldffbafamnaa
open Go.RowKit
set_option linter.unusedVariables false
set_option linter.unusedSimpArgs false
def sv (m : Nat) (o p : List UInt8) : Value := .agg #[.int .i64 m, .string (strOf o), .string (strOf p)]
def fl (v : Value) (b : Bool) : Value := .tuple #[v, .bool b]
theorem done_any (m : Nat) (o p : List UInt8) (w : World) :
    Calls Try.prog 39 #[sv m o p] w fun e w' => e = .returned (sv 5 o []) ∧ Below w.heap.size w w' := by
  unfold sv
  go_enter Try.func39, Try.ntmps39
  go_wp2
  exact bodyPost_ret (v := .agg #[.int .i64 5, .string (strOf o), .string ⟨#[]⟩]) (by simp [results, Try.f39, go_sem]) rfl ⟨rfl, ((Below.refl _ _).alloc (Nat.le_refl _) _).alloc (by simp) _⟩
theorem inside_any (m : Nat) (o p : List UInt8) (w : World) (hs : o.length ≤ 60000) :
    Calls Try.prog 58 #[sv m o p] w fun e w' => e = .returned (.int .u8 (inB o)) ∧ Below w.heap.size w w' := by
  unfold sv
  by_cases h : o = []
  · subst h
    go_enter Try.func58, Try.ntmps58
    have ht : (strOf []).toList.isEmpty = true := by rw [strOf_toList]; rfl
    go_wp2
    go_ret
    exact ⟨rfl, (Below.refl _ _).alloc (Nat.le_refl _) _⟩
  · have hl : 0 < o.length := List.length_pos_iff.2 h
    have hz := strOf_size o
    have hb := strOf_byte o (o.length - 1) (by omega)
    have hB : Hid (inB o = bt o (o.length - 1)) := by show _ = _; unfold inB; rw [if_neg h]
    have ht : (strOf o).toList.isEmpty = false := by rw [strOf_toList]; simpa using h
    clear h
    go_enter Try.func58, Try.ntmps58
    go_wp2
    go_ret
    exact ⟨by rw [hB.out]; rfl, (Below.refl _ _).alloc (Nat.le_refl _) _⟩
end Go.Proofs.Ytmfldffbafamnaa
