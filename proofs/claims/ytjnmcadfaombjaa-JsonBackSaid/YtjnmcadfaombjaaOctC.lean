/- Walks: a byte's two digits (both layers). -/
import Derived.Test.YtjnmcadfaombjaaOctB
import Derived.RegionTactic
namespace Go.Proofs.Ytjnmcadfaombjaa
open Go.RowKit
set_option linter.unusedVariables false
set_option linter.unusedSimpArgs false
def hexS : ByteArray := ⟨#[48, 49, 50, 51, 52, 53, 54, 55, 56, 57, 65, 66, 67, 68, 69, 70]⟩
theorem hex_get (x : Nat) (h : x < hexS.size) : (hexS[x]).toNat = hexd x := by
  have : ∀ x : Fin 16, (hexS[x.val]'(x.2)).toNat = hexd x.val := by decide +kernel
  exact this ⟨x, h⟩
theorem conv_2d (w : World) (a b : Int) : (convert 80 9 (.slice (some ⟨w.heap.size, 0, none⟩) 2 2)).run Try.prog (w.alloc (.cells #[.int .u8 a, .int .u8 b] 5)).drew =
      .ok (.string (strOfNums [a, b])) (w.alloc (.cells #[.int .u8 a, .int .u8 b] 5)).drew :=
  run_convert_bytes_arg _ 80 5 Try.underlying80 Try.underlying5 w.heap.size 0 2 2 [a, b] rfl (fun i hi => by
    have hb : (w.alloc (.cells #[.int .u8 a, .int .u8 b] 5)).drew.heap[w.heap.size]? = some (.cells #[.int .u8 a, .int .u8 b] 5 (0, 0)) := heap_alloc_new w _
    rw [cell_of_row _ _ _ _ _ _ hb]
    have : i = 0 ∨ i = 1 := by omega
    rcases this with rfl | rfl <;> rfl) 9 Try.underlying9
theorem pair_nums (c : Nat) (hc : c < 256) (a b : Int) (ha : a = (hexd (c / 16) : Nat)) (hb : b = (hexd (c % 16) : Nat)) : strOfNums [a, b] = strOf (pairL c) := by
  subst ha hb
  rfl
theorem ext_one (s : ByteArray) (x : Nat) (h : x < s.size) : s.extract x (x + 1) = strOf [s[x]] := by
  rw [← strOf_data (s.extract x (x + 1))]
  congr 1
  have hl : x < s.data.toList.length := by rw [← sz_len]; exact h
  rw [ext_take _ _ _ (by omega), List.drop_eq_getElem_cons hl]
  rfl
theorem rpair_any (c : Nat) (w : World) (hc : c < 256) :
    Calls Try.prog 81 #[.int .u8 c] w fun e w' => e = .returned (.string (strOf (pairL c))) ∧ ∃ n, w' = w.drewN n := by
  have e1 : 0 ≤ (c : Int) / 16 := by omega
  have e2 : (c : Int) / 16 < 16 := by omega
  have e3 : 0 ≤ (c : Int) % 16 := by omega
  have e4 : (c : Int) % 16 < 16 := by omega
  have e5 : (c : Int) / 16 + 1 ≤ 16 := by omega
  have e6 : (c : Int) % 16 + 1 ≤ 16 := by omega
  go_enter Try.func81, Try.ntmps81
  go_wp2_with fail
  go_quiet (fail)
  go_wp2_with fail
  go_ret
  refine ⟨congrArg (fun s => Ending.returned (.string s)) ?_, _, rfl⟩
  show hexS.extract (c / 16) (c / 16 + 1) ++ hexS.extract (c % 16) (c % 16 + 1) = _
  have h1 : c / 16 < hexS.size := by show _ < 16; omega
  have h2 : c % 16 < hexS.size := by show _ < 16; omega
  rw [ext_one _ _ h1, ext_one _ _ h2, strOf_append]
  unfold pairL
  rw [← hex_get _ h1, ← hex_get _ h2]
  simp
end Go.Proofs.Ytjnmcadfaombjaa
