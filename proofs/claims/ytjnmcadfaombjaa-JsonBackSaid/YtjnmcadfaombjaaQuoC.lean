/- Walks: the program's letter, how, escape, One. -/
import Derived.Test.YtjnmcadfaombjaaQuoB
import Derived.Test.YtjnmcadfaombjaaUtfI
import Derived.Laws.RangeString
namespace Go.Proofs.Ytjnmcadfaombjaa
open Go.RowKit
set_option linter.unusedVariables false
set_option linter.unusedSimpArgs false
def howN (n : Nat) : Nat := if letN n ≠ 0 then 1 else if longN n then 2 else 0
def oneV (o : Option (Nat × Nat)) : Value := match o with | some p => .tuple #[.int .i32 p.1, .int .i64 p.2, .bool true] | none => .tuple #[.int .i32 0, .int .i64 0, .bool false]
theorem tL_letR {k : Nat} (h : k < 7) : letR (tL k) = tR k ∧ tR k ≠ 0 ∧ letN (tR k) = tL k ∧ tR k ≤ 92 := by
  rcases seven h with rfl | rfl | rfl | rfl | rfl | rfl | rfl <;> decide
theorem letR_none {c : Nat} (h47 : c ≠ 47) (h : ∀ k, k < 7 → tL k ≠ c) : letR c = 0 := by
  have h0 : 34 ≠ c := h 0 (by omega)
  have h1 : 92 ≠ c := h 1 (by omega)
  have h2 : 98 ≠ c := h 2 (by omega)
  have h3 : 102 ≠ c := h 3 (by omega)
  have h4 : 110 ≠ c := h 4 (by omega)
  have h5 : 114 ≠ c := h 5 (by omega)
  have h6 : 116 ≠ c := h 6 (by omega)
  unfold letR
  rw [if_neg (by omega), if_neg (by omega), if_neg (by omega), if_neg (by omega), if_neg (by omega), if_neg (by omega)]
def shortR : ByteArray := ⟨#[34, 92, 8, 12, 10, 13, 9]⟩
theorem next_short (w : World) (k : Nat) (hk : k < 7) (ty : TypeId) :
    (Instr.next (.pointer (some ⟨w.heap.size, 0, none⟩)) true ty).run Try.prog (w.iter shortR k) = .ok (.tuple #[.bool true, .int .i64 k, .int .i32 (tR k)]) (w.iter shortR (k + 1)) := by
  have hs : k < shortR.size := hk
  have e : (shortR[k]'hs).toNat = tR k := by rcases seven hk with rfl | rfl | rfl | rfl | rfl | rfl | rfl <;> rfl
  have := run_next_ascii (P := Try.prog) w shortR k ty hs (by rw [e]; have := (tL_letR hk).2.2.2; omega)
  rw [e] at this
  exact this
theorem next_short_end (w : World) (ty : TypeId) :
    (Instr.next (.pointer (some ⟨w.heap.size, 0, none⟩)) true ty).run Try.prog (w.iter shortR 7) = .ok (.tuple #[.bool false]) (w.iter shortR 7) :=
  run_next_end (P := Try.prog) w shortR 7 ty (by decide)
theorem escJ_letter {l : List UInt8} {k r : Nat} (h : letR (bt l (k + 1)) = r) (hr : r ≠ 0) : escJ (l.drop k) = some (r, 2) := by
  unfold escJ
  rw [bt_drop, h, if_pos hr]
theorem escJ_unit {l : List UInt8} {k : Nat} (h : letR (bt l (k + 1)) = 0) : escJ (l.drop k) = match unitAt l k with
    | none => none
    | some a => if 56320 ≤ a ∧ a < 57344 then none else if 55296 ≤ a ∧ a < 56320 then
        match unitAt l (k + 6) with
        | none => none
        | some b => if 56320 ≤ b ∧ b < 57344 then some (65536 + (a - 55296) * 1024 + (b - 56320), 12) else none
      else some (a, 6) := by
  unfold escJ
  rw [bt_drop, h, if_neg (by simp), unitAt_drop, unitAt_drop, Nat.add_zero]
  rfl
theorem unitV_lt (l : List UInt8) (k : Nat) : unitV l k < 65536 := by
  unfold unitV
  split
  · have h1 : (byteAt l (k + 2)).getD 0 < 256 := by
      cases h : byteAt l (k + 2) with
      | none => simp
      | some v => exact byteAt_lt h
    have h2 : (byteAt l (k + 4)).getD 0 < 256 := by
      cases h : byteAt l (k + 4) with
      | none => simp
      | some v => exact byteAt_lt h
    omega
  · omega
theorem iter_drewN (w : World) (n : Nat) (s : ByteArray) (k : Nat) : (w.iter s k).drewN n = (w.drewN n).iter s k := rfl
theorem below_iter (w : World) (n : Nat) (s : ByteArray) (k : Nat) : Below w.heap.size w ((w.drewN n).iter s k) :=
  (below_drewN (Below.refl w.heap.size w) n).alloc (Nat.le_refl _) _
end Go.Proofs.Ytjnmcadfaombjaa
