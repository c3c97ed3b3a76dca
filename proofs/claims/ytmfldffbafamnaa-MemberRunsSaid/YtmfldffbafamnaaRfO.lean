/- Walks: the reference's Longest. -/
import Derived.Test.YtmfldffbafamnaaSimD
namespace Go.Proofs.Ytmfldffbafamnaa
open Go.RowKit
set_option linter.unusedVariables false
set_option linter.unusedSimpArgs false
theorem of_to (l : List UInt8) (y : Bool) (w : World) (hn : l.length ≤ 900) (h : (runR r0 l).2 = y) :
    Calls Try.prog 12 #[.string (strOf l)] w fun x w' => x = .returned (.tuple #[(runR r0 l).1.v, .bool y]) ∧ Below w.heap.size w w' := by
  subst h; exact of_any l w hn
set_option maxRecDepth 100000 in
theorem longest_any (l : List UInt8) (w : World) (hn : l.length ≤ 900) :
    Calls Try.prog 9 #[.string (strOf l)] w fun x w' => x = .returned (.int .i64 (lng l)) ∧ Below w.heap.size w w' := by
  have hz := strOf_size l
  have hle := lng_le l
  go_enter Try.func9, Try.ntmps9
  go_wp2_with fail
  go_loopw [3] (fun z wr => ∃ (k : Nat), z = .int .i64 k ∧ k ≤ lng l ∧ Below w.heap.size w wr) (fun z _ => l.length - (intOf z).toNat)
  case atStart => exact ⟨0, rfl, Nat.zero_le _, Below.refl _ _⟩
  case round =>
    obtain ⟨k, rfl, hk, hb⟩ := hrel
    by_cases hlt : k < l.length
    · have HE : Hid ((strOf l).extract 0 (k + 1) = strOf (l.take (k + 1))) := by show _ = _; rw [strOf_extract]; simp
      have htk := runR_take r0 l (k + 1) hlt
      have hlen : (l.take (k + 1)).length ≤ 900 := by rw [List.length_take]; omega
      have HK : Hid (k ≤ lng l) := hk
      have HL : Hid (lng l ≤ l.length) := hle
      by_cases hy : k + 1 ≤ lng l
      · have HY : Hid (k + 1 ≤ lng l) := hy
        have HO := Lib.hid (fun w => of_to (l.take (k + 1)) true w hlen (by rw [htk]; exact decide_eq_true hy))
        generalize (runR r0 (l.take (k + 1))).1 = r at *
        obtain ⟨x1, x2, x3, x4⟩ := r
        unfold RD.v at HO
        dsimp only at HO
        clear htk hlen hy hk hle
        go_wp2_with fail
        rw [HE.out]
        refine (HO.out _).mono ?_
        rintro x w2 ⟨rfl, b2⟩
        have hb2 := hb.trans (b2.mono hb.size)
        go_wp2_with fail
        go_roundw
        case rel => exact ⟨k + 1, by go_num, HY.out, hb2.alloc hb2.size _⟩
        case measure => simp [intOf]; omega
      · have HY : Hid (lng l = k) := by show _ = _; omega
        have HO := Lib.hid (fun w => of_to (l.take (k + 1)) false w hlen (by rw [htk]; exact decide_eq_false hy))
        generalize (runR r0 (l.take (k + 1))).1 = r at *
        obtain ⟨x1, x2, x3, x4⟩ := r
        unfold RD.v at HO
        dsimp only at HO
        clear htk hlen hy hk hle
        go_wp2_with fail
        rw [HE.out]
        refine (HO.out _).mono ?_
        rintro x w2 ⟨rfl, b2⟩
        have hb2 := hb.trans (b2.mono hb.size)
        go_wp2_with fail
        go_ret
        exact ⟨by rw [HY.out]; rfl, hb2.alloc hb2.size _⟩
    · have HY : Hid (lng l = k) := by show _ = _; omega
      clear hk hle
      go_wp2_with fail
      go_ret
      exact ⟨by rw [HY.out]; rfl, hb⟩
end Go.Proofs.Ytmfldffbafamnaa
