/- What the laws of the text rest on: few, awake; the first law. -/
import Derived.Test.YtmanackgoooldaaUtfM
namespace Go.Proofs.Ytmanackgoooldaa
open Go.RowKit
set_option linter.unusedVariables false
set_option linter.unusedSimpArgs false
def fewS (s : ByteArray) : ByteArray := s.extract 0 (min s.size 400)
theorem fewS_size (s : ByteArray) : (fewS s).size ≤ 400 := by unfold fewS; rw [ByteArray.size_extract]; omega
theorem few_any (s : ByteArray) (w : World) (hs : s.size ≤ 9223372036854775807) :
    Calls Try.prog 8 #[.string s] w fun e w' => e = .returned (.string (fewS s)) ∧ w = w' := by
  have HF : Hid (fewS s = s.extract 0 (min (s.size : Int) 400).toNat) := by
    show _ = _
    unfold fewS; congr 1; omega
  go_enter Try.func8, Try.ntmps8
  go_wp2
  go_ret
  exact ⟨by rw [HF.out]; rfl, rfl⟩
set_option maxHeartbeats 2000000 in
theorem awake_any (w : World) :
    Calls Try.prog 11 #[] w fun e w' => e = .returned (.bool true) ∧ Below w.heap.size w w' := by
  have HA := Lib.hid (fun w => next_to ⟨#[195, 169]⟩ 0 233 2 w (by decide) (by decide))
  have HB := Lib.hid (fun w => next_to ⟨#[195, 40]⟩ 0 65533 1 w (by decide) (by decide))
  have HC := Lib.hid (fun w => clean_any ⟨#[97, 13, 10, 98, 7]⟩ w (by decide))
  have hc : strOf (clean (⟨#[97, 13, 10, 98, 7]⟩ : ByteArray).data.toList) = ⟨#[97, 10, 98, 239, 191, 189]⟩ := by decide
  rw [hc] at HC
  clear hc
  go_enter Try.func11, Try.ntmps11
  go_wp2_with fail
  refine (HA.out _).mono ?_
  rintro e w2 ⟨rfl, rfl⟩
  go_wp2_with fail
  refine (HB.out _).mono ?_
  rintro e w2 ⟨rfl, rfl⟩
  go_wp2_with fail
  refine (HC.out _).mono ?_
  rintro e w2 ⟨rfl, b2⟩
  go_wp2_with fail
  go_ret
  exact ⟨rfl, b2⟩
set_option maxHeartbeats 2000000 in
theorem lawNext (s : ByteArray) (k : Int) (w : World) (hs : s.size ≤ 9223372036854775807) (hk : -9223372036854775808 ≤ k ∧ k ≤ 9223372036854775807) :
    Calls Try.prog 3 #[.string s, .int .i64 k] w fun e w' => e = .returned (.bool true) ∧ Below w.heap.size w w' := by
  have hz := fewS_size s
  have HF := Lib.hid (fun w => few_any s w hs)
  have HN := Lib.hid (fun w => next_any (fewS s) k w (by unfold maxLen; omega))
  have HR := Lib.hid (fun w => rnext_any (fewS s) k w (by unfold maxLen; omega))
  have hb : (nextAt (fewS s).data.toList k).1 ≤ 1114111 ∧ (nextAt (fewS s).data.toList k).2 ≤ 4 := by
    unfold nextAt
    split
    · exact ⟨by decide, by decide⟩
    · have := next_bound ((fewS s).data.toList.drop k.toNat); omega
  generalize nextAt (fewS s).data.toList k = p at *
  obtain ⟨r, n⟩ := p
  unfold nextV at HN
  unfold rnextV at HR
  dsimp only at HN HR hb
  obtain ⟨hb1, hb2⟩ := hb
  go_enter Try.func3, Try.ntmps3
  go_wp2_with fail
  refine (HF.out _).mono ?_
  rintro e w2 ⟨rfl, rfl⟩
  go_wp2_with fail
  refine (HN.out _).mono ?_
  rintro e w2 ⟨rfl, rfl⟩
  go_wp2_with fail
  refine (HR.out _).mono ?_
  rintro e w2 ⟨rfl, b2⟩
  go_wp2_with fail
  refine (awake_any _).mono ?_
  rintro e w3 ⟨rfl, b3⟩
  go_wp2_with fail
  go_ret
  exact ⟨rfl, b2.trans (b3.mono b2.size)⟩
end Go.Proofs.Ytmanackgoooldaa
