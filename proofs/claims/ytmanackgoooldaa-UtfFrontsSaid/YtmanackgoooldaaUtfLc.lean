/- The law of the text's front. -/
import Derived.Test.YtmanackgoooldaaUtfLaw
import Derived.Test.YtmanackgoooldaaUtfP
namespace Go.Proofs.Ytmanackgoooldaa
open Go.RowKit
set_option linter.unusedVariables false
set_option linter.unusedSimpArgs false
set_option maxRecDepth 100000 in
set_option maxHeartbeats 400000 in
theorem lawFronts (s : ByteArray) (m : Int) (w : World) (hs : s.size ≤ 9223372036854775807) (hm : -9223372036854775808 ≤ m ∧ m ≤ 9223372036854775807) :
    Calls Try.prog 6 #[.string s, .int .i64 m] w fun e w' => e = .returned (.bool true) ∧ Below w.heap.size w w' := by
  have hz := fewS_size s
  have HF := Lib.hid (fun w => few_any s w hs)
  generalize fewS s = t at *
  have HP := Lib.hid (fun w => front_any t m w (by omega) hm)
  have HR := Lib.hid (fun w => rfront_any t m w (by omega) hm)
  have hfl := front_le _ t.data.toList m (Nat.le_refl _)
  have hfg := front_good _ t.data.toList m (Nat.le_refl _)
  have HI := Lib.hid (fun w => ris_any t w (by omega))
  have hex : strOf (t.data.toList.take (front t.data.toList m)) = t.extract 0 (front t.data.toList m) := by
    rw [take_ext t _ (by rw [sz_len]; exact hfl.1)]
  have hsz : (strOf (t.data.toList.take (front t.data.toList m))).size = front t.data.toList m := by
    rw [strOf_size, List.length_take]; omega
  have HJ := Lib.hid (fun w => ris_any (strOf (t.data.toList.take (front t.data.toList m))) w (by rw [hsz]; have := sz_len t; omega))
  rw [strOf_list] at HJ
  have hle : front t.data.toList m ≤ t.size := by rw [sz_len]; exact hfl.1
  have hor := hfl.2
  have h0 : front t.data.toList m = 0 → strOf (t.data.toList.take (front t.data.toList m)) = { data := #[] } := by
    intro h; rw [h]; rfl
  generalize good (t.data.toList.take (front t.data.toList m)) = g2 at *
  generalize good t.data.toList = g1 at *
  generalize strOf (t.data.toList.take (front t.data.toList m)) = f at *
  generalize front t.data.toList m = k at *
  clear hfl
  have hg : (g1 = true ∧ g2 = true) ∨ g1 = false := by cases g1 <;> simp_all
  clear hfg
  have hk : (k : Int) ≤ m ∨ (¬ (k : Int) ≤ m ∧ k = 0 ∧ f = { data := #[] }) := by
    by_cases h : (k : Int) ≤ m
    · exact .inl h
    · rcases hor with e | e
      · exact .inr ⟨h, e, h0 e⟩
      · exact absurd e h
  clear hor h0
  subst hex
  have hself : ((t.extract 0 k).toList == (t.extract 0 k).toList) = true := by simp
  rcases hk with hk | ⟨hk, hk0, hke⟩
  · rcases hg with ⟨rfl, rfl⟩ | rfl
    · go_enter Try.func6, Try.ntmps6
      go_wp2_with fail
      refine (HF.out _).mono ?_
      rintro e w2 ⟨rfl, rfl⟩
      go_wp2_with fail
      refine (HP.out _).mono ?_
      rintro e w2 ⟨rfl, b2⟩
      go_wp2_with fail
      refine (HR.out _).mono ?_
      rintro e w3 ⟨rfl, b3⟩
      have b4 := b2.trans (b3.mono b2.size)
      clear b2 b3
      go_wp2_with fail
      refine (HI.out _).mono ?_
      rintro e w2 ⟨rfl, b2⟩
      have b5 := b4.trans (b2.mono b4.size)
      clear b4 b2
      go_wp2_with fail
      refine (HJ.out _).mono ?_
      rintro e w4 ⟨rfl, b2⟩
      have b6 := b5.trans (b2.mono b5.size)
      clear b5 b2
      go_wp2_with fail
      refine (awake_any _).mono ?_
      rintro e w5 ⟨rfl, b2⟩
      go_wp2_with fail
      go_ret
      exact ⟨rfl, b6.trans (b2.mono b6.size)⟩
    · go_enter Try.func6, Try.ntmps6
      go_wp2_with fail
      refine (HF.out _).mono ?_
      rintro e w2 ⟨rfl, rfl⟩
      go_wp2_with fail
      refine (HP.out _).mono ?_
      rintro e w2 ⟨rfl, b2⟩
      go_wp2_with fail
      refine (HR.out _).mono ?_
      rintro e w3 ⟨rfl, b3⟩
      have b4 := b2.trans (b3.mono b2.size)
      clear b2 b3
      go_wp2_with fail
      refine (HI.out _).mono ?_
      rintro e w2 ⟨rfl, b2⟩
      have b5 := b4.trans (b2.mono b4.size)
      clear b4 b2
      go_wp2_with fail
      have b6 := b5
      refine (awake_any _).mono ?_
      rintro e w5 ⟨rfl, b2⟩
      go_wp2_with fail
      go_ret
      exact ⟨rfl, b6.trans (b2.mono b6.size)⟩
  · have hemp : ((t.extract 0 k).toList == ({ data := #[] } : ByteArray).toList) = true := by rw [hke]; exact beq_self_eq_true _
    have hem2 : ((t.extract 0 k).toList == []) = true := by rw [hke, ByteArray.toList_eq]; rfl
    clear hke hk0
    rcases hg with ⟨rfl, rfl⟩ | rfl
    · go_enter Try.func6, Try.ntmps6
      go_wp2_with fail
      refine (HF.out _).mono ?_
      rintro e w2 ⟨rfl, rfl⟩
      go_wp2_with fail
      refine (HP.out _).mono ?_
      rintro e w2 ⟨rfl, b2⟩
      go_wp2_with fail
      refine (HR.out _).mono ?_
      rintro e w3 ⟨rfl, b3⟩
      have b4 := b2.trans (b3.mono b2.size)
      clear b2 b3
      go_wp2_with fail
      refine (HI.out _).mono ?_
      rintro e w2 ⟨rfl, b2⟩
      have b5 := b4.trans (b2.mono b4.size)
      clear b4 b2
      go_wp2_with fail
      refine (HJ.out _).mono ?_
      rintro e w4 ⟨rfl, b2⟩
      have b6 := b5.trans (b2.mono b5.size)
      clear b5 b2
      go_wp2_with fail
      refine (awake_any _).mono ?_
      rintro e w5 ⟨rfl, b2⟩
      go_wp2_with fail
      go_ret
      exact ⟨rfl, b6.trans (b2.mono b6.size)⟩
    · go_enter Try.func6, Try.ntmps6
      go_wp2_with fail
      refine (HF.out _).mono ?_
      rintro e w2 ⟨rfl, rfl⟩
      go_wp2_with fail
      refine (HP.out _).mono ?_
      rintro e w2 ⟨rfl, b2⟩
      go_wp2_with fail
      refine (HR.out _).mono ?_
      rintro e w3 ⟨rfl, b3⟩
      have b4 := b2.trans (b3.mono b2.size)
      clear b2 b3
      go_wp2_with fail
      refine (HI.out _).mono ?_
      rintro e w2 ⟨rfl, b2⟩
      have b5 := b4.trans (b2.mono b4.size)
      clear b4 b2
      go_wp2_with fail
      have b6 := b5
      refine (awake_any _).mono ?_
      rintro e w5 ⟨rfl, b2⟩
      go_wp2_with fail
      go_ret
      exact ⟨rfl, b6.trans (b2.mono b6.size)⟩
end Go.Proofs.Ytmanackgoooldaa
