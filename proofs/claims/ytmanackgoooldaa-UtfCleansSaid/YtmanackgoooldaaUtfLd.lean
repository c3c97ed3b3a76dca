/- The law of the sanitised text. -/
import Derived.Test.YtmanackgoooldaaUtfLaw
import Derived.Test.YtmanackgoooldaaUtfP
namespace Go.Proofs.Ytmanackgoooldaa
open Go.RowKit
set_option linter.unusedVariables false
set_option linter.unusedSimpArgs false
set_option maxRecDepth 100000 in
set_option maxHeartbeats 1000000 in
theorem lawCleans (s : ByteArray) (w : World) (hs : s.size ≤ 9223372036854775807) :
    Calls Try.prog 5 #[.string s] w fun e w' => e = .returned (.bool true) ∧ Below w.heap.size w w' := by
  have hz := fewS_size s
  have HF := Lib.hid (fun w => few_any s w hs)
  generalize fewS s = t at *
  have hcl := clean_length _ t.data.toList (Nat.le_refl _)
  rw [← sz_len] at hcl
  have HP := Lib.hid (fun w => clean_any t w (by omega))
  have HR := Lib.hid (fun w => rclean_any t w (by omega))
  obtain ⟨c, hc⟩ : ∃ c, strOf (clean t.data.toList) = c := ⟨_, rfl⟩
  have hcd : c.data.toList = clean t.data.toList := by rw [← hc, strOf_list]
  have hcs : c.size ≤ 1600 := by rw [← hc, strOf_size]; omega
  have hcc := clean_clean t.data.toList
  have hcg := clean_good t.data.toList
  have hcb := Lib.hid (clean_bytes t.data.toList)
  rw [← hcd] at hcc hcg hcb
  have HI := Lib.hid (fun w => ris_any c w (by omega))
  have HC := Lib.hid (fun w => clean_any c w (by omega))
  rw [hcc, strOf_data] at HC
  rw [hcg] at HI
  rw [hc] at HP HR
  clear hcc hcg hcd hc hcl
  have hself : (c.toList == c.toList) = true := by simp
  go_enter Try.func5, Try.ntmps5
  go_wp2_with fail
  refine (HF.out _).mono ?_
  rintro e w2 ⟨rfl, rfl⟩
  go_wp2_with fail
  refine (HP.out _).mono ?_
  rintro e w2 ⟨rfl, b2⟩
  go_wp2_with fail
  go_loopw [4] (fun z wr => ∃ (k : Nat), z = .int .i64 k ∧ k ≤ c.size ∧ Below w.heap.size w wr) (fun z _ => c.size - (intOf z).toNat)
  case atStart => exact ⟨0, rfl, Nat.zero_le _, b2⟩
  case round =>
    obtain ⟨k, rfl, hk, hb⟩ := hrel
    by_cases hlt : k < c.size
    · have hby := hcb.out c[k] (by rw [Array.mem_toList_iff]; exact Array.getElem_mem _)
      have hx : (c[k]).toNat = (c[k]).toNat := rfl
      have hx256 : (c[k]).toNat < 256 := UInt8.toNat_lt _
      generalize hq : (c[k]).toNat = q at *
      obtain ⟨h1, h2, h3⟩ := hby
      have h13 : ((q : Int) == 13) = false := by simp; omega
      have h127 : ((q : Int) == 127) = false := by simp; omega
      clear hx h2 h3
      go_wp2_with fail
      go_roundw
      case rel => exact ⟨k + 1, by go_num, hlt, hb⟩
      case measure => simp [intOf]; omega
    · go_wp2_with fail
      refine (HR.out _).mono ?_
      rintro e w3 ⟨rfl, b3⟩
      have b4 := hb.trans (b3.mono hb.size)
      clear b3 hb
      go_wp2_with fail
      refine (HI.out _).mono ?_
      rintro e w4 ⟨rfl, b3⟩
      have b5 := b4.trans (b3.mono b4.size)
      clear b3 b4
      go_wp2_with fail
      refine (HC.out _).mono ?_
      rintro e w6 ⟨rfl, b3⟩
      have b6 := b5.trans (b3.mono b5.size)
      clear b3 b5
      go_wp2_with fail
      refine (awake_any _).mono ?_
      rintro e w5 ⟨rfl, b3⟩
      go_wp2_with fail
      go_ret
      exact ⟨rfl, b6.trans (b3.mono b6.size)⟩
end Go.Proofs.Ytmanackgoooldaa
