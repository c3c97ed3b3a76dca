/- Walks: a post, read. -/
import Derived.Test.YtdmlciebkilmjaaChatB
import Derived.Outline
namespace Go.Proofs.Ytdmlciebkilmjaa
open Go.RowKit
set_option linter.unusedVariables false
set_option linter.unusedSimpArgs false
def cutPreL (l p : List UInt8) : List UInt8 := if Lib.hasPrefix l p then l.drop p.length else l
def cutSufL (l p : List UInt8) : List UInt8 := if Lib.hasSuffix l p then l.take (l.length - p.length) else l
theorem hasPre_len {l p : List UInt8} (h : Lib.hasPrefix l p = true) : p.length ≤ l.length := by
  unfold Lib.hasPrefix at h
  exact (List.isPrefixOf_iff_prefix.1 h).length_le
theorem hasSuf_len {l p : List UInt8} (h : Lib.hasSuffix l p = true) : p.length ≤ l.length := by
  unfold Lib.hasSuffix at h
  exact (List.isSuffixOf_iff_suffix.1 h).length_le
theorem lcutPre_any (s p : ByteArray) (w : World) (hs : s.size ≤ 9223372036854775807) (hp : p.size ≤ 9223372036854775807) :
    Calls Try.prog 47 #[.string s, .string p] w fun e w' => e = .returned (.tuple #[.string (strOf (cutPreL s.data.toList p.data.toList)), .bool (Lib.hasPrefix s.data.toList p.data.toList)]) ∧ w = w' := by
  have HP : Hid (∀ w, Calls Try.prog 60 #[.string s, .string p] w fun e w' => e = .returned (.bool (Lib.hasPrefix s.data.toList p.data.toList)) ∧ w = w') := fun w => (Try.stringslite_HasPrefix s p w).mono fun e w' ⟨a, b⟩ => ⟨a, b.symm⟩
  have hl := sz_len s
  have hq := sz_len p
  cases h : Lib.hasPrefix s.data.toList p.data.toList with
  | false =>
    have HV : Hid (strOf (cutPreL s.data.toList p.data.toList) = s) := by show _ = _; unfold cutPreL; rw [h, if_neg (by simp), strOf_data]
    rw [h] at HP
    clear h hl hq
    go_enter Try.func47, Try.ntmps47
    go_wp2_with fail
    refine (HP.out _).mono ?_
    rintro e w' ⟨rfl, rfl⟩
    go_wp2_with fail
    go_ret2
    exact ⟨by rw [HV.out]; rfl, rfl⟩
  | true =>
    have hle := hasPre_len h
    rw [← hl, ← hq] at hle
    have HV : Hid (strOf (cutPreL s.data.toList p.data.toList) = s.extract p.size s.size) := by
      show _ = _; unfold cutPreL; rw [h, if_pos rfl, ← ext_eq _ _ _ (Nat.le_refl _), List.take_of_length_le (by rw [List.length_drop]; omega), hq]
    rw [h] at HP
    clear h hl hq
    go_enter Try.func47, Try.ntmps47
    go_wp2_with fail
    refine (HP.out _).mono ?_
    rintro e w' ⟨rfl, rfl⟩
    go_wp2_with fail
    go_ret2
    exact ⟨by rw [HV.out]; rfl, rfl⟩
theorem lcutSuf_any (s p : ByteArray) (w : World) (hs : s.size ≤ 9223372036854775807) (hp : p.size ≤ 9223372036854775807) :
    Calls Try.prog 48 #[.string s, .string p] w fun e w' => e = .returned (.tuple #[.string (strOf (cutSufL s.data.toList p.data.toList)), .bool (Lib.hasSuffix s.data.toList p.data.toList)]) ∧ w = w' := by
  have HP : Hid (∀ w, Calls Try.prog 61 #[.string s, .string p] w fun e w' => e = .returned (.bool (Lib.hasSuffix s.data.toList p.data.toList)) ∧ w = w') := fun w => (Try.stringslite_HasSuffix s p w hs).mono fun e w' ⟨a, b⟩ => ⟨a, b.symm⟩
  have hl := sz_len s
  have hq := sz_len p
  cases h : Lib.hasSuffix s.data.toList p.data.toList with
  | false =>
    have HV : Hid (strOf (cutSufL s.data.toList p.data.toList) = s) := by show _ = _; unfold cutSufL; rw [h, if_neg (by simp), strOf_data]
    rw [h] at HP
    clear h hl hq
    go_enter Try.func48, Try.ntmps48
    go_wp2_with fail
    refine (HP.out _).mono ?_
    rintro e w' ⟨rfl, rfl⟩
    go_wp2_with fail
    go_ret2
    exact ⟨by rw [HV.out]; rfl, rfl⟩
  | true =>
    have hle := hasSuf_len h
    rw [← hl, ← hq] at hle
    have hsub : ((s.size : Int) - p.size).toNat = s.size - p.size := by omega
    have HV : Hid (strOf (cutSufL s.data.toList p.data.toList) = s.extract 0 (s.size - p.size)) := by
      show _ = _; unfold cutSufL; rw [h, if_pos rfl, ← take_ext _ _ (by omega), hl, hq]
    rw [h] at HP
    clear h hl hq
    go_enter Try.func48, Try.ntmps48
    go_wp2_with fail
    refine (HP.out _).mono ?_
    rintro e w' ⟨rfl, rfl⟩
    go_wp2_with fail
    go_ret2
    exact ⟨by rw [HV.out]; rfl, rfl⟩
theorem cutPre_any (s p : ByteArray) (w : World) (hs : s.size ≤ 9223372036854775807) (hp : p.size ≤ 9223372036854775807) :
    Calls Try.prog 23 #[.string s, .string p] w fun e w' => e = .returned (.tuple #[.string (strOf (cutPreL s.data.toList p.data.toList)), .bool (Lib.hasPrefix s.data.toList p.data.toList)]) ∧ w = w' := by
  have HP := Lib.hid (fun w => lcutPre_any s p w hs hp)
  generalize strOf (cutPreL s.data.toList p.data.toList) = x at *
  generalize Lib.hasPrefix s.data.toList p.data.toList = b at *
  go_enter Try.func23, Try.ntmps23
  go_wp2_with fail
  refine (HP.out _).mono ?_
  rintro e w' ⟨rfl, rfl⟩
  go_wp2_with fail
  go_ret2
  exact ⟨rfl, rfl⟩
theorem cutSuf_any (s p : ByteArray) (w : World) (hs : s.size ≤ 9223372036854775807) (hp : p.size ≤ 9223372036854775807) :
    Calls Try.prog 24 #[.string s, .string p] w fun e w' => e = .returned (.tuple #[.string (strOf (cutSufL s.data.toList p.data.toList)), .bool (Lib.hasSuffix s.data.toList p.data.toList)]) ∧ w = w' := by
  have HP := Lib.hid (fun w => lcutSuf_any s p w hs hp)
  generalize strOf (cutSufL s.data.toList p.data.toList) = x at *
  generalize Lib.hasSuffix s.data.toList p.data.toList = b at *
  go_enter Try.func24, Try.ntmps24
  go_wp2_with fail
  refine (HP.out _).mono ?_
  rintro e w' ⟨rfl, rfl⟩
  go_wp2_with fail
  go_ret2
  exact ⟨rfl, rfl⟩
end Go.Proofs.Ytdmlciebkilmjaa
