/- Walks: the reference's Is, Front and Clean. -/
import Derived.Test.YtlogjghbdnaedaaUtfE
import Derived.Test.YtlogjghbdnaedaaUtfS
namespace Go.Proofs.Ytlogjghbdnaedaa
open Go.RowKit
set_option linter.unusedVariables false
set_option linter.unusedSimpArgs false
theorem rnext_to (s : ByteArray) (k r n : Nat) (w : World) (hs : s.size ≤ 9223372036854775807) (hk : k < s.size) (h : next (s.data.toList.drop k) = (r, n)) :
    Calls Try.prog 27 #[.string s, .int .i64 k] w fun e w' => e = .returned (.tuple #[.int .i64 r, .int .i64 n]) ∧ Below w.heap.size w w' := by
  have := rnext_in s k w hs hk
  rw [h] at this; exact this
/-- What the next step at a place is. -/
theorem next_at {s : ByteArray} {k : Nat} (hk : k < s.size) : ∃ r n, next (s.data.toList.drop k) = (r, n) ∧ r ≤ 1114111 ∧ 1 ≤ n ∧ n ≤ 4 ∧ k + n ≤ s.size ∧ s.data.toList.drop k ≠ [] ∧ (s.data.toList.drop k).drop n = s.data.toList.drop (k + n) := by
  have hne : s.data.toList.drop k ≠ [] := drop_ne (by rw [← sz_len]; exact hk)
  obtain ⟨a, b, c, d⟩ := next_bound (s.data.toList.drop k)
  rw [List.length_drop, ← sz_len] at c
  have d' := d hne
  clear d
  generalize hp : next (s.data.toList.drop k) = p at *
  obtain ⟨r, n⟩ := p
  dsimp only at a b c d'
  exact ⟨r, n, rfl, a, d', b, by omega, hne, by rw [List.drop_drop]⟩
theorem drop_end {s : ByteArray} {k : Nat} (hk : s.size ≤ k) : s.data.toList.drop k = [] := List.drop_eq_nil_of_le (by rw [← sz_len]; exact hk)
theorem ext_eq (s : ByteArray) (a b : Nat) (h : b ≤ s.size) : strOf ((s.data.toList.drop a).take (b - a)) = s.extract a b := by
  rw [← strOf_data (s.extract a b)]
  congr 1
  rw [ByteArray.data_extract]
  simp [Array.toList_extract, List.extract_eq_take_drop]
theorem take_ext (s : ByteArray) (k : Nat) (h : k ≤ s.size) : strOf (s.data.toList.take k) = s.extract 0 k := by
  rw [← ext_eq s 0 k h]; simp
set_option maxHeartbeats 1000000 in
theorem ris_any (s : ByteArray) (w : World) (hs : s.size ≤ 9223372036854775807) :
    Calls Try.prog 20 #[.string s] w fun e w' => e = .returned (.bool (good s.data.toList)) ∧ Below w.heap.size w w' := by
  go_enter Try.func20, Try.ntmps20
  go_wp2_with fail
  go_loopw [3] (fun z wr => ∃ k : Nat, z = .int .i64 k ∧ k ≤ s.size ∧ good s.data.toList = good (s.data.toList.drop k) ∧ Below w.heap.size w wr) (fun z _ => s.size - (intOf z).toNat)
  case atStart => exact ⟨0, rfl, Nat.zero_le _, rfl, Below.refl _ _⟩
  case round =>
    obtain ⟨k, rfl, hk, hg, hb⟩ := hrel
    have HG := Lib.hid hg
    clear hg
    by_cases hlt : k < s.size
    · obtain ⟨r, n, hn, hr, hn1, hn4, hkn, hne, hdd⟩ := next_at hlt
      have hgc := good_cons hne
      rw [hn] at hgc
      dsimp only at hgc
      rw [hdd] at hgc
      have HN := Lib.hid (fun w => rnext_to s k r n w hs hlt hn)
      by_cases hbad : r = 65533 ∧ n = 1
      · obtain ⟨rfl, rfl⟩ := hbad
        have HF : Hid (good s.data.toList = false) := by show _ = _; rw [HG.out, hgc]; rfl
        clear hn hr hn1 hn4 hne hdd hgc
        go_wp2_with fail
        refine (HN.out _).mono ?_
        rintro e w2 ⟨rfl, b2⟩
        go_wp2_with fail
        go_ret
        exact ⟨by rw [HF.out]; rfl, hb.trans (b2.mono hb.size)⟩
      · have HF : Hid (good s.data.toList = good (s.data.toList.drop (k + n))) := by
          show _ = _
          rw [HG.out, hgc]
          have : (r == 65533 && n == 1) = false := by simp; omega
          rw [this]; rfl
        have hx : ((r : Int) == 65533) = false ∨ (((r : Int) == 65533) = true ∧ ((n : Int) == 1) = false) := by
          by_cases h : r = 65533
          · right; constructor
            · simp [h]
            · simp; omega
          · left; simp; omega
        clear hn hne hdd hgc hbad
        rcases hx with hx | ⟨hx, hy⟩
        all_goals
          go_wp2_with fail
          refine (HN.out _).mono ?_
          rintro e w2 ⟨rfl, b2⟩
          go_wp2_with fail
          go_roundw
          case rel => exact ⟨k + n, by go_num, hkn, HF.out, hb.trans (b2.mono hb.size)⟩
          case measure => simp [intOf]; omega
    · have HE : Hid (good s.data.toList = true) := by show _ = _; rw [HG.out, drop_end (by omega)]; rfl
      go_wp2_with fail
      go_ret
      exact ⟨by rw [HE.out]; rfl, hb⟩
end Go.Proofs.Ytlogjghbdnaedaa
