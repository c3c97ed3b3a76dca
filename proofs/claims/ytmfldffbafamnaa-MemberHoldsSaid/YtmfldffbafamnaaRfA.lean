/- Walks: the reference's small ones: is a byte one of a text's; digits. -/
import Derived.Test.YtmfldffbafamnaaCjB
namespace Go.Proofs.Ytmfldffbafamnaa
open Go.RowKit
set_option linter.unusedVariables false
set_option linter.unusedSimpArgs false
def oneS (l : List UInt8) (c : Nat) : Bool := l.any (fun b => b.toNat == c)
theorem drop_step {l : List UInt8} {k : Nat} (h : k < l.length) : ∃ c, l.drop k = c :: l.drop (k + 1) ∧ c.toNat = bt l k :=
  ⟨l[k], List.drop_eq_getElem_cons h, bt_get h⟩
theorem oneS_step {l : List UInt8} {k c : Nat} (h : k < l.length) : oneS (l.drop k) c = (bt l k == c || oneS (l.drop (k + 1)) c) := by
  obtain ⟨d, hd, he⟩ := drop_step h
  rw [hd]; unfold oneS; rw [List.any_cons, he]
theorem oneS_end {l : List UInt8} {k c : Nat} (h : l.length ≤ k) : oneS (l.drop k) c = false := by
  rw [List.drop_eq_nil_of_le h]; rfl
set_option maxRecDepth 100000 in
theorem one25_any (l : List UInt8) (c : Nat) (w : World) (hc : c < 256) (hl : l.length ≤ 60000) :
    Calls Try.prog 54 #[.string (strOf l), .int .u8 c] w fun e w' => e = .returned (.bool (oneS l c)) ∧ w = w' := by
  have hz := strOf_size l
  go_enter Try.func54, Try.ntmps54
  go_wp2_with fail
  go_loop [5] (fun z => ∃ k : Nat, z = .int .i64 k ∧ k ≤ l.length ∧ oneS l c = oneS (l.drop k) c) (fun z => l.length - (intOf z).toNat)
  case atStart => exact ⟨0, rfl, Nat.zero_le _, rfl⟩
  case round =>
    obtain ⟨k, rfl, hk, hg⟩ := hrel
    by_cases hlt : k < l.length
    · rw [oneS_step hlt] at hg
      have hb := strOf_byte l k (by omega)
      have hb256 := bt_lt l k
      by_cases hx : bt l k = c
      · have HG : Hid (oneS l c = true) := by show _ = _; rw [hg]; simp [hx]
        have hy : ((bt l k : Int) == c) = true := by simp [hx]
        generalize bt l k = b at *
        clear hg hx
        go_wp2_with fail
        go_ret
        exact ⟨by rw [HG.out]; rfl, rfl⟩
      · have HG : Hid (oneS l c = oneS (l.drop (k + 1)) c) := by show _ = _; rw [hg]; simp [hx]
        have hy : ((bt l k : Int) == c) = false := by simp only [beq_eq_false_iff_ne]; omega
        generalize bt l k = b at *
        clear hg hx
        go_wp2_with fail
        go_round
        case rel => exact ⟨k + 1, by go_num, hlt, HG.out⟩
        case measure => simp [intOf]; omega
    · have HG : Hid (oneS l c = false) := by show _ = _; rw [hg, oneS_end (by omega)]
      clear hg
      go_wp2_with fail
      go_ret
      exact ⟨by rw [HG.out]; rfl, rfl⟩
theorem rdigit_any (c : Nat) (w : World) (hc : c < 256) :
    Calls Try.prog 61 #[.int .u8 c] w fun e w' => e = .returned (.bool (digB c)) ∧ w = w' := by
  have key : ∀ b : Bool, ((b = true) ↔ (48 ≤ c ∧ c ≤ 57)) → b = digB c := fun b h => by
    unfold digB; rw [Bool.eq_iff_iff, h]; simp
  have K := Lib.hid key
  clear key
  go_enter Try.func61, Try.ntmps61
  go_wp2
  all_goals
    go_ret
    exact ⟨congrArg (fun b => Ending.returned (.bool b)) (K.out _ (by simp; omega)), rfl⟩
def hexL : List UInt8 := [48, 49, 50, 51, 52, 53, 54, 55, 56, 57, 97, 98, 99, 100, 101, 102, 65, 66, 67, 68, 69, 70]
theorem hexL_one (c : Nat) (h : c < 256) : oneS hexL c = hexB c := by
  have : ∀ c : Fin 256, oneS hexL c.val = hexB c.val := by decide +kernel
  exact this ⟨c, h⟩
theorem rhex_any (c : Nat) (w : World) (hc : c < 256) :
    Calls Try.prog 60 #[.int .u8 c] w fun e w' => e = .returned (.bool (hexB c)) ∧ w = w' := by
  have HO := Lib.hid (fun w => one25_any hexL c w hc (by decide))
  rw [hexL_one c hc] at HO
  go_enter Try.func60, Try.ntmps60
  go_wp2_with fail
  refine (HO.out _).mono ?_
  rintro x w2 ⟨rfl, rfl⟩
  go_wp2_with fail
  go_ret
  exact ⟨rfl, rfl⟩
/-- The place behind the digits that stand at one. -/
def dg (l : List UInt8) (at_ : Nat) : Nat := at_ + ((l.drop at_).takeWhile (fun b => digB b.toNat)).length
theorem dg_yes {l : List UInt8} {k : Nat} (h : k < l.length) (hd : digB (bt l k) = true) : dg l k = dg l (k + 1) := by
  obtain ⟨d, hx, he⟩ := drop_step h
  unfold dg
  rw [hx, List.takeWhile_cons, he, hd]
  simp; omega
theorem dg_no {l : List UInt8} {k : Nat} (h : k < l.length) (hd : digB (bt l k) = false) : dg l k = k := by
  obtain ⟨d, hx, he⟩ := drop_step h
  unfold dg
  rw [hx, List.takeWhile_cons, he, hd]
  simp
theorem dg_end {l : List UInt8} {k : Nat} (h : l.length ≤ k) : dg l k = k := by
  unfold dg; rw [List.drop_eq_nil_of_le h]; rfl
theorem dg_le (l : List UInt8) (k : Nat) (h : k ≤ l.length) : dg l k ≤ l.length := by
  unfold dg
  have := (List.takeWhile_prefix (fun b : UInt8 => digB b.toNat) (l := l.drop k)).length_le
  rw [List.length_drop] at this
  omega
theorem dg_ge (l : List UInt8) (k : Nat) : k ≤ dg l k := by unfold dg; omega
set_option maxRecDepth 100000 in
theorem digits_any (l : List UInt8) (a : Nat) (w : World) (hl : l.length ≤ 60000) (ha : a ≤ l.length) :
    Calls Try.prog 53 #[.string (strOf l), .int .i64 a] w fun e w' => e = .returned (.int .i64 (dg l a)) ∧ w = w' := by
  have hz := strOf_size l
  go_enter Try.func53, Try.ntmps53
  go_wp2_with fail
  go_loop [1] (fun z => ∃ k : Nat, z = .int .i64 k ∧ k ≤ l.length ∧ dg l a = dg l k) (fun z => l.length - (intOf z).toNat)
  case atStart => exact ⟨a, rfl, ha, rfl⟩
  case round =>
    obtain ⟨k, rfl, hk, hg⟩ := hrel
    by_cases hlt : k < l.length
    · have hb := strOf_byte l k (by omega)
      have hb256 := bt_lt l k
      have HD := Lib.hid (fun w => rdigit_any (bt l k) w hb256)
      cases hx : digB (bt l k)
      · have HG : Hid (dg l a = k) := by show _ = _; rw [hg, dg_no hlt hx]
        rw [hx] at HD
        generalize bt l k = b at *
        clear hg hx
        go_wp2_with fail
        refine (HD.out _).mono ?_
        rintro x w2 ⟨rfl, rfl⟩
        go_wp2_with fail
        go_ret
        exact ⟨by rw [HG.out]; rfl, rfl⟩
      · have HG : Hid (dg l a = dg l (k + 1)) := by show _ = _; rw [hg, dg_yes hlt hx]
        rw [hx] at HD
        generalize bt l k = b at *
        clear hg hx
        go_wp2_with fail
        refine (HD.out _).mono ?_
        rintro x w2 ⟨rfl, rfl⟩
        go_wp2_with fail
        go_round
        case rel => exact ⟨k + 1, by go_num, hlt, HG.out⟩
        case measure => simp [intOf]; omega
    · have HG : Hid (dg l a = k) := by show _ = _; rw [hg, dg_end (by omega)]
      clear hg
      go_wp2_with fail
      go_ret
      exact ⟨by rw [HG.out]; rfl, rfl⟩
end Go.Proofs.Ytmfldffbafamnaa
