/- Walks: what chapter 6 writes; few (chapter 11). -/
import Derived.Test.YtlogjghbdnaedaaTgH
import Derived.Test.YtlogjghbdnaedaaTgT
namespace Go.Proofs.Ytlogjghbdnaedaa
open Go.RowKit
set_option linter.unusedVariables false
set_option linter.unusedSimpArgs false
theorem escE_cases (attr : Bool) (c : UInt8) : (c = 38 ∧ escE attr c = [38, 97, 109, 112, 59]) ∨ (c = 60 ∧ escE attr c = [38, 108, 116, 59]) ∨ (c = 62 ∧ escE attr c = [38, 103, 116, 59]) ∨ (c = 34 ∧ escE attr c = [38, 113, 117, 111, 116, 59]) ∨ (c = 39 ∧ escE attr c = [38, 35, 51, 57, 59]) ∨ (attr = true ∧ c = 9 ∧ escE attr c = [38, 35, 57, 59]) ∨ (attr = true ∧ c = 10 ∧ escE attr c = [38, 35, 49, 48, 59]) ∨ ((c ≠ 38 ∧ c ≠ 60 ∧ c ≠ 62 ∧ c ≠ 34 ∧ c ≠ 39 ∧ (attr = false ∨ (c ≠ 9 ∧ c ≠ 10))) ∧ escE attr c = [c]) := by
  have key : ∀ c : UInt8, ∀ n : Nat, n < 256 → (c.toNat = n ↔ c = UInt8.ofNat n) := fun c n hn => ⟨fun h => by rw [← h]; simp, fun h => by rw [h]; simp; omega⟩
  unfold escE
  simp only [key c 38 (by omega), key c 60 (by omega), key c 62 (by omega), key c 34 (by omega), key c 39 (by omega), key c 9 (by omega), key c 10 (by omega)]
  by_cases h1 : c = 38
  · subst h1; simp
  by_cases h2 : c = 60
  · subst h2; simp
  by_cases h3 : c = 62
  · subst h3; simp
  by_cases h4 : c = 34
  · subst h4; simp
  by_cases h5 : c = 39
  · subst h5; simp
  by_cases h6 : attr = true ∧ c = 9
  · obtain ⟨rfl, rfl⟩ := h6; simp
  by_cases h7 : attr = true ∧ c = 10
  · obtain ⟨rfl, rfl⟩ := h7; simp
  · simp [h1, h2, h3, h4, h5]
    cases attr with
    | false => simp
    | true => simp at h6 h7; simp [h6, h7]
set_option maxRecDepth 100000 in
set_option maxHeartbeats 8000000 in
theorem rwritten06 (s : ByteArray) (attr : Bool) (w : World) (hs : s.size ≤ 100000) :
    Calls Try.prog 21 #[.string s, .bool attr] w fun e w' => e = .returned (.string (strOf (wrE attr s.data.toList))) ∧ w = w' := by
  have HL := Lib.hid (sz_len s)
  obtain ⟨o, ho⟩ : ∃ o, wrE attr s.data.toList = o := ⟨_, rfl⟩
  rw [ho]
  have HO := Lib.hid ho
  clear ho
  go_enter Try.func21, Try.ntmps21
  go_wp2_with fail
  go_loop [5, 6] (fun x z => ∃ (j : Nat) (a : List UInt8), z = .int .i64 j ∧ x = .string (strOf a) ∧ j ≤ s.size ∧ a.length ≤ 6 * j ∧ o = a ++ wrE attr (s.data.toList.drop j)) (fun _ z => s.size - (intOf z).toNat)
  case atStart => exact ⟨0, [], rfl, rfl, Nat.zero_le _, by simp, by rw [List.drop_zero, List.nil_append]; exact HO.out.symm⟩
  case round =>
    obtain ⟨j, a, rfl, rfl, hj, hal, hr⟩ := hrel
    have HG := Lib.hid hr
    clear hr
    have hz : (strOf a).size ≤ 600000 := by rw [strOf_size]; omega
    obtain ⟨A, hA⟩ : ∃ A, strOf a = A := ⟨_, rfl⟩
    have HA := Lib.hid hA
    rw [hA] at hz ⊢
    clear hA
    by_cases hlt : j < s.size
    · have HEX := Lib.hid (ext_one hlt)
      have hl : j < s.data.toList.length := by rw [← HL.out]; exact hlt
      have hdr : s.data.toList.drop j = UInt8.ofNat (bt s.data.toList j) :: s.data.toList.drop (j + 1) := by rw [List.drop_eq_getElem_cons hl, ← bt_get hl]; simp
      obtain ⟨c, hc⟩ : ∃ c, UInt8.ofNat (bt s.data.toList j) = c := ⟨_, rfl⟩
      rw [hc] at HEX hdr
      have HST : Hid (o = (a ++ escE attr c) ++ wrE attr (s.data.toList.drop (j + 1))) := by
        show _ = _
        rw [HG.out, hdr, wrE_cons, List.append_assoc]
      have hel := (escE_len attr c).2
      have hxl : (s.extract j (j + 1)).toList = [c] := by rw [HEX.out, ByteArray.toList_eq, strOf_list]
      have hxz : (s.extract j (j + 1)).size ≤ 1 := by rw [HEX.out, strOf_size]; simp
      have HXE := Lib.hid HEX.out
      clear hdr hc hl HG HEX
      have HAC := Lib.hid (escE_cases attr c)
      rcases HAC.out with ⟨rfl, he⟩ | ⟨rfl, he⟩ | ⟨rfl, he⟩ | ⟨rfl, he⟩ | ⟨rfl, he⟩ | ⟨rfl, rfl, he⟩ | ⟨rfl, rfl, he⟩ | ⟨⟨n38, n60, n62, n34, n39, n9⟩, he⟩
      · have t38 : ((s.extract j (j + 1)).toList == [38]) = true := by rw [hxl]; rfl
        have t60 : ((s.extract j (j + 1)).toList == [60]) = false := by rw [hxl]; rfl
        have t62 : ((s.extract j (j + 1)).toList == [62]) = false := by rw [hxl]; rfl
        have t34 : ((s.extract j (j + 1)).toList == [34]) = false := by rw [hxl]; rfl
        have t39 : ((s.extract j (j + 1)).toList == [39]) = false := by rw [hxl]; rfl
        have t9 : ((s.extract j (j + 1)).toList == [9]) = false := by rw [hxl]; rfl
        have t10 : ((s.extract j (j + 1)).toList == [10]) = false := by rw [hxl]; rfl
        cases attr
        all_goals
          rw [he] at HST hel
          have HAX : Hid (A ++ (⟨#[38, 97, 109, 112, 59]⟩ : ByteArray) = strOf (a ++ [38, 97, 109, 112, 59])) := by show _ = _; rw [← HA.out]; exact strOf_appT _ _
          have HEL : Hid ((a ++ [38, 97, 109, 112, 59]).length ≤ 6 * (j + 1)) := by show _ ≤ _; rw [List.length_append]; omega
          clear he hel HAC hxl
          go_wp2_with fail
          go_round
          case rel => exact ⟨j + 1, a ++ [38, 97, 109, 112, 59], by go_num, congrArg Value.string HAX.out, hlt, HEL.out, HST.out⟩
          case measure => simp [intOf]; omega
      · have t38 : ((s.extract j (j + 1)).toList == [38]) = false := by rw [hxl]; rfl
        have t60 : ((s.extract j (j + 1)).toList == [60]) = true := by rw [hxl]; rfl
        have t62 : ((s.extract j (j + 1)).toList == [62]) = false := by rw [hxl]; rfl
        have t34 : ((s.extract j (j + 1)).toList == [34]) = false := by rw [hxl]; rfl
        have t39 : ((s.extract j (j + 1)).toList == [39]) = false := by rw [hxl]; rfl
        have t9 : ((s.extract j (j + 1)).toList == [9]) = false := by rw [hxl]; rfl
        have t10 : ((s.extract j (j + 1)).toList == [10]) = false := by rw [hxl]; rfl
        cases attr
        all_goals
          rw [he] at HST hel
          have HAX : Hid (A ++ (⟨#[38, 108, 116, 59]⟩ : ByteArray) = strOf (a ++ [38, 108, 116, 59])) := by show _ = _; rw [← HA.out]; exact strOf_appT _ _
          have HEL : Hid ((a ++ [38, 108, 116, 59]).length ≤ 6 * (j + 1)) := by show _ ≤ _; rw [List.length_append]; omega
          clear he hel HAC hxl
          go_wp2_with fail
          go_round
          case rel => exact ⟨j + 1, a ++ [38, 108, 116, 59], by go_num, congrArg Value.string HAX.out, hlt, HEL.out, HST.out⟩
          case measure => simp [intOf]; omega
      · have t38 : ((s.extract j (j + 1)).toList == [38]) = false := by rw [hxl]; rfl
        have t60 : ((s.extract j (j + 1)).toList == [60]) = false := by rw [hxl]; rfl
        have t62 : ((s.extract j (j + 1)).toList == [62]) = true := by rw [hxl]; rfl
        have t34 : ((s.extract j (j + 1)).toList == [34]) = false := by rw [hxl]; rfl
        have t39 : ((s.extract j (j + 1)).toList == [39]) = false := by rw [hxl]; rfl
        have t9 : ((s.extract j (j + 1)).toList == [9]) = false := by rw [hxl]; rfl
        have t10 : ((s.extract j (j + 1)).toList == [10]) = false := by rw [hxl]; rfl
        cases attr
        all_goals
          rw [he] at HST hel
          have HAX : Hid (A ++ (⟨#[38, 103, 116, 59]⟩ : ByteArray) = strOf (a ++ [38, 103, 116, 59])) := by show _ = _; rw [← HA.out]; exact strOf_appT _ _
          have HEL : Hid ((a ++ [38, 103, 116, 59]).length ≤ 6 * (j + 1)) := by show _ ≤ _; rw [List.length_append]; omega
          clear he hel HAC hxl
          go_wp2_with fail
          go_round
          case rel => exact ⟨j + 1, a ++ [38, 103, 116, 59], by go_num, congrArg Value.string HAX.out, hlt, HEL.out, HST.out⟩
          case measure => simp [intOf]; omega
      · have t38 : ((s.extract j (j + 1)).toList == [38]) = false := by rw [hxl]; rfl
        have t60 : ((s.extract j (j + 1)).toList == [60]) = false := by rw [hxl]; rfl
        have t62 : ((s.extract j (j + 1)).toList == [62]) = false := by rw [hxl]; rfl
        have t34 : ((s.extract j (j + 1)).toList == [34]) = true := by rw [hxl]; rfl
        have t39 : ((s.extract j (j + 1)).toList == [39]) = false := by rw [hxl]; rfl
        have t9 : ((s.extract j (j + 1)).toList == [9]) = false := by rw [hxl]; rfl
        have t10 : ((s.extract j (j + 1)).toList == [10]) = false := by rw [hxl]; rfl
        cases attr
        all_goals
          rw [he] at HST hel
          have HAX : Hid (A ++ (⟨#[38, 113, 117, 111, 116, 59]⟩ : ByteArray) = strOf (a ++ [38, 113, 117, 111, 116, 59])) := by show _ = _; rw [← HA.out]; exact strOf_appT _ _
          have HEL : Hid ((a ++ [38, 113, 117, 111, 116, 59]).length ≤ 6 * (j + 1)) := by show _ ≤ _; rw [List.length_append]; omega
          clear he hel HAC hxl
          go_wp2_with fail
          go_round
          case rel => exact ⟨j + 1, a ++ [38, 113, 117, 111, 116, 59], by go_num, congrArg Value.string HAX.out, hlt, HEL.out, HST.out⟩
          case measure => simp [intOf]; omega
      · have t38 : ((s.extract j (j + 1)).toList == [38]) = false := by rw [hxl]; rfl
        have t60 : ((s.extract j (j + 1)).toList == [60]) = false := by rw [hxl]; rfl
        have t62 : ((s.extract j (j + 1)).toList == [62]) = false := by rw [hxl]; rfl
        have t34 : ((s.extract j (j + 1)).toList == [34]) = false := by rw [hxl]; rfl
        have t39 : ((s.extract j (j + 1)).toList == [39]) = true := by rw [hxl]; rfl
        have t9 : ((s.extract j (j + 1)).toList == [9]) = false := by rw [hxl]; rfl
        have t10 : ((s.extract j (j + 1)).toList == [10]) = false := by rw [hxl]; rfl
        cases attr
        all_goals
          rw [he] at HST hel
          have HAX : Hid (A ++ (⟨#[38, 35, 51, 57, 59]⟩ : ByteArray) = strOf (a ++ [38, 35, 51, 57, 59])) := by show _ = _; rw [← HA.out]; exact strOf_appT _ _
          have HEL : Hid ((a ++ [38, 35, 51, 57, 59]).length ≤ 6 * (j + 1)) := by show _ ≤ _; rw [List.length_append]; omega
          clear he hel HAC hxl
          go_wp2_with fail
          go_round
          case rel => exact ⟨j + 1, a ++ [38, 35, 51, 57, 59], by go_num, congrArg Value.string HAX.out, hlt, HEL.out, HST.out⟩
          case measure => simp [intOf]; omega
      · have t38 : ((s.extract j (j + 1)).toList == [38]) = false := by rw [hxl]; rfl
        have t60 : ((s.extract j (j + 1)).toList == [60]) = false := by rw [hxl]; rfl
        have t62 : ((s.extract j (j + 1)).toList == [62]) = false := by rw [hxl]; rfl
        have t34 : ((s.extract j (j + 1)).toList == [34]) = false := by rw [hxl]; rfl
        have t39 : ((s.extract j (j + 1)).toList == [39]) = false := by rw [hxl]; rfl
        have t9 : ((s.extract j (j + 1)).toList == [9]) = true := by rw [hxl]; rfl
        have t10 : ((s.extract j (j + 1)).toList == [10]) = false := by rw [hxl]; rfl
        rw [he] at HST hel
        have HAX : Hid (A ++ (⟨#[38, 35, 57, 59]⟩ : ByteArray) = strOf (a ++ [38, 35, 57, 59])) := by show _ = _; rw [← HA.out]; exact strOf_appT _ _
        have HEL : Hid ((a ++ [38, 35, 57, 59]).length ≤ 6 * (j + 1)) := by show _ ≤ _; rw [List.length_append]; omega
        clear he hel HAC hxl
        go_wp2_with fail
        go_round
        case rel => exact ⟨j + 1, a ++ [38, 35, 57, 59], by go_num, congrArg Value.string HAX.out, hlt, HEL.out, HST.out⟩
        case measure => simp [intOf]; omega
      · have t38 : ((s.extract j (j + 1)).toList == [38]) = false := by rw [hxl]; rfl
        have t60 : ((s.extract j (j + 1)).toList == [60]) = false := by rw [hxl]; rfl
        have t62 : ((s.extract j (j + 1)).toList == [62]) = false := by rw [hxl]; rfl
        have t34 : ((s.extract j (j + 1)).toList == [34]) = false := by rw [hxl]; rfl
        have t39 : ((s.extract j (j + 1)).toList == [39]) = false := by rw [hxl]; rfl
        have t9 : ((s.extract j (j + 1)).toList == [9]) = false := by rw [hxl]; rfl
        have t10 : ((s.extract j (j + 1)).toList == [10]) = true := by rw [hxl]; rfl
        rw [he] at HST hel
        have HAX : Hid (A ++ (⟨#[38, 35, 49, 48, 59]⟩ : ByteArray) = strOf (a ++ [38, 35, 49, 48, 59])) := by show _ = _; rw [← HA.out]; exact strOf_appT _ _
        have HEL : Hid ((a ++ [38, 35, 49, 48, 59]).length ≤ 6 * (j + 1)) := by show _ ≤ _; rw [List.length_append]; omega
        clear he hel HAC hxl
        go_wp2_with fail
        go_round
        case rel => exact ⟨j + 1, a ++ [38, 35, 49, 48, 59], by go_num, congrArg Value.string HAX.out, hlt, HEL.out, HST.out⟩
        case measure => simp [intOf]; omega
      · have t38 : ((s.extract j (j + 1)).toList == [38]) = false := by rw [hxl]; simpa using n38
        have t60 : ((s.extract j (j + 1)).toList == [60]) = false := by rw [hxl]; simpa using n60
        have t62 : ((s.extract j (j + 1)).toList == [62]) = false := by rw [hxl]; simpa using n62
        have t34 : ((s.extract j (j + 1)).toList == [34]) = false := by rw [hxl]; simpa using n34
        have t39 : ((s.extract j (j + 1)).toList == [39]) = false := by rw [hxl]; simpa using n39
        rw [he] at HST hel
        have HAX : Hid (A ++ s.extract j (j + 1) = strOf (a ++ [c])) := by show _ = _; rw [← HA.out, HXE.out]; exact strOf_appT _ _
        have HEL : Hid ((a ++ [c]).length ≤ 6 * (j + 1)) := by show _ ≤ _; rw [List.length_append]; omega
        clear he hel HAC n38 n60 n62 n34 n39
        rcases n9 with rfl | ⟨n9, n10⟩
        · clear hxl
          go_wp2_with fail
          go_round
          case rel => exact ⟨j + 1, a ++ [c], by go_num, congrArg Value.string HAX.out, hlt, HEL.out, HST.out⟩
          case measure => simp [intOf]; omega
        · have t9 : ((s.extract j (j + 1)).toList == [9]) = false := by rw [hxl]; simpa using n9
          have t10 : ((s.extract j (j + 1)).toList == [10]) = false := by rw [hxl]; simpa using n10
          clear n9 n10 hxl
          cases attr
          all_goals
            go_wp2_with fail
            go_round
            case rel => exact ⟨j + 1, a ++ [c], by go_num, congrArg Value.string HAX.out, hlt, HEL.out, HST.out⟩
            case measure => simp [intOf]; omega
    · have HV : Hid (o = a) := by show _ = _; rw [HG.out, List.drop_eq_nil_of_le (by rw [← HL.out]; omega)]; simp [wrE]
      go_wp2_with fail
      go_ret
      exact ⟨by rw [HV.out, HA.out]; rfl, rfl⟩
def few11 (s : ByteArray) : ByteArray := s.extract 0 (min (s.size : Int) 300).toNat
theorem few11_size (s : ByteArray) : (few11 s).size ≤ 300 := by unfold few11; simp [ByteArray.size_extract]; omega
theorem few11_any (s : ByteArray) (w : World) (hs : s.size ≤ 9223372036854775807) :
    Calls Try.prog 7 #[.string s] w fun e w' => e = .returned (.string (few11 s)) ∧ w = w' := by
  go_enter Try.func7, Try.ntmps7
  go_wp2_with fail
  go_ret
  exact ⟨rfl, rfl⟩
end Go.Proofs.Ytlogjghbdnaedaa
