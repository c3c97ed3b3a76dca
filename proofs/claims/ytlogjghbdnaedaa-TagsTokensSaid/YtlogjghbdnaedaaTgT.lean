/- Walks: the document's says (chapter 11). -/
import Derived.Test.YtlogjghbdnaedaaTgS
import Derived.Test.YtlogjghbdnaedaaTgE
namespace Go.Proofs.Ytlogjghbdnaedaa
open Go.RowKit
set_option linter.unusedVariables false
set_option linter.unusedSimpArgs false
/-- What 'says' says. -/
def rsayV (k : Nat) (o : Option (List UInt8 × Nat)) : Value := match o with
  | some p => .tuple #[.string (strOf p.1), .int .i64 ((k + p.2 : Nat) : Int), .bool true]
  | none => .tuple #[.string ⟨#[]⟩, .int .i64 0, .bool false]
theorem strOf_appT (a b : List UInt8) : strOf a ++ strOf b = strOf (a ++ b) := by
  simp [strOf, ByteArray.mk_append_mk]
theorem ext_one {s : ByteArray} {j : Nat} (hj : j < s.size) : s.extract j (j + 1) = strOf [UInt8.ofNat (bt s.data.toList j)] := by
  have hl : j < s.data.toList.length := by rw [← sz_len]; exact hj
  rw [← ext_eq s j (j + 1) hj, List.drop_eq_getElem_cons hl, show j + 1 - j = 1 by omega, ← bt_get hl]
  simp
set_option maxRecDepth 100000 in
set_option maxHeartbeats 8000000 in
theorem rsays (s : ByteArray) (k e d : Nat) (w : World) (hk : k ≤ s.size) (hs : s.size ≤ 1000000) :
    Calls Try.prog 39 #[.string s, .int .i64 k, .int .u8 e, .int .u8 d] w fun x w' => x = .returned (rsayV k (sayJ e d (s.data.toList.drop k))) ∧ Below w.heap.size w w' := by
  have HL := Lib.hid (sz_len s)
  go_enter Try.func39, Try.ntmps39
  go_wp2_with fail
  go_loopw [1, 11] (fun z o wr => ∃ (j : Nat) (a : List UInt8), z = .int .i64 j ∧ o = .string (strOf a) ∧ k ≤ j ∧ j ≤ s.size ∧ a.length ≤ 4 * j ∧ sayJ e d (s.data.toList.drop k) = (sayJ e d (s.data.toList.drop j)).map (fun p => (a ++ p.1, j - k + p.2)) ∧ Below w.heap.size w wr) (fun z _ _ => s.size - (intOf z).toNat)
  case atStart => exact ⟨k, [], rfl, rfl, Nat.le_refl _, hk, by simp, by simp, Below.refl _ _⟩
  case round =>
    obtain ⟨j, a, rfl, rfl, hkj, hj, hal, hr, hb⟩ := hrel
    have HG := Lib.hid hr
    have HB := Lib.hid hb
    clear hr hb
    have hz : (strOf a).size ≤ 4 * j := by rw [strOf_size]; exact hal
    obtain ⟨A, hA⟩ : ∃ A, strOf a = A := ⟨_, rfl⟩
    have HA := Lib.hid hA
    rw [hA] at hz ⊢
    clear hA
    by_cases hlt : j < s.size
    · have hx := bt_byte s j hlt
      have y0 := bt_lt s.data.toList j
      have hst := sayJ_at (e := e) (d := d) hlt
      have HEX := Lib.hid (ext_one hlt)
      obtain ⟨c, hc⟩ : ∃ c, bt s.data.toList j = c := ⟨_, rfl⟩
      rw [hc] at hx y0 hst HEX
      clear hc
      by_cases hce : c = e
      · have HV : Hid (sayJ e d (s.data.toList.drop k) = some (a, j - k)) := by show _ = _; rw [HG.out, hst, if_pos hce]; simp
        have q1 : ((c : Int) != (e : Int)) = false := by simp; omega
        clear hst hce HG
        go_wp2_with fail
        go_ret3
        exact ⟨by rw [HV.out]; show _ = Ending.returned (.tuple #[.string (strOf a), .int .i64 ((k + (j - k) : Nat) : Int), .bool true]); rw [show k + (j - k) = j by omega, HA.out]; rfl, HB.out⟩
      · rw [if_neg hce] at hst
        have q1 : ((c : Int) != (e : Int)) = true := by simp; omega
        clear hce
        by_cases hcd : c = d
        · have HV : Hid (sayJ e d (s.data.toList.drop k) = none) := by show _ = _; rw [HG.out, hst, if_pos hcd]; rfl
          have q2 : ((c : Int) == (d : Int)) = true := by simp; omega
          clear hst hcd HG
          go_wp2_with fail
          go_ret3
          exact ⟨by rw [HV.out]; rfl, HB.out⟩
        · rw [if_neg hcd] at hst
          have q2 : ((c : Int) == (d : Int)) = false := by simp; omega
          clear hcd
          have HON := Lib.hid (fun w => rone06 s j w hj hs)
          by_cases h38 : c = 38
          · rw [if_pos h38] at hst
            have q3 : ((c : Int) == 38) = true := by simp; omega
            clear h38
            cases ho : refJ (s.data.toList.drop j) with
            | none =>
              rw [ho] at hst HON
              have HV : Hid (sayJ e d (s.data.toList.drop k) = none) := by show _ = _; rw [HG.out, hst]; rfl
              have HON2 : Hid (∀ w, Calls Try.prog 59 #[.string s, .int .i64 j] w fun e w' => e = .returned (.tuple #[.string ⟨#[]⟩, .int .i64 0, .bool false]) ∧ Below w.heap.size w w') := HON.out
              clear hst ho HG HON
              go_wp2_with fail
              refine (HON2.out _).mono ?_
              rintro x w2 ⟨rfl, b2⟩
              go_wp2_with fail
              go_ret3
              exact ⟨by rw [HV.out]; rfl, HB.out.trans (b2.mono HB.out.size)⟩
            | some p =>
              obtain ⟨x, n⟩ := p
              rw [ho] at hst HON
              dsimp only at hst
              have hrb := refJ_bd ho
              rw [List.length_drop, ← HL.out] at hrb
              obtain ⟨hn1, hjn, hn10, hx1, hx4⟩ := hrb
              have HST := Lib.hid hst
              have hyz : (strOf x).size ≤ 4 := by rw [strOf_size]; exact hx4
              have HAX := Lib.hid (strOf_appT a x)
              rw [HA.out] at HAX
              obtain ⟨y, hy⟩ : ∃ y, strOf x = y := ⟨_, rfl⟩
              have HON2 : Hid (∀ w, Calls Try.prog 59 #[.string s, .int .i64 j] w fun e w' => e = .returned (.tuple #[.string y, .int .i64 n, .bool true]) ∧ Below w.heap.size w w') := by rw [← hy]; exact HON.out
              rw [hy] at HAX hyz
              clear hst ho HON hy
              go_wp2_with fail
              refine (HON2.out _).mono ?_
              rintro x' w2 ⟨rfl, b2⟩
              go_wp2_with fail
              go_roundw
              case rel => exact ⟨j + n, a ++ x, by go_num, congrArg Value.string HAX.out, by omega, by omega, by rw [List.length_append]; omega, by
                rw [HG.out, HST.out]
                cases sayJ e d (s.data.toList.drop (j + n)) with
                | none => rfl
                | some p => simp only [Option.map_some, List.append_assoc, Option.some.injEq, Prod.mk.injEq, true_and]; omega, HB.out.trans (b2.mono HB.out.size)⟩
              case measure => simp [intOf]; omega
          · rw [if_neg h38] at hst
            have q3 : ((c : Int) == 38) = false := by simp; omega
            have HST := Lib.hid hst
            have HAX : Hid (A ++ s.extract j (j + 1) = strOf (a ++ [UInt8.ofNat c])) := by show _ = _; rw [HEX.out, ← HA.out, strOf_appT]
            have hxs : (s.extract j (j + 1)).size ≤ 1 := by rw [HEX.out, strOf_size]; simp
            clear h38 hst HON HEX
            go_wp2_with fail
            go_roundw
            case rel => exact ⟨j + 1, a ++ [UInt8.ofNat c], by go_num, congrArg Value.string HAX.out, by omega, by omega, by rw [List.length_append]; simp; omega, by
              rw [HG.out, HST.out]
              cases sayJ e d (s.data.toList.drop (j + 1)) with
              | none => rfl
              | some p => simp only [Option.map_some, List.append_assoc, List.singleton_append, Option.some.injEq, Prod.mk.injEq, true_and]; omega, HB.out⟩
            case measure => simp [intOf]; omega
    · obtain rfl : j = s.size := by omega
      have HV : Hid (sayJ e d (s.data.toList.drop k) = some (a, s.size - k)) := by show _ = _; rw [HG.out, sayJ_end (Nat.le_refl _)]; simp
      clear HG
      go_wp2_with fail
      go_ret3
      exact ⟨by rw [HV.out]; show _ = Ending.returned (.tuple #[.string (strOf a), .int .i64 ((k + (s.size - k) : Nat) : Int), .bool true]); rw [show k + (s.size - k) = s.size by omega, HA.out]; rfl, HB.out⟩
end Go.Proofs.Ytlogjghbdnaedaa
