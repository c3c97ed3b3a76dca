/- Walks: the least place at which a text stands (FindAt, chapter 03). -/
import Derived.Test.YtpjlkhdolhoeoaaFdAp
import Derived.Test.YtpjlkhdolhoeoaaFdHl
namespace Go.Proofs.Ytpjlkhdolhoeoaa
open Go.Shelf Go.RowKit Go.Lib Go.Maps
set_option linter.unusedVariables false
set_option linter.unusedSimpArgs false
theorem emptyF (x : Bs) : (strOf x).toList.isEmpty = decide (x = []) := by
  rw [ByteArray.toList_eq, strOf_list]
  cases x <;> simp
theorem emptyG (x : Bs) : ((strOf x).toList == []) = decide (x = []) := by
  rw [ByteArray.toList_eq, strOf_list]
  cases x <;> simp
theorem dropF (s : Bs) (F : Nat) (h : F ≤ s.length) : (strOf s).extract F s.length = strOf (s.drop F) := by
  have := extF s F (s.length - F)
  rw [show F + (s.length - F) = s.length by omega] at this
  rw [this, List.take_of_length_le (by rw [List.length_drop]; omega)]
set_option maxRecDepth 100000 in
set_option maxHeartbeats 2000000 in
theorem fat (s x : Bs) (f m : Int) (w : World) (hs : s.length ≤ 1000000) (hx : x.length ≤ 1000000) (hm : w.cell? ⟨0, 0, none⟩ = some (.int .i64 m)) :
    Calls Try.prog 21 #[.string (strOf s), .string (strOf x), .int .i64 f] w fun e w' => e = .returned (.int .i64 (atI (atO s x f))) ∧ w = w' := by
  obtain ⟨F, hF⟩ : ∃ F : Nat, max f 0 = (F : Int) := ⟨(max f 0).toNat, by omega⟩
  have hsz := strOf_size s
  have e0 := emptyF x
  have e1 := emptyG x
  by_cases hx0 : x = []
  · have HV : Hid (atI (atO s x f) = -1) := by
      show _ = _
      rw [hx0, at_empty]; rfl
    rw [decide_eq_true hx0] at e0 e1
    clear hx0
    generalize strOf x = X at *
    go_enter Try.func21, Try.ntmps21
    go_wp2_with fail
    go_ret
    exact ⟨by rw [HV.out]; rfl, rfl⟩
  · rw [decide_eq_false hx0] at e0 e1
    by_cases hFl : F ≤ s.length
    · have hat : atO s x f = atO s x F := at_f fun k => by omega
      have hd := dropF s F hFl
      have hix := Try.strings_Index (strOf (s.drop F)) (strOf x) m w (by rw [strOf_size, List.length_drop]; omega) hm
      rw [strOf_list, strOf_list] at hix
      have hge := index_ge (s.drop F) x
      have hle := index_room (s.drop F) x
      rw [List.length_drop] at hle
      have HV : Hid ((index (s.drop F) x < 0 ∧ atI (atO s x f) = -1) ∨ (0 ≤ index (s.drop F) x ∧ atI (atO s x f) = (F : Int) + index (s.drop F) x)) := by
        rcases at_index F hFl hx0 with ⟨h1, h2⟩ | ⟨i, h1, h2⟩
        · exact .inl ⟨h1, by rw [hat, h2]; rfl⟩
        · exact .inr ⟨by omega, by rw [hat, h2, h1]; simp [atI]⟩
      generalize index (s.drop F) x = i at *
      have HIX := Lib.hid hix
      obtain ⟨L, hL⟩ : ∃ L, s.length = L := ⟨_, rfl⟩
      rw [hL] at hsz hFl hs hd hle
      obtain ⟨D, hD⟩ : ∃ D, strOf (s.drop F) = D := ⟨_, rfl⟩
      rw [hD] at hd HIX
      have HAT := Lib.hid hat
      obtain ⟨V, hV⟩ : ∃ V, atI (atO s x f) = V := ⟨_, rfl⟩
      rw [hV] at HV ⊢
      clear hix hm hx0 hat hL hD hV
      obtain ⟨S, hS⟩ : ∃ S, strOf s = S := ⟨_, rfl⟩
      rw [hS] at hsz hd ⊢
      obtain ⟨X, hX⟩ : ∃ X, strOf x = X := ⟨_, rfl⟩
      rw [hX] at e0 e1 HIX ⊢
      clear hS hX
      have hFz : ¬ (L : Int) < (F : Int) := by omega
      by_cases hneg : i < 0
      · have HV2 : Hid (V = -1) := by
          rcases HV.out with ⟨_, h⟩ | ⟨h, _⟩
          · exact h
          · omega
        go_enter Try.func21, Try.ntmps21
        go_wp2_with (go_at_call 36; refine HIX.out.mono ?_; rintro e w1 ⟨rfl, rfl⟩)
        go_ret
        exact ⟨by rw [HV2.out]; rfl, rfl⟩
      · have HV2 : Hid (V = (F : Int) + i) := by
          rcases HV.out with ⟨h, _⟩ | ⟨_, h⟩
          · omega
          · exact h
        have e9 : IntKind.i64.wrap ((F : Int) + i) = (F : Int) + i := IntWalk.i64_in _ (by omega)
        go_enter Try.func21, Try.ntmps21
        go_wp2_with (go_at_call 36; refine HIX.out.mono ?_; rintro e w1 ⟨rfl, rfl⟩)
        go_ret
        exact ⟨by rw [HV2.out]; rfl, rfl⟩
    · have HV : Hid (atI (atO s x f) = -1) := by
        show _ = _
        rw [at_behind (by omega)]; rfl
      have hFz : (s.length : Int) < (F : Int) := by omega
      clear hx0 hm
      generalize strOf x = X at *
      go_enter Try.func21, Try.ntmps21
      go_wp2_with fail
      go_ret
      exact ⟨by rw [HV.out]; rfl, rfl⟩
set_option maxRecDepth 100000 in
set_option maxHeartbeats 2000000 in
theorem fatR (s x : Bs) (f : Int) (w : World) (hs : s.length ≤ 1000000) (hx : x.length ≤ 1000000) :
    Calls Try.prog 22 #[.string (strOf s), .string (strOf x), .int .i64 f] w fun e w' => e = .returned (.int .i64 (atI (atO s x f))) ∧ w = w' := by
  have hsz := strOf_size s
  go_enter Try.func22, Try.ntmps22
  go_wp2_with fail
  go_loopw [7] (fun z wr => ∃ k : Nat, z = .int .i64 k ∧ k ≤ s.length ∧ (∀ j, j < k → atP s x f j = false) ∧ wr = w) (fun z _ => s.length - (intOf z).toNat)
  case atStart => exact ⟨0, rfl, Nat.zero_le _, (fun j h => absurd h (by omega)), rfl⟩
  case round =>
    obtain ⟨k, rfl, hk, hno, rfl⟩ := hrel
    have HNO := Lib.hid hno
    clear hno
    by_cases hlt : k < s.length
    · have k1 : (k : Int) < (s.length : Int) := by omega
      have e2 : IntKind.i64.wrap ((k : Int) + 1) = (k : Int) + 1 := IntWalk.i64_in _ (by omega)
      have HST := Lib.hid (fstands s x k wr (by omega) (by omega))
      have hp : atP s x f k = (decide (f ≤ (k : Int)) && standsB s x k) := rfl
      by_cases hf : f ≤ (k : Int)
      · rw [decide_eq_true hf, Bool.true_and] at hp
        generalize standsB s x k = q at *
        cases q
        · have HN2 := Lib.hid (show ∀ j, j < k + 1 → atP s x f j = false from fun j hj => by
            by_cases e : j = k
            · rw [e]; exact hp
            · exact HNO.out j (by omega))
          clear hp
          go_wp2_with (go_at_call 35; refine HST.out.mono ?_; rintro e w1 ⟨rfl, rfl⟩)
          go_roundw
          case rel => exact ⟨k + 1, by go_num, hlt, HN2.out, by first | trivial | rfl⟩
          case measure => simp [intOf]; omega
        · have HV := Lib.hid (at_hit hlt hp HNO.out)
          clear hp
          go_wp2_with (go_at_call 35; refine HST.out.mono ?_; rintro e w1 ⟨rfl, rfl⟩)
          go_ret
          exact ⟨by rw [HV.out]; rfl, rfl⟩
      · rw [decide_eq_false hf, Bool.false_and] at hp
        have HN2 := Lib.hid (show ∀ j, j < k + 1 → atP s x f j = false from fun j hj => by
          by_cases e : j = k
          · rw [e]; exact hp
          · exact HNO.out j (by omega))
        clear hp
        go_wp2_with fail
        go_roundw
        case rel => exact ⟨k + 1, by go_num, hlt, HN2.out, by first | trivial | rfl⟩
        case measure => simp [intOf]; omega
    · have k1 : ¬ (k : Int) < (s.length : Int) := by omega
      have HV := Lib.hid (at_none (s := s) (x := x) (f := f) fun j hj => HNO.out j (by omega))
      go_wp2_with fail
      go_ret
      exact ⟨by rw [HV.out]; rfl, rfl⟩
end Go.Proofs.Ytpjlkhdolhoeoaa
