/- Walks: the reference's Num. -/
import Derived.Test.YtmfldffbafamnaaRfA
import Derived.Deep.DeepCutAuto
namespace Go.Proofs.Ytmfldffbafamnaa
open Go.RowKit
set_option linter.unusedVariables false
set_option linter.unusedSimpArgs false
def numH (l : List UInt8) (a : Nat) : Bool × Bool := if dg l a = a then ((a : Int) == l.length, false) else ((dg l a : Int) == l.length, true)
def sgnAt (l : List UInt8) (a : Nat) : Nat := if a < l.length ∧ (bt l a = 43 ∨ bt l a = 45) then a + 1 else a
def numE (l : List UInt8) (t : Nat) : Bool × Bool := if t < l.length ∧ (bt l t = 101 ∨ bt l t = 69) then numH l (sgnAt l (t + 1)) else ((t : Int) == l.length, true)
def numG (l : List UInt8) (a : Nat) : Bool × Bool := if dg l a = a then ((a : Int) == l.length, false) else numE l (dg l a)
def numF (l : List UInt8) (t : Nat) : Bool × Bool := if t < l.length ∧ bt l t = 46 then numG l (t + 1) else numE l t
def numB (l : List UInt8) (a t : Nat) : Bool × Bool := if t = a ∨ (bt l a = 48 ∧ a + 1 < t) then (false, false) else numF l t
def sg (l : List UInt8) : Nat := if 0 < l.length ∧ bt l 0 = 45 then 1 else 0
/-- Is a text a number's beginning, and is it whole? -/
def numR (l : List UInt8) : Bool × Bool := if sg l = l.length then (true, false) else numB l (sg l) (dg l (sg l))
theorem one_to (l : List UInt8) (c : Nat) (b : Bool) (w : World) (hc : c < 256) (hl : l.length ≤ 60000) (hb : oneS l c = b) :
    Calls Try.prog 54 #[.string (strOf l), .int .u8 c] w fun e w' => e = .returned (.bool b) ∧ w = w' := by
  subst hb; exact one_any l c w hc hl
theorem ne_k {a : Nat} {k : Int} (h : (a : Int) ≠ k) : ((a : Int) == k) = false := by simpa using h
theorem eq_k {a : Nat} {k : Int} (h : (a : Int) = k) : ((a : Int) == k) = true := by simpa using h
theorem ne_int {a b : Nat} (h : a ≠ b) : ((a : Int) == b) = false := by simp only [beq_eq_false_iff_ne]; omega
theorem eq_int {a b : Nat} (h : a = b) : ((a : Int) == b) = true := by simp only [beq_iff_eq]; omega
theorem len_eq {a b : Nat} {x y : Bool × Bool} (h : x = y) (hx : Ending.returned (.tuple #[.bool y.1, .bool y.2]) = Ending.returned (.tuple #[.bool x.1, .bool x.2])) : True := trivial
theorem b69 {c : Nat} (hc : c < 256) : oneS [101, 69] c = decide (c = 101 ∨ c = 69) := by
  have : ∀ c : Fin 256, oneS [101, 69] c.val = decide (c.val = 101 ∨ c.val = 69) := by decide +kernel
  exact this ⟨c, hc⟩
theorem b43 {c : Nat} (hc : c < 256) : oneS [43, 45] c = decide (c = 43 ∨ c = 45) := by
  have : ∀ c : Fin 256, oneS [43, 45] c.val = decide (c.val = 43 ∨ c.val = 45) := by decide +kernel
  exact this ⟨c, hc⟩
theorem sgnAt_le (l : List UInt8) (a : Nat) (h : a ≤ l.length) : sgnAt l a ≤ l.length ∧ a ≤ sgnAt l a := by
  unfold sgnAt; split <;> omega
set_option maxRecDepth 100000 in
set_option maxHeartbeats 4000000 in
theorem num_any (l : List UInt8) (w : World) (hl : l.length ≤ 60000) :
    Calls Try.prog 36 #[.string (strOf l)] w fun e w' => e = .returned (.tuple #[.bool (numR l).1, .bool (numR l).2]) ∧ w = w' := by
  have hz := strOf_size l
  go_enter Try.func36, Try.ntmps36
  go_upto_region 2 with fail
  go_cut [13] (fun c wx => c = .bool (sg l == 1) ∧ wx = w)
  case first =>
    by_cases h0 : 0 < l.length
    · have hb := strOf_byte l 0 (by omega)
      by_cases h1 : bt l 0 = 45
      · have K : Hid ((sg l == 1) = true) := by show _ = _; unfold sg; rw [if_pos ⟨h0, h1⟩]; rfl
        have q : ((bt l 0 : Int) == 45) = true := eq_k (by omega)
        clear h1
        go_wp2_with fail
        go_meet
        exact ⟨by rw [K.out], rfl⟩
      · have K : Hid ((sg l == 1) = false) := by show _ = _; unfold sg; rw [if_neg (fun h => h1 h.2)]; rfl
        have q : ((bt l 0 : Int) == 45) = false := ne_k (by omega)
        clear h1
        go_wp2_with fail
        go_meet
        exact ⟨by rw [K.out], rfl⟩
    · have K : Hid ((sg l == 1) = false) := by show _ = _; unfold sg; rw [if_neg (fun h => h0 h.1)]; rfl
      go_wp2_with fail
      go_meet
      exact ⟨by rw [K.out], rfl⟩
  case rest =>
  obtain ⟨rfl, rfl⟩ := hcut
  have hsg : sg l ≤ 1 ∧ sg l ≤ l.length := by unfold sg; split <;> omega
  have K : Hid (numR l = if sg l = l.length then (true, false) else numB l (sg l) (dg l (sg l))) := by show _ = _; unfold numR; rfl
  generalize sg l = a at *
  obtain ⟨ha1, ha2⟩ := hsg
  go_upto_if 13 with fail
  go_cut [4] (fun v wx => v = .int .i64 a ∧ wx = wc)
  case first =>
    by_cases h : a = 1
    · subst h
      go_wp2_with fail
      go_meet
      exact ⟨rfl, rfl⟩
    · obtain rfl : a = 0 := by omega
      go_wp2_with fail
      go_meet
      exact ⟨rfl, rfl⟩
  case rest =>
  obtain ⟨rfl, rfl⟩ := hcut
  by_cases hA : a = l.length
  · have KK : Hid (numR l = (true, false)) := by show _ = _; rw [K.out, if_pos hA]
    have q := eq_int hA
    clear K hA
    go_wp2_with fail
    go_ret2
    exact ⟨by rw [KK.out]; rfl, rfl⟩
  have KB : Hid (numR l = numB l a (dg l a)) := by show _ = _; rw [K.out, if_neg hA]
  clear K
  have hlt : a < l.length := by omega
  have HD := Lib.hid (fun w => digits_any l a w hl ha2)
  have ht1 := dg_ge l a
  have ht2 := dg_le l a ha2
  have hb := strOf_byte l a (by omega)
  have hq := ne_int hA
  generalize dg l a = t at *
  clear hA
  go_wp2_with fail
  refine (HD.out _).mono ?_
  rintro e w' ⟨rfl, rfl⟩
  clear HD hq
  by_cases hB1 : t = a
  · have KK : Hid (numR l = (false, false)) := by show _ = _; rw [KB.out]; unfold numB; rw [if_pos (Or.inl hB1)]
    have q := eq_int hB1
    clear KB hB1
    go_wp2_with fail
    go_ret2
    exact ⟨by rw [KK.out]; rfl, rfl⟩
  by_cases hB2 : bt l a = 48 ∧ a + 1 < t
  · have KK : Hid (numR l = (false, false)) := by show _ = _; rw [KB.out]; unfold numB; rw [if_pos (Or.inr hB2)]
    have q := ne_int hB1
    have q2 : ((bt l a : Int) == 48) = true := eq_k (by omega)
    have q3 := hB2.2
    clear KB hB1 hB2
    go_wp2_with fail
    go_ret2
    exact ⟨by rw [KK.out]; rfl, rfl⟩
  have KF : Hid (numR l = numF l t) := by show _ = _; rw [KB.out]; unfold numB; rw [if_neg (by omega)]
  clear KB
  go_upto_region 7 with fail
  go_cut [35] (fun b wx => b = .bool false ∧ wx = wc)
  case first =>
    have q := ne_int hB1
    by_cases h48 : bt l a = 48
    · have q2 : ((bt l a : Int) == 48) = true := eq_k (by omega)
      have q3 : t ≤ a + 1 := by omega
      clear hB1 hB2 h48
      go_wp2_with fail
      go_meet
      exact ⟨congrArg Value.bool (decide_eq_false (by omega)), rfl⟩
    · have q2 : ((bt l a : Int) == 48) = false := ne_k (by omega)
      clear hB1 hB2 h48
      go_wp2_with fail
      go_meet
      exact ⟨rfl, rfl⟩
  case rest =>
  obtain ⟨rfl, rfl⟩ := hcut
  clear hB1 hB2 hb
  obtain ⟨d, hd⟩ : ∃ d, d = decide (t < l.length ∧ bt l t = 46) := ⟨_, rfl⟩
  have HE := Lib.hid hd
  clear hd
  go_upto_region 9 with fail
  go_cut [45] (fun b wx => b = .bool d ∧ wx = wc)
  case first =>
    by_cases h0 : t < l.length
    · have hb := strOf_byte l t (by omega)
      by_cases h1 : bt l t = 46
      · have K : Hid (d = true) := by show _ = _; rw [HE.out]; exact decide_eq_true ⟨h0, h1⟩
        have q : ((bt l t : Int) == 46) = true := eq_k (by omega)
        clear h1
        go_wp2_with fail
        go_meet
        exact ⟨by rw [K.out], rfl⟩
      · have K : Hid (d = false) := by show _ = _; rw [HE.out]; exact decide_eq_false (fun h => h1 h.2)
        have q : ((bt l t : Int) == 46) = false := ne_k (by omega)
        clear h1
        go_wp2_with fail
        go_meet
        exact ⟨by rw [K.out], rfl⟩
    · have K : Hid (d = false) := by show _ = _; rw [HE.out]; exact decide_eq_false (fun h => h0 h.1)
      go_wp2_with fail
      go_meet
      exact ⟨by rw [K.out], rfl⟩
  case rest =>
  obtain ⟨rfl, rfl⟩ := hcut
  go_upto_if 45 with fail
  go_cut [4, 5] (fun u v wx => ∃ x : Nat, v = .int .i64 x ∧ x ≤ l.length ∧ numR l = numE l x ∧ wx = wc)
  case first =>
    by_cases h : t < l.length ∧ bt l t = 46
    · obtain rfl : d = true := by rw [HE.out]; exact decide_eq_true h
      obtain ⟨hlt2, h46⟩ := h
      have HD := Lib.hid (fun w => digits_any l (t + 1) w hl hlt2)
      have hx1 := dg_ge l (t + 1)
      have hx2 := dg_le l (t + 1) hlt2
      have KG : Hid (numR l = if dg l (t + 1) = t + 1 then (((t + 1 : Nat) : Int) == l.length, false) else numE l (dg l (t + 1))) := by
        show _ = _; rw [KF.out]; unfold numF; rw [if_pos ⟨hlt2, h46⟩]; unfold numG; rfl
      have hpush : (((t + 1 : Nat) : Int)) = (t : Int) + 1 := by omega
      generalize dg l (t + 1) = x at *
      rw [hpush] at HD
      clear hpush
      go_wp2_with fail
      refine (HD.out _).mono ?_
      rintro e w' ⟨rfl, rfl⟩
      clear HD
      by_cases hx : x = t + 1
      · have KK : Hid (numR l = (((t + 1 : Nat) : Int) == l.length, false)) := by show _ = _; rw [KG.out, if_pos hx]
        subst hx
        clear KG
        go_wp2_with fail
        go_ret2
        exact ⟨by rw [KK.out]; rfl, rfl⟩
      · have KK : Hid (numR l = numE l x) := by show _ = _; rw [KG.out, if_neg hx]
        have q : ((x : Int) == (t : Int) + 1) = false := ne_k (by omega)
        clear KG hx
        go_wp2_with fail
        go_meet
        exact ⟨x, rfl, hx2, KK.out, rfl⟩
    · obtain rfl : d = false := by rw [HE.out]; exact decide_eq_false h
      have KK : Hid (numR l = numE l t) := by show _ = _; rw [KF.out]; unfold numF; rw [if_neg h]
      clear h
      go_wp2_with fail
      go_meet
      exact ⟨t, rfl, ht2, KK.out, rfl⟩
  case rest =>
  obtain ⟨x, rfl, hx, hE, rfl⟩ := hcut
  have KE := Lib.hid hE
  clear hE KF ht1 ht2 HE
  by_cases h0 : x < l.length
  · have hb := strOf_byte l x (by omega)
    have hbl := bt_lt l x
    by_cases h1 : bt l x = 101 ∨ bt l x = 69
    · have KH : Hid (numR l = numH l (sgnAt l (x + 1))) := by show _ = _; rw [KE.out]; unfold numE; rw [if_pos ⟨h0, h1⟩]
      have HO := Lib.hid (fun w => one_to [101, 69] (bt l x) true w hbl (by decide) (by rw [b69 hbl]; exact decide_eq_true h1))
      clear KE h1
      go_wp2_with fail
      refine (HO.out _).mono ?_
      rintro e w' ⟨rfl, rfl⟩
      clear HO
      obtain ⟨d, hd⟩ : ∃ d, d = decide (x + 1 < l.length ∧ (bt l (x + 1) = 43 ∨ bt l (x + 1) = 45)) := ⟨_, rfl⟩
      have HE := Lib.hid hd
      go_upto_region 16 with fail
      go_cut [79] (fun b wx => b = .bool d ∧ wx = wc)
      case first =>
        by_cases h2 : x + 1 < l.length
        · have hb2 := strOf_byte l (x + 1) (by omega)
          have hbl2 := bt_lt l (x + 1)
          have HO := Lib.hid (fun w => one_to [43, 45] (bt l (x + 1)) d w hbl2 (by decide) (by rw [b43 hbl2, hd]; simp [h2]))
          clear hd
          go_wp2_with fail
          refine (HO.out _).mono ?_
          rintro e w' ⟨rfl, rfl⟩
          go_wp2_with fail
          go_meet
          exact ⟨rfl, rfl⟩
        · have K : Hid (d = false) := by show _ = _; rw [hd]; exact decide_eq_false (fun h => h2 h.1)
          clear hd
          go_wp2_with fail
          go_meet
          exact ⟨by rw [K.out], rfl⟩
      case rest =>
      obtain ⟨rfl, rfl⟩ := hcut
      clear hd
      go_upto_if 79 with fail
      go_cut [4] (fun v wx => v = .int .i64 (sgnAt l (x + 1)) ∧ wx = wc)
      case first =>
        by_cases h : x + 1 < l.length ∧ (bt l (x + 1) = 43 ∨ bt l (x + 1) = 45)
        · obtain rfl : d = true := by rw [HE.out]; exact decide_eq_true h
          have K : Hid (sgnAt l (x + 1) = x + 1 + 1) := by show _ = _; unfold sgnAt; rw [if_pos h]
          obtain ⟨h2, _⟩ := h
          go_wp2_with fail
          go_meet
          exact ⟨by rw [K.out]; rfl, rfl⟩
        · obtain rfl : d = false := by rw [HE.out]; exact decide_eq_false h
          have K : Hid (sgnAt l (x + 1) = x + 1) := by show _ = _; unfold sgnAt; rw [if_neg h]
          clear h
          go_wp2_with fail
          go_meet
          exact ⟨by rw [K.out]; rfl, rfl⟩
      case rest =>
      obtain ⟨rfl, rfl⟩ := hcut
      obtain ⟨hy1, hy2⟩ := sgnAt_le l (x + 1) h0
      generalize sgnAt l (x + 1) = y at *
      have KK : Hid (numR l = if dg l y = y then ((y : Int) == l.length, false) else ((dg l y : Int) == l.length, true)) := by
        show _ = _; rw [KH.out]; unfold numH; rfl
      have HD := Lib.hid (fun w => digits_any l y w hl hy1)
      have hz1 := dg_ge l y
      have hz2 := dg_le l y hy1
      generalize dg l y = z at *
      go_wp2_with fail
      refine (HD.out _).mono ?_
      rintro e w' ⟨rfl, rfl⟩
      clear HD
      by_cases hzy : z = y
      · have KZ : Hid (numR l = ((y : Int) == l.length, false)) := by show _ = _; rw [KK.out, if_pos hzy]
        subst hzy
        clear KK
        go_wp2_with fail
        go_ret2
        exact ⟨by rw [KZ.out]; rfl, rfl⟩
      · have KZ : Hid (numR l = ((z : Int) == l.length, true)) := by show _ = _; rw [KK.out, if_neg hzy]
        have q := ne_int hzy
        clear KK hzy
        go_wp2_with fail
        go_ret2
        exact ⟨by rw [KZ.out]; rfl, rfl⟩
    · have KK : Hid (numR l = ((x : Int) == l.length, true)) := by show _ = _; rw [KE.out]; unfold numE; rw [if_neg (fun h => h1 h.2)]
      have HO := Lib.hid (fun w => one_to [101, 69] (bt l x) false w hbl (by decide) (by rw [b69 hbl]; exact decide_eq_false h1))
      clear KE h1
      go_wp2_with fail
      refine (HO.out _).mono ?_
      rintro e w' ⟨rfl, rfl⟩
      clear HO
      go_wp2_with fail
      go_ret2
      exact ⟨by rw [KK.out]; rfl, rfl⟩
  · have KK : Hid (numR l = ((x : Int) == l.length, true)) := by show _ = _; rw [KE.out]; unfold numE; rw [if_neg (fun h => h0 h.1)]
    clear KE
    go_wp2_with fail
    go_ret2
    exact ⟨by rw [KK.out]; rfl, rfl⟩
end Go.Proofs.Ytmfldffbafamnaa
