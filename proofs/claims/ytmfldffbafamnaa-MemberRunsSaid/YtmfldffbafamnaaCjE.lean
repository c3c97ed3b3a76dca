/- Walks: an escape, the other places. -/
import Derived.Test.YtmfldffbafamnaaCjD
namespace Go.Proofs.Ytmfldffbafamnaa
open Go.RowKit
set_option linter.unusedVariables false
set_option linter.unusedSimpArgs false
set_option maxRecDepth 100000 in
theorem escape_9 (p : List UInt8) (c : UInt8) (w : World) (hp : p.length = 9) :
    Calls Try.prog 55 #[.string (strOf p), .int .u8 c.toNat] w fun e w' => e = .returned (.tuple #[.string (strOf (escS p c).1), .bool (escS p c).2]) ∧ Below w.heap.size w w' := by
  have kc := fun w => conv_c w c
  have ha := strOf_append
  have hz := strOf_size
  have hl : (p ++ [c]).length = 10 := by simp [hp]
  have hc := UInt8.toNat_lt c
  have hb := strOf_byte (p ++ [c]) 2 (by rw [hz, hl]; omega)
  have hb2 := bt_lt (p ++ [c]) 2
  have hbd := or_d _ hb2
  have hbl := or_lt _ hb2
  generalize bt (p ++ [c]) 2 = b2 at *
  have HX := Lib.hid (fun w => hex_any c.toNat w hc)
  have hcf := or_cf _ hc
  have hcl := or_lt _ hc
  cases hb' : cfB c.toNat
  · have K : Hid (escS p c = (p ++ [c], false)) := by show _ = _; unfold escS; simp [hp, hb']
    rw [hb'] at hcf
    have hcf2 : ¬ (99 ≤ bits BinOp.or IntKind.u8 (c.toNat : Int) 32) ∨ ¬ (bits BinOp.or IntKind.u8 (c.toNat : Int) 32 ≤ 102) := by
      rcases Decidable.em (99 ≤ bits BinOp.or IntKind.u8 (c.toNat : Int) 32) with h | h
      · right; intro h2; exact absurd (hcf.1 ⟨h, h2⟩) (by decide)
      · left; exact h
    clear hcf hb'
    rcases hcf2 with h | h
    · have h9 : bits BinOp.or IntKind.u8 (c.toNat : Int) 32 < 99 := by omega
      clear h
      go_enter Try.func55, Try.ntmps55
      go_wp2_with fail
      all_goals
        go_ret2
        refine ⟨?_, (Below.refl _ _).alloc (Nat.le_refl _) _⟩
        rw [K.out]; rfl
    · have h9 : 102 < bits BinOp.or IntKind.u8 (c.toNat : Int) 32 := by omega
      have h8 : 99 ≤ bits BinOp.or IntKind.u8 (c.toNat : Int) 32 := by omega
      clear h
      go_enter Try.func55, Try.ntmps55
      go_wp2_with fail
      all_goals
        go_ret2
        refine ⟨?_, (Below.refl _ _).alloc (Nat.le_refl _) _⟩
        rw [K.out]; rfl
  · have K : Hid (escS p c = (p ++ [c], hexB c.toNat)) := by show _ = _; unfold escS; simp [hp, hb']
    obtain ⟨h1, h2⟩ := hcf.2 hb'
    clear hcf hb'
    go_enter Try.func55, Try.ntmps55
    go_wp2_with fail
    all_goals
      refine (HX.out _).mono ?_
      rintro e w' ⟨rfl, rfl⟩
      go_wp2_with fail
      go_ret2
      refine ⟨?_, (Below.refl _ _).alloc (Nat.le_refl _) _⟩
      rw [K.out]; rfl
set_option maxRecDepth 100000 in
theorem escape_3 (p : List UInt8) (c : UInt8) (w : World) (hp : p.length = 3) :
    Calls Try.prog 55 #[.string (strOf p), .int .u8 c.toNat] w fun e w' => e = .returned (.tuple #[.string (strOf (escS p c).1), .bool (escS p c).2]) ∧ Below w.heap.size w w' := by
  have kc := fun w => conv_c w c
  have ha := strOf_append
  have hz := strOf_size
  have hl : (p ++ [c]).length = 4 := by simp [hp]
  have hc := UInt8.toNat_lt c
  have hb := strOf_byte (p ++ [c]) 2 (by rw [hz, hl]; omega)
  have hb2 := bt_lt (p ++ [c]) 2
  have hbd := or_d _ hb2
  have hbl := or_lt _ hb2
  have hh : halfB (p ++ [c]) = dB (bt (p ++ [c]) 2) := by unfold halfB; rw [hl]; rfl
  have HX := Lib.hid (fun w => hex_any c.toNat w hc)
  have hcf := or_cf _ hc
  have hcl := or_lt _ hc
  cases hd : dB (bt (p ++ [c]) 2)
  · rw [hd] at hbd hh
    have K : Hid (escS p c = (p ++ [c], hexB c.toNat)) := by show _ = _; unfold escS; simp [hp, hh]
    clear hd hh
    generalize bt (p ++ [c]) 2 = b2 at *
    go_enter Try.func55, Try.ntmps55
    go_wp2_with fail
    all_goals
      refine (HX.out _).mono ?_
      rintro e w' ⟨rfl, rfl⟩
      go_wp2_with fail
      go_ret2
      refine ⟨?_, (Below.refl _ _).alloc (Nat.le_refl _) _⟩
      rw [K.out]; rfl
  · rw [hd] at hbd hh
    cases hb' : cfB c.toNat
    · have K : Hid (escS p c = (p ++ [c], hexB c.toNat)) := by show _ = _; unfold escS; simp [hp, hb']
      rw [hb'] at hcf
      have hcf2 : ¬ (99 ≤ bits BinOp.or IntKind.u8 (c.toNat : Int) 32) ∨ (99 ≤ bits BinOp.or IntKind.u8 (c.toNat : Int) 32 ∧ ¬ (bits BinOp.or IntKind.u8 (c.toNat : Int) 32 ≤ 102)) := by
        rcases Decidable.em (99 ≤ bits BinOp.or IntKind.u8 (c.toNat : Int) 32) with h | h
        · right; exact ⟨h, fun h2 => absurd (hcf.1 ⟨h, h2⟩) (by decide)⟩
        · left; exact h
      clear hcf hb' hd hh
      generalize bt (p ++ [c]) 2 = b2 at *
      rcases hcf2 with h | ⟨h, h2⟩
      · go_enter Try.func55, Try.ntmps55
        go_wp2_with fail
        all_goals
          refine (HX.out _).mono ?_
          rintro e w' ⟨rfl, rfl⟩
          go_wp2_with fail
          go_ret2
          refine ⟨?_, (Below.refl _ _).alloc (Nat.le_refl _) _⟩
          rw [K.out]; rfl
      · go_enter Try.func55, Try.ntmps55
        go_wp2_with fail
        all_goals
          refine (HX.out _).mono ?_
          rintro e w' ⟨rfl, rfl⟩
          go_wp2_with fail
          go_ret2
          refine ⟨?_, (Below.refl _ _).alloc (Nat.le_refl _) _⟩
          rw [K.out]; rfl
    · have K : Hid (escS p c = (p ++ [c], false)) := by show _ = _; unfold escS; simp [hp, hb', hh]
      obtain ⟨h1, h2⟩ := hcf.2 hb'
      clear hcf hb' hd hh
      generalize bt (p ++ [c]) 2 = b2 at *
      go_enter Try.func55, Try.ntmps55
      go_wp2_with fail
      all_goals
        go_ret2
        refine ⟨?_, (Below.refl _ _).alloc (Nat.le_refl _) _⟩
        rw [K.out]; rfl
set_option maxRecDepth 100000 in
theorem escape_5 (p : List UInt8) (c : UInt8) (w : World) (hp : p.length = 5) :
    Calls Try.prog 55 #[.string (strOf p), .int .u8 c.toNat] w fun e w' => e = .returned (.tuple #[.string (strOf (escS p c).1), .bool (escS p c).2]) ∧ Below w.heap.size w w' := by
  have kc := fun w => conv_c w c
  have ha := strOf_append
  have hz := strOf_size
  have hl : (p ++ [c]).length = 6 := by simp [hp]
  have hc := UInt8.toNat_lt c
  have hb := strOf_byte (p ++ [c]) 2 (by rw [hz, hl]; omega)
  have hb2 := bt_lt (p ++ [c]) 2
  have hbd := or_d _ hb2
  have hbl := or_lt _ hb2
  have hh : halfB (p ++ [c]) = dB (bt (p ++ [c]) 2) := by unfold halfB; rw [hl]; rfl
  have hb3 := strOf_byte (p ++ [c]) 3 (by rw [hz, hl]; omega)
  have hb4 := bt_lt (p ++ [c]) 3
  have HX := Lib.hid (fun w => hex_any c.toNat w hc)
  cases hd : dB (bt (p ++ [c]) 2)
  · rw [hd] at hbd hh
    have K : Hid (escS p c = ([], hexB c.toNat)) := by show _ = _; unfold escS; simp [hp, hh]
    clear hd hh
    generalize bt (p ++ [c]) 2 = b2 at *
    generalize bt (p ++ [c]) 3 = b3 at *
    go_enter Try.func55, Try.ntmps55
    go_wp2_with fail
    all_goals
      refine (HX.out _).mono ?_
      rintro e w' ⟨rfl, rfl⟩
      go_wp2_with fail
      go_ret2
      refine ⟨?_, (Below.refl _ _).alloc (Nat.le_refl _) _⟩
      rw [K.out]; rfl
  · rw [hd] at hbd hh
    by_cases h56 : bt (p ++ [c]) 3 < 56
    · have K : Hid (escS p c = ([], hexB c.toNat)) := by show _ = _; unfold escS; simp [hp, h56]
      clear hd hh
      generalize bt (p ++ [c]) 2 = b2 at *
      generalize bt (p ++ [c]) 3 = b3 at *
      go_enter Try.func55, Try.ntmps55
      go_wp2_with fail
      all_goals
        refine (HX.out _).mono ?_
        rintro e w' ⟨rfl, rfl⟩
        go_wp2_with fail
        go_ret2
        refine ⟨?_, (Below.refl _ _).alloc (Nat.le_refl _) _⟩
        rw [K.out]; rfl
    · have K : Hid (escS p c = (p ++ [c], hexB c.toNat)) := by show _ = _; unfold escS; simp [hp, h56, hh]
      clear hd hh
      generalize bt (p ++ [c]) 2 = b2 at *
      generalize bt (p ++ [c]) 3 = b3 at *
      go_enter Try.func55, Try.ntmps55
      go_wp2_with fail
      all_goals
        refine (HX.out _).mono ?_
        rintro e w' ⟨rfl, rfl⟩
        go_wp2_with fail
        go_ret2
        refine ⟨?_, (Below.refl _ _).alloc (Nat.le_refl _) _⟩
        rw [K.out]; rfl
theorem wl_at (c : UInt8) : (0 ≤ Lib.indexByte wl c) ↔ (c ∈ wl) := by
  have h : ∀ n : Fin 256, (0 ≤ Lib.indexByte wl (UInt8.ofNat n.val)) ↔ (UInt8.ofNat n.val ∈ wl) := by decide +kernel
  have := h ⟨c.toNat, UInt8.toNat_lt c⟩
  simpa using this
theorem index_to (c : UInt8) (w : World) : Calls Try.prog 65 #[.string (strOf wl), .int .u8 c.toNat] w fun e w' => e = .returned (.int .i64 (Lib.indexByte wl c)) ∧ w = w' := by
  refine (Try.strings_IndexByte (strOf wl) c.toNat w).mono ?_
  rintro e w' ⟨he, rfl⟩
  rw [strOf_list] at he
  have e2 : (c.toNat : Int).toNat.toUInt8 = c := by simp
  rw [e2] at he
  exact ⟨he, rfl⟩
theorem wl_lt (c : UInt8) : -1 ≤ Lib.indexByte wl c ∧ Lib.indexByte wl c < 8 := by
  have h : ∀ n : Fin 256, -1 ≤ Lib.indexByte wl (UInt8.ofNat n.val) ∧ Lib.indexByte wl (UInt8.ofNat n.val) < 8 := by decide +kernel
  have := h ⟨c.toNat, UInt8.toNat_lt c⟩
  simpa using this
set_option maxRecDepth 100000 in
theorem escape_1 (p : List UInt8) (c : UInt8) (w : World) (hp : p.length = 1) :
    Calls Try.prog 55 #[.string (strOf p), .int .u8 c.toNat] w fun e w' => e = .returned (.tuple #[.string (strOf (escS p c).1), .bool (escS p c).2]) ∧ Below w.heap.size w w' := by
  have kc := fun w => conv_c w c
  have ha := strOf_append
  have hz := strOf_size
  have hl : (p ++ [c]).length = 2 := by simp [hp]
  have hc := UInt8.toNat_lt c
  by_cases h : c.toNat = 117
  · have K : Hid (escS p c = (p ++ [c], true)) := by show _ = _; unfold escS; simp [hp, h]
    rw [h] at hc
    have h' : ((c.toNat : Int) == 117) = true := by rw [h]; rfl
    clear h hc
    go_enter Try.func55, Try.ntmps55
    go_wp2_with fail
    all_goals
      go_ret2
      refine ⟨?_, (Below.refl _ _).alloc (Nat.le_refl _) _⟩
      rw [K.out]; rfl
  · have K : Hid (escS p c = ([], decide (c ∈ wl))) := by show _ = _; unfold escS; simp [hp, h]
    have h' : ((c.toNat : Int) == 117) = false := by simp only [beq_eq_false_iff_ne]; omega
    have HW := Lib.hid (fun w => index_to c w)
    have hw := wl_lt c
    have hi := Lib.hid (wl_at c)
    clear h
    generalize Lib.indexByte wl c = i at *
    go_enter Try.func55, Try.ntmps55
    go_wp2_with fail
    refine (HW.out _).mono ?_
    rintro e w' ⟨rfl, rfl⟩
    go_wp2_with fail
    go_ret2
    refine ⟨?_, (Below.refl _ _).alloc (Nat.le_refl _) _⟩
    rw [K.out]
    have : decide (0 ≤ i) = decide (c ∈ wl) := decide_eq_decide.2 hi.out
    rw [← this]; rfl
set_option maxRecDepth 100000 in
theorem escape_11 (p : List UInt8) (c : UInt8) (w : World) (hp : 11 ≤ p.length) (hp2 : p.length ≤ 60000) :
    Calls Try.prog 55 #[.string (strOf p), .int .u8 c.toNat] w fun e w' => e = .returned (.tuple #[.string (strOf (escS p c).1), .bool (escS p c).2]) ∧ Below w.heap.size w w' := by
  have kc := fun w => conv_c w c
  have ha := strOf_append
  have hz := strOf_size
  have hl : (p ++ [c]).length = p.length + 1 := by simp
  have hc := UInt8.toNat_lt c
  have K : Hid (escS p c = ([], hexB c.toNat)) := by
    show _ = _
    unfold escS
    dsimp only
    rw [if_neg (by omega), if_neg (by omega), if_neg (by omega), if_neg (by omega), if_neg (by omega), if_neg (by omega), if_neg (by omega), if_neg (by omega), if_neg (by omega)]
  have hb := strOf_byte (p ++ [c]) 2 (by rw [hz, hl]; omega)
  have hb2 := bt_lt (p ++ [c]) 2
  have hbd := or_d _ hb2
  have hbl := or_lt _ hb2
  generalize bt (p ++ [c]) 2 = b2 at *
  have HX := Lib.hid (fun w => hex_any c.toNat w hc)
  have n0 : ((p.length : Int) == 0) = false := by simp only [beq_eq_false_iff_ne]; omega
  have n1 : ((p.length : Int) == 1) = false := by simp only [beq_eq_false_iff_ne]; omega
  have n2 : ((p.length : Int) == 2) = false := by simp only [beq_eq_false_iff_ne]; omega
  have n3 : ((p.length : Int) == 3) = false := by simp only [beq_eq_false_iff_ne]; omega
  have n4 : ((p.length : Int) == 4) = false := by simp only [beq_eq_false_iff_ne]; omega
  have n5 : ((p.length : Int) == 5) = false := by simp only [beq_eq_false_iff_ne]; omega
  have n6 : ((p.length : Int) == 6) = false := by simp only [beq_eq_false_iff_ne]; omega
  have n7 : ((p.length : Int) == 7) = false := by simp only [beq_eq_false_iff_ne]; omega
  have n8 : ((p.length : Int) == 8) = false := by simp only [beq_eq_false_iff_ne]; omega
  have n9 : ((p.length : Int) == 9) = false := by simp only [beq_eq_false_iff_ne]; omega
  have n10 : ((p.length : Int) == 10) = false := by simp only [beq_eq_false_iff_ne]; omega
  go_enter Try.func55, Try.ntmps55
  go_wp2_with fail
  all_goals
    refine (HX.out _).mono ?_
    rintro e w' ⟨rfl, rfl⟩
    go_wp2_with fail
    go_ret2
    refine ⟨?_, (Below.refl _ _).alloc (Nat.le_refl _) _⟩
    rw [K.out]; rfl
end Go.Proofs.Ytmfldffbafamnaa
