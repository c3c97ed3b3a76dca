/- Walks: an escape, the other places. -/
import Derived.Test.YtmfldffbafamnaaCjD
namespace Go.Proofs.Ytmfldffbafamnaa
open Go.RowKit
set_option linter.unusedVariables false
set_option linter.unusedSimpArgs false
set_option maxRecDepth 100000 in
theorem escape_9 (p : List UInt8) (c : UInt8) (w : World) (hp : p.length = 9) :
    Calls Try.prog 55 #[.string (strOf p), .int .u8 c.toNat] w fun e w' => e = .returned (.tuple #[.string (strOf (escS p c).1), .bool (escS p c).2]) ∧ Below w.heap.size w w' := by
  have kc := fun w => conv_c w c
  have ha := strOf_append
  have hz := strOf_size
  have hl : (p ++ [c]).length = 10 := by simp [hp]
  have hc := UInt8.toNat_lt c
  have hb := strOf_byte (p ++ [c]) 2 (by rw [hz, hl]; omega)
  have hb2 := bt_lt (p ++ [c]) 2
  have hbd := or_d _ hb2
  have hbl := or_lt _ hb2
  generalize bt (p ++ [c]) 2 = b2 at *
  have HX := Lib.hid (fun w => hex_any c.toNat w hc)
  have hcf := or_cf _ hc
  have hcl := or_lt _ hc
  cases hb' : cfB c.toNat
  · have K : Hid (escS p c = (p ++ [c], false)) := by show _ = _; unfold escS; simp [hp, hb']
    rw [hb'] at hcf
    have hcf2 : ¬ (99 ≤ bits BinOp.or IntKind.u8 (c.toNat : Int) 32) ∨ ¬ (bits BinOp.or IntKind.u8 (c.toNat : Int) 32 ≤ 102) := by
      rcases Decidable.em (99 ≤ bits BinOp.or IntKind.u8 (c.toNat : Int) 32) with h | h
      · right; intro h2; exact absurd (hcf.1 ⟨h, h2⟩) (by decide)
      · left; exact h
    clear hcf hb'
    rcases hcf2 with h | h
    · have h9 : bits BinOp.or IntKind.u8 (c.toNat : Int) 32 < 99 := by omega
      clear h
      go_enter Try.func55, Try.ntmps55
      go_wp2_with fail
      all_goals
        go_ret2
        refine ⟨?_, (Below.refl _ _).alloc (Nat.le_refl _) _⟩
        rw [K.out]; rfl
    · have h9 : 102 < bits BinOp.or IntKind.u8 (c.toNat : Int) 32 := by omega
      have h8 : 99 ≤ bits BinOp.or IntKind.u8 (c.toNat : Int) 32 := by omega
      clear h
      go_enter Try.func55, Try.ntmps55
      go_wp2_with fail
      all_goals
        go_ret2
        refine ⟨?_, (Below.refl _ _).alloc (Nat.le_refl _) _⟩
        rw [K.out]; rfl
  · have K : Hid (escS p c = (p ++ [c], hexB c.toNat)) := by show _ = _; unfold escS; simp [hp, hb']
    obtain ⟨h1, h2⟩ := hcf.2 hb'
    clear hcf hb'
    go_enter Try.func55, Try.ntmps55
    go_wp2_with fail
    all_goals
      refine (HX.out _).mono ?_
      rintro e w' ⟨rfl, rfl⟩
      go_wp2_with fail
      go_ret2
      refine ⟨?_, (Below.refl _ _).alloc (Nat.le_refl _) _⟩
      rw [K.out]; rfl
set_option maxRecDepth 100000 in
theorem escape_3 (p : List UInt8) (c : UInt8) (w : World) (hp : p.length = 3) :
    Calls Try.prog 55 #[.string (strOf p), .int .u8 c.toNat] w fun e w' => e = .returned (.tuple #[.string (strOf (escS p c).1), .bool (escS p c).2]) ∧ Below w.heap.size w w' := by
  have kc := fun w => conv_c w c
  have ha := strOf_append
  have hz := strOf_size
  have hl : (p ++ [c]).length = 4 := by simp [hp]
  have hc := UInt8.toNat_lt c
  have hb := strOf_byte (p ++ [c]) 2 (by rw [hz, hl]; omega)
  have hb2 := bt_lt (p ++ [c]) 2
  have hbd := or_d _ hb2
  have hbl := or_lt _ hb2
  have hh : halfB (p ++ [c]) = dB (bt (p ++ [c]) 2) := by unfold halfB; rw [hl]; rfl
  have HX := Lib.hid (fun w => hex_any c.toNat w hc)
  have hcf := or_cf _ hc
  have hcl := or_lt _ hc
  cases hd : dB (bt (p ++ [c]) 2)
  · rw [hd] at hbd hh
    have K : Hid (escS p c = (p ++ [c], hexB c.toNat)) := by show _ = _; unfold escS; simp [hp, hh]
    clear hd hh
    generalize bt (p ++ [c]) 2 = b2 at *
    go_enter Try.func55, Try.ntmps55
    go_wp2_with fail
    all_goals
      refine (HX.out _).mono ?_
      rintro e w' ⟨rfl, rfl⟩
      go_wp2_with fail
      go_ret2
      refine ⟨?_, (Below.refl _ _).alloc (Nat.le_refl _) _⟩
      rw [K.out]; rfl
  · rw [hd] at hbd hh
    cases hb' : cfB c.toNat
    · have K : Hid (escS p c = (p ++ [c], hexB c.toNat)) := by show _ = _; unfold escS; simp [hp, hb']
      rw [hb'] at hcf
      have hcf2 : ¬ (99 ≤ bits BinOp.or IntKind.u8 (c.toNat : Int) 32) ∨ (99 ≤ bits BinOp.or IntKind.u8 (c.toNat : Int) 32 ∧ ¬ (bits BinOp.or IntKind.u8 (c.toNat : Int) 32 ≤ 102)) := by
        rcases Decidable.em (99 ≤ bits BinOp.or IntKind.u8 (c.toNat : Int) 32) with h | h
        · right; exact ⟨h, fun h2 => absurd (hcf.1 ⟨h, h2⟩) (by decide)⟩
        · left; exact h
      clear hcf hb' hd hh
      generalize bt (p ++ [c]) 2 = b2 at *
      rcases hcf2 with h | ⟨h, h2⟩
      · go_enter Try.func55, Try.ntmps55
        go_wp2_with fail
        all_goals
          refine (HX.out _).mono ?_
          rintro e w' ⟨rfl, rfl⟩
          go_wp2_with fail
          go_ret2
          refine ⟨?_, (Below.refl _ _).alloc (Nat.le_refl _) _⟩
          rw [K.out]; rfl
      · go_enter Try.func55, Try.ntmps55
        go_wp2_with fail
        all_goals
          refine (HX.out _).mono ?_
          rintro e w' ⟨rfl, rfl⟩
          go_wp2_with fail
          go_ret2
          refine ⟨?_, (Below.refl _ _).alloc (Nat.le_refl _) _⟩
          rw [K.out]; rfl
    · have K : Hid (escS p c = (p ++ [c], false)) := by show _ = _; unfold escS; simp [hp, hb', hh]
      obtain ⟨h1, h2⟩ := hcf.2 hb'
      clear hcf hb' hd hh
      generalize bt (p ++ [c]) 2 = b2 at *
      go_enter Try.func55, Try.ntmps55
      go_wp2_with fail
      all_goals
        go_ret2
        refine ⟨?_, (Below.refl _ _).alloc (Nat.le_refl _) _⟩
        rw [K.out]; rfl
set_option maxRecDepth 100000 in
theorem escape_5 (p : List UInt8) (c : UInt8) (w : World) (hp : p.length = 5) :
    Calls Try.prog 55 #[.string (strOf p), .int .u8 c.toNat] w fun e w' => e = .returned (.tuple #[.string (strOf (escS p c).1), .bool (escS p c).2]) ∧ Below w.heap.size w w' := by
  have kc := fun w => conv_c w c
  have ha := strOf_append
  have hz := strOf_size
  have hl : (p ++ [c]).length = 6 := by simp [hp]
  have hc := UInt8.toNat_lt c
  have hb := strOf_byte (p ++ [c]) 2 (by rw [hz, hl]; omega)
  have hb2 := bt_lt (p ++ [c]) 2
  have hbd := or_d _ hb2
  have hbl := or_lt _ hb2
  have hh : halfB (p ++ [c]) = dB (bt (p ++ [c]) 2) := by unfold halfB; rw [hl]; rfl
  have hb3 := strOf_byte (p ++ [c]) 3 (by rw [hz, hl]; omega)
  have hb4 := bt_lt (p ++ [c]) 3
  have HX := Lib.hid (fun w => hex_any c.toNat w hc)
  cases hd : dB (bt (p ++ [c]) 2)
  · rw [hd] at hbd hh
    have K : Hid (escS p c = ([], hexB c.toNat)) := by show _ = _; unfold escS; simp [hp, hh]
    clear hd hh
    generalize bt (p ++ [c]) 2 = b2 at *
    generalize bt (p ++ [c]) 3 = b3 at *
    go_enter Try.func55, Try.ntmps55
    go_wp2_with fail
    all_goals
      refine (HX.out _).mono ?_
      rintro e w' ⟨rfl, rfl⟩
      go_wp2_with fail
      go_ret2
      refine ⟨?_, (Below.refl _ _).alloc (Nat.le_refl _) _⟩
      rw [K.out]; rfl
  · rw [hd] at hbd hh
    by_cases h56 : bt (p ++ [c]) 3 < 56
    · have K : Hid (escS p c = ([], hexB c.toNat)) := by show _ = _; unfold escS; simp [hp, h56]
      clear hd hh
      generalize bt (p ++ [c]) 2 = b2 at *
      generalize bt (p ++ [c]) 3 = b3 at *
      go_enter Try.func55, Try.ntmps55
      go_wp2_with fail
      all_goals
        refine (HX.out _).mono ?_
        rintro e w' ⟨rfl, rfl⟩
        go_wp2_with fail
        go_ret2
        refine ⟨?_, (Below.refl _ _).alloc (Nat.le_refl _) _⟩
        rw [K.out]; rfl
    · have K : Hid (escS p c = (p ++ [c], hexB c.toNat)) := by show _ = _; unfold escS; simp [hp, h56, hh]
      clear hd hh
      generalize bt (p ++ [c]) 2 = b2 at *
      generalize bt (p ++ [c]) 3 = b3 at *
      go_enter Try.func55, Try.ntmps55
      go_wp2_with fail
      all_goals
        refine (HX.out _).mono ?_
        rintro e w' ⟨rfl, rfl⟩
        go_wp2_with fail
        go_ret2
        refine ⟨?_, (Below.refl _ _).alloc (Nat.le_refl _) _⟩
        rw [K.out]; rfl
theorem wl_at (c : UInt8) : (0 ≤ Lib.indexByte wl c) ↔ (c ∈ wl) := by
  have h : ∀ n : Fin 256, (0 ≤ Lib.indexByte wl (UInt8.ofNat n.val)) ↔ (UInt8.ofNat n.val ∈ wl) := by decide +kernel
  have := h ⟨c.toNat, UInt8.toNat_lt c⟩
  simpa using this
theorem index_to (c : UInt8) (w : World) : Calls Try.prog 65 #[.string (strOf wl), .int .u8 c.toNat] w fun e w' => e = .returned (.int .i64 (Lib.indexByte wl c)) ∧ w = w' := by
  refine (Try.strings_IndexByte (strOf wl) c.toNat w).mono ?_
  rintro e w' ⟨he, rfl⟩
  rw [strOf_list] at he
  have e2 : (c.toNat : Int).toNat.toUInt8 = c := by simp
  rw [e2] at he
  exact ⟨he, rfl⟩
theorem wl_lt (c : UInt8) : -1 ≤ Lib.indexByte wl c ∧ Lib.indexByte wl c < 8 := by
  have h : ∀ n : Fin 256, -1 ≤ Lib.indexByte wl (UInt8.ofNat n.val) ∧ Lib.indexByte wl (UInt8.ofNat n.val) < 8 := by decide +kernel
  have := h ⟨c.toNat, UInt8.toNat_lt c⟩
  simpa using this
set_option maxRecDepth 100000 in
theorem escape_1 (p : List UInt8) (c : UInt8) (w : World) (hp : p.length = 1) :
    Calls Try.prog 55 #[.string (strOf p), .int .u8 c.toNat] w fun e w' => e = .returned (.tuple #[.string (strOf (escS p c).1), .bool (escS p c).2]) ∧ Below w.heap.size w w' := by
  have kc := fun w => conv_c w c
  have ha := strOf_append
  have hz := strOf_size
  have hl : (p ++ [c]).length = 2 := by simp [hp]
  have hc := UInt8.toNat_lt c
  by_cases h : c.toNat = 117
  · have K : Hid (escS p c = (p ++ [c], true)) := by show _ = _; unfold escS; simp [hp, h]
    rw [h] at hc
    have h' : ((c.toNat : Int) == 117) = true := by rw [h]; rfl
    clear h hc
    go_enter Try.func55, Try.ntmps55
    go_wp2_with fail
    all_goals
      go_ret2
      refine ⟨?_, (Below.refl _ _).alloc (Nat.le_refl _) _⟩
      rw [K.out]; rfl
  · have K : Hid (escS p c = ([], decide (c ∈ wl))) := by show _ = _; unfold escS; simp [hp, h]
    have h' : ((c.toNat : Int) == 117) = false := by simp only [beq_eq_false_iff_ne]; omega
    have HW := Lib.hid (fun w => index_to c w)
    have hw := wl_lt c
    have hi := Lib.hid (wl_at c)
    clear h
    generalize Lib.indexByte wl c = i at *
    go_enter Try.func55, Try.ntmps55
    go_wp2_with fail
    refine (HW.out _).mono ?_
    rintro e w' ⟨rfl, rfl⟩
    go_wp2_with fail
    go_ret2
    refine ⟨?_, (Below.refl _ _).alloc (Nat.le_refl _) _⟩
    rw [K.out]
    have : decide (0 ≤ i) = decide (c ∈ wl) := decide_eq_decide.2 hi.out
    rw [← this]; rfl
set_option maxRecDepth 100000 in
theorem escape_11 (p : List UInt8) (c : UInt8) (w : World) (hp : 11 ≤ p.length) (hp2 : p.length ≤ 60000) :
    Calls Try.prog 55 #[.string (strOf p), .int .u8 c.toNat] w fun e w' => e = .returned (.tuple #[.string (strOf (escS p c).1), .bool (escS p c).2]) ∧ Below w.heap.size w w' := by
  have kc := fun w => conv_c w c
  have ha := strOf_append
  have hz := strOf_size
  have hl : (p ++ [c]).length = p.length + 1 := by simp
  have hc := UInt8.toNat_lt c
  have K : Hid (escS p c = ([], hexB c.toNat)) := by
    show _ = _
    unfold escS
    dsimp only
    rw [if_neg (by omega), if_neg (by omega), if_neg (by omega), if_neg (by omega), if_neg (by omega), if_neg (by omega), if_neg (by omega), if_neg (by omega), if_neg (by omega)]
  have hb := strOf_byte (p ++ [c]) 2 (by rw [hz, hl]; omega)
  have hb2 := bt_lt (p ++ [c]) 2
  have hbd := or_d _ hb2
  have hbl := or_lt _ hb2
  generalize bt (p ++ [c]) 2 = b2 at *
  have HX := Lib.hid (fun w => hex_any c.toNat w hc)
  have n0 : ((p.length : Int) == 0) = false := by simp only [beq_eq_false_iff_ne]; omega
  have n1 : ((p.length : Int) == 1) = false := by simp only [beq_eq_false_iff_ne]; omega
  have n2 : ((p.length : Int) == 2) = false := by simp only [beq_eq_false_iff_ne]; omega
  have n3 : ((p.length : Int) == 3) = false := by simp only [beq_eq_false_iff_ne]; omega
  have n4 : ((p.length : Int) == 4) = false := by simp only [beq_eq_false_iff_ne]; omega
  have n5 : ((p.length : Int) == 5) = false := by simp only [beq_eq_false_iff_ne]; omega
  have n6 : ((p.length : Int) == 6) = false := by simp only [beq_eq_false_iff_ne]; omega
  have n7 : ((p.length : Int) == 7) = false := by simp only [beq_eq_false_iff_ne]; omega
  have n8 : ((p.length : Int) == 8) = false := by simp only [beq_eq_false_iff_ne]; omega
  have n9 : ((p.length : Int) == 9) = false := by simp only [beq_eq_false_iff_ne]; omega
  have n10 : ((p.length : Int) == 10) = false := by simp only [beq_eq_false_iff_ne]; omega
  go_enter Try.func55, Try.ntmps55
  go_wp2_with fail
  all_goals
    refine (HX.out _).mono ?_
    rintro e w' ⟨rfl, rfl⟩
    go_wp2_with fail
    go_ret2
    refine ⟨?_, (Below.refl _ _).alloc (Nat.le_refl _) _⟩
    rw [K.out]; rfl
end Go.Proofs.Ytmfldffbafamnaa

/- Walks: brackets, quotes. -/
namespace Go.Proofs.Ytmfldffbafamnaa
open Go.RowKit
set_option linter.unusedVariables false
set_option linter.unusedSimpArgs false
theorem cescape_any (p : List UInt8) (c : UInt8) (w : World) (hp : p.length ≤ 60000) :
    Calls Try.prog 55 #[.string (strOf p), .int .u8 c.toNat] w fun e w' => e = .returned (.tuple #[.string (strOf (escS p c).1), .bool (escS p c).2]) ∧ Below w.heap.size w w' := by
  have h : p.length = 0 ∨ p.length = 1 ∨ p.length = 2 ∨ p.length = 3 ∨ p.length = 4 ∨ p.length = 5 ∨ p.length = 6 ∨ p.length = 7 ∨ p.length = 8 ∨ p.length = 9 ∨ p.length = 10 ∨ 11 ≤ p.length := by omega
  rcases h with h | h | h | h | h | h | h | h | h | h | h | h
  · exact escape_0 p c w h
  · exact escape_1 p c w h
  · exact escape_2 p c w h
  · exact escape_3 p c w h
  · exact escape_4 p c w h
  · exact escape_5 p c w h
  · exact escape_6 p c w h
  · exact escape_7 p c w h
  · exact escape_8 p c w h
  · exact escape_9 p c w h
  · exact escape_10 p c w h
  · exact escape_11 p c w h hp
/-- Where in a JSON text: what may come or is being read; what is open; what of a token was read. -/
structure Q where
  m : Nat
  o : List UInt8
  p : List UInt8
deriving DecidableEq
def Q.v (q : Q) : Value := sv q.m q.o q.p
def Q.fit (q : Q) : Prop := q.m < 10 ∧ q.o.length ≤ 1000 ∧ q.p.length ≤ 1000
def qr (x : Q × Bool) : Value := .tuple #[x.1.v, .bool x.2]
def closeS (q : Q) (b : Nat) (e : Nat) : Q × Bool :=
  if inB q.o ≠ b ∨ (q.m ≠ e ∧ q.m ≠ 5) then (q, false) else (⟨5, q.o.take (q.o.length - 1), []⟩, true)
set_option maxRecDepth 100000 in
theorem closed_any (q : Q) (b e : Nat) (w : World) (hq : q.fit) (hb : b = 91 ∨ b = 123) (he : e < 10) :
    Calls Try.prog 57 #[q.v, .int .u8 b, .int .i64 e] w fun x w' => x = .returned (qr (closeS q b e)) ∧ Below w.heap.size w w' := by
  obtain ⟨m, o, p⟩ := q
  obtain ⟨h1, h2, h3⟩ := hq
  dsimp only at h1 h2 h3
  have HI := Lib.hid (fun w => inside_any m o p w (by omega))
  unfold Q.v sv at *
  dsimp only at *
  by_cases hi : inB o = b
  · by_cases hm : m = e ∨ m = 5
    · have K : Hid (closeS ⟨m, o, p⟩ b e = (⟨5, o.take (o.length - 1), []⟩, true)) := by
        show _ = _; unfold closeS; rw [if_neg (by dsimp only; omega)]
      have ho : 0 < o.length := by
        rcases Nat.eq_zero_or_pos o.length with h | h
        · have : o = [] := List.length_eq_zero_iff.1 h
          subst this
          have : inB [] = 0 := rfl
          omega
        · exact h
      have hz := strOf_size o
      have HE : Hid ((strOf o).extract 0 (o.length - 1) = strOf (o.take (o.length - 1))) := by show _ = _; rw [strOf_extract]; simp
      have HD := Lib.hid (fun w => done_any m (o.take (o.length - 1)) p w)
      unfold sv at HD
      rw [hi] at HI
      have hme : (((m : Int) != e) = false) ∨ (((m : Int) != e) = true ∧ ((m : Int) != 5) = false) := by
        by_cases h : m = e
        · left; subst h; simp
        · right
          have h5 : m = 5 := by omega
          subst h5
          exact ⟨by simp only [bne_iff_ne, ne_eq]; omega, rfl⟩
      clear hm hi
      rcases hme with m3 | ⟨m3, m4⟩
      all_goals
        go_enter Try.func57, Try.ntmps57
        go_wp2_with fail
        refine (HI.out _).mono ?_
        rintro x w' ⟨rfl, b2⟩
        have hA : Blk w' w.heap.size 25 #[.int .i64 m, .string (strOf o), .string (strOf p)] := ((Blk.new w _ _).alloc _).below b2 (by simp; try omega)
        have hR := (Blk.new (w.alloc (.cells #[.int .i64 m, .string (strOf o), .string (strOf p)] 25)) 25 #[.int .i64 0, .string ⟨#[]⟩, .string ⟨#[]⟩])
        rw [World.size_alloc] at hR
        have hB := hR.below b2 (by simp only [World.size_alloc]; omega)
        have a0 := hA.cell 0
        have a1 := hA.cell 1
        have a2 := hA.cell 2
        have g1 := hA.frozen 1
        have hbw : Below w.heap.size w w' := (((Below.refl _ w).alloc (Nat.le_refl _) _).alloc (by simp) _).trans (b2.mono (by simp; omega))
        go_wp2_with fail
        rw [HE.out]
        refine (HD.out _).mono ?_
        rintro x w4 ⟨rfl, b4⟩
        have hC := (hB.far (p := ⟨w.heap.size, 1, none⟩) (by simp) (.string (strOf (o.take (o.length - 1))))).below b4 (by simp [World.setCell]; have := hB.lt; omega)
        have f0 := hC.frozen 0
        have f1 := hC.frozen 1
        have f2 := hC.frozen 2
        have r0 := hC.cell 0
        have r1 := hC.cell 1
        have r2 := hC.cell 2
        have hS := ((hC.set_ 0 (.int .i64 5)).set_ 1 (.string (strOf (o.take (o.length - 1))))).set_ 2 (.string (strOf []))
        have H0 := Lib.hid (hS.cell 0)
        have H1 := Lib.hid (hS.cell 1)
        have H2 := Lib.hid (hS.cell 2)
        have hbx := (hbw.setCell (p := ⟨w.heap.size, 1, none⟩) (by simp) (.string (strOf (o.take (o.length - 1))))).trans (b4.mono (by simp [World.setCell]; have := hbw.size; omega))
        clear hA hR hB b2 hS hC
        go_wp2_with fail
        have s0 := H0.out
        have s1 := H1.out
        have s2 := H2.out
        refine bodyPost_ret (v := .tuple #[.agg #[.int .i64 5, .string (strOf (o.take (o.length - 1))), .string (strOf [])], .bool true]) (by simp [results, Try.f57, go_sem, s0, s1, s2]) rfl ⟨by rw [K.out]; rfl, ?_⟩
        exact ((hbx.setCell (by simp) _).setCell (by simp) _).setCell (by simp) _
    · have K : Hid (closeS ⟨m, o, p⟩ b e = (⟨m, o, p⟩, false)) := by
        show _ = _; unfold closeS; rw [if_pos (by dsimp only; omega)]
      rw [hi] at HI
      have m1 : ((m : Int) == e) = false := by simp only [beq_eq_false_iff_ne]; omega
      have m2 : ((m : Int) == 5) = false := by simp only [beq_eq_false_iff_ne]; omega
      have m3 : ((m : Int) != e) = true := by simp only [bne, m1]; rfl
      have m4 : ((m : Int) != 5) = true := by simp only [bne, m2]; rfl
      clear hm hi
      go_enter Try.func57, Try.ntmps57
      go_wp2_with fail
      refine (HI.out _).mono ?_
      rintro x w' ⟨rfl, b2⟩
      have hA : Blk w' w.heap.size 25 #[.int .i64 m, .string (strOf o), .string (strOf p)] := ((Blk.new w _ _).alloc _).below b2 (by simp; try omega)
      have hR := (Blk.new (w.alloc (.cells #[.int .i64 m, .string (strOf o), .string (strOf p)] 25)) 25 #[.int .i64 0, .string ⟨#[]⟩, .string ⟨#[]⟩])
      rw [World.size_alloc] at hR
      have hB := hR.below b2 (by simp only [World.size_alloc]; omega)
      have a0 := hA.cell 0
      have a1 := hA.cell 1
      have a2 := hA.cell 2
      have f0 := hB.frozen 0
      have f1 := hB.frozen 1
      have f2 := hB.frozen 2
      have r0 := hB.cell 0
      have r1 := hB.cell 1
      have r2 := hB.cell 2
      have hbw : Below w.heap.size w w' := (((Below.refl _ w).alloc (Nat.le_refl _) _).alloc (by simp) _).trans (b2.mono (by simp; omega))
      have hS := ((hB.set_ 0 (.int .i64 m)).set_ 1 (.string (strOf o))).set_ 2 (.string (strOf p))
      have s0 := hS.cell 0
      have s1 := hS.cell 1
      have s2 := hS.cell 2
      have H0 := Lib.hid s0
      have H1 := Lib.hid s1
      have H2 := Lib.hid s2
      clear hA hR hB b2 hS s0 s1 s2
      go_wp2_with fail
      have s0 := H0.out
      have s1 := H1.out
      have s2 := H2.out
      refine bodyPost_ret (v := .tuple #[.agg #[.int .i64 m, .string (strOf o), .string (strOf p)], .bool false]) (by simp [results, Try.f57, go_sem, s0, s1, s2]) rfl ⟨by rw [K.out]; rfl, ?_⟩
      exact ((hbw.setCell (by simp) _).setCell (by simp) _).setCell (by simp) _
  · have K : Hid (closeS ⟨m, o, p⟩ b e = (⟨m, o, p⟩, false)) := by
      show _ = _; unfold closeS; rw [if_pos (by dsimp only; omega)]
    have i1 : ((inB o : Int) != b) = true := by simp only [bne_iff_ne, ne_eq]; omega
    have i2 : inB o < 256 := by unfold inB; split; · omega
                                · exact bt_lt _ _
    generalize inB o = i at *
    clear hi
    go_enter Try.func57, Try.ntmps57
    go_wp2_with fail
    refine (HI.out _).mono ?_
    rintro x w' ⟨rfl, b2⟩
    have hA : Blk w' w.heap.size 25 #[.int .i64 m, .string (strOf o), .string (strOf p)] := ((Blk.new w _ _).alloc _).below b2 (by simp; try omega)
    have hR := (Blk.new (w.alloc (.cells #[.int .i64 m, .string (strOf o), .string (strOf p)] 25)) 25 #[.int .i64 0, .string ⟨#[]⟩, .string ⟨#[]⟩])
    rw [World.size_alloc] at hR
    have hB := hR.below b2 (by simp only [World.size_alloc]; omega)
    have a0 := hA.cell 0
    have a1 := hA.cell 1
    have a2 := hA.cell 2
    have f0 := hB.frozen 0
    have f1 := hB.frozen 1
    have f2 := hB.frozen 2
    have r0 := hB.cell 0
    have r1 := hB.cell 1
    have r2 := hB.cell 2
    have hbw : Below w.heap.size w w' := (((Below.refl _ w).alloc (Nat.le_refl _) _).alloc (by simp) _).trans (b2.mono (by simp; omega))
    have hS := ((hB.set_ 0 (.int .i64 m)).set_ 1 (.string (strOf o))).set_ 2 (.string (strOf p))
    have H0 := Lib.hid (hS.cell 0)
    have H1 := Lib.hid (hS.cell 1)
    have H2 := Lib.hid (hS.cell 2)
    clear hA hR hB b2 hS
    go_wp2_with fail
    have s0 := H0.out
    have s1 := H1.out
    have s2 := H2.out
    refine bodyPost_ret (v := .tuple #[.agg #[.int .i64 m, .string (strOf o), .string (strOf p)], .bool false]) (by simp [results, Try.f57, go_sem, s0, s1, s2]) rfl ⟨by rw [K.out]; rfl, ?_⟩
    exact ((hbw.setCell (by simp) _).setCell (by simp) _).setCell (by simp) _
end Go.Proofs.Ytmfldffbafamnaa

/- A state in a block, as the walks of ctxjson meet it. -/
namespace Go.Proofs.Ytmfldffbafamnaa
open Go.RowKit
set_option linter.unusedVariables false
set_option linter.unusedSimpArgs false
def Q.cs (q : Q) : Array Value := #[.int .i64 q.m, .string (strOf q.o), .string (strOf q.p)]
def StAt (w : World) (g : Nat) (q : Q) : Prop := Blk w g 25 q.cs
theorem StAt.facts {w : World} {g : Nat} {q : Q} (h : StAt w g q) :
    w.cell? ⟨g, 0, none⟩ = some (.int .i64 q.m) ∧ w.cell? ⟨g, 1, none⟩ = some (.string (strOf q.o)) ∧ w.cell? ⟨g, 2, none⟩ = some (.string (strOf q.p)) ∧
    w.frozen? ⟨g, 0, none⟩ = false ∧ w.frozen? ⟨g, 1, none⟩ = false ∧ w.frozen? ⟨g, 2, none⟩ = false :=
  ⟨Blk.cell h 0, Blk.cell h 1, Blk.cell h 2, Blk.frozen h 0, Blk.frozen h 1, Blk.frozen h 2⟩
theorem StAt.put {w : World} {g : Nat} {q : Q} (h : StAt w g q) (r : Q) :
    StAt (((w.setCell ⟨g, 0, none⟩ (.int .i64 r.m)).setCell ⟨g, 1, none⟩ (.string (strOf r.o))).setCell ⟨g, 2, none⟩ (.string (strOf r.p))) g r :=
  ((Blk.set_ h 0 (.int .i64 r.m)).set_ 1 (.string (strOf r.o))).set_ 2 (.string (strOf r.p))
theorem StAt.part {w : World} {g : Nat} {q : Q} (h : StAt w g q) (p : List UInt8) : StAt (w.setCell ⟨g, 2, none⟩ (.string (strOf p))) g ⟨q.m, q.o, p⟩ := Blk.set_ h 2 (.string (strOf p))
theorem StAt.far {w : World} {g : Nat} {q : Q} (h : StAt w g q) {a : Addr} (ha : g ≠ a.block) (u : Value) : StAt (w.setCell a u) g q := Blk.far h ha u
theorem StAt.below {w w' : World} {g B : Nat} {q : Q} (h : StAt w g q) (hb : Below B w w') (hg : g < B) : StAt w' g q := Blk.below h hb hg
theorem StAt.below' {w w' : World} {g : Nat} {q : Q} (h : StAt w g q) (hb : Below w.heap.size w w') : StAt w' g q := Blk.below h hb (Blk.lt h)
/-- The receiver's box, and the result's. -/
theorem boxes_new (w : World) (m : Nat) (o p : List UInt8) :
    StAt ((w.alloc (.cells #[.int .i64 m, .string (strOf o), .string (strOf p)] 25)).alloc (.cells #[.int .i64 0, .string ⟨#[]⟩, .string ⟨#[]⟩] 25)) w.heap.size ⟨m, o, p⟩ ∧
    StAt ((w.alloc (.cells #[.int .i64 m, .string (strOf o), .string (strOf p)] 25)).alloc (.cells #[.int .i64 0, .string ⟨#[]⟩, .string ⟨#[]⟩] 25)) (w.heap.size + 1) ⟨0, [], []⟩ ∧
    Below w.heap.size w ((w.alloc (.cells #[.int .i64 m, .string (strOf o), .string (strOf p)] 25)).alloc (.cells #[.int .i64 0, .string ⟨#[]⟩, .string ⟨#[]⟩] 25)) := by
  refine ⟨(Blk.new w _ _).alloc _, ?_, ((Below.refl _ w).alloc (Nat.le_refl _) _).alloc (by simp) _⟩
  have h := Blk.new (w.alloc (.cells #[.int .i64 m, .string (strOf o), .string (strOf p)] 25)) 25 #[.int .i64 0, .string ⟨#[]⟩, .string ⟨#[]⟩]
  rw [World.size_alloc] at h
  exact h
theorem below_put {B g : Nat} {a w : World} (h : Below B a w) (hg : B ≤ g) (u v x : Value) : Below B a (((w.setCell ⟨g, 0, none⟩ u).setCell ⟨g, 1, none⟩ v).setCell ⟨g, 2, none⟩ x) :=
  ((h.setCell (p := ⟨g, 0, none⟩) hg u).setCell (p := ⟨g, 1, none⟩) hg v).setCell (p := ⟨g, 2, none⟩) hg x
end Go.Proofs.Ytmfldffbafamnaa

/- Walks: in a string. -/
namespace Go.Proofs.Ytmfldffbafamnaa
open Go.RowKit
set_option linter.unusedVariables false
set_option linter.unusedSimpArgs false
def quoteS (q : Q) (c : UInt8) : Q × Bool :=
  if q.p ≠ [] ∨ c.toNat = 92 then (⟨q.m, q.o, (escS q.p c).1⟩, (escS q.p c).2)
  else if c.toNat = 34 ∧ q.m = 7 then (⟨4, q.o, []⟩, true)
  else if c.toNat = 34 then (⟨5, q.o, []⟩, true)
  else (q, decide (32 ≤ (c.toNat : Int)))
set_option maxRecDepth 100000 in
theorem quoted_esc (m : Nat) (o p : List UInt8) (c : UInt8) (w : World) (hm : m < 10) (hp : p.length ≤ 1000) (hh : p ≠ [] ∨ c.toNat = 92) :
    Calls Try.prog 37 #[sv m o p, .int .u8 c.toNat] w fun x w' => x = .returned (qr (quoteS ⟨m, o, p⟩ c)) ∧ Below w.heap.size w w' := by
  have K : Hid (quoteS ⟨m, o, p⟩ c = (⟨m, o, (escS p c).1⟩, (escS p c).2)) := by show _ = _; unfold quoteS; rw [if_pos hh]
  have HE := Lib.hid (fun w => cescape_any p c w (by omega))
  have hc := UInt8.toNat_lt c
  have ht := strOf_toList p
  have hcase : ((!(p.isEmpty)) = true) ∨ (p.isEmpty = true ∧ ((c.toNat : Int) == 92) = true) := by
    cases p with
    | nil => right; refine ⟨rfl, ?_⟩; rcases hh with h | h
             · exact absurd rfl h
             · rw [h]; rfl
    | cons a t => left; rfl
  generalize escS p c = r at *
  obtain ⟨r1, r2⟩ := r
  dsimp only at K HE
  unfold sv
  have HB := Lib.hid (boxes_new w m o p)
  clear hh
  rcases hcase with h1 | ⟨h1, h2⟩
  · go_enter Try.func37, Try.ntmps37
    go_wp2_with fail
    refine (HE.out _).mono ?_
    rintro x w2 ⟨rfl, b2⟩
    obtain ⟨hA, hR, hb⟩ := HB.out
    have HA2 := Lib.hid (hA.below' b2)
    have HR2 := Lib.hid (hR.below' b2)
    have hb2 := hb.trans (b2.mono hb.size)
    obtain ⟨a0, a1, a2, f0, f1, f2⟩ := (hA.below' b2).facts
    obtain ⟨c0, c1, c2, g0, g1, g2⟩ := (hR.below' b2).facts
    clear hA hR hb b2
    go_wp2_with fail
    have hS := (HR2.out.far (a := ⟨w.heap.size, 2, none⟩) (by simp) (.string (strOf r1))).put ⟨m, o, r1⟩
    obtain ⟨s0, s1, s2, _, _, _⟩ := hS.facts
    refine bodyPost_ret (v := .tuple #[.agg #[.int .i64 m, .string (strOf o), .string (strOf r1)], .bool r2]) (by simp [results, Try.f37, go_sem, s0, s1, s2]) rfl ⟨by rw [K.out]; rfl, ?_⟩
    exact below_put (hb2.setCell (p := ⟨w.heap.size, 2, none⟩) (Nat.le_refl _) _) (by simp) _ _ _
  · go_enter Try.func37, Try.ntmps37
    go_wp2_with fail
    refine (HE.out _).mono ?_
    rintro x w2 ⟨rfl, b2⟩
    obtain ⟨hA, hR, hb⟩ := HB.out
    have HA2 := Lib.hid (hA.below' b2)
    have HR2 := Lib.hid (hR.below' b2)
    have hb2 := hb.trans (b2.mono hb.size)
    obtain ⟨a0, a1, a2, f0, f1, f2⟩ := (hA.below' b2).facts
    obtain ⟨c0, c1, c2, g0, g1, g2⟩ := (hR.below' b2).facts
    clear hA hR hb b2
    go_wp2_with fail
    have hS := (HR2.out.far (a := ⟨w.heap.size, 2, none⟩) (by simp) (.string (strOf r1))).put ⟨m, o, r1⟩
    obtain ⟨s0, s1, s2, _, _, _⟩ := hS.facts
    refine bodyPost_ret (v := .tuple #[.agg #[.int .i64 m, .string (strOf o), .string (strOf r1)], .bool r2]) (by simp [results, Try.f37, go_sem, s0, s1, s2]) rfl ⟨by rw [K.out]; rfl, ?_⟩
    exact below_put (hb2.setCell (p := ⟨w.heap.size, 2, none⟩) (Nat.le_refl _) _) (by simp) _ _ _
set_option maxRecDepth 100000 in
theorem quoted_plain (m : Nat) (o : List UInt8) (c : UInt8) (w : World) (hm : m < 10) (hh : ¬ c.toNat = 92) :
    Calls Try.prog 37 #[sv m o [], .int .u8 c.toNat] w fun x w' => x = .returned (qr (quoteS ⟨m, o, []⟩ c)) ∧ Below w.heap.size w w' := by
  have hc := UInt8.toNat_lt c
  have ht : (strOf []).toList.isEmpty = true := by rw [strOf_toList]; rfl
  have h92 : ((c.toNat : Int) == 92) = false := by simp only [beq_eq_false_iff_ne]; omega
  have HB := Lib.hid (boxes_new w m o [])
  have HD := Lib.hid (fun w => done_any m o [] w)
  unfold sv at HD ⊢
  by_cases h34 : c.toNat = 34
  · have i34 : ((c.toNat : Int) == 34) = true := by rw [h34]; rfl
    by_cases h7 : m = 7
    · have K : Hid (quoteS ⟨m, o, []⟩ c = (⟨4, o, []⟩, true)) := by show _ = _; unfold quoteS; rw [if_neg (by simp [hh]), if_pos ⟨h34, h7⟩]
      have i7 : ((m : Int) == 7) = true := by rw [h7]; rfl
      clear h34 h7 hh
      go_enter Try.func37, Try.ntmps37
      go_wp2_with fail
      obtain ⟨hA, hR, hb⟩ := HB.out
      refine bodyPost_ret (v := .tuple #[.agg #[.int .i64 4, .string (strOf o), .string (strOf [])], .bool true]) (by simp [results, Try.f37, go_sem]; rfl) rfl ⟨by rw [K.out]; rfl, ?_⟩
      go_grown
    · have K : Hid (quoteS ⟨m, o, []⟩ c = (⟨5, o, []⟩, true)) := by show _ = _; unfold quoteS; rw [if_neg (by simp [hh]), if_neg (by rintro ⟨_, h⟩; exact h7 h), if_pos h34]
      have i7 : ((m : Int) == 7) = false := by simp only [beq_eq_false_iff_ne]; omega
      clear h34 h7 hh
      go_enter Try.func37, Try.ntmps37
      go_wp2_with fail
      refine (HD.out _).mono ?_
      rintro x w2 ⟨rfl, b2⟩
      obtain ⟨hA, hR, hb⟩ := HB.out
      have HR2 := Lib.hid (hR.below' b2)
      have hb2 := hb.trans (b2.mono hb.size)
      obtain ⟨c0, c1, c2, g0, g1, g2⟩ := (hR.below' b2).facts
      clear hA hR hb b2
      go_wp2_with fail
      have hS := HR2.out.put ⟨5, o, []⟩
      dsimp only at hS
      obtain ⟨s0, s1, s2, _, _, _⟩ := hS.facts
      have e5 : ((5 : Nat) : Int) = 5 := rfl
      rw [e5] at s0 s1 s2
      refine bodyPost_ret (v := .tuple #[.agg #[.int .i64 5, .string (strOf o), .string (strOf [])], .bool true]) (by simp [results, Try.f37, go_sem, s0, s1, s2]) rfl ⟨by rw [K.out]; rfl, ?_⟩
      exact below_put hb2 (by simp) _ _ _
  · have i34 : ((c.toNat : Int) == 34) = false := by simp only [beq_eq_false_iff_ne]; omega
    have K : Hid (quoteS ⟨m, o, []⟩ c = (⟨m, o, []⟩, decide (32 ≤ (c.toNat : Int)))) := by show _ = _; unfold quoteS; rw [if_neg (by simp [hh]), if_neg (by rintro ⟨h, _⟩; exact h34 h), if_neg h34]
    clear h34 hh
    go_enter Try.func37, Try.ntmps37
    go_wp2_with fail
    obtain ⟨hA, hR, hb⟩ := HB.out
    refine bodyPost_ret (v := .tuple #[.agg #[.int .i64 m, .string (strOf o), .string (strOf [])], .bool (decide (32 ≤ (c.toNat : Int)))]) (by simp [results, Try.f37, go_sem]) rfl ⟨by rw [K.out]; rfl, ?_⟩
    go_grown
end Go.Proofs.Ytmfldffbafamnaa

/- Walks: quoted, whole; the first byte of a value. -/
namespace Go.Proofs.Ytmfldffbafamnaa
open Go.RowKit
set_option linter.unusedVariables false
set_option linter.unusedSimpArgs false
theorem quoted_any (q : Q) (c : UInt8) (w : World) (hq : q.fit) :
    Calls Try.prog 37 #[q.v, .int .u8 c.toNat] w fun x w' => x = .returned (qr (quoteS q c)) ∧ Below w.heap.size w w' := by
  obtain ⟨m, o, p⟩ := q
  obtain ⟨h1, h2, h3⟩ := hq
  dsimp only at h1 h2 h3
  by_cases h : p ≠ [] ∨ c.toNat = 92
  · exact quoted_esc m o p c w h1 h3 h
  · have hp : p = [] := by
      by_cases e : p = []
      · exact e
      · exact absurd (Or.inl e) h
    subst hp
    exact quoted_plain m o c w h1 (fun e => h (Or.inr e))
def beginS (q : Q) (c : UInt8) : Q × Bool :=
  if ¬ (q.m = 0 ∨ q.m = 1) ∨ 32 ≤ q.o.length then (q, false)
  else if c.toNat = 91 then (⟨1, q.o ++ [91], []⟩, true)
  else if c.toNat = 123 then (⟨2, q.o ++ [123], []⟩, true)
  else if c.toNat = 34 then (⟨6, q.o, []⟩, true)
  else if c.toNat = 45 then (⟨9, q.o, [45]⟩, true)
  else if digit c.toNat then (⟨9, q.o, (numS [] c.toNat).1⟩, (numS [] c.toNat).2)
  else (⟨8, q.o, [c]⟩, (wordS [c]).1)
set_option maxRecDepth 100000 in
theorem begin_not (m : Nat) (o p : List UInt8) (c : UInt8) (w : World) (hm : m < 10) (ho : o.length ≤ 1000) (hh : ¬ (m = 0 ∨ m = 1) ∨ 32 ≤ o.length) :
    Calls Try.prog 59 #[sv m o p, .int .u8 c.toNat] w fun x w' => x = .returned (qr (beginS ⟨m, o, p⟩ c)) ∧ Below w.heap.size w w' := by
  have K : Hid (beginS ⟨m, o, p⟩ c = (⟨m, o, p⟩, false)) := by show _ = _; unfold beginS; rw [if_pos hh]
  have hc := UInt8.toNat_lt c
  have hz := strOf_size o
  unfold sv
  have hcase : (((m : Int) != 0) = true ∧ ((m : Int) != 1) = true) ∨ (((m : Int) != 0) = true ∧ ((m : Int) != 1) = false ∧ 32 ≤ o.length) ∨ (((m : Int) != 0) = false ∧ 32 ≤ o.length) := by
    by_cases h0 : m = 0
    · right; right; subst h0; exact ⟨rfl, by omega⟩
    · by_cases h1 : m = 1
      · right; left; subst h1; exact ⟨rfl, rfl, by omega⟩
      · left; exact ⟨by simp only [bne_iff_ne, ne_eq]; omega, by simp only [bne_iff_ne, ne_eq]; omega⟩
  clear hh
  rcases hcase with ⟨h1, h2⟩ | ⟨h1, h2, h3⟩ | ⟨h1, h3⟩
  all_goals
    go_enter Try.func59, Try.ntmps59
    go_wp2_with fail
    refine bodyPost_ret (v := .tuple #[.agg #[.int .i64 m, .string (strOf o), .string (strOf p)], .bool false]) (by simp [results, Try.f59, go_sem]; try rfl) rfl ⟨by rw [K.out]; rfl, ?_⟩
    go_grown
end Go.Proofs.Ytmfldffbafamnaa

/- Walks: the first byte of a value, taken. -/
namespace Go.Proofs.Ytmfldffbafamnaa
open Go.RowKit
set_option linter.unusedVariables false
set_option linter.unusedSimpArgs false
theorem beginS_yes {m : Nat} {o p : List UInt8} {c : UInt8} (h1 : m = 0 ∨ m = 1) (h2 : o.length < 32) : beginS ⟨m, o, p⟩ c =
    (if c.toNat = 91 then (⟨1, o ++ [91], []⟩, true)
    else if c.toNat = 123 then (⟨2, o ++ [123], []⟩, true)
    else if c.toNat = 34 then (⟨6, o, []⟩, true)
    else if c.toNat = 45 then (⟨9, o, [45]⟩, true)
    else if digit c.toNat then (⟨9, o, (numS [] c.toNat).1⟩, (numS [] c.toNat).2)
    else (⟨8, o, [c]⟩, (wordS [c]).1)) := by
  unfold beginS; rw [if_neg (by dsimp only; omega)]
set_option maxRecDepth 100000 in
theorem begin_sq (m : Nat) (o p : List UInt8) (c : UInt8) (w : World) (hm : m = 0 ∨ m = 1) (ho : o.length < 32) (hh : c.toNat = 91) :
    Calls Try.prog 59 #[sv m o p, .int .u8 c.toNat] w fun x w' => x = .returned (qr (beginS ⟨m, o, p⟩ c)) ∧ Below w.heap.size w w' := by
  have K : Hid (beginS ⟨m, o, p⟩ c = (⟨1, o ++ [91], []⟩, true)) := by show _ = _; rw [beginS_yes hm ho, hh]; rfl
  have hz := strOf_size o
  rw [hh]
  have hA : Hid (strOf o ++ ⟨#[91]⟩ = strOf (o ++ [91])) := strOf_append o [91]
  clear hh
  unfold sv
  rcases hm with rfl | rfl
  all_goals
    go_enter Try.func59, Try.ntmps59
    go_wp2_with fail
    refine bodyPost_ret (v := .tuple #[.agg #[.int .i64 1, .string (strOf o ++ ⟨#[91]⟩), .string (strOf [])], .bool true]) (by simp [results, Try.f59, go_sem]; try rfl) rfl ⟨by rw [K.out]; show _ = Ending.returned (.tuple #[.agg #[_, .string (strOf (o ++ [91])), _], _]); rw [← hA.out]; rfl, ?_⟩
    go_grown
set_option maxRecDepth 100000 in
theorem begin_br (m : Nat) (o p : List UInt8) (c : UInt8) (w : World) (hm : m = 0 ∨ m = 1) (ho : o.length < 32) (hh : c.toNat = 123) :
    Calls Try.prog 59 #[sv m o p, .int .u8 c.toNat] w fun x w' => x = .returned (qr (beginS ⟨m, o, p⟩ c)) ∧ Below w.heap.size w w' := by
  have K : Hid (beginS ⟨m, o, p⟩ c = (⟨2, o ++ [123], []⟩, true)) := by show _ = _; rw [beginS_yes hm ho, hh]; rfl
  have hz := strOf_size o
  rw [hh]
  have hA : Hid (strOf o ++ ⟨#[123]⟩ = strOf (o ++ [123])) := strOf_append o [123]
  clear hh
  unfold sv
  rcases hm with rfl | rfl
  all_goals
    go_enter Try.func59, Try.ntmps59
    go_wp2_with fail
    refine bodyPost_ret (v := .tuple #[.agg #[.int .i64 2, .string (strOf o ++ ⟨#[123]⟩), .string (strOf [])], .bool true]) (by simp [results, Try.f59, go_sem]; try rfl) rfl ⟨by rw [K.out]; show _ = Ending.returned (.tuple #[.agg #[_, .string (strOf (o ++ [123])), _], _]); rw [← hA.out]; rfl, ?_⟩
    go_grown
set_option maxRecDepth 100000 in
theorem begin_qu (m : Nat) (o p : List UInt8) (c : UInt8) (w : World) (hm : m = 0 ∨ m = 1) (ho : o.length < 32) (hh : c.toNat = 34) :
    Calls Try.prog 59 #[sv m o p, .int .u8 c.toNat] w fun x w' => x = .returned (qr (beginS ⟨m, o, p⟩ c)) ∧ Below w.heap.size w w' := by
  have K : Hid (beginS ⟨m, o, p⟩ c = (⟨6, o, []⟩, true)) := by show _ = _; rw [beginS_yes hm ho, hh]; rfl
  have hz := strOf_size o
  rw [hh]
  clear hh
  unfold sv
  rcases hm with rfl | rfl
  all_goals
    go_enter Try.func59, Try.ntmps59
    go_wp2_with fail
    refine bodyPost_ret (v := .tuple #[.agg #[.int .i64 6, .string (strOf o), .string (strOf [])], .bool true]) (by simp [results, Try.f59, go_sem]; try rfl) rfl ⟨by rw [K.out]; rfl, ?_⟩
    go_grown
set_option maxRecDepth 100000 in
theorem begin_mi (m : Nat) (o p : List UInt8) (c : UInt8) (w : World) (hm : m = 0 ∨ m = 1) (ho : o.length < 32) (hh : c.toNat = 45) :
    Calls Try.prog 59 #[sv m o p, .int .u8 c.toNat] w fun x w' => x = .returned (qr (beginS ⟨m, o, p⟩ c)) ∧ Below w.heap.size w w' := by
  have K : Hid (beginS ⟨m, o, p⟩ c = (⟨9, o, [45]⟩, true)) := by show _ = _; rw [beginS_yes hm ho, hh]; rfl
  have hz := strOf_size o
  rw [hh]
  clear hh
  unfold sv
  rcases hm with rfl | rfl
  all_goals
    go_enter Try.func59, Try.ntmps59
    go_wp2_with fail
    refine bodyPost_ret (v := .tuple #[.agg #[.int .i64 9, .string (strOf o), .string (strOf [45])], .bool true]) (by simp [results, Try.f59, go_sem]; try rfl) rfl ⟨by rw [K.out]; rfl, ?_⟩
    go_grown
end Go.Proofs.Ytmfldffbafamnaa

/- Walks: the first byte of a number, of a word. -/
namespace Go.Proofs.Ytmfldffbafamnaa
open Go.RowKit
set_option linter.unusedVariables false
set_option linter.unusedSimpArgs false
set_option maxRecDepth 100000 in
theorem begin_digit (m : Nat) (o p : List UInt8) (c : UInt8) (w : World) (hm : m = 0 ∨ m = 1) (ho : o.length < 32) (hh : digit c.toNat) :
    Calls Try.prog 59 #[sv m o p, .int .u8 c.toNat] w fun x w' => x = .returned (qr (beginS ⟨m, o, p⟩ c)) ∧ Below w.heap.size w w' := by
  have hh' := hh
  unfold digit at hh'
  have K : Hid (beginS ⟨m, o, p⟩ c = (⟨9, o, (numS [] c.toNat).1⟩, (numS [] c.toNat).2)) := by
    show _ = _; rw [beginS_yes hm ho, if_neg (by omega), if_neg (by omega), if_neg (by omega), if_neg (by omega), if_pos hh]
  have hz := strOf_size o
  have HN := Lib.hid (fun w => number_any [] c.toNat w (UInt8.toNat_lt c) (by simp))
  generalize numS [] c.toNat = r at *
  obtain ⟨r1, r2⟩ := r
  dsimp only at HN K
  obtain ⟨d1, d2⟩ := hh'
  have q1 : ((c.toNat : Int) == 91) = false := by simp only [beq_eq_false_iff_ne]; omega
  have q2 : ((c.toNat : Int) == 123) = false := by simp only [beq_eq_false_iff_ne]; omega
  have q3 : ((c.toNat : Int) == 34) = false := by simp only [beq_eq_false_iff_ne]; omega
  have q4 : ((c.toNat : Int) == 45) = false := by simp only [beq_eq_false_iff_ne]; omega
  clear hh
  unfold sv
  rcases hm with rfl | rfl
  all_goals
    go_enter Try.func59, Try.ntmps59
    go_wp2_with fail
    refine (HN.out _).mono ?_
    rintro x w' ⟨rfl, rfl⟩
    go_wp2_with fail
    refine bodyPost_ret (v := .tuple #[.agg #[.int .i64 9, .string (strOf o), .string (strOf r1)], .bool r2]) (by simp [results, Try.f59, go_sem]) rfl ⟨by rw [K.out]; rfl, ?_⟩
    go_grown
theorem conv_at2 (w : World) (a b : Obj) (c : UInt8) : (convert 33 9 (.slice (some ⟨w.heap.size + 1 + 1, 0, none⟩) 1 1)).run Try.prog (((w.alloc a).alloc b).alloc (.cells #[.int .u8 c.toNat] 5)) =
      .ok (.string (strOf [c])) (((w.alloc a).alloc b).alloc (.cells #[.int .u8 c.toNat] 5)) := by
  have h := conv_c ((w.alloc a).alloc b) c
  rw [World.size_alloc, World.size_alloc] at h
  exact h
set_option maxRecDepth 100000 in
theorem begin_word (m : Nat) (o p : List UInt8) (c : UInt8) (w : World) (hm : m = 0 ∨ m = 1) (ho : o.length < 32) (h1 : c.toNat ≠ 91) (h2 : c.toNat ≠ 123) (h3 : c.toNat ≠ 34) (h4 : c.toNat ≠ 45) (h5 : ¬ digit c.toNat) :
    Calls Try.prog 59 #[sv m o p, .int .u8 c.toNat] w fun x w' => x = .returned (qr (beginS ⟨m, o, p⟩ c)) ∧ Below w.heap.size w w' := by
  have K : Hid (beginS ⟨m, o, p⟩ c = (⟨8, o, [c]⟩, (wordS [c]).1)) := by
    show _ = _; rw [beginS_yes hm ho, if_neg h1, if_neg h2, if_neg h3, if_neg h4, if_neg h5]
  have hz := strOf_size o
  have kc := fun w a b => conv_at2 w a b c
  have HN := Lib.hid (fun w => word_any [c] w)
  have hc := UInt8.toNat_lt c
  have q1 : ((c.toNat : Int) == 91) = false := by simp only [beq_eq_false_iff_ne]; omega
  have q2 : ((c.toNat : Int) == 123) = false := by simp only [beq_eq_false_iff_ne]; omega
  have q3 : ((c.toNat : Int) == 34) = false := by simp only [beq_eq_false_iff_ne]; omega
  have q4 : ((c.toNat : Int) == 45) = false := by simp only [beq_eq_false_iff_ne]; omega
  have q5 : (c.toNat : Int) < 48 ∨ (48 ≤ (c.toNat : Int) ∧ 57 < (c.toNat : Int)) := by unfold digit at h5; omega
  clear h1 h2 h3 h4 h5
  generalize wordS [c] = r at *
  obtain ⟨r1, r2⟩ := r
  dsimp only at HN K
  unfold sv
  rcases hm with rfl | rfl <;> rcases q5 with q5 | ⟨q5, q6⟩
  all_goals
    go_enter Try.func59, Try.ntmps59
    go_wp2_with fail
    refine (HN.out _).mono ?_
    rintro x w' ⟨rfl, rfl⟩
    go_wp2_with fail
    refine bodyPost_ret (v := .tuple #[.agg #[.int .i64 8, .string (strOf o), .string (strOf [c])], .bool r1]) (by simp [results, Try.f59, go_sem]) rfl ⟨by rw [K.out]; rfl, ?_⟩
    go_grown
end Go.Proofs.Ytmfldffbafamnaa

/- Walks: begin, whole. -/
namespace Go.Proofs.Ytmfldffbafamnaa
open Go.RowKit
theorem begin_any (q : Q) (c : UInt8) (w : World) (hq : q.fit) :
    Calls Try.prog 59 #[q.v, .int .u8 c.toNat] w fun x w' => x = .returned (qr (beginS q c)) ∧ Below w.heap.size w w' := by
  obtain ⟨m, o, p⟩ := q
  obtain ⟨h1, h2, h3⟩ := hq
  dsimp only at h1 h2 h3
  by_cases h : ¬ (m = 0 ∨ m = 1) ∨ 32 ≤ o.length
  · exact begin_not m o p c w h1 h2 h
  · have hm : m = 0 ∨ m = 1 := by omega
    have ho : o.length < 32 := by omega
    by_cases a1 : c.toNat = 91
    · exact begin_sq m o p c w hm ho a1
    by_cases a2 : c.toNat = 123
    · exact begin_br m o p c w hm ho a2
    by_cases a3 : c.toNat = 34
    · exact begin_qu m o p c w hm ho a3
    by_cases a4 : c.toNat = 45
    · exact begin_mi m o p c w hm ho a4
    by_cases a5 : digit c.toNat
    · exact begin_digit m o p c w hm ho a5
    · exact begin_word m o p c w hm ho a1 a2 a3 a4 a5
end Go.Proofs.Ytmfldffbafamnaa
