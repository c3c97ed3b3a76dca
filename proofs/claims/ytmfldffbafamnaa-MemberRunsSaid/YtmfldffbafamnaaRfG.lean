/- Walks: the reference's outside (a name, a value). -/
import Derived.Test.YtmfldffbafamnaaRfE
import Derived.Test.YtmfldffbafamnaaCjK
import Derived.Test.YtmfldffbafamnaaRfC
import Derived.Deep.DeepCutAuto
namespace Go.Proofs.Ytmfldffbafamnaa
open Go.RowKit
set_option linter.unusedVariables false
set_option linter.unusedSimpArgs false
set_option maxRecDepth 100000 in
set_option maxHeartbeats 4000000 in
theorem rout_name (o : List UInt8) (m n : Nat) (p : List UInt8) (c : UInt8) (w : World) (ho : o.length ≤ 1000) (hm10 : m < 10) (hh : c.toNat = 34) (hm : m = 2 ∨ m = 3) :
    Calls Try.prog 45 #[.agg #[.string (strOf o), .int .i64 m, .int .u8 n, .string (strOf p)], .int .u8 c.toNat] w fun x w' => x = .returned (rr (outR ⟨o, m, n, p⟩ c)) ∧ Below w.heap.size w w' := by
  have K : Hid (outR ⟨o, m, n, p⟩ c = (⟨o, m, 107, p⟩, decide ((o.length : Int) < 32))) := by
    have e : decide ((o.length : Int) < 32) = decide (o.length < 32) := by rw [decide_eq_decide]; omega
    show _ = _; unfold outR; rw [e]; simp [hh, hm]
  have hz := strOf_size o
  have hc := UInt8.toNat_lt c
  obtain ⟨vb, hvb⟩ : ∃ x, x = ((m : Int) == 0 || (m : Int) == 1) := ⟨_, rfl⟩
  have HV := Lib.hid hvb
  obtain ⟨ib, hib⟩ : ∃ x, x = inB o := ⟨_, rfl⟩
  have HI := Lib.hid hib
  have hi256 : ib < 256 := by
    rw [hib]; unfold inB; split
    · omega
    · exact bt_lt _ _
  clear hvb hib
  go_enter Try.func45, Try.ntmps45
  go_upto_if 17 with fail
  go_cut [7] (fun v wx => v = .int .u8 ib ∧ wx = ((w.alloc (.cells #[.string (strOf o), .int .i64 m, .int .u8 n, .string (strOf p)] 30)).alloc (.cells #[.string ⟨#[]⟩, .int .i64 0, .int .u8 0, .string ⟨#[]⟩] 30)))
  case first =>
    by_cases h : o = []
    · subst h
      have K7 : Hid (ib = 0) := by show _ = _; rw [HI.out]; rfl
      go_wp2_with fail
      go_meet
      exact ⟨by rw [K7.out]; rfl, rfl⟩
    · have hlen : 0 < o.length := List.length_pos_iff.2 h
      have hb := strOf_byte o (o.length - 1) (by omega)
      have K7 : Hid (bt o (o.length - 1) = ib) := by show _ = _; rw [HI.out]; unfold inB; rw [if_neg h]
      clear h
      go_wp2_with fail
      go_meet
      exact ⟨by rw [K7.out], rfl⟩
  case rest =>
  obtain ⟨rfl, rfl⟩ := hcut
  go_upto_region 5 with fail
  go_cut [8] (fun v wx => v = .bool vb ∧ wx = ((w.alloc (.cells #[.string (strOf o), .int .i64 m, .int .u8 n, .string (strOf p)] 30)).alloc (.cells #[.string ⟨#[]⟩, .int .i64 0, .int .u8 0, .string ⟨#[]⟩] 30)))
  case first =>
    cases h0 : ((m : Int) == 0)
    · have K8 : Hid (vb = ((m : Int) == 1)) := by show _ = _; rw [HV.out, h0]; rfl
      go_wp2_with fail
      go_meet
      exact ⟨by rw [K8.out], rfl⟩
    · have K8 : Hid (vb = true) := by show _ = _; rw [HV.out, h0]; rfl
      go_wp2_with fail
      go_meet
      exact ⟨by rw [K8.out], rfl⟩
  case rest =>
  obtain ⟨rfl, rfl⟩ := hcut
  have HO := Lib.hid (fun w => one_to blL c.toNat false w hc (by decide) (by rw [blL_one hc]; simp; omega))
  have q93 : ((c.toNat : Int) == 93) = false := by simp only [beq_eq_false_iff_ne]; omega
  have q125 : ((c.toNat : Int) == 125) = false := by simp only [beq_eq_false_iff_ne]; omega
  have q44 : ((c.toNat : Int) == 44) = false := by simp only [beq_eq_false_iff_ne]; omega
  have q58 : ((c.toNat : Int) == 58) = false := by simp only [beq_eq_false_iff_ne]; omega
  have q91 : ((c.toNat : Int) == 91) = false := by simp only [beq_eq_false_iff_ne]; omega
  have q123 : ((c.toNat : Int) == 123) = false := by simp only [beq_eq_false_iff_ne]; omega
  have q34 : ((c.toNat : Int) == 34) = true := by simp only [beq_iff_eq]; omega
  clear hh HV HI
  go_wp2_with fail
  refine (HO.out _).mono ?_
  rintro e w' ⟨rfl, rfl⟩
  rcases hm with rfl | rfl
  all_goals
    go_wp2_with fail
    refine bodyPost_ret (v := .tuple #[.agg #[.string (strOf o), .int .i64 _, .int .u8 107, .string (strOf p)], .bool (decide ((o.length : Int) < 32))]) (by simp [results, Try.f45, go_sem]; try rfl) rfl ⟨by rw [K.out]; rfl, ?_⟩
    go_grown
set_option maxRecDepth 100000 in
set_option maxHeartbeats 4000000 in
theorem rout_not (o : List UInt8) (m n : Nat) (p : List UInt8) (c : UInt8) (w : World) (ho : o.length ≤ 1000) (hm10 : m < 10) (b1 : c.toNat ≠ 32 ∧ c.toNat ≠ 9 ∧ c.toNat ≠ 10 ∧ c.toNat ≠ 13 ∧ c.toNat ≠ 93 ∧ c.toNat ≠ 125 ∧ c.toNat ≠ 44 ∧ c.toNat ≠ 58 ∧ c.toNat ≠ 91 ∧ c.toNat ≠ 123) (hh : ¬ (c.toNat = 34 ∧ (m = 2 ∨ m = 3))) (hv : ¬ (m = 0 ∨ m = 1) ∨ 32 ≤ o.length) :
    Calls Try.prog 45 #[.agg #[.string (strOf o), .int .i64 m, .int .u8 n, .string (strOf p)], .int .u8 c.toNat] w fun x w' => x = .returned (rr (outR ⟨o, m, n, p⟩ c)) ∧ Below w.heap.size w w' := by
  have K : Hid (outR ⟨o, m, n, p⟩ c = (⟨o, m, n, p⟩, false)) := by show _ = _; unfold outR; rw [if_neg (by omega), if_neg (by omega), if_neg (by omega), if_neg (by omega), if_neg (by omega), if_neg (by omega), if_neg hh, if_pos hv]
  have hz := strOf_size o
  have hc := UInt8.toNat_lt c
  obtain ⟨vb, hvb⟩ : ∃ x, x = ((m : Int) == 0 || (m : Int) == 1) := ⟨_, rfl⟩
  have HV := Lib.hid hvb
  obtain ⟨ib, hib⟩ : ∃ x, x = inB o := ⟨_, rfl⟩
  have HI := Lib.hid hib
  have hi256 : ib < 256 := by
    rw [hib]; unfold inB; split
    · omega
    · exact bt_lt _ _
  clear hvb hib
  go_enter Try.func45, Try.ntmps45
  go_upto_if 17 with fail
  go_cut [7] (fun v wx => v = .int .u8 ib ∧ wx = ((w.alloc (.cells #[.string (strOf o), .int .i64 m, .int .u8 n, .string (strOf p)] 30)).alloc (.cells #[.string ⟨#[]⟩, .int .i64 0, .int .u8 0, .string ⟨#[]⟩] 30)))
  case first =>
    by_cases h : o = []
    · subst h
      have K7 : Hid (ib = 0) := by show _ = _; rw [HI.out]; rfl
      go_wp2_with fail
      go_meet
      exact ⟨by rw [K7.out]; rfl, rfl⟩
    · have hlen : 0 < o.length := List.length_pos_iff.2 h
      have hb := strOf_byte o (o.length - 1) (by omega)
      have K7 : Hid (bt o (o.length - 1) = ib) := by show _ = _; rw [HI.out]; unfold inB; rw [if_neg h]
      clear h
      go_wp2_with fail
      go_meet
      exact ⟨by rw [K7.out], rfl⟩
  case rest =>
  obtain ⟨rfl, rfl⟩ := hcut
  go_upto_region 5 with fail
  go_cut [8] (fun v wx => v = .bool vb ∧ wx = ((w.alloc (.cells #[.string (strOf o), .int .i64 m, .int .u8 n, .string (strOf p)] 30)).alloc (.cells #[.string ⟨#[]⟩, .int .i64 0, .int .u8 0, .string ⟨#[]⟩] 30)))
  case first =>
    cases h0 : ((m : Int) == 0)
    · have K8 : Hid (vb = ((m : Int) == 1)) := by show _ = _; rw [HV.out, h0]; rfl
      go_wp2_with fail
      go_meet
      exact ⟨by rw [K8.out], rfl⟩
    · have K8 : Hid (vb = true) := by show _ = _; rw [HV.out, h0]; rfl
      go_wp2_with fail
      go_meet
      exact ⟨by rw [K8.out], rfl⟩
  case rest =>
  obtain ⟨rfl, rfl⟩ := hcut
  have HO := Lib.hid (fun w => one_to blL c.toNat false w hc (by decide) (by rw [blL_one hc]; simp; omega))
  have q93 : ((c.toNat : Int) == 93) = false := by simp only [beq_eq_false_iff_ne]; omega
  have q125 : ((c.toNat : Int) == 125) = false := by simp only [beq_eq_false_iff_ne]; omega
  have q44 : ((c.toNat : Int) == 44) = false := by simp only [beq_eq_false_iff_ne]; omega
  have q58 : ((c.toNat : Int) == 58) = false := by simp only [beq_eq_false_iff_ne]; omega
  have q91 : ((c.toNat : Int) == 91) = false := by simp only [beq_eq_false_iff_ne]; omega
  have q123 : ((c.toNat : Int) == 123) = false := by simp only [beq_eq_false_iff_ne]; omega
  have hq : ((c.toNat : Int) == 34) = false ∨ (((c.toNat : Int) == 34) = true ∧ ((m : Int) == 2) = false ∧ ((m : Int) == 3) = false) := by
    by_cases h : c.toNat = 34
    · right
      exact ⟨by simp only [beq_iff_eq]; omega, by simp only [beq_eq_false_iff_ne]; omega, by simp only [beq_eq_false_iff_ne]; omega⟩
    · left; simp only [beq_eq_false_iff_ne]; omega
  have hv2 : vb = false ∨ (vb = true ∧ 32 ≤ o.length) := by
    cases vb
    · left; rfl
    · right
      refine ⟨rfl, ?_⟩
      have := HV.out
      simp at this
      omega
  clear hh hv b1 HV HI
  go_wp2_with fail
  refine (HO.out _).mono ?_
  rintro e w' ⟨rfl, rfl⟩
  rcases hq with q1 | ⟨q1, q2, q3⟩ <;> rcases hv2 with rfl | ⟨rfl, h32⟩
  all_goals
    go_wp2_with fail
    refine bodyPost_ret (v := .tuple #[.agg #[.string (strOf o), .int .i64 m, .int .u8 n, .string (strOf p)], .bool false]) (by simp [results, Try.f45, go_sem]; try rfl) rfl ⟨by rw [K.out]; rfl, ?_⟩
    go_grown
set_option maxRecDepth 100000 in
set_option maxHeartbeats 4000000 in
theorem rout_str (o : List UInt8) (m n : Nat) (p : List UInt8) (c : UInt8) (w : World) (ho : o.length ≤ 1000) (hm10 : m < 10) (hh : c.toNat = 34) (hv : m = 0 ∨ m = 1) (h32 : o.length < 32) :
    Calls Try.prog 45 #[.agg #[.string (strOf o), .int .i64 m, .int .u8 n, .string (strOf p)], .int .u8 c.toNat] w fun x w' => x = .returned (rr (outR ⟨o, m, n, p⟩ c)) ∧ Below w.heap.size w w' := by
  have K : Hid (outR ⟨o, m, n, p⟩ c = (⟨o, m, 115, []⟩, true)) := by show _ = _; unfold outR; rw [if_neg (by omega), if_neg (by omega), if_neg (by omega), if_neg (by omega), if_neg (by omega), if_neg (by omega), if_neg (by dsimp only; omega), if_neg (by dsimp only; omega), if_pos hh]
  have kc := fun w a b => conv_at2 w a b c
  have hz1 := strOf_size [c]
  have hz := strOf_size o
  have hc := UInt8.toNat_lt c
  obtain ⟨vb, hvb⟩ : ∃ x, x = ((m : Int) == 0 || (m : Int) == 1) := ⟨_, rfl⟩
  have HV := Lib.hid hvb
  obtain ⟨ib, hib⟩ : ∃ x, x = inB o := ⟨_, rfl⟩
  have HI := Lib.hid hib
  have hi256 : ib < 256 := by
    rw [hib]; unfold inB; split
    · omega
    · exact bt_lt _ _
  clear hvb hib
  go_enter Try.func45, Try.ntmps45
  go_upto_if 17 with fail
  go_cut [7] (fun v wx => v = .int .u8 ib ∧ wx = ((w.alloc (.cells #[.string (strOf o), .int .i64 m, .int .u8 n, .string (strOf p)] 30)).alloc (.cells #[.string ⟨#[]⟩, .int .i64 0, .int .u8 0, .string ⟨#[]⟩] 30)))
  case first =>
    by_cases h : o = []
    · subst h
      have K7 : Hid (ib = 0) := by show _ = _; rw [HI.out]; rfl
      go_wp2_with fail
      go_meet
      exact ⟨by rw [K7.out]; rfl, rfl⟩
    · have hlen : 0 < o.length := List.length_pos_iff.2 h
      have hb := strOf_byte o (o.length - 1) (by omega)
      have K7 : Hid (bt o (o.length - 1) = ib) := by show _ = _; rw [HI.out]; unfold inB; rw [if_neg h]
      clear h
      go_wp2_with fail
      go_meet
      exact ⟨by rw [K7.out], rfl⟩
  case rest =>
  obtain ⟨rfl, rfl⟩ := hcut
  go_upto_region 5 with fail
  go_cut [8] (fun v wx => v = .bool vb ∧ wx = ((w.alloc (.cells #[.string (strOf o), .int .i64 m, .int .u8 n, .string (strOf p)] 30)).alloc (.cells #[.string ⟨#[]⟩, .int .i64 0, .int .u8 0, .string ⟨#[]⟩] 30)))
  case first =>
    cases h0 : ((m : Int) == 0)
    · have K8 : Hid (vb = ((m : Int) == 1)) := by show _ = _; rw [HV.out, h0]; rfl
      go_wp2_with fail
      go_meet
      exact ⟨by rw [K8.out], rfl⟩
    · have K8 : Hid (vb = true) := by show _ = _; rw [HV.out, h0]; rfl
      go_wp2_with fail
      go_meet
      exact ⟨by rw [K8.out], rfl⟩
  case rest =>
  obtain ⟨rfl, rfl⟩ := hcut
  have HO := Lib.hid (fun w => one_to blL c.toNat false w hc (by decide) (by rw [blL_one hc]; simp; omega))
  have hvt : vb = true := by rw [HV.out]; simp; omega
  subst hvt
  have m2 : ((m : Int) == 2) = false := by simp only [beq_eq_false_iff_ne]; omega
  have m3 : ((m : Int) == 3) = false := by simp only [beq_eq_false_iff_ne]; omega
  have q93 : ((c.toNat : Int) == 93) = false := by simp only [beq_eq_false_iff_ne]; omega
  have q125 : ((c.toNat : Int) == 125) = false := by simp only [beq_eq_false_iff_ne]; omega
  have q44 : ((c.toNat : Int) == 44) = false := by simp only [beq_eq_false_iff_ne]; omega
  have q58 : ((c.toNat : Int) == 58) = false := by simp only [beq_eq_false_iff_ne]; omega
  have q91 : ((c.toNat : Int) == 91) = false := by simp only [beq_eq_false_iff_ne]; omega
  have q123 : ((c.toNat : Int) == 123) = false := by simp only [beq_eq_false_iff_ne]; omega
  have q34 : ((c.toNat : Int) == 34) = true := by simp only [beq_iff_eq]; omega
  clear hh HV HI hv
  go_wp2_with fail
  refine (HO.out _).mono ?_
  rintro e w' ⟨rfl, rfl⟩
  go_wp2_with fail
  refine bodyPost_ret (v := .tuple #[.agg #[.string (strOf o), .int .i64 m, .int .u8 115, .string (strOf [])], .bool true]) (by simp [results, Try.f45, go_sem]; try rfl) rfl ⟨by rw [K.out]; rfl, ?_⟩
  go_grown
set_option maxRecDepth 100000 in
set_option maxHeartbeats 4000000 in
theorem rout_minus (o : List UInt8) (m n : Nat) (p : List UInt8) (c : UInt8) (w : World) (ho : o.length ≤ 1000) (hm10 : m < 10) (hh : c.toNat = 45) (hv : m = 0 ∨ m = 1) (h32 : o.length < 32) :
    Calls Try.prog 45 #[.agg #[.string (strOf o), .int .i64 m, .int .u8 n, .string (strOf p)], .int .u8 c.toNat] w fun x w' => x = .returned (rr (outR ⟨o, m, n, p⟩ c)) ∧ Below w.heap.size w w' := by
  have K : Hid (outR ⟨o, m, n, p⟩ c = (⟨o, m, 110, [c]⟩, true)) := by show _ = _; unfold outR; rw [if_neg (by omega), if_neg (by omega), if_neg (by omega), if_neg (by omega), if_neg (by omega), if_neg (by omega), if_neg (by dsimp only; omega), if_neg (by dsimp only; omega), if_neg (by omega), if_pos (Or.inl hh)]
  have kc := fun w a b => conv_at2 w a b c
  have hz1 := strOf_size [c]
  have hz := strOf_size o
  have hc := UInt8.toNat_lt c
  obtain ⟨vb, hvb⟩ : ∃ x, x = ((m : Int) == 0 || (m : Int) == 1) := ⟨_, rfl⟩
  have HV := Lib.hid hvb
  obtain ⟨ib, hib⟩ : ∃ x, x = inB o := ⟨_, rfl⟩
  have HI := Lib.hid hib
  have hi256 : ib < 256 := by
    rw [hib]; unfold inB; split
    · omega
    · exact bt_lt _ _
  clear hvb hib
  go_enter Try.func45, Try.ntmps45
  go_upto_if 17 with fail
  go_cut [7] (fun v wx => v = .int .u8 ib ∧ wx = ((w.alloc (.cells #[.string (strOf o), .int .i64 m, .int .u8 n, .string (strOf p)] 30)).alloc (.cells #[.string ⟨#[]⟩, .int .i64 0, .int .u8 0, .string ⟨#[]⟩] 30)))
  case first =>
    by_cases h : o = []
    · subst h
      have K7 : Hid (ib = 0) := by show _ = _; rw [HI.out]; rfl
      go_wp2_with fail
      go_meet
      exact ⟨by rw [K7.out]; rfl, rfl⟩
    · have hlen : 0 < o.length := List.length_pos_iff.2 h
      have hb := strOf_byte o (o.length - 1) (by omega)
      have K7 : Hid (bt o (o.length - 1) = ib) := by show _ = _; rw [HI.out]; unfold inB; rw [if_neg h]
      clear h
      go_wp2_with fail
      go_meet
      exact ⟨by rw [K7.out], rfl⟩
  case rest =>
  obtain ⟨rfl, rfl⟩ := hcut
  go_upto_region 5 with fail
  go_cut [8] (fun v wx => v = .bool vb ∧ wx = ((w.alloc (.cells #[.string (strOf o), .int .i64 m, .int .u8 n, .string (strOf p)] 30)).alloc (.cells #[.string ⟨#[]⟩, .int .i64 0, .int .u8 0, .string ⟨#[]⟩] 30)))
  case first =>
    cases h0 : ((m : Int) == 0)
    · have K8 : Hid (vb = ((m : Int) == 1)) := by show _ = _; rw [HV.out, h0]; rfl
      go_wp2_with fail
      go_meet
      exact ⟨by rw [K8.out], rfl⟩
    · have K8 : Hid (vb = true) := by show _ = _; rw [HV.out, h0]; rfl
      go_wp2_with fail
      go_meet
      exact ⟨by rw [K8.out], rfl⟩
  case rest =>
  obtain ⟨rfl, rfl⟩ := hcut
  have HO := Lib.hid (fun w => one_to blL c.toNat false w hc (by decide) (by rw [blL_one hc]; simp; omega))
  have hvt : vb = true := by rw [HV.out]; simp; omega
  subst hvt
  have m2 : ((m : Int) == 2) = false := by simp only [beq_eq_false_iff_ne]; omega
  have m3 : ((m : Int) == 3) = false := by simp only [beq_eq_false_iff_ne]; omega
  have q93 : ((c.toNat : Int) == 93) = false := by simp only [beq_eq_false_iff_ne]; omega
  have q125 : ((c.toNat : Int) == 125) = false := by simp only [beq_eq_false_iff_ne]; omega
  have q44 : ((c.toNat : Int) == 44) = false := by simp only [beq_eq_false_iff_ne]; omega
  have q58 : ((c.toNat : Int) == 58) = false := by simp only [beq_eq_false_iff_ne]; omega
  have q91 : ((c.toNat : Int) == 91) = false := by simp only [beq_eq_false_iff_ne]; omega
  have q123 : ((c.toNat : Int) == 123) = false := by simp only [beq_eq_false_iff_ne]; omega
  have q34 : ((c.toNat : Int) == 34) = false := by simp only [beq_eq_false_iff_ne]; omega
  have q45 : ((c.toNat : Int) == 45) = true := by simp only [beq_iff_eq]; omega
  clear hh HV HI hv
  go_wp2_with fail
  refine (HO.out _).mono ?_
  rintro e w' ⟨rfl, rfl⟩
  go_wp2_with fail
  refine bodyPost_ret (v := .tuple #[.agg #[.string (strOf o), .int .i64 m, .int .u8 110, .string (strOf [c])], .bool true]) (by simp [results, Try.f45, go_sem]; try rfl) rfl ⟨by rw [K.out]; rfl, ?_⟩
  go_grown
set_option maxRecDepth 100000 in
set_option maxHeartbeats 4000000 in
theorem rout_digit (o : List UInt8) (m n : Nat) (p : List UInt8) (c : UInt8) (w : World) (ho : o.length ≤ 1000) (hm10 : m < 10) (hh : digB c.toNat = true) (hv : m = 0 ∨ m = 1) (h32 : o.length < 32) :
    Calls Try.prog 45 #[.agg #[.string (strOf o), .int .i64 m, .int .u8 n, .string (strOf p)], .int .u8 c.toNat] w fun x w' => x = .returned (rr (outR ⟨o, m, n, p⟩ c)) ∧ Below w.heap.size w w' := by
  have hd : 48 ≤ c.toNat ∧ c.toNat ≤ 57 := by unfold digB at hh; simpa using hh
  have K : Hid (outR ⟨o, m, n, p⟩ c = (⟨o, m, 110, [c]⟩, true)) := by show _ = _; unfold outR; rw [if_neg (by omega), if_neg (by omega), if_neg (by omega), if_neg (by omega), if_neg (by omega), if_neg (by omega), if_neg (by dsimp only; omega), if_neg (by dsimp only; omega), if_neg (by omega), if_pos (Or.inr hh)]
  have kc := fun w a b => conv_at2 w a b c
  have hz1 := strOf_size [c]
  have hz := strOf_size o
  have hc := UInt8.toNat_lt c
  obtain ⟨vb, hvb⟩ : ∃ x, x = ((m : Int) == 0 || (m : Int) == 1) := ⟨_, rfl⟩
  have HV := Lib.hid hvb
  obtain ⟨ib, hib⟩ : ∃ x, x = inB o := ⟨_, rfl⟩
  have HI := Lib.hid hib
  have hi256 : ib < 256 := by
    rw [hib]; unfold inB; split
    · omega
    · exact bt_lt _ _
  clear hvb hib
  go_enter Try.func45, Try.ntmps45
  go_upto_if 17 with fail
  go_cut [7] (fun v wx => v = .int .u8 ib ∧ wx = ((w.alloc (.cells #[.string (strOf o), .int .i64 m, .int .u8 n, .string (strOf p)] 30)).alloc (.cells #[.string ⟨#[]⟩, .int .i64 0, .int .u8 0, .string ⟨#[]⟩] 30)))
  case first =>
    by_cases h : o = []
    · subst h
      have K7 : Hid (ib = 0) := by show _ = _; rw [HI.out]; rfl
      go_wp2_with fail
      go_meet
      exact ⟨by rw [K7.out]; rfl, rfl⟩
    · have hlen : 0 < o.length := List.length_pos_iff.2 h
      have hb := strOf_byte o (o.length - 1) (by omega)
      have K7 : Hid (bt o (o.length - 1) = ib) := by show _ = _; rw [HI.out]; unfold inB; rw [if_neg h]
      clear h
      go_wp2_with fail
      go_meet
      exact ⟨by rw [K7.out], rfl⟩
  case rest =>
  obtain ⟨rfl, rfl⟩ := hcut
  go_upto_region 5 with fail
  go_cut [8] (fun v wx => v = .bool vb ∧ wx = ((w.alloc (.cells #[.string (strOf o), .int .i64 m, .int .u8 n, .string (strOf p)] 30)).alloc (.cells #[.string ⟨#[]⟩, .int .i64 0, .int .u8 0, .string ⟨#[]⟩] 30)))
  case first =>
    cases h0 : ((m : Int) == 0)
    · have K8 : Hid (vb = ((m : Int) == 1)) := by show _ = _; rw [HV.out, h0]; rfl
      go_wp2_with fail
      go_meet
      exact ⟨by rw [K8.out], rfl⟩
    · have K8 : Hid (vb = true) := by show _ = _; rw [HV.out, h0]; rfl
      go_wp2_with fail
      go_meet
      exact ⟨by rw [K8.out], rfl⟩
  case rest =>
  obtain ⟨rfl, rfl⟩ := hcut
  have HO := Lib.hid (fun w => one_to blL c.toNat false w hc (by decide) (by rw [blL_one hc]; simp; omega))
  have hvt : vb = true := by rw [HV.out]; simp; omega
  subst hvt
  have m2 : ((m : Int) == 2) = false := by simp only [beq_eq_false_iff_ne]; omega
  have m3 : ((m : Int) == 3) = false := by simp only [beq_eq_false_iff_ne]; omega
  have q93 : ((c.toNat : Int) == 93) = false := by simp only [beq_eq_false_iff_ne]; omega
  have q125 : ((c.toNat : Int) == 125) = false := by simp only [beq_eq_false_iff_ne]; omega
  have q44 : ((c.toNat : Int) == 44) = false := by simp only [beq_eq_false_iff_ne]; omega
  have q58 : ((c.toNat : Int) == 58) = false := by simp only [beq_eq_false_iff_ne]; omega
  have q91 : ((c.toNat : Int) == 91) = false := by simp only [beq_eq_false_iff_ne]; omega
  have q123 : ((c.toNat : Int) == 123) = false := by simp only [beq_eq_false_iff_ne]; omega
  have q34 : ((c.toNat : Int) == 34) = false := by simp only [beq_eq_false_iff_ne]; omega
  have q45 : ((c.toNat : Int) == 45) = false := by simp only [beq_eq_false_iff_ne]; omega
  have HG := Lib.hid (fun w => rdigit_any c.toNat w hc)
  rw [hh] at HG
  clear hh HV HI hv hd
  go_wp2_with fail
  refine (HO.out _).mono ?_
  rintro e w' ⟨rfl, rfl⟩
  go_wp2_with fail
  refine (HG.out _).mono ?_
  rintro e w' ⟨rfl, rfl⟩
  go_wp2_with fail
  refine bodyPost_ret (v := .tuple #[.agg #[.string (strOf o), .int .i64 m, .int .u8 110, .string (strOf [c])], .bool true]) (by simp [results, Try.f45, go_sem]; try rfl) rfl ⟨by rw [K.out]; rfl, ?_⟩
  go_grown
end Go.Proofs.Ytmfldffbafamnaa
