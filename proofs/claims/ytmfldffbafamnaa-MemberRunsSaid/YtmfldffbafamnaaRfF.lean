/- Walks: the reference's outside. -/
import Derived.Test.YtmfldffbafamnaaRfE
import Derived.Test.YtmfldffbafamnaaCjK
import Derived.Test.YtmfldffbafamnaaRfC
import Derived.Deep.DeepCutAuto
namespace Go.Proofs.Ytmfldffbafamnaa
open Go.RowKit
set_option linter.unusedVariables false
set_option linter.unusedSimpArgs false
set_option maxRecDepth 100000 in
set_option maxHeartbeats 4000000 in
theorem rout_blank (o : List UInt8) (m n : Nat) (p : List UInt8) (c : UInt8) (w : World) (ho : o.length ≤ 1000) (hm10 : m < 10) (hh : c.toNat = 32 ∨ c.toNat = 9 ∨ c.toNat = 10 ∨ c.toNat = 13) :
    Calls Try.prog 45 #[.agg #[.string (strOf o), .int .i64 m, .int .u8 n, .string (strOf p)], .int .u8 c.toNat] w fun x w' => x = .returned (rr (outR ⟨o, m, n, p⟩ c)) ∧ Below w.heap.size w w' := by
  have K : Hid (outR ⟨o, m, n, p⟩ c = (⟨o, m, n, p⟩, true)) := by show _ = _; unfold outR; rw [if_pos hh]
  have hz := strOf_size o
  have hc := UInt8.toNat_lt c
  obtain ⟨vb, hvb⟩ : ∃ x, x = ((m : Int) == 0 || (m : Int) == 1) := ⟨_, rfl⟩
  have HV := Lib.hid hvb
  obtain ⟨ib, hib⟩ : ∃ x, x = inB o := ⟨_, rfl⟩
  have HI := Lib.hid hib
  have hi256 : ib < 256 := by
    rw [hib]; unfold inB; split
    · omega
    · exact bt_lt _ _
  clear hvb hib
  go_enter Try.func45, Try.ntmps45
  go_upto_if 17 with fail
  go_cut [7] (fun v wx => v = .int .u8 ib ∧ wx = ((w.alloc (.cells #[.string (strOf o), .int .i64 m, .int .u8 n, .string (strOf p)] 30)).alloc (.cells #[.string ⟨#[]⟩, .int .i64 0, .int .u8 0, .string ⟨#[]⟩] 30)))
  case first =>
    by_cases h : o = []
    · subst h
      have K7 : Hid (ib = 0) := by show _ = _; rw [HI.out]; rfl
      go_wp2_with fail
      go_meet
      exact ⟨by rw [K7.out]; rfl, rfl⟩
    · have hlen : 0 < o.length := List.length_pos_iff.2 h
      have hb := strOf_byte o (o.length - 1) (by omega)
      have K7 : Hid (bt o (o.length - 1) = ib) := by show _ = _; rw [HI.out]; unfold inB; rw [if_neg h]
      clear h
      go_wp2_with fail
      go_meet
      exact ⟨by rw [K7.out], rfl⟩
  case rest =>
  obtain ⟨rfl, rfl⟩ := hcut
  go_upto_region 5 with fail
  go_cut [8] (fun v wx => v = .bool vb ∧ wx = ((w.alloc (.cells #[.string (strOf o), .int .i64 m, .int .u8 n, .string (strOf p)] 30)).alloc (.cells #[.string ⟨#[]⟩, .int .i64 0, .int .u8 0, .string ⟨#[]⟩] 30)))
  case first =>
    cases h0 : ((m : Int) == 0)
    · have K8 : Hid (vb = ((m : Int) == 1)) := by show _ = _; rw [HV.out, h0]; rfl
      go_wp2_with fail
      go_meet
      exact ⟨by rw [K8.out], rfl⟩
    · have K8 : Hid (vb = true) := by show _ = _; rw [HV.out, h0]; rfl
      go_wp2_with fail
      go_meet
      exact ⟨by rw [K8.out], rfl⟩
  case rest =>
  obtain ⟨rfl, rfl⟩ := hcut
  have HO := Lib.hid (fun w => one_to blL c.toNat true w hc (by decide) (by rw [blL_one hc]; simp; omega))
  clear hh
  go_wp2_with fail
  refine (HO.out _).mono ?_
  rintro e w' ⟨rfl, rfl⟩
  go_wp2_with fail
  refine bodyPost_ret (v := .tuple #[.agg #[.string (strOf o), .int .i64 m, .int .u8 n, .string (strOf p)], .bool true]) (by simp [results, Try.f45, go_sem]; try rfl) rfl ⟨by rw [K.out]; rfl, ?_⟩
  go_grown
set_option maxRecDepth 100000 in
set_option maxHeartbeats 4000000 in
theorem rout_comma (o : List UInt8) (m n : Nat) (p : List UInt8) (c : UInt8) (w : World) (ho : o.length ≤ 1000) (hm10 : m < 10) (hh : c.toNat = 44) :
    Calls Try.prog 45 #[.agg #[.string (strOf o), .int .i64 m, .int .u8 n, .string (strOf p)], .int .u8 c.toNat] w fun x w' => x = .returned (rr (outR ⟨o, m, n, p⟩ c)) ∧ Below w.heap.size w w' := by
  have K0 : Hid (outR ⟨o, m, n, p⟩ c = (⟨o, if inB o = 123 then 3 else 0, n, p⟩, decide (0 < o.length) && (m : Int) == 5)) := by show _ = _; unfold outR; simp [hh]
  have hz := strOf_size o
  have hc := UInt8.toNat_lt c
  obtain ⟨vb, hvb⟩ : ∃ x, x = ((m : Int) == 0 || (m : Int) == 1) := ⟨_, rfl⟩
  have HV := Lib.hid hvb
  obtain ⟨ib, hib⟩ : ∃ x, x = inB o := ⟨_, rfl⟩
  have HI := Lib.hid hib
  have hi256 : ib < 256 := by
    rw [hib]; unfold inB; split
    · omega
    · exact bt_lt _ _
  clear hvb hib
  go_enter Try.func45, Try.ntmps45
  go_upto_if 17 with fail
  go_cut [7] (fun v wx => v = .int .u8 ib ∧ wx = ((w.alloc (.cells #[.string (strOf o), .int .i64 m, .int .u8 n, .string (strOf p)] 30)).alloc (.cells #[.string ⟨#[]⟩, .int .i64 0, .int .u8 0, .string ⟨#[]⟩] 30)))
  case first =>
    by_cases h : o = []
    · subst h
      have K7 : Hid (ib = 0) := by show _ = _; rw [HI.out]; rfl
      go_wp2_with fail
      go_meet
      exact ⟨by rw [K7.out]; rfl, rfl⟩
    · have hlen : 0 < o.length := List.length_pos_iff.2 h
      have hb := strOf_byte o (o.length - 1) (by omega)
      have K7 : Hid (bt o (o.length - 1) = ib) := by show _ = _; rw [HI.out]; unfold inB; rw [if_neg h]
      clear h
      go_wp2_with fail
      go_meet
      exact ⟨by rw [K7.out], rfl⟩
  case rest =>
  obtain ⟨rfl, rfl⟩ := hcut
  go_upto_region 5 with fail
  go_cut [8] (fun v wx => v = .bool vb ∧ wx = ((w.alloc (.cells #[.string (strOf o), .int .i64 m, .int .u8 n, .string (strOf p)] 30)).alloc (.cells #[.string ⟨#[]⟩, .int .i64 0, .int .u8 0, .string ⟨#[]⟩] 30)))
  case first =>
    cases h0 : ((m : Int) == 0)
    · have K8 : Hid (vb = ((m : Int) == 1)) := by show _ = _; rw [HV.out, h0]; rfl
      go_wp2_with fail
      go_meet
      exact ⟨by rw [K8.out], rfl⟩
    · have K8 : Hid (vb = true) := by show _ = _; rw [HV.out, h0]; rfl
      go_wp2_with fail
      go_meet
      exact ⟨by rw [K8.out], rfl⟩
  case rest =>
  obtain ⟨rfl, rfl⟩ := hcut
  have HO := Lib.hid (fun w => one_to blL c.toNat false w hc (by decide) (by rw [blL_one hc]; simp; omega))
  have q93 : ((c.toNat : Int) == 93) = false := by simp only [beq_eq_false_iff_ne]; omega
  have q125 : ((c.toNat : Int) == 125) = false := by simp only [beq_eq_false_iff_ne]; omega
  have q44 : ((c.toNat : Int) == 44) = true := by simp only [beq_iff_eq]; omega
  clear hh
  rw [← HI.out] at K0
  go_wp2_with fail
  refine (HO.out _).mono ?_
  rintro e w' ⟨rfl, rfl⟩
  by_cases hi : ib = 123
  · have i1 : ((ib : Int) == 123) = true := by simp only [beq_iff_eq]; omega
    by_cases hp : 0 < o.length
    · have K : Hid (outR ⟨o, m, n, p⟩ c = (⟨o, 3, n, p⟩, (m : Int) == 5)) := by show _ = _; rw [K0.out, if_pos hi, decide_eq_true hp]; rfl
      clear hi
      go_wp2_with fail
      refine bodyPost_ret (v := .tuple #[.agg #[.string (strOf o), .int .i64 3, .int .u8 n, .string (strOf p)], .bool ((m : Int) == 5)]) (by simp [results, Try.f45, go_sem]; try rfl) rfl ⟨by rw [K.out]; rfl, ?_⟩
      go_grown
    · have K : Hid (outR ⟨o, m, n, p⟩ c = (⟨o, 3, n, p⟩, false)) := by show _ = _; rw [K0.out, if_pos hi, decide_eq_false hp]; rfl
      clear hi
      go_wp2_with fail
      refine bodyPost_ret (v := .tuple #[.agg #[.string (strOf o), .int .i64 3, .int .u8 n, .string (strOf p)], .bool false]) (by simp [results, Try.f45, go_sem]; try rfl) rfl ⟨by rw [K.out]; rfl, ?_⟩
      go_grown
  · have i1 : ((ib : Int) == 123) = false := by simp only [beq_eq_false_iff_ne]; omega
    by_cases hp : 0 < o.length
    · have K : Hid (outR ⟨o, m, n, p⟩ c = (⟨o, 0, n, p⟩, (m : Int) == 5)) := by show _ = _; rw [K0.out, if_neg hi, decide_eq_true hp]; rfl
      clear hi
      go_wp2_with fail
      refine bodyPost_ret (v := .tuple #[.agg #[.string (strOf o), .int .i64 0, .int .u8 n, .string (strOf p)], .bool ((m : Int) == 5)]) (by simp [results, Try.f45, go_sem]; try rfl) rfl ⟨by rw [K.out]; rfl, ?_⟩
      go_grown
    · have K : Hid (outR ⟨o, m, n, p⟩ c = (⟨o, 0, n, p⟩, false)) := by show _ = _; rw [K0.out, if_neg hi, decide_eq_false hp]; rfl
      clear hi
      go_wp2_with fail
      refine bodyPost_ret (v := .tuple #[.agg #[.string (strOf o), .int .i64 0, .int .u8 n, .string (strOf p)], .bool false]) (by simp [results, Try.f45, go_sem]; try rfl) rfl ⟨by rw [K.out]; rfl, ?_⟩
      go_grown
set_option maxRecDepth 100000 in
set_option maxHeartbeats 4000000 in
theorem rout_colon (o : List UInt8) (m n : Nat) (p : List UInt8) (c : UInt8) (w : World) (ho : o.length ≤ 1000) (hm10 : m < 10) (hh : c.toNat = 58) :
    Calls Try.prog 45 #[.agg #[.string (strOf o), .int .i64 m, .int .u8 n, .string (strOf p)], .int .u8 c.toNat] w fun x w' => x = .returned (rr (outR ⟨o, m, n, p⟩ c)) ∧ Below w.heap.size w w' := by
  have K : Hid (outR ⟨o, m, n, p⟩ c = (⟨o, 0, n, p⟩, (m : Int) == 4)) := by show _ = _; unfold outR; simp [hh]
  have hz := strOf_size o
  have hc := UInt8.toNat_lt c
  obtain ⟨vb, hvb⟩ : ∃ x, x = ((m : Int) == 0 || (m : Int) == 1) := ⟨_, rfl⟩
  have HV := Lib.hid hvb
  obtain ⟨ib, hib⟩ : ∃ x, x = inB o := ⟨_, rfl⟩
  have HI := Lib.hid hib
  have hi256 : ib < 256 := by
    rw [hib]; unfold inB; split
    · omega
    · exact bt_lt _ _
  clear hvb hib
  go_enter Try.func45, Try.ntmps45
  go_upto_if 17 with fail
  go_cut [7] (fun v wx => v = .int .u8 ib ∧ wx = ((w.alloc (.cells #[.string (strOf o), .int .i64 m, .int .u8 n, .string (strOf p)] 30)).alloc (.cells #[.string ⟨#[]⟩, .int .i64 0, .int .u8 0, .string ⟨#[]⟩] 30)))
  case first =>
    by_cases h : o = []
    · subst h
      have K7 : Hid (ib = 0) := by show _ = _; rw [HI.out]; rfl
      go_wp2_with fail
      go_meet
      exact ⟨by rw [K7.out]; rfl, rfl⟩
    · have hlen : 0 < o.length := List.length_pos_iff.2 h
      have hb := strOf_byte o (o.length - 1) (by omega)
      have K7 : Hid (bt o (o.length - 1) = ib) := by show _ = _; rw [HI.out]; unfold inB; rw [if_neg h]
      clear h
      go_wp2_with fail
      go_meet
      exact ⟨by rw [K7.out], rfl⟩
  case rest =>
  obtain ⟨rfl, rfl⟩ := hcut
  go_upto_region 5 with fail
  go_cut [8] (fun v wx => v = .bool vb ∧ wx = ((w.alloc (.cells #[.string (strOf o), .int .i64 m, .int .u8 n, .string (strOf p)] 30)).alloc (.cells #[.string ⟨#[]⟩, .int .i64 0, .int .u8 0, .string ⟨#[]⟩] 30)))
  case first =>
    cases h0 : ((m : Int) == 0)
    · have K8 : Hid (vb = ((m : Int) == 1)) := by show _ = _; rw [HV.out, h0]; rfl
      go_wp2_with fail
      go_meet
      exact ⟨by rw [K8.out], rfl⟩
    · have K8 : Hid (vb = true) := by show _ = _; rw [HV.out, h0]; rfl
      go_wp2_with fail
      go_meet
      exact ⟨by rw [K8.out], rfl⟩
  case rest =>
  obtain ⟨rfl, rfl⟩ := hcut
  have HO := Lib.hid (fun w => one_to blL c.toNat false w hc (by decide) (by rw [blL_one hc]; simp; omega))
  have q93 : ((c.toNat : Int) == 93) = false := by simp only [beq_eq_false_iff_ne]; omega
  have q125 : ((c.toNat : Int) == 125) = false := by simp only [beq_eq_false_iff_ne]; omega
  have q44 : ((c.toNat : Int) == 44) = false := by simp only [beq_eq_false_iff_ne]; omega
  have q58 : ((c.toNat : Int) == 58) = true := by simp only [beq_iff_eq]; omega
  clear hh
  go_wp2_with fail
  refine (HO.out _).mono ?_
  rintro e w' ⟨rfl, rfl⟩
  go_wp2_with fail
  refine bodyPost_ret (v := .tuple #[.agg #[.string (strOf o), .int .i64 0, .int .u8 n, .string (strOf p)], .bool ((m : Int) == 4)]) (by simp [results, Try.f45, go_sem]; try rfl) rfl ⟨by rw [K.out]; rfl, ?_⟩
  go_grown
set_option maxRecDepth 100000 in
set_option maxHeartbeats 4000000 in
theorem rout_open91 (o : List UInt8) (m n : Nat) (p : List UInt8) (c : UInt8) (w : World) (ho : o.length ≤ 1000) (hm10 : m < 10) (hh : c.toNat = 91) :
    Calls Try.prog 45 #[.agg #[.string (strOf o), .int .i64 m, .int .u8 n, .string (strOf p)], .int .u8 c.toNat] w fun x w' => x = .returned (rr (outR ⟨o, m, n, p⟩ c)) ∧ Below w.heap.size w w' := by
  have K0 : Hid (outR ⟨o, m, n, p⟩ c = (⟨o ++ [c], 1, n, p⟩, ((m : Int) == 0 || (m : Int) == 1) && decide ((o.length : Int) < 32))) := by
    have e : decide ((o.length : Int) < 32) = decide (o.length < 32) := by rw [decide_eq_decide]; omega
    show _ = _; unfold outR; rw [e]; simp [hh]
  have kc := fun w a b => conv_at2 w a b c
  have hz1 := strOf_size [c]
  have ha := strOf_append
  have hz := strOf_size o
  have hc := UInt8.toNat_lt c
  obtain ⟨vb, hvb⟩ : ∃ x, x = ((m : Int) == 0 || (m : Int) == 1) := ⟨_, rfl⟩
  have HV := Lib.hid hvb
  obtain ⟨ib, hib⟩ : ∃ x, x = inB o := ⟨_, rfl⟩
  have HI := Lib.hid hib
  have hi256 : ib < 256 := by
    rw [hib]; unfold inB; split
    · omega
    · exact bt_lt _ _
  clear hvb hib
  go_enter Try.func45, Try.ntmps45
  go_upto_if 17 with fail
  go_cut [7] (fun v wx => v = .int .u8 ib ∧ wx = ((w.alloc (.cells #[.string (strOf o), .int .i64 m, .int .u8 n, .string (strOf p)] 30)).alloc (.cells #[.string ⟨#[]⟩, .int .i64 0, .int .u8 0, .string ⟨#[]⟩] 30)))
  case first =>
    by_cases h : o = []
    · subst h
      have K7 : Hid (ib = 0) := by show _ = _; rw [HI.out]; rfl
      go_wp2_with fail
      go_meet
      exact ⟨by rw [K7.out]; rfl, rfl⟩
    · have hlen : 0 < o.length := List.length_pos_iff.2 h
      have hb := strOf_byte o (o.length - 1) (by omega)
      have K7 : Hid (bt o (o.length - 1) = ib) := by show _ = _; rw [HI.out]; unfold inB; rw [if_neg h]
      clear h
      go_wp2_with fail
      go_meet
      exact ⟨by rw [K7.out], rfl⟩
  case rest =>
  obtain ⟨rfl, rfl⟩ := hcut
  go_upto_region 5 with fail
  go_cut [8] (fun v wx => v = .bool vb ∧ wx = ((w.alloc (.cells #[.string (strOf o), .int .i64 m, .int .u8 n, .string (strOf p)] 30)).alloc (.cells #[.string ⟨#[]⟩, .int .i64 0, .int .u8 0, .string ⟨#[]⟩] 30)))
  case first =>
    cases h0 : ((m : Int) == 0)
    · have K8 : Hid (vb = ((m : Int) == 1)) := by show _ = _; rw [HV.out, h0]; rfl
      go_wp2_with fail
      go_meet
      exact ⟨by rw [K8.out], rfl⟩
    · have K8 : Hid (vb = true) := by show _ = _; rw [HV.out, h0]; rfl
      go_wp2_with fail
      go_meet
      exact ⟨by rw [K8.out], rfl⟩
  case rest =>
  obtain ⟨rfl, rfl⟩ := hcut
  have HO := Lib.hid (fun w => one_to blL c.toNat false w hc (by decide) (by rw [blL_one hc]; simp; omega))
  have q93 : ((c.toNat : Int) == 93) = false := by simp only [beq_eq_false_iff_ne]; omega
  have q125 : ((c.toNat : Int) == 125) = false := by simp only [beq_eq_false_iff_ne]; omega
  have q44 : ((c.toNat : Int) == 44) = false := by simp only [beq_eq_false_iff_ne]; omega
  have q58 : ((c.toNat : Int) == 58) = false := by simp only [beq_eq_false_iff_ne]; omega
  have q91 : ((c.toNat : Int) == 91) = true := by simp only [beq_iff_eq]; omega
  have q123 : ((c.toNat : Int) == 123) = false := by simp only [beq_eq_false_iff_ne]; omega
  clear hh
  rw [← HV.out] at K0
  go_wp2_with fail
  refine (HO.out _).mono ?_
  rintro e w' ⟨rfl, rfl⟩
  cases vb
  · have K : Hid (outR ⟨o, m, n, p⟩ c = (⟨o ++ [c], 1, n, p⟩, false)) := by show _ = _; rw [K0.out]; rfl
    clear K0
    go_wp2_with fail
    refine bodyPost_ret (v := .tuple #[.agg #[.string (strOf (o ++ [c])), .int .i64 1, .int .u8 n, .string (strOf p)], .bool false]) (by simp [results, Try.f45, go_sem]; try rfl) rfl ⟨by rw [K.out]; rfl, ?_⟩
    go_grown
  · have K : Hid (outR ⟨o, m, n, p⟩ c = (⟨o ++ [c], 1, n, p⟩, decide ((o.length : Int) < 32))) := by show _ = _; rw [K0.out]; rfl
    clear K0
    go_wp2_with fail
    refine bodyPost_ret (v := .tuple #[.agg #[.string (strOf (o ++ [c])), .int .i64 1, .int .u8 n, .string (strOf p)], .bool (decide ((o.length : Int) < 32))]) (by simp [results, Try.f45, go_sem]; try rfl) rfl ⟨by rw [K.out]; rfl, ?_⟩
    go_grown
set_option maxRecDepth 100000 in
set_option maxHeartbeats 4000000 in
theorem rout_open123 (o : List UInt8) (m n : Nat) (p : List UInt8) (c : UInt8) (w : World) (ho : o.length ≤ 1000) (hm10 : m < 10) (hh : c.toNat = 123) :
    Calls Try.prog 45 #[.agg #[.string (strOf o), .int .i64 m, .int .u8 n, .string (strOf p)], .int .u8 c.toNat] w fun x w' => x = .returned (rr (outR ⟨o, m, n, p⟩ c)) ∧ Below w.heap.size w w' := by
  have K0 : Hid (outR ⟨o, m, n, p⟩ c = (⟨o ++ [c], 2, n, p⟩, ((m : Int) == 0 || (m : Int) == 1) && decide ((o.length : Int) < 32))) := by
    have e : decide ((o.length : Int) < 32) = decide (o.length < 32) := by rw [decide_eq_decide]; omega
    show _ = _; unfold outR; rw [e]; simp [hh]
  have kc := fun w a b => conv_at2 w a b c
  have hz1 := strOf_size [c]
  have ha := strOf_append
  have hz := strOf_size o
  have hc := UInt8.toNat_lt c
  obtain ⟨vb, hvb⟩ : ∃ x, x = ((m : Int) == 0 || (m : Int) == 1) := ⟨_, rfl⟩
  have HV := Lib.hid hvb
  obtain ⟨ib, hib⟩ : ∃ x, x = inB o := ⟨_, rfl⟩
  have HI := Lib.hid hib
  have hi256 : ib < 256 := by
    rw [hib]; unfold inB; split
    · omega
    · exact bt_lt _ _
  clear hvb hib
  go_enter Try.func45, Try.ntmps45
  go_upto_if 17 with fail
  go_cut [7] (fun v wx => v = .int .u8 ib ∧ wx = ((w.alloc (.cells #[.string (strOf o), .int .i64 m, .int .u8 n, .string (strOf p)] 30)).alloc (.cells #[.string ⟨#[]⟩, .int .i64 0, .int .u8 0, .string ⟨#[]⟩] 30)))
  case first =>
    by_cases h : o = []
    · subst h
      have K7 : Hid (ib = 0) := by show _ = _; rw [HI.out]; rfl
      go_wp2_with fail
      go_meet
      exact ⟨by rw [K7.out]; rfl, rfl⟩
    · have hlen : 0 < o.length := List.length_pos_iff.2 h
      have hb := strOf_byte o (o.length - 1) (by omega)
      have K7 : Hid (bt o (o.length - 1) = ib) := by show _ = _; rw [HI.out]; unfold inB; rw [if_neg h]
      clear h
      go_wp2_with fail
      go_meet
      exact ⟨by rw [K7.out], rfl⟩
  case rest =>
  obtain ⟨rfl, rfl⟩ := hcut
  go_upto_region 5 with fail
  go_cut [8] (fun v wx => v = .bool vb ∧ wx = ((w.alloc (.cells #[.string (strOf o), .int .i64 m, .int .u8 n, .string (strOf p)] 30)).alloc (.cells #[.string ⟨#[]⟩, .int .i64 0, .int .u8 0, .string ⟨#[]⟩] 30)))
  case first =>
    cases h0 : ((m : Int) == 0)
    · have K8 : Hid (vb = ((m : Int) == 1)) := by show _ = _; rw [HV.out, h0]; rfl
      go_wp2_with fail
      go_meet
      exact ⟨by rw [K8.out], rfl⟩
    · have K8 : Hid (vb = true) := by show _ = _; rw [HV.out, h0]; rfl
      go_wp2_with fail
      go_meet
      exact ⟨by rw [K8.out], rfl⟩
  case rest =>
  obtain ⟨rfl, rfl⟩ := hcut
  have HO := Lib.hid (fun w => one_to blL c.toNat false w hc (by decide) (by rw [blL_one hc]; simp; omega))
  have q93 : ((c.toNat : Int) == 93) = false := by simp only [beq_eq_false_iff_ne]; omega
  have q125 : ((c.toNat : Int) == 125) = false := by simp only [beq_eq_false_iff_ne]; omega
  have q44 : ((c.toNat : Int) == 44) = false := by simp only [beq_eq_false_iff_ne]; omega
  have q58 : ((c.toNat : Int) == 58) = false := by simp only [beq_eq_false_iff_ne]; omega
  have q91 : ((c.toNat : Int) == 91) = false := by simp only [beq_eq_false_iff_ne]; omega
  have q123 : ((c.toNat : Int) == 123) = true := by simp only [beq_iff_eq]; omega
  clear hh
  rw [← HV.out] at K0
  go_wp2_with fail
  refine (HO.out _).mono ?_
  rintro e w' ⟨rfl, rfl⟩
  cases vb
  · have K : Hid (outR ⟨o, m, n, p⟩ c = (⟨o ++ [c], 2, n, p⟩, false)) := by show _ = _; rw [K0.out]; rfl
    clear K0
    go_wp2_with fail
    refine bodyPost_ret (v := .tuple #[.agg #[.string (strOf (o ++ [c])), .int .i64 2, .int .u8 n, .string (strOf p)], .bool false]) (by simp [results, Try.f45, go_sem]; try rfl) rfl ⟨by rw [K.out]; rfl, ?_⟩
    go_grown
  · have K : Hid (outR ⟨o, m, n, p⟩ c = (⟨o ++ [c], 2, n, p⟩, decide ((o.length : Int) < 32))) := by show _ = _; rw [K0.out]; rfl
    clear K0
    go_wp2_with fail
    refine bodyPost_ret (v := .tuple #[.agg #[.string (strOf (o ++ [c])), .int .i64 2, .int .u8 n, .string (strOf p)], .bool (decide ((o.length : Int) < 32))]) (by simp [results, Try.f45, go_sem]; try rfl) rfl ⟨by rw [K.out]; rfl, ?_⟩
    go_grown
end Go.Proofs.Ytmfldffbafamnaa
