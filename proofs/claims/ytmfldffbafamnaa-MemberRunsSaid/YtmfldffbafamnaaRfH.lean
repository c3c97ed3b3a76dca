/- Walks: the reference's outside (a word). -/
import Derived.Test.YtmfldffbafamnaaRfE
import Derived.Test.YtmfldffbafamnaaCjK
import Derived.Test.YtmfldffbafamnaaRfC
import Derived.Deep.DeepCutAuto
namespace Go.Proofs.Ytmfldffbafamnaa
open Go.RowKit
set_option linter.unusedVariables false
set_option linter.unusedSimpArgs false
set_option maxRecDepth 100000 in
set_option maxHeartbeats 4000000 in
theorem rout_word (o : List UInt8) (m n : Nat) (p : List UInt8) (c : UInt8) (w : World) (ho : o.length ≤ 1000) (hm10 : m < 10) (b1 : c.toNat ≠ 32 ∧ c.toNat ≠ 9 ∧ c.toNat ≠ 10 ∧ c.toNat ≠ 13 ∧ c.toNat ≠ 93 ∧ c.toNat ≠ 125 ∧ c.toNat ≠ 44 ∧ c.toNat ≠ 58 ∧ c.toNat ≠ 91 ∧ c.toNat ≠ 123) (h34 : c.toNat ≠ 34) (h45 : c.toNat ≠ 45) (hh : digB c.toNat = false) (hv : m = 0 ∨ m = 1) (h32 : o.length < 32) :
    Calls Try.prog 45 #[.agg #[.string (strOf o), .int .i64 m, .int .u8 n, .string (strOf p)], .int .u8 c.toNat] w fun x w' => x = .returned (rr (outR ⟨o, m, n, p⟩ c)) ∧ Below w.heap.size w w' := by
  have K : Hid (outR ⟨o, m, n, p⟩ c = (⟨o, m, 119, [c]⟩, (wordS [c]).1)) := by show _ = _; unfold outR; rw [if_neg (by omega), if_neg (by omega), if_neg (by omega), if_neg (by omega), if_neg (by omega), if_neg (by omega), if_neg (by dsimp only; omega), if_neg (by dsimp only; omega), if_neg h34, if_neg (by rw [hh]; simp; exact h45)]
  have kc := fun w a b => conv_at2 w a b c
  have hz1 := strOf_size [c]
  have hz := strOf_size o
  have hc := UInt8.toNat_lt c
  obtain ⟨vb, hvb⟩ : ∃ x, x = ((m : Int) == 0 || (m : Int) == 1) := ⟨_, rfl⟩
  have HV := Lib.hid hvb
  obtain ⟨ib, hib⟩ : ∃ x, x = inB o := ⟨_, rfl⟩
  have HI := Lib.hid hib
  have hi256 : ib < 256 := by
    rw [hib]; unfold inB; split
    · omega
    · exact bt_lt _ _
  clear hvb hib
  go_enter Try.func45, Try.ntmps45
  go_upto_if 17 with fail
  go_cut [7] (fun v wx => v = .int .u8 ib ∧ wx = ((w.alloc (.cells #[.string (strOf o), .int .i64 m, .int .u8 n, .string (strOf p)] 30)).alloc (.cells #[.string ⟨#[]⟩, .int .i64 0, .int .u8 0, .string ⟨#[]⟩] 30)))
  case first =>
    by_cases h : o = []
    · subst h
      have K7 : Hid (ib = 0) := by show _ = _; rw [HI.out]; rfl
      go_wp2_with fail
      go_meet
      exact ⟨by rw [K7.out]; rfl, rfl⟩
    · have hlen : 0 < o.length := List.length_pos_iff.2 h
      have hb := strOf_byte o (o.length - 1) (by omega)
      have K7 : Hid (bt o (o.length - 1) = ib) := by show _ = _; rw [HI.out]; unfold inB; rw [if_neg h]
      clear h
      go_wp2_with fail
      go_meet
      exact ⟨by rw [K7.out], rfl⟩
  case rest =>
  obtain ⟨rfl, rfl⟩ := hcut
  go_upto_region 5 with fail
  go_cut [8] (fun v wx => v = .bool vb ∧ wx = ((w.alloc (.cells #[.string (strOf o), .int .i64 m, .int .u8 n, .string (strOf p)] 30)).alloc (.cells #[.string ⟨#[]⟩, .int .i64 0, .int .u8 0, .string ⟨#[]⟩] 30)))
  case first =>
    cases h0 : ((m : Int) == 0)
    · have K8 : Hid (vb = ((m : Int) == 1)) := by show _ = _; rw [HV.out, h0]; rfl
      go_wp2_with fail
      go_meet
      exact ⟨by rw [K8.out], rfl⟩
    · have K8 : Hid (vb = true) := by show _ = _; rw [HV.out, h0]; rfl
      go_wp2_with fail
      go_meet
      exact ⟨by rw [K8.out], rfl⟩
  case rest =>
  obtain ⟨rfl, rfl⟩ := hcut
  have HO := Lib.hid (fun w => one_to blL c.toNat false w hc (by decide) (by rw [blL_one hc]; simp; omega))
  have hvt : vb = true := by rw [HV.out]; simp; omega
  subst hvt
  have m2 : ((m : Int) == 2) = false := by simp only [beq_eq_false_iff_ne]; omega
  have m3 : ((m : Int) == 3) = false := by simp only [beq_eq_false_iff_ne]; omega
  have q93 : ((c.toNat : Int) == 93) = false := by simp only [beq_eq_false_iff_ne]; omega
  have q125 : ((c.toNat : Int) == 125) = false := by simp only [beq_eq_false_iff_ne]; omega
  have q44 : ((c.toNat : Int) == 44) = false := by simp only [beq_eq_false_iff_ne]; omega
  have q58 : ((c.toNat : Int) == 58) = false := by simp only [beq_eq_false_iff_ne]; omega
  have q91 : ((c.toNat : Int) == 91) = false := by simp only [beq_eq_false_iff_ne]; omega
  have q123 : ((c.toNat : Int) == 123) = false := by simp only [beq_eq_false_iff_ne]; omega
  have q34 : ((c.toNat : Int) == 34) = false := by simp only [beq_eq_false_iff_ne]; omega
  have q45 : ((c.toNat : Int) == 45) = false := by simp only [beq_eq_false_iff_ne]; omega
  have HG := Lib.hid (fun w => rdigit_any c.toNat w hc)
  rw [hh] at HG
  have HW := Lib.hid (fun w => rword_any [c] w (by simp))
  have HB := Lib.hid (fun W => rbox_behind w ⟨o, m, 119, [c]⟩ (.cells #[.int .u8 c.toNat] 5) W)
  generalize wordS [c] = rw at *
  obtain ⟨r1, r2⟩ := rw
  dsimp only at HW K
  clear hh HV HI hv h34 h45 b1
  go_wp2_with fail
  refine (HO.out _).mono ?_
  rintro e w' ⟨rfl, rfl⟩
  go_wp2_with fail
  refine (HG.out _).mono ?_
  rintro e w' ⟨rfl, rfl⟩
  go_wp2_with fail
  refine (HW.out _).mono ?_
  rintro e w2 ⟨rfl, b2⟩
  obtain ⟨hA, hR, hb⟩ := HB.out _ rfl
  have HR2 := Lib.hid (hR.below' b2)
  have hb2 := hb.trans (b2.mono hb.size)
  obtain ⟨a0, a1, a2, a3⟩ := (hA.below' b2).facts
  obtain ⟨g0, g1, g2, g3⟩ := (hR.below' b2).frz
  obtain ⟨c0, c1, c2, c3⟩ := (hR.below' b2).facts
  dsimp only at a0 a1 a2 a3
  clear hA hR hb b2
  go_wp2_with fail
  obtain ⟨s0, s1, s2, s3⟩ := (HR2.out.put ⟨o, m, 119, [c]⟩).facts
  dsimp only at s0 s1 s2 s3
  have e119 : ((119 : Nat) : Int) = 119 := rfl
  rw [e119] at s0 s1 s2 s3
  refine bodyPost_ret (v := .tuple #[.agg #[.string (strOf o), .int .i64 m, .int .u8 119, .string (strOf [c])], .bool r1]) (by simp [results, Try.f45, go_sem, s0, s1, s2, s3]) rfl ⟨by rw [K.out]; rfl, ?_⟩
  exact rbelow_put hb2 (by simp) _ _ _ _
end Go.Proofs.Ytmfldffbafamnaa
