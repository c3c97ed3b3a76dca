/- Walks: the reference's outside (brackets). -/
import Derived.Test.YtmfldffbafamnaaRfE
import Derived.Test.YtmfldffbafamnaaCjK
import Derived.Test.YtmfldffbafamnaaRfC
import Derived.Deep.DeepCutAuto
namespace Go.Proofs.Ytmfldffbafamnaa
open Go.RowKit
set_option linter.unusedVariables false
set_option linter.unusedSimpArgs false
set_option maxRecDepth 100000 in
set_option maxHeartbeats 4000000 in
theorem rout_sq0 (o : List UInt8) (m n : Nat) (p : List UInt8) (c : UInt8) (w : World) (ho : o.length ≤ 1000) (hm10 : m < 10) (hh : c.toNat = 93) (hi0 : Hid (((inB o : Int) == 91) = false)) :
    Calls Try.prog 45 #[.agg #[.string (strOf o), .int .i64 m, .int .u8 n, .string (strOf p)], .int .u8 c.toNat] w fun x w' => x = .returned (rr (outR ⟨o, m, n, p⟩ c)) ∧ Below w.heap.size w w' := by
  have K0 : Hid (outR ⟨o, m, n, p⟩ c = (⟨o.take (o.length - 1), 5, 0, []⟩, (inB o : Int) == 91 && ((m : Int) == 1 || (m : Int) == 5))) := by show _ = _; unfold outR; simp [hh]
  have hz := strOf_size o
  have hc := UInt8.toNat_lt c
  obtain ⟨vb, hvb⟩ : ∃ x, x = ((m : Int) == 0 || (m : Int) == 1) := ⟨_, rfl⟩
  have HV := Lib.hid hvb
  obtain ⟨ib, hib⟩ : ∃ x, x = inB o := ⟨_, rfl⟩
  have HI := Lib.hid hib
  have hi256 : ib < 256 := by
    rw [hib]; unfold inB; split
    · omega
    · exact bt_lt _ _
  clear hvb hib
  go_enter Try.func45, Try.ntmps45
  go_upto_if 17 with fail
  go_cut [7] (fun v wx => v = .int .u8 ib ∧ wx = ((w.alloc (.cells #[.string (strOf o), .int .i64 m, .int .u8 n, .string (strOf p)] 30)).alloc (.cells #[.string ⟨#[]⟩, .int .i64 0, .int .u8 0, .string ⟨#[]⟩] 30)))
  case first =>
    by_cases h : o = []
    · subst h
      have K7 : Hid (ib = 0) := by show _ = _; rw [HI.out]; rfl
      clear hi0
      go_wp2_with fail
      go_meet
      exact ⟨by rw [K7.out]; rfl, rfl⟩
    · have hlen : 0 < o.length := List.length_pos_iff.2 h
      have hb := strOf_byte o (o.length - 1) (by omega)
      have K7 : Hid (bt o (o.length - 1) = ib) := by show _ = _; rw [HI.out]; unfold inB; rw [if_neg h]
      clear h
      go_wp2_with fail
      go_meet
      exact ⟨by rw [K7.out], rfl⟩
  case rest =>
  obtain ⟨rfl, rfl⟩ := hcut
  go_upto_region 5 with fail
  go_cut [8] (fun v wx => v = .bool vb ∧ wx = ((w.alloc (.cells #[.string (strOf o), .int .i64 m, .int .u8 n, .string (strOf p)] 30)).alloc (.cells #[.string ⟨#[]⟩, .int .i64 0, .int .u8 0, .string ⟨#[]⟩] 30)))
  case first =>
    cases h0 : ((m : Int) == 0)
    · have K8 : Hid (vb = ((m : Int) == 1)) := by show _ = _; rw [HV.out, h0]; rfl
      go_wp2_with fail
      go_meet
      exact ⟨by rw [K8.out], rfl⟩
    · have K8 : Hid (vb = true) := by show _ = _; rw [HV.out, h0]; rfl
      go_wp2_with fail
      go_meet
      exact ⟨by rw [K8.out], rfl⟩
  case rest =>
  obtain ⟨rfl, rfl⟩ := hcut
  have HO := Lib.hid (fun w => one_to blL c.toNat false w hc (by decide) (by rw [blL_one hc]; simp; omega))
  have q93 : ((c.toNat : Int) == 93) = true := by simp only [beq_iff_eq]; omega
  have HS := Lib.hid (fun w => shut_any (o.take (o.length - 1)) m n p w)
  have HB := Lib.hid (fun W => rboxes_new w ⟨o.take (o.length - 1), m, n, p⟩ W)
  have HE : Hid ((strOf o).extract 0 (o.length - 1) = strOf (o.take (o.length - 1))) := by show _ = _; rw [strOf_extract]; simp
  have hmx : max ((o.length : Int) - 1) 0 = ((o.length - 1 : Nat) : Int) := by omega
  have hkl : o.length - 1 ≤ o.length := Nat.sub_le _ _
  clear hh
  have hi := hi0.out
  rw [← HI.out] at K0 hi
  clear HV HI
  go_wp2_with fail
  refine (HO.out _).mono ?_
  rintro e w' ⟨rfl, rfl⟩
  go_upto_region 9 with fail
  generalize o.length - 1 = k at *
  go_upto_region 10 with fail
  rw [HE.out]
  obtain ⟨hA, hR, hb⟩ := HB.out _ rfl
  generalize (w.alloc _).alloc _ = w1 at *
  generalize o.take k = o1 at *
  obtain ⟨a0, a1, a2, a3⟩ := hA.facts
  dsimp only at a0 a1 a2 a3
  have HA := Lib.hid hA
  have HR := Lib.hid hR
  have HBL := Lib.hid hb
  clear hA hR hb HB HE HO
  have K : Hid (outR ⟨o, m, n, p⟩ c = (⟨o1, 5, 0, []⟩, false)) := by show _ = _; rw [K0.out, hi]; rfl
  clear K0
  refine wp_region_held_drew (S := (fun w' => w'.cell? ⟨w.heap.size, 0, none⟩ = some (.string (strOf o1)) ∧ w'.cell? ⟨w.heap.size, 1, none⟩ = some (.int .i64 m) ∧ w'.cell? ⟨w.heap.size, 2, none⟩ = some (.int .u8 n) ∧ w'.cell? ⟨w.heap.size, 3, none⟩ = some (.string (strOf p)))) (by kernel_rfl) ⟨a0, a1, a2, a3⟩ (fun hHeld => ?_)
  refine wpAnyH_take (i := 0) (v := ?_) rfl (by kernel_rfl) (by kernel_rfl) (by kernel_rfl) (fun _ _ _ h => h) (Or.inl ⟨by rfl, ?_⟩) (by assumption) ?_
  rotate_left
  · intro w hSw
    go_simp
    try rfl
  try simp only [Act.put, List.setIfInBounds_toArray, List.set_cons_zero, List.set_cons_succ, List.getElem_toArray, List.getElem_cons_succ, List.getElem_cons_zero]
  refine wpAnyH_take (i := 2) (v := ?_) rfl (by kernel_rfl) (by kernel_rfl) (by kernel_rfl) (fun _ _ _ h => h) (Or.inl ⟨by rfl, ?_⟩) (by assumption) ?_
  rotate_left
  · intro w hSw
    go_simp
    try rfl
  try simp only [Act.put, List.setIfInBounds_toArray, List.set_cons_zero, List.set_cons_succ, List.getElem_toArray, List.getElem_cons_succ, List.getElem_cons_zero]
  refine wpAnyH_take (i := 3) (v := ?_) rfl (by kernel_rfl) (by kernel_rfl) (by kernel_rfl) (fun _ _ _ h => h) (Or.inl ⟨by rfl, ?_⟩) (by assumption) ?_
  rotate_left
  · intro w hSw
    go_simp
    try rfl
  try simp only [Act.put, List.setIfInBounds_toArray, List.set_cons_zero, List.set_cons_succ, List.getElem_toArray, List.getElem_cons_succ, List.getElem_cons_zero]
  refine wpAnyH_ready (rs := [1]) (by kernel_rfl) (by simp) ?_
  refine AllReadyH.cons rfl (fun K9 hK => ?_) AllReadyH.nil
  go_simp
  refine (HS.out _).mono ?_
  rintro x w2 ⟨rfl, b2⟩
  go_wp2_with fail
  have hA2 := RdAt.below' (w := w1.drew) HA.out b2
  have hR2 := RdAt.below' (w := w1.drew) HR.out b2
  have hb2 : Below w.heap.size w w2 := (below_drewN HBL.out 1).trans (b2.mono HBL.out.size)
  refine hK.out _ _ hA2.facts (fun hHeld => ?_)
  clear hK
  try simp only [Act.put, List.setIfInBounds_toArray, List.set_cons_zero, List.set_cons_succ, List.getElem_toArray, List.getElem_cons_succ, List.getElem_cons_zero]
  obtain ⟨f0, f1, f2, f3⟩ := hR2.frz
  obtain ⟨r0, r1, r2, r3⟩ := hR2.facts
  dsimp only at r0 r1 r2 r3
  have HA3 := Lib.hid hA2
  have HR3 := Lib.hid hR2
  clear hA2 hR2 b2
  refine wpAnyH_take (i := 4) (v := ?_) rfl (by kernel_rfl) (by kernel_rfl) (by kernel_rfl) (fun _ _ _ h => h) (Or.inl ⟨by rfl, ?_⟩) (by assumption) ?_
  rotate_left
  · intro w hSw
    go_simp
    try rfl
  try simp only [Act.put, List.setIfInBounds_toArray, List.set_cons_zero, List.set_cons_succ, List.getElem_toArray, List.getElem_cons_succ, List.getElem_cons_zero]
  refine wpAnyH_take (i := 5) (v := undef) rfl (by kernel_rfl) (by kernel_rfl) (by kernel_rfl) (fun _ _ _ h => h) (Or.inr ⟨by rfl, rfl⟩) (by assumption) ?_
  simp only [Act.put, List.setIfInBounds_toArray, List.set_cons_zero, List.set_cons_succ, List.getElem_toArray, List.getElem_cons_succ, List.getElem_cons_zero]
  refine wpAnyH_take (i := 6) (v := undef) rfl (by kernel_rfl) (by kernel_rfl) (by kernel_rfl) (fun _ _ _ h => h) (Or.inr ⟨by rfl, rfl⟩) (by assumption) ?_
  simp only [Act.put, List.setIfInBounds_toArray, List.set_cons_zero, List.set_cons_succ, List.getElem_toArray, List.getElem_cons_succ, List.getElem_cons_zero]
  refine wpAnyH_take (i := 7) (v := undef) rfl (by kernel_rfl) (by kernel_rfl) (by kernel_rfl) (fun _ _ _ h => h) (Or.inr ⟨by rfl, rfl⟩) (by assumption) ?_
  simp only [Act.put, List.setIfInBounds_toArray, List.set_cons_zero, List.set_cons_succ, List.getElem_toArray, List.getElem_cons_succ, List.getElem_cons_zero]
  refine wpAnyH_take (i := 8) (v := undef) rfl (by kernel_rfl) (by kernel_rfl) (by kernel_rfl) (fun _ _ _ h => h) (Or.inr ⟨by rfl, rfl⟩) (by assumption) ?_
  simp only [Act.put, List.setIfInBounds_toArray, List.set_cons_zero, List.set_cons_succ, List.getElem_toArray, List.getElem_cons_succ, List.getElem_cons_zero]
  refine wpAnyH_take (i := 9) (v := undef) rfl (by kernel_rfl) (by kernel_rfl) (by kernel_rfl) (fun _ _ _ h => h) (Or.inr ⟨by rfl, rfl⟩) (by assumption) ?_
  simp only [Act.put, List.setIfInBounds_toArray, List.set_cons_zero, List.set_cons_succ, List.getElem_toArray, List.getElem_cons_succ, List.getElem_cons_zero]
  refine wpAnyH_take (i := 10) (v := undef) rfl (by kernel_rfl) (by kernel_rfl) (by kernel_rfl) (fun _ _ _ h => h) (Or.inr ⟨by rfl, rfl⟩) (by assumption) ?_
  simp only [Act.put, List.setIfInBounds_toArray, List.set_cons_zero, List.set_cons_succ, List.getElem_toArray, List.getElem_cons_succ, List.getElem_cons_zero]
  refine wpAnyH_take (i := 11) (v := undef) rfl (by kernel_rfl) (by kernel_rfl) (by kernel_rfl) (fun _ _ _ h => h) (Or.inr ⟨by rfl, rfl⟩) (by assumption) ?_
  simp only [Act.put, List.setIfInBounds_toArray, List.set_cons_zero, List.set_cons_succ, List.getElem_toArray, List.getElem_cons_succ, List.getElem_cons_zero]
  refine wpAnyH_take (i := 12) (v := undef) rfl (by kernel_rfl) (by kernel_rfl) (by kernel_rfl) (fun _ _ _ h => h) (Or.inr ⟨by rfl, rfl⟩) (by assumption) ?_
  simp only [Act.put, List.setIfInBounds_toArray, List.set_cons_zero, List.set_cons_succ, List.getElem_toArray, List.getElem_cons_succ, List.getElem_cons_zero]
  refine wpAnyH_take (i := 13) (v := ?_) rfl (by kernel_rfl) (by kernel_rfl) (by kernel_rfl) (fun _ _ _ h => h) (Or.inl ⟨by rfl, ?_⟩) (by assumption) ?_
  rotate_left
  · intro w hSw
    go_simp
    try rfl
  try simp only [Act.put, List.setIfInBounds_toArray, List.set_cons_zero, List.set_cons_succ, List.getElem_toArray, List.getElem_cons_succ, List.getElem_cons_zero]
  refine wpAnyH_ready (rs := [14]) (by kernel_rfl) (by simp) ?_
  refine AllReadyH.cons rfl (fun K9 hK => ?_) AllReadyH.nil
  go_simp
  refine hK.out _ _ ((HA3.out.far (a := ⟨w.heap.size + 1, 0, none⟩) (by simp) _).far (a := ⟨w.heap.size + 1, 1, none⟩) (by simp) _ |>.far (a := ⟨w.heap.size + 1, 2, none⟩) (by simp) _ |>.far (a := ⟨w.heap.size + 1, 3, none⟩) (by simp) _).facts (fun hHeld => ?_)
  clear hK
  try simp only [Act.put, List.setIfInBounds_toArray, List.set_cons_zero, List.set_cons_succ, List.getElem_toArray, List.getElem_cons_succ, List.getElem_cons_zero]
  refine wpAnyH_take (i := 15) (v := ?_) rfl (by kernel_rfl) (by kernel_rfl) (by kernel_rfl) (fun _ _ _ h => h) (Or.inl ⟨by rfl, ?_⟩) (by assumption) ?_
  rotate_left
  · intro w hSw
    go_simp
    try rfl
  try simp only [Act.put, List.setIfInBounds_toArray, List.set_cons_zero, List.set_cons_succ, List.getElem_toArray, List.getElem_cons_succ, List.getElem_cons_zero]
  refine wpAnyH_done (by kernel_rfl) ?_ _
  clear hHeld
  obtain ⟨s0, s1, s2, s3⟩ := (HR3.out.put ⟨o1, 5, 0, []⟩).facts
  dsimp only at s0 s1 s2 s3
  have e5 : ((5 : Nat) : Int) = 5 := rfl
  have e00 : ((0 : Nat) : Int) = 0 := rfl
  rw [e5, e00] at s0 s1 s2 s3
  go_wp2_with fail
  refine bodyPost_ret (v := .tuple #[.agg #[.string (strOf o1), .int .i64 5, .int .u8 0, .string (strOf [])], .bool false]) (by simp [results, Try.f45, go_sem, s0, s1, s2, s3]) rfl ⟨by rw [K.out]; rfl, ?_⟩
  exact rbelow_put hb2 (by simp) _ _ _ _
end Go.Proofs.Ytmfldffbafamnaa
