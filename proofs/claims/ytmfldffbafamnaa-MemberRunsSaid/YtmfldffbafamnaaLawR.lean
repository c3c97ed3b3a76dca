/- Walks: the law MemberRuns. -/
import Derived.Test.YtmfldffbafamnaaLawS
namespace Go.Proofs.Ytmfldffbafamnaa
open Go.RowKit
set_option linter.unusedVariables false
set_option linter.unusedSimpArgs false
theorem StAt.new0 (w : World) : StAt (w.alloc (.cells #[.int .i64 0, .string ⟨#[]⟩, .string ⟨#[]⟩] 25)) w.heap.size ⟨0, [], []⟩ := Blk.new w _ _
theorem below_0 {w w6 w7 : World} (hb : Below w.heap.size w w6) (b7 : Below (World.drew w6).heap.size (World.drew w6) w7) : Below w.heap.size w w7 := by
  have h : Below w.heap.size w (World.drew w6) := below_drewN hb 1
  exact h.trans (b7.mono h.size)
theorem runR_good {k : Nat} {q : RD} (h : q.good k) (l : List UInt8) : (runR q l).1.good (k + l.length) := by
  induction l generalizing q k with
  | nil => exact h
  | cons c t ih =>
    rw [runR_cons]
    by_cases e : (nextR q c).2 = true
    · rw [if_pos e]
      have := ih (nextR_good h c)
      rw [List.length_cons, show k + (t.length + 1) = k + 1 + t.length by omega]
      exact this
    · rw [if_neg e]
      exact ⟨h.m, by have := h.o; simp; omega, by have := h.p; simp; omega, h.n⟩
theorem r0_good : r0.good 0 := ⟨by decide, by decide, by decide, by decide⟩
theorem runs_law (l : List UInt8) : ∃ z r, runS q0 l = (z, decide (lng l = l.length)) ∧ runS q0 (l.take (lng l)) = (z, true) ∧ runR r0 (l.take (lng l)) = (r, true) ∧ Sim z r ∧ z.good l.length := by
  have h1 := ok_all l
  have h2 := state_all l
  have h3 := ok_take l (lng l) (Nat.le_refl _)
  have h4 := run_both sim0 (l.take (lng l))
  have h5 := runS_good q0_good l
  refine ⟨(runS q0 l).1, (runR r0 (l.take (lng l))).1, ?_, ?_, ?_, ?_, ?_⟩
  · rw [← h1]
  · rw [h2, ← h3]
  · rw [← h3, h4.1]
  · rw [h2]; exact h4.2
  · have : 0 + l.length = l.length := Nat.zero_add _
    rw [this] at h5; exact h5
theorem parts_law (l : List UInt8) (k : Nat) (hk : k ≤ lng l) : ∃ zp, runS q0 (l.take k) = (zp, true) ∧ zp.good k ∧ runS zp ((l.drop k).take (lng l - k)) = runS q0 (l.take (lng l)) := by
  have h1 := ok_take l k hk
  have h5 := runS_good q0_good (l.take k)
  have hl := lng_le l
  have hlen : (l.take k).length = k := by rw [List.length_take]; omega
  refine ⟨(runS q0 (l.take k)).1, by rw [← h1], ?_, ?_⟩
  · rw [hlen, Nat.zero_add] at h5; exact h5
  · rw [← runS_append q0 _ _ h1]
    congr 1
    have e : lng l = k + (lng l - k) := by omega
    conv => rhs; rw [e, List.take_add]
set_option maxRecDepth 100000 in
set_option maxHeartbeats 8000000 in
theorem law_runs (l : List UInt8) (a : Nat) (w : World) (hl : l.length ≤ 9223372036854775807) (ha : a < 65536) :
    Calls Try.prog 6 #[.string (strOf l), .int .u16 a] w fun e w' => e = .returned (.bool true) ∧ Below w.heap.size w w' := by
  have HF := Lib.hid (fun w => few_any l w hl)
  have ht : (l.take 120).length ≤ 120 := by rw [List.length_take]; omega
  generalize l.take 120 = t at *
  have HL := Lib.hid (fun w => longest_any t w (by omega))
  have hle := lng_le t
  obtain ⟨z, r, R1, R2, R3, hsim, hgood⟩ := runs_law t
  obtain ⟨kk, hkk⟩ : ∃ kk, kk = a % (lng t + 1) := ⟨_, rfl⟩
  have hkn : kk ≤ lng t := by have := Nat.mod_lt a (show 0 < lng t + 1 by omega); omega
  obtain ⟨zp, P1, pgood, P2⟩ := parts_law t kk hkn
  rw [R2] at P2
  have hfit := hgood.fit (by omega)
  have hrp : r.p.length ≤ 60000 := by
    have := (runR_good r0_good (t.take (lng t))).p
    rw [R3, List.length_take] at this
    dsimp only at this
    omega
  have hho := hole_both hsim
  have hen := end_both hsim
  have hro := hsim.o
  have HH := Lib.hid (fun w => hole_any z w)
  have HX := Lib.hid (fun w => end_any z w)
  have HD := Lib.hid (fun w => deep_any z w hfit)
  have HRH := Lib.hid (fun w => rhole_any r w)
  have HRX := Lib.hid (fun w => rend_any r w hrp)
  rw [← hho] at HRH
  rw [← hen] at HRX
  have C1 := Lib.hid (fun w => run0 t w (by omega))
  have C2 := Lib.hid (fun w => run0 (t.take (lng t)) w (by rw [List.length_take]; omega))
  have C3 := Lib.hid (fun w => of_any (t.take (lng t)) w (by rw [List.length_take]; omega))
  have C4 := Lib.hid (fun w => run0 (t.take kk) w (by rw [List.length_take]; omega))
  have C5 := Lib.hid (fun w => run_any zp ((t.drop kk).take (lng t - kk)) kk w pgood (by rw [List.length_take, List.length_drop]; omega))
  rw [R1] at C1
  rw [R2] at C2
  rw [R3] at C3
  rw [P1] at C4
  rw [P2] at C5
  have HE2 : Hid ((strOf t).extract 0 (lng t) = strOf (t.take (lng t))) := by show _ = _; rw [strOf_extract]; simp
  have HE4 : Hid ((strOf t).extract 0 kk = strOf (t.take kk)) := by show _ = _; rw [strOf_extract]; simp
  have HE5 : Hid ((strOf t).extract kk (lng t) = strOf ((t.drop kk).take (lng t - kk))) := by show _ = _; rw [strOf_extract]
  rw [← HE5.out] at C5
  have hmod : ((a : Nat) : Int) % ((lng t : Nat) + 1) = (kk : Int) := by rw [hkk]; rfl
  have htmod : Int.tmod ((a : Nat) : Int) ((lng t : Nat) + 1) = (kk : Int) := by rw [Int.tmod_eq_emod_of_nonneg (by omega)]; exact hmod
  have hz := strOf_size t
  have hokd : ((lng t : Int) == t.length) = decide (lng t = t.length) := by rw [Bool.eq_iff_iff]; simp only [beq_iff_eq, decide_eq_true_eq]; omega
  generalize decide (lng t = t.length) = ok0 at *
  have hnn : (ok0 != ok0) = false := by cases ok0 <;> rfl
  obtain ⟨m, o, p⟩ := z
  obtain ⟨ro, rm, rn, rp⟩ := r
  obtain ⟨pm, po, pp⟩ := zp
  dsimp only at hro
  have hro2 := hro.symm
  subst hro2
  generalize holeS ⟨m, o, p⟩ = hb at *
  generalize endS ⟨m, o, p⟩ = eb at *
  unfold qr Q.v sv at C1 C2 C4 C5
  unfold rr RD.v at C3
  unfold Q.v sv at HH HX HD
  unfold RD.v at HRH HRX
  dsimp only at C1 C2 C3 C4 C5 HH HX HD HRH HRX
  clear R1 R2 R3 P1 P2 hsim hgood pgood hfit hrp hho hen hkk HE5
  have hzo := strOf_size o
  generalize lng t = n at *
  generalize t.take n = u at *
  generalize t.take kk = u4 at *
  go_enter Try.func6, Try.ntmps6
  go_wp2_with fail
  refine (HF.out _).mono ?_
  rintro e w' ⟨rfl, rfl⟩
  go_wp2_with fail
  refine (HL.out _).mono ?_
  rintro e w2 ⟨rfl, b2⟩
  go_wp2_with fail
  refine (C1.out _).mono ?_
  rintro e w3 ⟨rfl, b⟩
  have b3 := (b2.trans (b.mono b2.size)).alloc (b2.trans (b.mono b2.size)).size (.cells #[.int .i64 m, .string (strOf o), .string (strOf p)] 25)
  have hX : StAt (w3.alloc (.cells #[.int .i64 m, .string (strOf o), .string (strOf p)] 25)) w3.heap.size ⟨m, o, p⟩ := Blk.new w3 _ _
  clear b b2
  go_upto_region 4 with fail
  generalize w3.alloc _ = w4 at *
  generalize w3.heap.size = g6 at *
  go_wp2_with fail
  rw [HE2.out]
  refine (C2.out _).mono ?_
  rintro e w5 ⟨rfl, b⟩
  have b5 := (b3.trans (b.mono b3.size)).alloc (b3.trans (b.mono b3.size)).size (.cells #[.int .i64 m, .string (strOf o), .string (strOf p)] 25)
  have hX5 := StAt.al (hX.below' b) (.cells #[.int .i64 m, .string (strOf o), .string (strOf p)] 25)
  have hY5 : StAt (w5.alloc (.cells #[.int .i64 m, .string (strOf o), .string (strOf p)] 25)) w5.heap.size ⟨m, o, p⟩ := Blk.new w5 _ _
  clear b b3 hX
  go_upto_region 5 with fail
  generalize w5.alloc _ = w6 at *
  generalize w5.heap.size = g8 at *
  go_wp2_with fail
  rw [HE2.out]
  refine (C3.out _).mono ?_
  rintro e w7 ⟨rfl, b⟩
  have b7 := (b5.trans (b.mono b5.size)).alloc (b5.trans (b.mono b5.size)).size (.cells #[.string (strOf o), .int .i64 rm, .int .u8 rn, .string (strOf rp)] 30)
  have hX7 := StAt.al (hX5.below' b) (.cells #[.string (strOf o), .int .i64 rm, .int .u8 rn, .string (strOf rp)] 30)
  have hY7 := StAt.al (hY5.below' b) (.cells #[.string (strOf o), .int .i64 rm, .int .u8 rn, .string (strOf rp)] 30)
  have hR7 : RdAt (w7.alloc (.cells #[.string (strOf o), .int .i64 rm, .int .u8 rn, .string (strOf rp)] 30)) w7.heap.size ⟨o, rm, rn, rp⟩ := Blk.new w7 _ _
  clear b b5 hX5 hY5
  go_upto_region 6 with fail
  generalize w7.alloc _ = wa at *
  generalize w7.heap.size = g10 at *
  have Xwa := Lib.hid hX7
  have Ywa := Lib.hid hY7
  have Rwa := Lib.hid hR7
  have Bwa := Lib.hid b7
  clear hX7 hY7 hR7 b7 C1 C2 C3 HF HL
  go_cut [78] (fun v wx => v = .bool false ∧ StAt wx g6 ⟨m, o, p⟩ ∧ Below w.heap.size w wx)
  case first =>
    refine wp_region_held_drew (S := (fun w' => w'.cell? ⟨g6, 0, none⟩ = some (.int .i64 m) ∧ w'.cell? ⟨g6, 1, none⟩ = some (.string (strOf o)) ∧ w'.cell? ⟨g6, 2, none⟩ = some (.string (strOf p)) ∧ w'.cell? ⟨g8, 0, none⟩ = some (.int .i64 m) ∧ w'.cell? ⟨g8, 1, none⟩ = some (.string (strOf o)) ∧ w'.cell? ⟨g8, 2, none⟩ = some (.string (strOf p)) ∧ w'.cell? ⟨g10, 0, none⟩ = some (.string (strOf o)) ∧ w'.cell? ⟨g10, 1, none⟩ = some (.int .i64 rm) ∧ w'.cell? ⟨g10, 2, none⟩ = some (.int .u8 rn) ∧ w'.cell? ⟨g10, 3, none⟩ = some (.string (strOf rp)))) (by kernel_rfl) ⟨(StAt.cells3 Xwa.out).1, (StAt.cells3 Xwa.out).2.1, (StAt.cells3 Xwa.out).2.2, (StAt.cells3 Ywa.out).1, (StAt.cells3 Ywa.out).2.1, (StAt.cells3 Ywa.out).2.2, RdAt.facts Rwa.out⟩ (fun hHeld => ?_)
    refine wpAnyH_take (i := 0) (v := ?_) rfl (by kernel_rfl) (by kernel_rfl) (by kernel_rfl) (fun _ _ _ h => h) (Or.inl ⟨by rfl, ?_⟩) (by assumption) ?_
    rotate_left
    · intro w hSw
      go_simp
      try rfl
    try simp only [Act.put, List.setIfInBounds_toArray, List.set_cons_zero, List.set_cons_succ, List.getElem_toArray, List.getElem_cons_succ, List.getElem_cons_zero]
    refine wpAnyH_take (i := 1) (v := ?_) rfl (by kernel_rfl) (by kernel_rfl) (by kernel_rfl) (fun _ _ _ h => h) (Or.inl ⟨by rfl, ?_⟩) (by assumption) ?_
    rotate_left
    · intro w hSw
      go_simp
      try rfl
    try simp only [Act.put, List.setIfInBounds_toArray, List.set_cons_zero, List.set_cons_succ, List.getElem_toArray, List.getElem_cons_succ, List.getElem_cons_zero]
    refine wpAnyH_take (i := 2) (v := ?_) rfl (by kernel_rfl) (by kernel_rfl) (by kernel_rfl) (fun _ _ _ h => h) (Or.inl ⟨by rfl, ?_⟩) (by assumption) ?_
    rotate_left
    · intro w hSw
      go_simp
      try rfl
    try simp only [Act.put, List.setIfInBounds_toArray, List.set_cons_zero, List.set_cons_succ, List.getElem_toArray, List.getElem_cons_succ, List.getElem_cons_zero]
    refine wpAnyH_take (i := 3) (v := ?_) rfl (by kernel_rfl) (by kernel_rfl) (by kernel_rfl) (fun _ _ _ h => h) (Or.inl ⟨by rfl, ?_⟩) (by assumption) ?_
    rotate_left
    · intro w hSw
      go_simp
      try rfl
    try simp only [Act.put, List.setIfInBounds_toArray, List.set_cons_zero, List.set_cons_succ, List.getElem_toArray, List.getElem_cons_succ, List.getElem_cons_zero]
    refine wpAnyH_take (i := 4) (v := ?_) rfl (by kernel_rfl) (by kernel_rfl) (by kernel_rfl) (fun _ _ _ h => h) (Or.inl ⟨by rfl, ?_⟩) (by assumption) ?_
    rotate_left
    · intro w hSw
      go_simp
      try rfl
    try simp only [Act.put, List.setIfInBounds_toArray, List.set_cons_zero, List.set_cons_succ, List.getElem_toArray, List.getElem_cons_succ, List.getElem_cons_zero]
    refine wpAnyH_take (i := 5) (v := ?_) rfl (by kernel_rfl) (by kernel_rfl) (by kernel_rfl) (fun _ _ _ h => h) (Or.inl ⟨by rfl, ?_⟩) (by assumption) ?_
    rotate_left
    · intro w hSw
      go_simp
      try rfl
    try simp only [Act.put, List.setIfInBounds_toArray, List.set_cons_zero, List.set_cons_succ, List.getElem_toArray, List.getElem_cons_succ, List.getElem_cons_zero]
    refine wpAnyH_take (i := 6) (v := ?_) rfl (by kernel_rfl) (by kernel_rfl) (by kernel_rfl) (fun _ _ _ h => h) (Or.inl ⟨by rfl, ?_⟩) (by assumption) ?_
    rotate_left
    · intro w hSw
      go_simp
      try rfl
    try simp only [Act.put, List.setIfInBounds_toArray, List.set_cons_zero, List.set_cons_succ, List.getElem_toArray, List.getElem_cons_succ, List.getElem_cons_zero]
    refine wpAnyH_take (i := 7) (v := ?_) rfl (by kernel_rfl) (by kernel_rfl) (by kernel_rfl) (fun _ _ _ h => h) (Or.inl ⟨by rfl, ?_⟩) (by assumption) ?_
    rotate_left
    · intro w hSw
      go_simp
      try rfl
    try simp only [Act.put, List.setIfInBounds_toArray, List.set_cons_zero, List.set_cons_succ, List.getElem_toArray, List.getElem_cons_succ, List.getElem_cons_zero]
    refine wpAnyH_take (i := 8) (v := ?_) rfl (by kernel_rfl) (by kernel_rfl) (by kernel_rfl) (fun _ _ _ h => h) (Or.inl ⟨by rfl, ?_⟩) (by assumption) ?_
    rotate_left
    · intro w hSw
      go_simp
      try rfl
    try simp only [Act.put, List.setIfInBounds_toArray, List.set_cons_zero, List.set_cons_succ, List.getElem_toArray, List.getElem_cons_succ, List.getElem_cons_zero]
    refine wpAnyH_take (i := 9) (v := ?_) rfl (by kernel_rfl) (by kernel_rfl) (by kernel_rfl) (fun _ _ _ h => h) (Or.inl ⟨by rfl, ?_⟩) (by assumption) ?_
    rotate_left
    · intro w hSw
      go_simp
      try rfl
    try simp only [Act.put, List.setIfInBounds_toArray, List.set_cons_zero, List.set_cons_succ, List.getElem_toArray, List.getElem_cons_succ, List.getElem_cons_zero]
    refine wpAnyH_take (i := 10) (v := ?_) rfl (by kernel_rfl) (by kernel_rfl) (by kernel_rfl) (fun _ _ _ h => h) (Or.inl ⟨by rfl, ?_⟩) (by assumption) ?_
    rotate_left
    · intro w hSw
      go_simp
      try rfl
    try simp only [Act.put, List.setIfInBounds_toArray, List.set_cons_zero, List.set_cons_succ, List.getElem_toArray, List.getElem_cons_succ, List.getElem_cons_zero]
    refine wpAnyH_take (i := 11) (v := ?_) rfl (by kernel_rfl) (by kernel_rfl) (by kernel_rfl) (fun _ _ _ h => h) (Or.inl ⟨by rfl, ?_⟩) (by assumption) ?_
    rotate_left
    · intro w hSw
      go_simp
      try rfl
    try simp only [Act.put, List.setIfInBounds_toArray, List.set_cons_zero, List.set_cons_succ, List.getElem_toArray, List.getElem_cons_succ, List.getElem_cons_zero]
    refine wpAnyH_take (i := 12) (v := ?_) rfl (by kernel_rfl) (by kernel_rfl) (by kernel_rfl) (fun _ _ _ h => h) (Or.inl ⟨by rfl, ?_⟩) (by assumption) ?_
    rotate_left
    · intro w hSw
      go_simp
      try rfl
    try simp only [Act.put, List.setIfInBounds_toArray, List.set_cons_zero, List.set_cons_succ, List.getElem_toArray, List.getElem_cons_succ, List.getElem_cons_zero]
    refine wpAnyH_take (i := 13) (v := ?_) rfl (by kernel_rfl) (by kernel_rfl) (by kernel_rfl) (fun _ _ _ h => h) (Or.inl ⟨by rfl, ?_⟩) (by assumption) ?_
    rotate_left
    · intro w hSw
      go_simp
      try rfl
    try simp only [Act.put, List.setIfInBounds_toArray, List.set_cons_zero, List.set_cons_succ, List.getElem_toArray, List.getElem_cons_succ, List.getElem_cons_zero]
    refine wpAnyH_take (i := 14) (v := ?_) rfl (by kernel_rfl) (by kernel_rfl) (by kernel_rfl) (fun _ _ _ h => h) (Or.inl ⟨by rfl, ?_⟩) (by assumption) ?_
    rotate_left
    · intro w hSw
      go_simp
      try rfl
    try simp only [Act.put, List.setIfInBounds_toArray, List.set_cons_zero, List.set_cons_succ, List.getElem_toArray, List.getElem_cons_succ, List.getElem_cons_zero]
    refine wpAnyH_take (i := 15) (v := ?_) rfl (by kernel_rfl) (by kernel_rfl) (by kernel_rfl) (fun _ _ _ h => h) (Or.inl ⟨by rfl, ?_⟩) (by assumption) ?_
    rotate_left
    · intro w hSw
      go_simp
      try rfl
    try simp only [Act.put, List.setIfInBounds_toArray, List.set_cons_zero, List.set_cons_succ, List.getElem_toArray, List.getElem_cons_succ, List.getElem_cons_zero]
    refine wpAnyH_take (i := 16) (v := ?_) rfl (by kernel_rfl) (by kernel_rfl) (by kernel_rfl) (fun _ _ _ h => h) (Or.inl ⟨by rfl, ?_⟩) (by assumption) ?_
    rotate_left
    · intro w hSw
      go_simp
      try rfl
    try simp only [Act.put, List.setIfInBounds_toArray, List.set_cons_zero, List.set_cons_succ, List.getElem_toArray, List.getElem_cons_succ, List.getElem_cons_zero]
    refine wpAnyH_take (i := 18) (v := ?_) rfl (by kernel_rfl) (by kernel_rfl) (by kernel_rfl) (fun _ _ _ h => h) (Or.inl ⟨by rfl, ?_⟩) (by assumption) ?_
    rotate_left
    · intro w hSw
      go_simp
      try rfl
    try simp only [Act.put, List.setIfInBounds_toArray, List.set_cons_zero, List.set_cons_succ, List.getElem_toArray, List.getElem_cons_succ, List.getElem_cons_zero]
    refine wpAnyH_ready (rs := [17]) (by kernel_rfl) (by simp) ?_
    refine AllReadyH.cons rfl (fun K9 hK => ?_) AllReadyH.nil
    go_simp
    refine (HH.out _).mono ?_
    rintro x wb ⟨rfl, b⟩
    go_wp2_with fail
    have Xwb := Lib.hid (StAt.below' (StAt.dr Xwa.out) b)
    have Ywb := Lib.hid (StAt.below' (StAt.dr Ywa.out) b)
    have Rwb := Lib.hid (RdAt.below' (RdAt.drew Rwa.out) b)
    have Bwb := Lib.hid ((below_drewN Bwa.out 1).trans (b.mono (below_drewN Bwa.out 1).size))
    clear b
    refine hK.out _ _ ⟨(StAt.cells3 Xwb.out).1, (StAt.cells3 Xwb.out).2.1, (StAt.cells3 Xwb.out).2.2, (StAt.cells3 Ywb.out).1, (StAt.cells3 Ywb.out).2.1, (StAt.cells3 Ywb.out).2.2, RdAt.facts Rwb.out⟩ (fun hHeld => ?_)
    clear hK
    try simp only [Act.put, List.setIfInBounds_toArray, List.set_cons_zero, List.set_cons_succ, List.getElem_toArray, List.getElem_cons_succ, List.getElem_cons_zero]
    refine wpAnyH_ready (rs := [19]) (by kernel_rfl) (by simp) ?_
    refine AllReadyH.cons rfl (fun K9 hK => ?_) AllReadyH.nil
    go_simp
    refine (HRH.out _).mono ?_
    rintro x wd ⟨rfl, b⟩
    go_wp2_with fail
    have Xwd := Lib.hid (StAt.below' Xwb.out b)
    have Ywd := Lib.hid (StAt.below' Ywb.out b)
    have Rwd := Lib.hid (RdAt.below' Rwb.out b)
    have Bwd := Lib.hid (Bwb.out.trans (b.mono Bwb.out.size))
    clear b
    refine hK.out _ _ ⟨(StAt.cells3 Xwd.out).1, (StAt.cells3 Xwd.out).2.1, (StAt.cells3 Xwd.out).2.2, (StAt.cells3 Ywd.out).1, (StAt.cells3 Ywd.out).2.1, (StAt.cells3 Ywd.out).2.2, RdAt.facts Rwd.out⟩ (fun hHeld => ?_)
    clear hK
    try simp only [Act.put, List.setIfInBounds_toArray, List.set_cons_zero, List.set_cons_succ, List.getElem_toArray, List.getElem_cons_succ, List.getElem_cons_zero]
    refine wpAnyH_take (i := 20) (v := ?_) rfl (by kernel_rfl) (by kernel_rfl) (by kernel_rfl) (fun _ _ _ h => h) (Or.inl ⟨by rfl, ?_⟩) (by assumption) ?_
    rotate_left
    · intro w hSw
      go_simp
      try rfl
    try simp only [Act.put, List.setIfInBounds_toArray, List.set_cons_zero, List.set_cons_succ, List.getElem_toArray, List.getElem_cons_succ, List.getElem_cons_zero]
    refine wpAnyH_take (i := 21) (v := ?_) rfl (by kernel_rfl) (by kernel_rfl) (by kernel_rfl) (fun _ _ _ h => h) (Or.inl ⟨by rfl, ?_⟩) (by assumption) ?_
    rotate_left
    · intro w hSw
      go_simp
      try rfl
    try simp only [Act.put, List.setIfInBounds_toArray, List.set_cons_zero, List.set_cons_succ, List.getElem_toArray, List.getElem_cons_succ, List.getElem_cons_zero]
    refine wpAnyH_take (i := 22) (v := ?_) rfl (by kernel_rfl) (by kernel_rfl) (by kernel_rfl) (fun _ _ _ h => h) (Or.inl ⟨by rfl, ?_⟩) (by assumption) ?_
    rotate_left
    · intro w hSw
      go_simp
      try rfl
    try simp only [Act.put, List.setIfInBounds_toArray, List.set_cons_zero, List.set_cons_succ, List.getElem_toArray, List.getElem_cons_succ, List.getElem_cons_zero]
    refine wpAnyH_take (i := 23) (v := ?_) rfl (by kernel_rfl) (by kernel_rfl) (by kernel_rfl) (fun _ _ _ h => h) (Or.inl ⟨by rfl, ?_⟩) (by assumption) ?_
    rotate_left
    · intro w hSw
      go_simp
      try rfl
    try simp only [Act.put, List.setIfInBounds_toArray, List.set_cons_zero, List.set_cons_succ, List.getElem_toArray, List.getElem_cons_succ, List.getElem_cons_zero]
    refine wpAnyH_take (i := 25) (v := ?_) rfl (by kernel_rfl) (by kernel_rfl) (by kernel_rfl) (fun _ _ _ h => h) (Or.inl ⟨by rfl, ?_⟩) (by assumption) ?_
    rotate_left
    · intro w hSw
      go_simp
      try rfl
    try simp only [Act.put, List.setIfInBounds_toArray, List.set_cons_zero, List.set_cons_succ, List.getElem_toArray, List.getElem_cons_succ, List.getElem_cons_zero]
    refine wpAnyH_ready (rs := [24]) (by kernel_rfl) (by simp) ?_
    refine AllReadyH.cons rfl (fun K9 hK => ?_) AllReadyH.nil
    go_simp
    refine (HX.out _).mono ?_
    rintro x we ⟨rfl, b⟩
    go_wp2_with fail
    have Xwe := Lib.hid (StAt.below' Xwd.out b)
    have Ywe := Lib.hid (StAt.below' Ywd.out b)
    have Rwe := Lib.hid (RdAt.below' Rwd.out b)
    have Bwe := Lib.hid (Bwd.out.trans (b.mono Bwd.out.size))
    clear b
    refine hK.out _ _ ⟨(StAt.cells3 Xwe.out).1, (StAt.cells3 Xwe.out).2.1, (StAt.cells3 Xwe.out).2.2, (StAt.cells3 Ywe.out).1, (StAt.cells3 Ywe.out).2.1, (StAt.cells3 Ywe.out).2.2, RdAt.facts Rwe.out⟩ (fun hHeld => ?_)
    clear hK
    try simp only [Act.put, List.setIfInBounds_toArray, List.set_cons_zero, List.set_cons_succ, List.getElem_toArray, List.getElem_cons_succ, List.getElem_cons_zero]
    refine wpAnyH_ready (rs := [26]) (by kernel_rfl) (by simp) ?_
    refine AllReadyH.cons rfl (fun K9 hK => ?_) AllReadyH.nil
    go_simp
    refine (HRX.out _).mono ?_
    rintro x wf ⟨rfl, b⟩
    go_wp2_with fail
    have Xwf := Lib.hid (StAt.below' Xwe.out b)
    have Ywf := Lib.hid (StAt.below' Ywe.out b)
    have Rwf := Lib.hid (RdAt.below' Rwe.out b)
    have Bwf := Lib.hid (Bwe.out.trans (b.mono Bwe.out.size))
    clear b
    refine hK.out _ _ ⟨(StAt.cells3 Xwf.out).1, (StAt.cells3 Xwf.out).2.1, (StAt.cells3 Xwf.out).2.2, (StAt.cells3 Ywf.out).1, (StAt.cells3 Ywf.out).2.1, (StAt.cells3 Ywf.out).2.2, RdAt.facts Rwf.out⟩ (fun hHeld => ?_)
    clear hK
    try simp only [Act.put, List.setIfInBounds_toArray, List.set_cons_zero, List.set_cons_succ, List.getElem_toArray, List.getElem_cons_succ, List.getElem_cons_zero]
    refine wpAnyH_take (i := 27) (v := ?_) rfl (by kernel_rfl) (by kernel_rfl) (by kernel_rfl) (fun _ _ _ h => h) (Or.inl ⟨by rfl, ?_⟩) (by assumption) ?_
    rotate_left
    · intro w hSw
      go_simp
      try rfl
    try simp only [Act.put, List.setIfInBounds_toArray, List.set_cons_zero, List.set_cons_succ, List.getElem_toArray, List.getElem_cons_succ, List.getElem_cons_zero]
    refine wpAnyH_take (i := 28) (v := ?_) rfl (by kernel_rfl) (by kernel_rfl) (by kernel_rfl) (fun _ _ _ h => h) (Or.inl ⟨by rfl, ?_⟩) (by assumption) ?_
    rotate_left
    · intro w hSw
      go_simp
      try rfl
    try simp only [Act.put, List.setIfInBounds_toArray, List.set_cons_zero, List.set_cons_succ, List.getElem_toArray, List.getElem_cons_succ, List.getElem_cons_zero]
    refine wpAnyH_take (i := 29) (v := ?_) rfl (by kernel_rfl) (by kernel_rfl) (by kernel_rfl) (fun _ _ _ h => h) (Or.inl ⟨by rfl, ?_⟩) (by assumption) ?_
    rotate_left
    · intro w hSw
      go_simp
      try rfl
    try simp only [Act.put, List.setIfInBounds_toArray, List.set_cons_zero, List.set_cons_succ, List.getElem_toArray, List.getElem_cons_succ, List.getElem_cons_zero]
    refine wpAnyH_take (i := 30) (v := ?_) rfl (by kernel_rfl) (by kernel_rfl) (by kernel_rfl) (fun _ _ _ h => h) (Or.inl ⟨by rfl, ?_⟩) (by assumption) ?_
    rotate_left
    · intro w hSw
      go_simp
      try rfl
    try simp only [Act.put, List.setIfInBounds_toArray, List.set_cons_zero, List.set_cons_succ, List.getElem_toArray, List.getElem_cons_succ, List.getElem_cons_zero]
    refine wpAnyH_take (i := 32) (v := ?_) rfl (by kernel_rfl) (by kernel_rfl) (by kernel_rfl) (fun _ _ _ h => h) (Or.inl ⟨by rfl, ?_⟩) (by assumption) ?_
    rotate_left
    · intro w hSw
      go_simp
      try rfl
    try simp only [Act.put, List.setIfInBounds_toArray, List.set_cons_zero, List.set_cons_succ, List.getElem_toArray, List.getElem_cons_succ, List.getElem_cons_zero]
    refine wpAnyH_take (i := 33) (v := ?_) rfl (by kernel_rfl) (by kernel_rfl) (by kernel_rfl) (fun _ _ _ h => h) (Or.inl ⟨by rfl, ?_⟩) (by assumption) ?_
    rotate_left
    · intro w hSw
      go_simp
      try rfl
    try simp only [Act.put, List.setIfInBounds_toArray, List.set_cons_zero, List.set_cons_succ, List.getElem_toArray, List.getElem_cons_succ, List.getElem_cons_zero]
    refine wpAnyH_take (i := 34) (v := ?_) rfl (by kernel_rfl) (by kernel_rfl) (by kernel_rfl) (fun _ _ _ h => h) (Or.inl ⟨by rfl, ?_⟩) (by assumption) ?_
    rotate_left
    · intro w hSw
      go_simp
      try rfl
    try simp only [Act.put, List.setIfInBounds_toArray, List.set_cons_zero, List.set_cons_succ, List.getElem_toArray, List.getElem_cons_succ, List.getElem_cons_zero]
    refine wpAnyH_ready (rs := [31]) (by kernel_rfl) (by simp) ?_
    refine AllReadyH.cons rfl (fun K9 hK => ?_) AllReadyH.nil
    go_simp
    refine (HD.out _).mono ?_
    rintro x wg ⟨rfl, b⟩
    go_wp2_with fail
    have Xwg := Lib.hid (StAt.below' Xwf.out b)
    have Ywg := Lib.hid (StAt.below' Ywf.out b)
    have Rwg := Lib.hid (RdAt.below' Rwf.out b)
    have Bwg := Lib.hid (Bwf.out.trans (b.mono Bwf.out.size))
    clear b
    refine hK.out _ _ ⟨(StAt.cells3 Xwg.out).1, (StAt.cells3 Xwg.out).2.1, (StAt.cells3 Xwg.out).2.2, (StAt.cells3 Ywg.out).1, (StAt.cells3 Ywg.out).2.1, (StAt.cells3 Ywg.out).2.2, RdAt.facts Rwg.out⟩ (fun hHeld => ?_)
    clear hK
    try simp only [Act.put, List.setIfInBounds_toArray, List.set_cons_zero, List.set_cons_succ, List.getElem_toArray, List.getElem_cons_succ, List.getElem_cons_zero]
    refine wpAnyH_take (i := 35) (v := ?_) rfl (by kernel_rfl) (by kernel_rfl) (by kernel_rfl) (fun _ _ _ h => h) (Or.inl ⟨by rfl, ?_⟩) (by assumption) ?_
    rotate_left
    · intro w hSw
      go_simp
      try rfl
    try simp only [Act.put, List.setIfInBounds_toArray, List.set_cons_zero, List.set_cons_succ, List.getElem_toArray, List.getElem_cons_succ, List.getElem_cons_zero]
    refine wpAnyH_take (i := 36) (v := ?_) rfl (by kernel_rfl) (by kernel_rfl) (by kernel_rfl) (fun _ _ _ h => h) (Or.inl ⟨by rfl, ?_⟩) (by assumption) ?_
    rotate_left
    · intro w hSw
      go_simp
      try rfl
    try simp only [Act.put, List.setIfInBounds_toArray, List.set_cons_zero, List.set_cons_succ, List.getElem_toArray, List.getElem_cons_succ, List.getElem_cons_zero]
    refine wpAnyH_done (by kernel_rfl) ?_ _
    clear hHeld
    go_wp2_with fail
    go_meet
    exact ⟨by first | rfl | simp [hzo], Xwg.out, Bwg.out⟩
  case rest =>
  obtain ⟨rfl, hX, b8⟩ := hcut
  clear HH HX HD HRH HRX Xwa Ywa Rwa Bwa hokd hnn
  go_wp2_with fail
  rw [HE4.out]
  refine (C4.out _).mono ?_
  rintro e w9 ⟨rfl, b⟩
  have b9 := (b8.trans (b.mono b8.size)).alloc (b8.trans (b.mono b8.size)).size (.cells #[.int .i64 pm, .string (strOf po), .string (strOf pp)] 25)
  have hX9 := StAt.al (hX.below' b) (.cells #[.int .i64 pm, .string (strOf po), .string (strOf pp)] 25)
  have hP9 : StAt (w9.alloc (.cells #[.int .i64 pm, .string (strOf po), .string (strOf pp)] 25)) w9.heap.size ⟨pm, po, pp⟩ := Blk.new w9 _ _
  clear b b8 hX
  go_upto_region 10 with fail
  generalize w9.alloc _ = w10 at *
  generalize w9.heap.size = g13 at *
  obtain ⟨a0, a1, a2, _, _, _⟩ := hP9.facts
  dsimp only at a0 a1 a2
  go_cut [15] (fun s wx => ∃ g, s = .pointer (some ⟨g, 0, none⟩) ∧ StAt wx g ⟨m, o, p⟩ ∧ StAt wx g6 ⟨m, o, p⟩ ∧ Below w.heap.size w wx)
  case first =>
    have hg13 := Blk.lt hP9
    have hg6 := Blk.lt hX9
    go_region_held3 (fun w' => w'.cell? ⟨g13, 0, none⟩ = some (.int .i64 pm) ∧ w'.cell? ⟨g13, 1, none⟩ = some (.string (strOf po)) ∧ w'.cell? ⟨g13, 2, none⟩ = some (.string (strOf pp))) (first | with_reducible exact StAt.cells3 (StAt.dr hP9) | with_reducible exact StAt.cells3 (StAt.dr (StAt.al hP9 _)) | with_reducible exact StAt.cells3 (StAt.below' (StAt.dr hP9) b7) | with_reducible exact StAt.cells3 (StAt.below' (StAt.dr (StAt.al hP9 _)) b7) | with_reducible exact StAt.cells3 (StAt.al (StAt.below' (StAt.dr hP9) b7) _) | with_reducible exact StAt.cells3 (StAt.far3 (StAt.below' (StAt.dr (StAt.al hP9 _)) b7) (Nat.ne_of_lt hg13) _ _ _)) (first | (go_at_call 10; refine (C5.out _).mono ?_; rintro e w11 ⟨rfl, b7⟩; first | (have hZ := StAt.facts (StAt.below' (StAt.dr (StAt.new0 w10)) b7); obtain ⟨k0, k1, k2, f0, f1, f2⟩ := hZ; dsimp only at k0 k1 k2) | skip))
    all_goals
      go_wp2_with fail
      go_meet
      first
        | exact ⟨_, rfl, Blk.new w11 _ _, StAt.al (StAt.below' (StAt.dr hX9) b7) _, (below_0 b9 b7).alloc (below_0 b9 b7).size _⟩
        | exact ⟨_, rfl, StAt.put (StAt.below' (StAt.dr (StAt.new0 w10)) b7) ⟨m, o, p⟩, StAt.far3 (StAt.below' (StAt.dr (StAt.al hX9 _)) b7) (Nat.ne_of_lt hg6) _ _ _, below_put (below_1 b9 b7) b9.size _ _ _⟩
  case rest =>
  obtain ⟨g, rfl, hQ, hX, b12⟩ := hcut
  obtain ⟨c0, c1, c2, _, _, _⟩ := hX.facts
  obtain ⟨e0, e1, e2, _, _, _⟩ := hQ.facts
  dsimp only at c0 c1 c2 e0 e1 e2
  go_wp2_with fail
  refine (awake_any _).mono ?_
  rintro e w13 ⟨rfl, b⟩
  go_wp2_with fail
  go_ret
  exact ⟨rfl, b12.trans (b.mono b12.size)⟩
theorem lawRuns (s : ByteArray) (a : Int) (w : World) (hs : s.size ≤ 9223372036854775807) (ha : 0 ≤ a ∧ a ≤ 65535) :
    Calls Try.prog 6 #[.string s, .int .u16 a] w fun e w' => e = .returned (.bool true) ∧ Below w.heap.size w w' := by
  obtain ⟨k, rfl⟩ := Int.eq_ofNat_of_zero_le ha.1
  have h := law_runs s.data.toList k w (by rw [Array.length_toList]; exact hs) (by omega)
  rwa [strOf_data] at h
end Go.Proofs.Ytmfldffbafamnaa
