/- Walks: a comma; a name's quote; a value's first byte; any byte that stands in no token. -/
import Derived.Test.YtmfldffbafamnaaCjV
import Derived.Deep.DeepCutAuto
namespace Go.Proofs.Ytmfldffbafamnaa
open Go.RowKit
set_option linter.unusedVariables false
set_option linter.unusedSimpArgs false
/-- The receiver's box, the result's, and the next state's. -/
theorem boxes3_new (w : World) (m : Nat) (o p : List UInt8) (W : World)
    (hW : W = (((w.alloc (.cells #[.int .i64 m, .string (strOf o), .string (strOf p)] 25)).alloc (.cells #[.int .i64 0, .string ⟨#[]⟩, .string ⟨#[]⟩] 25)).alloc (.cells #[.int .i64 0, .string (strOf o), .string ⟨#[]⟩] 25))) :
    StAt W w.heap.size ⟨m, o, p⟩ ∧ StAt W (w.heap.size + 1) ⟨0, [], []⟩ ∧ StAt W (w.heap.size + 1 + 1) ⟨0, o, []⟩ ∧ Below w.heap.size w W := by
  obtain ⟨hA, hR, hb⟩ := boxes_new w m o p
  subst hW
  refine ⟨Blk.alloc hA _, Blk.alloc hR _, ?_, hb.alloc (by simp; omega) _⟩
  have h := Blk.new ((w.alloc (.cells #[.int .i64 m, .string (strOf o), .string (strOf p)] 25)).alloc (.cells #[.int .i64 0, .string ⟨#[]⟩, .string ⟨#[]⟩] 25)) 25 #[.int .i64 0, .string (strOf o), .string ⟨#[]⟩]
  simp only [World.size_alloc] at h
  exact h
set_option maxRecDepth 100000 in
set_option maxHeartbeats 4000000 in
theorem out_comma (m : Nat) (o p : List UInt8) (c : UInt8) (w : World) (hq : Q.fit ⟨m, o, p⟩) (hh : c.toNat = 44) :
    Calls Try.prog 41 #[sv m o p, .int .u8 c.toNat] w fun x w' => x = .returned (qr (outS ⟨m, o, p⟩ c)) ∧ Below w.heap.size w w' := by
  have K : Hid (outS ⟨m, o, p⟩ c = (⟨if inB o = 123 then 3 else 0, o, []⟩, (m : Int) == 5 && !(strOf o).toList.isEmpty)) := by
    show _ = _; unfold outS
    have hm : ((m : Int) == 5) = (m == 5) := by rw [Bool.eq_iff_iff]; simp only [beq_iff_eq]; omega
    rw [hm, strOf_toList]
    simp [hh]
  have HI := Lib.hid (fun w => inside_any m o p w (by obtain ⟨_, h, _⟩ := hq; dsimp only at h; omega))
  have HB := Lib.hid (fun W => boxes3_new w m o p W)
  have hT := strOf_toList
  clear hq
  unfold sv at *
  rw [hh]
  clear hh
  obtain ⟨n, hn⟩ : ∃ n, n = if inB o = 123 then 3 else 0 := ⟨_, rfl⟩
  rw [← hn] at K
  have HN := Lib.hid hn
  clear hn
  have hi256 : inB o < 256 := by
    unfold inB; split
    · omega
    · exact bt_lt _ _
  generalize inB o = ib at *
  go_enter Try.func41, Try.ntmps41
  go_wp2_with fail
  refine (HI.out _).mono ?_
  rintro x w2 ⟨rfl, b2⟩
  obtain ⟨hA, hR, hN, hb⟩ := HB.out _ rfl
  have HBB := Lib.hid (hb.trans (b2.mono hb.size))
  have HR2 := Lib.hid (hR.below' b2)
  have HA2 := Lib.hid (hA.below' b2)
  have HN2 := Lib.hid (hN.below' b2)
  obtain ⟨_, _, _, g0, g1, g2⟩ := (hN.below' b2).facts
  obtain ⟨n0, n1, n2, _, _, _⟩ := (hN.below' b2).facts
  clear hA hR hN hb b2 HB HI
  go_upto_if 33 with fail
  go_cut [] (fun wx => StAt wx w.heap.size ⟨m, o, p⟩ ∧ StAt wx (w.heap.size + 1) ⟨0, [], []⟩ ∧ StAt wx (w.heap.size + 1 + 1) ⟨n, o, []⟩ ∧ Below w.heap.size w wx)
  case first =>
    by_cases hi : ib = 123
    · obtain rfl : n = 3 := by rw [HN.out, if_pos hi]
      have i1 : ((ib : Int) == 123) = true := by simp only [beq_iff_eq]; omega
      clear hi
      go_wp2_with fail
      go_meet
      exact ⟨HA2.out.far (a := ⟨w.heap.size + 1 + 1, 0, none⟩) (by simp; omega) (.int .i64 3), HR2.out.far (a := ⟨w.heap.size + 1 + 1, 0, none⟩) (by simp) (.int .i64 3), Blk.set_ HN2.out 0 (.int .i64 3), HBB.out.setCell (p := ⟨w.heap.size + 1 + 1, 0, none⟩) (by simp; omega) (.int .i64 3)⟩
    · obtain rfl : n = 0 := by rw [HN.out, if_neg hi]
      have i1 : ((ib : Int) == 123) = false := by simp only [beq_eq_false_iff_ne]; omega
      clear hi
      go_wp2_with fail
      go_meet
      exact ⟨HA2.out, HR2.out, HN2.out, HBB.out⟩
  case rest =>
  obtain ⟨hA3, hR3, hN3, hb3⟩ := hcut
  clear HN HBB HR2 HA2 HN2 g0 g1 g2 n0 n1 n2
  obtain ⟨c0, c1, _, _, _, _⟩ := hA3.facts
  obtain ⟨n0, n1, n2, _, _, _⟩ := hN3.facts
  obtain ⟨_, _, _, f0, f1, f2⟩ := hR3.facts
  have HR3 := Lib.hid hR3
  have HB3 := Lib.hid hb3
  clear hA3 hN3 hR3 hb3
  dsimp only at c0 c1 n0 n1 n2
  cases hm : ((m : Int) == 5)
  · rw [hm] at K
    go_upto_region 15 with fail
    refine wp_region_held_drew (S := (fun w' => w'.cell? ⟨w.heap.size, 0, none⟩ = some (.int .i64 m) ∧ w'.cell? ⟨w.heap.size, 1, none⟩ = some (.string (strOf o)) ∧ w'.cell? ⟨w.heap.size + 1 + 1, 0, none⟩ = some (.int .i64 n) ∧ w'.cell? ⟨w.heap.size + 1 + 1, 1, none⟩ = some (.string (strOf o)) ∧ w'.cell? ⟨w.heap.size + 1 + 1, 2, none⟩ = some (.string (strOf [])))) (by kernel_rfl) (by go_keep) (fun hHeld => ?_)
    refine wpAnyH_take (i := 0) (v := ?_) rfl (by kernel_rfl) (by kernel_rfl) (by kernel_rfl) (fun _ _ _ h => h) (Or.inl ⟨by rfl, ?_⟩) (by assumption) ?_
    rotate_left
    · intro w hSw
      go_simp
      try rfl
    try simp only [Act.put, List.setIfInBounds_toArray, List.set_cons_zero, List.set_cons_succ]
    refine wpAnyH_take (i := 1) (v := ?_) rfl (by kernel_rfl) (by kernel_rfl) (by kernel_rfl) (fun _ _ _ h => h) (Or.inl ⟨by rfl, ?_⟩) (by assumption) ?_
    rotate_left
    · intro w hSw
      go_simp
      try rfl
    try simp only [Act.put, List.setIfInBounds_toArray, List.set_cons_zero, List.set_cons_succ]
    refine wpAnyH_take (i := 2) (v := ?_) rfl (by kernel_rfl) (by kernel_rfl) (by kernel_rfl) (fun _ _ _ h => h) (Or.inl ⟨by rfl, ?_⟩) (by assumption) ?_
    rotate_left
    · intro w hSw
      go_simp
      try rfl
    try simp only [Act.put, List.setIfInBounds_toArray, List.set_cons_zero, List.set_cons_succ]
    refine wpAnyH_take (i := 3) (v := ?_) rfl (by kernel_rfl) (by kernel_rfl) (by kernel_rfl) (fun _ _ _ h => h) (Or.inl ⟨by rfl, ?_⟩) (by assumption) ?_
    rotate_left
    · intro w hSw
      go_simp
      try rfl
    try simp only [Act.put, List.setIfInBounds_toArray, List.set_cons_zero, List.set_cons_succ]
    refine wpAnyH_take (i := 4) (v := ?_) rfl (by kernel_rfl) (by kernel_rfl) (by kernel_rfl) (fun _ _ _ h => h) (Or.inl ⟨by rfl, ?_⟩) (by assumption) ?_
    rotate_left
    · intro w hSw
      go_simp
      try rfl
    try simp only [Act.put, List.setIfInBounds_toArray, List.set_cons_zero, List.set_cons_succ]
    refine wpAnyH_take (i := 5) (v := undef) rfl (by kernel_rfl) (by kernel_rfl) (by kernel_rfl) (fun _ _ _ h => h) (Or.inr ⟨by rfl, rfl⟩) (by assumption) ?_
    try simp only [Act.put, List.setIfInBounds_toArray, List.set_cons_zero, List.set_cons_succ]
    refine wpAnyH_take (i := 6) (v := undef) rfl (by kernel_rfl) (by kernel_rfl) (by kernel_rfl) (fun _ _ _ h => h) (Or.inr ⟨by rfl, rfl⟩) (by assumption) ?_
    try simp only [Act.put, List.setIfInBounds_toArray, List.set_cons_zero, List.set_cons_succ]
    refine wpAnyH_take (i := 7) (v := undef) rfl (by kernel_rfl) (by kernel_rfl) (by kernel_rfl) (fun _ _ _ h => h) (Or.inr ⟨by rfl, rfl⟩) (by assumption) ?_
    try simp only [Act.put, List.setIfInBounds_toArray, List.set_cons_zero, List.set_cons_succ]
    refine wpAnyH_take (i := 8) (v := ?_) rfl (by kernel_rfl) (by kernel_rfl) (by kernel_rfl) (fun _ _ _ h => h) (Or.inl ⟨by rfl, ?_⟩) (by assumption) ?_
    rotate_left
    · intro w hSw
      go_simp
      try rfl
    try simp only [Act.put, List.setIfInBounds_toArray, List.set_cons_zero, List.set_cons_succ]
    refine wpAnyH_ready (rs := [9]) (by kernel_rfl) (by simp) ?_
    refine AllReadyH.cons rfl (fun K9 hK => ?_) AllReadyH.nil
    go_simp
    refine hK.out _ _ (by go_keep) (fun hHeld => ?_)
    clear hK
    try simp only [Act.put, List.setIfInBounds_toArray, List.set_cons_zero, List.set_cons_succ]
    refine wpAnyH_take (i := 10) (v := ?_) rfl (by kernel_rfl) (by kernel_rfl) (by kernel_rfl) (fun _ _ _ h => h) (Or.inl ⟨by rfl, ?_⟩) (by assumption) ?_
    rotate_left
    · intro w hSw
      go_simp
      try rfl
    try simp only [Act.put, List.setIfInBounds_toArray, List.set_cons_zero, List.set_cons_succ]
    refine wpAnyH_done (by kernel_rfl) ?_ _
    clear hHeld
    have hS := HR3.out.put ⟨n, o, []⟩
    have hb4 := below_put HB3.out (g := w.heap.size + 1) (by omega) (.int .i64 n) (.string (strOf o)) (.string (strOf []))
    generalize ((wc.setCell ⟨w.heap.size + 1, 0, none⟩ (.int .i64 n)).setCell ⟨w.heap.size + 1, 1, none⟩ (.string (strOf o))).setCell ⟨w.heap.size + 1, 2, none⟩ (.string (strOf [])) = w4 at *
    obtain ⟨s0, s1, s2, _, _, _⟩ := hS.facts
    dsimp only at s0 s1 s2
    go_wp2_with fail
    refine bodyPost_ret (v := .tuple #[.agg #[.int .i64 n, .string (strOf o), .string (strOf [])], .bool false]) (by simp [results, Try.f41, go_sem, s0, s1, s2]) rfl ⟨by rw [K.out]; rfl, ?_⟩
    exact below_drewN hb4 1
  · rw [hm] at K
    cases he : (strOf o).toList.isEmpty
    · rw [he] at K
      go_wp2_with fail
      go_region_held3 (fun w' => w'.cell? ⟨w.heap.size, 0, none⟩ = some (.int .i64 m) ∧ w'.cell? ⟨w.heap.size, 1, none⟩ = some (.string (strOf o)) ∧ w'.cell? ⟨w.heap.size + 1 + 1, 0, none⟩ = some (.int .i64 n) ∧ w'.cell? ⟨w.heap.size + 1 + 1, 1, none⟩ = some (.string (strOf o)) ∧ w'.cell? ⟨w.heap.size + 1 + 1, 2, none⟩ = some (.string (strOf []))) (go_keep) (fail)
      have hS := HR3.out.put ⟨n, o, []⟩
      have hb4 := below_put HB3.out (g := w.heap.size + 1) (by omega) (.int .i64 n) (.string (strOf o)) (.string (strOf []))
      generalize ((wc.setCell ⟨w.heap.size + 1, 0, none⟩ (.int .i64 n)).setCell ⟨w.heap.size + 1, 1, none⟩ (.string (strOf o))).setCell ⟨w.heap.size + 1, 2, none⟩ (.string (strOf [])) = w4 at *
      obtain ⟨s0, s1, s2, _, _, _⟩ := hS.facts
      dsimp only at s0 s1 s2
      go_wp2_with fail
      have ho : ¬ o = [] := by rw [strOf_toList] at he; simpa using he
      refine bodyPost_ret (v := .tuple #[.agg #[.int .i64 n, .string (strOf o), .string (strOf [])], .bool true]) (by simp [results, Try.f41, go_sem, s0, s1, s2, ho]) rfl ⟨by rw [K.out]; rfl, ?_⟩
      exact below_drewN hb4 1
    · rw [he] at K
      go_wp2_with fail
      go_region_held3 (fun w' => w'.cell? ⟨w.heap.size, 0, none⟩ = some (.int .i64 m) ∧ w'.cell? ⟨w.heap.size, 1, none⟩ = some (.string (strOf o)) ∧ w'.cell? ⟨w.heap.size + 1 + 1, 0, none⟩ = some (.int .i64 n) ∧ w'.cell? ⟨w.heap.size + 1 + 1, 1, none⟩ = some (.string (strOf o)) ∧ w'.cell? ⟨w.heap.size + 1 + 1, 2, none⟩ = some (.string (strOf []))) (go_keep) (fail)
      have hS := HR3.out.put ⟨n, o, []⟩
      have hb4 := below_put HB3.out (g := w.heap.size + 1) (by omega) (.int .i64 n) (.string (strOf o)) (.string (strOf []))
      generalize ((wc.setCell ⟨w.heap.size + 1, 0, none⟩ (.int .i64 n)).setCell ⟨w.heap.size + 1, 1, none⟩ (.string (strOf o))).setCell ⟨w.heap.size + 1, 2, none⟩ (.string (strOf [])) = w4 at *
      obtain ⟨s0, s1, s2, _, _, _⟩ := hS.facts
      dsimp only at s0 s1 s2
      go_wp2_with fail
      have ho : o = [] := by rw [strOf_toList] at he; simpa using he
      refine bodyPost_ret (v := .tuple #[.agg #[.int .i64 n, .string (strOf o), .string (strOf [])], .bool false]) (by simp [results, Try.f41, go_sem, s0, s1, s2, ho]) rfl ⟨by rw [K.out]; rfl, ?_⟩
      exact below_drewN hb4 1
end Go.Proofs.Ytmfldffbafamnaa
