/- Walks: the document's whole and Is of a node (chapter 10). -/
import Derived.Test.YtjnmcadfaombjaaJxG1
import Derived.Test.YtjnmcadfaombjaaJuW
import Derived.Test.YtjnmcadfaombjaaJsA
import Derived.Test.YtjnmcadfaombjaaUtfF
namespace Go.Proofs.Ytjnmcadfaombjaa
open Go.RowKit
set_option linter.unusedVariables false
set_option linter.unusedSimpArgs false
set_option linter.constructorNameAsVariable false
def WholeC (n : Node) : Prop := ∀ (ok : Nat → Prop) (a b c e : Value) (w : World), NodeA w ok n (.agg #[a, b, c, e]) → SmallN n →
  Calls Try.prog 33 #[.agg #[a, b, c, e]] w fun x w' => x = .returned (.bool (wholeN n)) ∧ Below w.heap.size w w'
theorem str_word (t u : List UInt8) : ((strOf t).toList == u) = decide (t = u) := by
  rw [ByteArray.toList_eq, strOf_list]
  by_cases h : t = u <;> simp [h]
end Go.Proofs.Ytjnmcadfaombjaa

/- Walks: the document's whole of a string node. -/
namespace Go.Proofs.Ytjnmcadfaombjaa
open Go.RowKit
set_option linter.unusedVariables false
set_option linter.unusedSimpArgs false
set_option linter.constructorNameAsVariable false
set_option maxRecDepth 100000 in
set_option maxHeartbeats 8000000 in
theorem whole_34 (q : Nat) (t : List UInt8) (ks : List (List UInt8)) (ns : List Node) (hF : ∀ (j : Nat) (n : Node), ns[j]? = some n → WholeC n) (hq : q = 34) : WholeC (.mk q t ks ns) := by
  intro ok a b c e w hn hs
  have HQ := Lib.hid hq
  clear hq
  unfold NodeA at hn
  obtain ⟨kv, nv, cs, hv, h1, h2, h3⟩ := hn
  simp only [Value.agg.injEq, Array.mk.injEq, List.cons.injEq, and_true] at hv
  obtain ⟨rfl, rfl, rfl, rfl⟩ := hv
  have hT := TxtA.of h1
  obtain ⟨o1, c1, rfl⟩ := rowA_len h1
  obtain ⟨o2, c2, rfl⟩ := rowA_len h2
  unfold SmallN at hs
  obtain ⟨s1, s2, s3, s4, s5⟩ := hs
  have HS2 := Lib.hid s2
  have HSm := Lib.hid s5
  have HF := Lib.hid hF
  have HR := Lib.hid h2
  have HKd := Lib.hid h3
  have hxs : (strOf t).size = t.length := strOf_size t
  have HP := Lib.hid (fun w => ris_any (strOf t) w (by rw [strOf_size]; omega))
  have HNX : 0 < t.length → Hid (∀ w, Calls Try.prog 44 #[.string (strOf t), .int .i64 0] w fun e w' => e = .returned (.int .i64 (numI (numE t 0))) ∧ w = w') := fun h0 w => by
    have := rnumber_any (strOf t) 0 w (by rw [strOf_size]; omega) (by rw [strOf_size]; omega)
    rw [strOf_list] at this
    exact this
  rw [strOf_list] at HP
  have HV : Hid (wholeN (.mk q t ks ns) = (good t && (if q = 34 ∨ q = 48 ∨ q = 97 then leafB q t ks ns else shapeB q t ks ns && (ks.all fun k => good k) && wholeL ns))) := by show _ = _; rw [wholeN]
  have e1 : (IntKind.i64.wrap ((ks.length : Int) + (ns.length : Int)) == 0) = decide (ks.length + ns.length = 0) := by rw [IntWalk.i64_in _ (by omega)]; exact sum_zero _ _
  have e2 := str_nil t
  have e3 := str_nil2 t
  have w1 := str_word t [116, 114, 117, 101]
  have w2 := str_word t [102, 97, 108, 115, 101]
  have w3 := str_word t [110, 117, 108, 108]
  have hB0 := (Below.refl w.heap.size w).alloc (Nat.le_refl _) (.cells #[.int .u8 q, .string (strOf t), .slice o1 ks.length c1, .slice o2 ns.length c2] 44)
  have HB0 := Lib.hid hB0
  have HN0 := Lib.hid (Blk.new w 44 #[.int .u8 q, .string (strOf t), .slice o1 ks.length c1, .slice o2 ns.length c2])
  have HT0 := Lib.hid (txtA_below hT hB0)
  obtain ⟨et, het⟩ : ∃ et, decide (t = []) = et := ⟨_, rfl⟩
  rw [het] at e2 e3
  have HET := Lib.hid het
  clear h1 h2 h3 hF s2 s5 hT hB0 het
  generalize strOf t = x at *
  go_enter Try.func33, Try.ntmps33
  go_upto_region 1 with fail
  generalize w.alloc (.cells #[.int .u8 q, .string x, .slice o1 ks.length c1, .slice o2 ns.length c2] 44) = W0 at *
  have n1 := HN0.out.cell 1
  go_wp2_with fail
  refine (HP.out _).mono ?_
  rintro e W2 ⟨rfl, b2⟩
  have HN2 := Lib.hid (HN0.out.below b2 HN0.out.lt)
  have HB2 := Lib.hid (HB0.out.trans (b2.mono HB0.out.size))
  have HT2 := Lib.hid (txtA_below HT0.out (b2.mono (Nat.le_refl _)))
  clear n1 b2 HN0 HB0 HT0 HP
  have n0 := HN2.out.cell 0
  have n1 := HN2.out.cell 1
  have n2 := HN2.out.cell 2
  have n3 := HN2.out.cell 3
  cases hg : good t
  · have HV2 : Hid (wholeN (.mk q t ks ns) = false) := by show _ = _; rw [HV.out, hg]; rfl
    clear HV
    go_wp2_with fail
    go_ret
    exact ⟨by rw [HV2.out]; rfl, HB2.out⟩
  rw [hg, Bool.true_and] at HV
  have q34 := HQ.out
  clear HQ
  subst q34
  have HV2 : Hid (wholeN (.mk 34 t ks ns) = decide (ks.length + ns.length = 0)) := by show _ = _; rw [HV.out]; simp [leafB]
  obtain ⟨b1, hb1⟩ : ∃ b1, decide (ks.length + ns.length = 0) = b1 := ⟨_, rfl⟩
  rw [hb1] at e1
  rw [hb1] at HV2
  obtain ⟨v1, hv1⟩ : ∃ b, decide (t = [116, 114, 117, 101]) = b := ⟨_, rfl⟩
  obtain ⟨v2, hv2⟩ : ∃ b, decide (t = [102, 97, 108, 115, 101]) = b := ⟨_, rfl⟩
  obtain ⟨v3, hv3⟩ : ∃ b, decide (t = [110, 117, 108, 108]) = b := ⟨_, rfl⟩
  rw [hv1] at w1
  rw [hv2] at w2
  rw [hv3] at w3
  clear HV hg hb1 hv1 hv2 hv3 e2 e3 HT2 HF HR HKd HSm HS2 HET s1 s3 s4
  clear HNX
  have hfour : (v1 = true ∨ (v1 = false ∧ v2 = true)) ∨ ((v1 = false ∧ v2 = false ∧ v3 = true) ∨ (v1 = false ∧ v2 = false ∧ v3 = false)) := by cases v1 <;> cases v2 <;> cases v3 <;> simp
  obtain ⟨vd, hvd⟩ : ∃ vd, (v1 || (v2 || v3)) = vd := ⟨_, rfl⟩
  have HVD := Lib.hid hvd
  clear hvd
  go_upto_region 4 with fail
  go_cut [3] (fun v wx => v = .bool vd ∧ W2 = wx)
  case first =>
    rcases hfour with (rfl | ⟨rfl, rfl⟩) | (⟨rfl, rfl, rfl⟩ | ⟨rfl, rfl, rfl⟩)
    all_goals
      go_wp2_with fail
      go_meet
      exact ⟨by rw [← HVD.out]; rfl, rfl⟩
  case rest =>
  obtain ⟨rfl, rfl⟩ := hcut
  clear hfour w1 w2 w3
  have KX : W2.drew.cell? ⟨w.heap.size, 0, none⟩ = some (.int .u8 34) ∧ W2.drew.cell? ⟨w.heap.size, 1, none⟩ = some (.string x) ∧ W2.drew.cell? ⟨w.heap.size, 2, none⟩ = some (.slice o1 ks.length c1) ∧ W2.drew.cell? ⟨w.heap.size, 3, none⟩ = some (.slice o2 ns.length c2) := ⟨n0, n1, n2, n3⟩
  cases b1
  · go_wp2_with fail
    refine wp_region_held_drew (S := (fun w' => w'.cell? ⟨w.heap.size, 0, none⟩ = some (.int .u8 34) ∧ w'.cell? ⟨w.heap.size, 1, none⟩ = some (.string x) ∧ w'.cell? ⟨w.heap.size, 2, none⟩ = some (.slice o1 ks.length c1) ∧ w'.cell? ⟨w.heap.size, 3, none⟩ = some (.slice o2 ns.length c2))) (by kernel_rfl) (by with_reducible exact KX) (fun hHeld => ?_)
    refine wpAnyH_take (i := 0) (v := ?_) rfl (by kernel_rfl) (by kernel_rfl) (by kernel_rfl) (fun _ _ _ h => h) (Or.inl ⟨by rfl, ?_⟩) (by assumption) ?_
    rotate_left
    · intro w hSw
      go_simp
      try rfl
    simp only [Act.put, List.setIfInBounds_toArray, List.set_cons_zero, List.set_cons_succ, List.getElem_toArray, List.getElem_cons_succ, List.getElem_cons_zero]
    refine wpAnyH_take (i := 1) (v := ?_) rfl (by kernel_rfl) (by kernel_rfl) (by kernel_rfl) (fun _ _ _ h => h) (Or.inl ⟨by rfl, ?_⟩) (by assumption) ?_
    rotate_left
    · intro w hSw
      go_simp
      try rfl
    simp only [Act.put, List.setIfInBounds_toArray, List.set_cons_zero, List.set_cons_succ, List.getElem_toArray, List.getElem_cons_succ, List.getElem_cons_zero]
    refine wpAnyH_take (i := 2) (v := ?_) rfl (by kernel_rfl) (by kernel_rfl) (by kernel_rfl) (fun _ _ _ h => h) (Or.inl ⟨by rfl, ?_⟩) (by assumption) ?_
    rotate_left
    · intro w hSw
      go_simp
      try rfl
    simp only [Act.put, List.setIfInBounds_toArray, List.set_cons_zero, List.set_cons_succ, List.getElem_toArray, List.getElem_cons_succ, List.getElem_cons_zero]
    refine wpAnyH_take (i := 3) (v := ?_) rfl (by kernel_rfl) (by kernel_rfl) (by kernel_rfl) (fun _ _ _ h => h) (Or.inl ⟨by rfl, ?_⟩) (by assumption) ?_
    rotate_left
    · intro w hSw
      go_simp
      try rfl
    simp only [Act.put, List.setIfInBounds_toArray, List.set_cons_zero, List.set_cons_succ, List.getElem_toArray, List.getElem_cons_succ, List.getElem_cons_zero]
    refine wpAnyH_take (i := 4) (v := ?_) rfl (by kernel_rfl) (by kernel_rfl) (by kernel_rfl) (fun _ _ _ h => h) (Or.inl ⟨by rfl, ?_⟩) (by assumption) ?_
    rotate_left
    · intro w hSw
      go_simp
      try rfl
    simp only [Act.put, List.setIfInBounds_toArray, List.set_cons_zero, List.set_cons_succ, List.getElem_toArray, List.getElem_cons_succ, List.getElem_cons_zero]
    refine wpAnyH_take (i := 5) (v := ?_) rfl (by kernel_rfl) (by kernel_rfl) (by kernel_rfl) (fun _ _ _ h => h) (Or.inl ⟨by rfl, ?_⟩) (by assumption) ?_
    rotate_left
    · intro w hSw
      go_simp
      try rfl
    simp only [Act.put, List.setIfInBounds_toArray, List.set_cons_zero, List.set_cons_succ, List.getElem_toArray, List.getElem_cons_succ, List.getElem_cons_zero]
    refine wpAnyH_take (i := 6) (v := ?_) rfl (by kernel_rfl) (by kernel_rfl) (by kernel_rfl) (fun _ _ _ h => h) (Or.inl ⟨by rfl, ?_⟩) (by assumption) ?_
    rotate_left
    · intro w hSw
      go_simp
      try rfl
    simp only [Act.put, List.setIfInBounds_toArray, List.set_cons_zero, List.set_cons_succ, List.getElem_toArray, List.getElem_cons_succ, List.getElem_cons_zero]
    refine wpAnyH_take (i := 7) (v := ?_) rfl (by kernel_rfl) (by kernel_rfl) (by kernel_rfl) (fun _ _ _ h => h) (Or.inl ⟨by rfl, ?_⟩) (by assumption) ?_
    rotate_left
    · intro w hSw
      go_simp
      try rfl
    simp only [Act.put, List.setIfInBounds_toArray, List.set_cons_zero, List.set_cons_succ, List.getElem_toArray, List.getElem_cons_succ, List.getElem_cons_zero]
    refine wpAnyH_take (i := 8) (v := ?_) rfl (by kernel_rfl) (by kernel_rfl) (by kernel_rfl) (fun _ _ _ h => h) (Or.inl ⟨by rfl, ?_⟩) (by assumption) ?_
    rotate_left
    · intro w hSw
      go_simp
      try rfl
    simp only [Act.put, List.setIfInBounds_toArray, List.set_cons_zero, List.set_cons_succ, List.getElem_toArray, List.getElem_cons_succ, List.getElem_cons_zero]
    refine wpAnyH_take (i := 9) (v := undef) rfl (by kernel_rfl) (by kernel_rfl) (by kernel_rfl) (fun _ _ _ h => h) (Or.inr ⟨by rfl, rfl⟩) (by assumption) ?_
    simp only [Act.put, List.setIfInBounds_toArray, List.set_cons_zero, List.set_cons_succ, List.getElem_toArray, List.getElem_cons_succ, List.getElem_cons_zero]
    refine wpAnyH_take (i := 10) (v := undef) rfl (by kernel_rfl) (by kernel_rfl) (by kernel_rfl) (fun _ _ _ h => h) (Or.inr ⟨by rfl, rfl⟩) (by assumption) ?_
    simp only [Act.put, List.setIfInBounds_toArray, List.set_cons_zero, List.set_cons_succ, List.getElem_toArray, List.getElem_cons_succ, List.getElem_cons_zero]
    refine wpAnyH_take (i := 11) (v := undef) rfl (by kernel_rfl) (by kernel_rfl) (by kernel_rfl) (fun _ _ _ h => h) (Or.inr ⟨by rfl, rfl⟩) (by assumption) ?_
    simp only [Act.put, List.setIfInBounds_toArray, List.set_cons_zero, List.set_cons_succ, List.getElem_toArray, List.getElem_cons_succ, List.getElem_cons_zero]
    refine wpAnyH_take (i := 12) (v := undef) rfl (by kernel_rfl) (by kernel_rfl) (by kernel_rfl) (fun _ _ _ h => h) (Or.inr ⟨by rfl, rfl⟩) (by assumption) ?_
    simp only [Act.put, List.setIfInBounds_toArray, List.set_cons_zero, List.set_cons_succ, List.getElem_toArray, List.getElem_cons_succ, List.getElem_cons_zero]
    refine wpAnyH_take (i := 13) (v := undef) rfl (by kernel_rfl) (by kernel_rfl) (by kernel_rfl) (fun _ _ _ h => h) (Or.inr ⟨by rfl, rfl⟩) (by assumption) ?_
    simp only [Act.put, List.setIfInBounds_toArray, List.set_cons_zero, List.set_cons_succ, List.getElem_toArray, List.getElem_cons_succ, List.getElem_cons_zero]
    refine wpAnyH_take (i := 14) (v := undef) rfl (by kernel_rfl) (by kernel_rfl) (by kernel_rfl) (fun _ _ _ h => h) (Or.inr ⟨by rfl, rfl⟩) (by assumption) ?_
    simp only [Act.put, List.setIfInBounds_toArray, List.set_cons_zero, List.set_cons_succ, List.getElem_toArray, List.getElem_cons_succ, List.getElem_cons_zero]
    refine wpAnyH_take (i := 15) (v := undef) rfl (by kernel_rfl) (by kernel_rfl) (by kernel_rfl) (fun _ _ _ h => h) (Or.inr ⟨by rfl, rfl⟩) (by assumption) ?_
    simp only [Act.put, List.setIfInBounds_toArray, List.set_cons_zero, List.set_cons_succ, List.getElem_toArray, List.getElem_cons_succ, List.getElem_cons_zero]
    refine wpAnyH_take (i := 16) (v := undef) rfl (by kernel_rfl) (by kernel_rfl) (by kernel_rfl) (fun _ _ _ h => h) (Or.inr ⟨by rfl, rfl⟩) (by assumption) ?_
    simp only [Act.put, List.setIfInBounds_toArray, List.set_cons_zero, List.set_cons_succ, List.getElem_toArray, List.getElem_cons_succ, List.getElem_cons_zero]
    refine wpAnyH_take (i := 17) (v := undef) rfl (by kernel_rfl) (by kernel_rfl) (by kernel_rfl) (fun _ _ _ h => h) (Or.inr ⟨by rfl, rfl⟩) (by assumption) ?_
    simp only [Act.put, List.setIfInBounds_toArray, List.set_cons_zero, List.set_cons_succ, List.getElem_toArray, List.getElem_cons_succ, List.getElem_cons_zero]
    refine wpAnyH_take (i := 18) (v := undef) rfl (by kernel_rfl) (by kernel_rfl) (by kernel_rfl) (fun _ _ _ h => h) (Or.inr ⟨by rfl, rfl⟩) (by assumption) ?_
    simp only [Act.put, List.setIfInBounds_toArray, List.set_cons_zero, List.set_cons_succ, List.getElem_toArray, List.getElem_cons_succ, List.getElem_cons_zero]
    refine wpAnyH_take (i := 19) (v := undef) rfl (by kernel_rfl) (by kernel_rfl) (by kernel_rfl) (fun _ _ _ h => h) (Or.inr ⟨by rfl, rfl⟩) (by assumption) ?_
    simp only [Act.put, List.setIfInBounds_toArray, List.set_cons_zero, List.set_cons_succ, List.getElem_toArray, List.getElem_cons_succ, List.getElem_cons_zero]
    refine wpAnyH_take (i := 20) (v := undef) rfl (by kernel_rfl) (by kernel_rfl) (by kernel_rfl) (fun _ _ _ h => h) (Or.inr ⟨by rfl, rfl⟩) (by assumption) ?_
    simp only [Act.put, List.setIfInBounds_toArray, List.set_cons_zero, List.set_cons_succ, List.getElem_toArray, List.getElem_cons_succ, List.getElem_cons_zero]
    refine wpAnyH_take (i := 21) (v := undef) rfl (by kernel_rfl) (by kernel_rfl) (by kernel_rfl) (fun _ _ _ h => h) (Or.inr ⟨by rfl, rfl⟩) (by assumption) ?_
    simp only [Act.put, List.setIfInBounds_toArray, List.set_cons_zero, List.set_cons_succ, List.getElem_toArray, List.getElem_cons_succ, List.getElem_cons_zero]
    refine wpAnyH_take (i := 22) (v := undef) rfl (by kernel_rfl) (by kernel_rfl) (by kernel_rfl) (fun _ _ _ h => h) (Or.inr ⟨by rfl, rfl⟩) (by assumption) ?_
    simp only [Act.put, List.setIfInBounds_toArray, List.set_cons_zero, List.set_cons_succ, List.getElem_toArray, List.getElem_cons_succ, List.getElem_cons_zero]
    refine wpAnyH_take (i := 23) (v := undef) rfl (by kernel_rfl) (by kernel_rfl) (by kernel_rfl) (fun _ _ _ h => h) (Or.inr ⟨by rfl, rfl⟩) (by assumption) ?_
    simp only [Act.put, List.setIfInBounds_toArray, List.set_cons_zero, List.set_cons_succ, List.getElem_toArray, List.getElem_cons_succ, List.getElem_cons_zero]
    refine wpAnyH_take (i := 24) (v := undef) rfl (by kernel_rfl) (by kernel_rfl) (by kernel_rfl) (fun _ _ _ h => h) (Or.inr ⟨by rfl, rfl⟩) (by assumption) ?_
    simp only [Act.put, List.setIfInBounds_toArray, List.set_cons_zero, List.set_cons_succ, List.getElem_toArray, List.getElem_cons_succ, List.getElem_cons_zero]
    refine wpAnyH_take (i := 25) (v := undef) rfl (by kernel_rfl) (by kernel_rfl) (by kernel_rfl) (fun _ _ _ h => h) (Or.inr ⟨by rfl, rfl⟩) (by assumption) ?_
    simp only [Act.put, List.setIfInBounds_toArray, List.set_cons_zero, List.set_cons_succ, List.getElem_toArray, List.getElem_cons_succ, List.getElem_cons_zero]
    refine wpAnyH_take (i := 26) (v := undef) rfl (by kernel_rfl) (by kernel_rfl) (by kernel_rfl) (fun _ _ _ h => h) (Or.inr ⟨by rfl, rfl⟩) (by assumption) ?_
    simp only [Act.put, List.setIfInBounds_toArray, List.set_cons_zero, List.set_cons_succ, List.getElem_toArray, List.getElem_cons_succ, List.getElem_cons_zero]
    refine wpAnyH_take (i := 27) (v := ?_) rfl (by kernel_rfl) (by kernel_rfl) (by kernel_rfl) (fun _ _ _ h => h) (Or.inl ⟨by rfl, ?_⟩) (by assumption) ?_
    rotate_left
    · intro w hSw
      go_simp
      try rfl
    simp only [Act.put, List.setIfInBounds_toArray, List.set_cons_zero, List.set_cons_succ, List.getElem_toArray, List.getElem_cons_succ, List.getElem_cons_zero]
    refine wpAnyH_take (i := 28) (v := ?_) rfl (by kernel_rfl) (by kernel_rfl) (by kernel_rfl) (fun _ _ _ h => h) (Or.inl ⟨by rfl, ?_⟩) (by assumption) ?_
    rotate_left
    · intro w hSw
      go_simp
      try rfl
    simp only [Act.put, List.setIfInBounds_toArray, List.set_cons_zero, List.set_cons_succ, List.getElem_toArray, List.getElem_cons_succ, List.getElem_cons_zero]
    refine wpAnyH_take (i := 29) (v := undef) rfl (by kernel_rfl) (by kernel_rfl) (by kernel_rfl) (fun _ _ _ h => h) (Or.inr ⟨by rfl, rfl⟩) (by assumption) ?_
    simp only [Act.put, List.setIfInBounds_toArray, List.set_cons_zero, List.set_cons_succ, List.getElem_toArray, List.getElem_cons_succ, List.getElem_cons_zero]
    refine wpAnyH_take (i := 30) (v := undef) rfl (by kernel_rfl) (by kernel_rfl) (by kernel_rfl) (fun _ _ _ h => h) (Or.inr ⟨by rfl, rfl⟩) (by assumption) ?_
    simp only [Act.put, List.setIfInBounds_toArray, List.set_cons_zero, List.set_cons_succ, List.getElem_toArray, List.getElem_cons_succ, List.getElem_cons_zero]
    refine wpAnyH_take (i := 31) (v := undef) rfl (by kernel_rfl) (by kernel_rfl) (by kernel_rfl) (fun _ _ _ h => h) (Or.inr ⟨by rfl, rfl⟩) (by assumption) ?_
    simp only [Act.put, List.setIfInBounds_toArray, List.set_cons_zero, List.set_cons_succ, List.getElem_toArray, List.getElem_cons_succ, List.getElem_cons_zero]
    refine wpAnyH_take (i := 32) (v := undef) rfl (by kernel_rfl) (by kernel_rfl) (by kernel_rfl) (fun _ _ _ h => h) (Or.inr ⟨by rfl, rfl⟩) (by assumption) ?_
    simp only [Act.put, List.setIfInBounds_toArray, List.set_cons_zero, List.set_cons_succ, List.getElem_toArray, List.getElem_cons_succ, List.getElem_cons_zero]
    refine wpAnyH_take (i := 33) (v := undef) rfl (by kernel_rfl) (by kernel_rfl) (by kernel_rfl) (fun _ _ _ h => h) (Or.inr ⟨by rfl, rfl⟩) (by assumption) ?_
    simp only [Act.put, List.setIfInBounds_toArray, List.set_cons_zero, List.set_cons_succ, List.getElem_toArray, List.getElem_cons_succ, List.getElem_cons_zero]
    refine wpAnyH_take (i := 34) (v := undef) rfl (by kernel_rfl) (by kernel_rfl) (by kernel_rfl) (fun _ _ _ h => h) (Or.inr ⟨by rfl, rfl⟩) (by assumption) ?_
    simp only [Act.put, List.setIfInBounds_toArray, List.set_cons_zero, List.set_cons_succ, List.getElem_toArray, List.getElem_cons_succ, List.getElem_cons_zero]
    refine wpAnyH_take (i := 35) (v := ?_) rfl (by kernel_rfl) (by kernel_rfl) (by kernel_rfl) (fun _ _ _ h => h) (Or.inl ⟨by rfl, ?_⟩) (by assumption) ?_
    rotate_left
    · intro w hSw
      go_simp
      try rfl
    simp only [Act.put, List.setIfInBounds_toArray, List.set_cons_zero, List.set_cons_succ, List.getElem_toArray, List.getElem_cons_succ, List.getElem_cons_zero]
    refine wpAnyH_take (i := 36) (v := ?_) rfl (by kernel_rfl) (by kernel_rfl) (by kernel_rfl) (fun _ _ _ h => h) (Or.inl ⟨by rfl, ?_⟩) (by assumption) ?_
    rotate_left
    · intro w hSw
      go_simp
      try rfl
    simp only [Act.put, List.setIfInBounds_toArray, List.set_cons_zero, List.set_cons_succ, List.getElem_toArray, List.getElem_cons_succ, List.getElem_cons_zero]
    refine wpAnyH_done (by kernel_rfl) ?_ _
    clear hHeld
    go_wp2_with fail
    go_ret
    exact ⟨by rw [HV2.out]; try rfl, HB2.out.drew⟩
  · go_wp2_with fail
    refine wp_region_held_drew (S := (fun w' => w'.cell? ⟨w.heap.size, 0, none⟩ = some (.int .u8 34) ∧ w'.cell? ⟨w.heap.size, 1, none⟩ = some (.string x) ∧ w'.cell? ⟨w.heap.size, 2, none⟩ = some (.slice o1 ks.length c1) ∧ w'.cell? ⟨w.heap.size, 3, none⟩ = some (.slice o2 ns.length c2))) (by kernel_rfl) (by with_reducible exact KX) (fun hHeld => ?_)
    refine wpAnyH_take (i := 0) (v := ?_) rfl (by kernel_rfl) (by kernel_rfl) (by kernel_rfl) (fun _ _ _ h => h) (Or.inl ⟨by rfl, ?_⟩) (by assumption) ?_
    rotate_left
    · intro w hSw
      go_simp
      try rfl
    simp only [Act.put, List.setIfInBounds_toArray, List.set_cons_zero, List.set_cons_succ, List.getElem_toArray, List.getElem_cons_succ, List.getElem_cons_zero]
    refine wpAnyH_take (i := 1) (v := ?_) rfl (by kernel_rfl) (by kernel_rfl) (by kernel_rfl) (fun _ _ _ h => h) (Or.inl ⟨by rfl, ?_⟩) (by assumption) ?_
    rotate_left
    · intro w hSw
      go_simp
      try rfl
    simp only [Act.put, List.setIfInBounds_toArray, List.set_cons_zero, List.set_cons_succ, List.getElem_toArray, List.getElem_cons_succ, List.getElem_cons_zero]
    refine wpAnyH_take (i := 2) (v := ?_) rfl (by kernel_rfl) (by kernel_rfl) (by kernel_rfl) (fun _ _ _ h => h) (Or.inl ⟨by rfl, ?_⟩) (by assumption) ?_
    rotate_left
    · intro w hSw
      go_simp
      try rfl
    simp only [Act.put, List.setIfInBounds_toArray, List.set_cons_zero, List.set_cons_succ, List.getElem_toArray, List.getElem_cons_succ, List.getElem_cons_zero]
    refine wpAnyH_take (i := 3) (v := ?_) rfl (by kernel_rfl) (by kernel_rfl) (by kernel_rfl) (fun _ _ _ h => h) (Or.inl ⟨by rfl, ?_⟩) (by assumption) ?_
    rotate_left
    · intro w hSw
      go_simp
      try rfl
    simp only [Act.put, List.setIfInBounds_toArray, List.set_cons_zero, List.set_cons_succ, List.getElem_toArray, List.getElem_cons_succ, List.getElem_cons_zero]
    refine wpAnyH_take (i := 4) (v := ?_) rfl (by kernel_rfl) (by kernel_rfl) (by kernel_rfl) (fun _ _ _ h => h) (Or.inl ⟨by rfl, ?_⟩) (by assumption) ?_
    rotate_left
    · intro w hSw
      go_simp
      try rfl
    simp only [Act.put, List.setIfInBounds_toArray, List.set_cons_zero, List.set_cons_succ, List.getElem_toArray, List.getElem_cons_succ, List.getElem_cons_zero]
    refine wpAnyH_take (i := 5) (v := ?_) rfl (by kernel_rfl) (by kernel_rfl) (by kernel_rfl) (fun _ _ _ h => h) (Or.inl ⟨by rfl, ?_⟩) (by assumption) ?_
    rotate_left
    · intro w hSw
      go_simp
      try rfl
    simp only [Act.put, List.setIfInBounds_toArray, List.set_cons_zero, List.set_cons_succ, List.getElem_toArray, List.getElem_cons_succ, List.getElem_cons_zero]
    refine wpAnyH_take (i := 6) (v := ?_) rfl (by kernel_rfl) (by kernel_rfl) (by kernel_rfl) (fun _ _ _ h => h) (Or.inl ⟨by rfl, ?_⟩) (by assumption) ?_
    rotate_left
    · intro w hSw
      go_simp
      try rfl
    simp only [Act.put, List.setIfInBounds_toArray, List.set_cons_zero, List.set_cons_succ, List.getElem_toArray, List.getElem_cons_succ, List.getElem_cons_zero]
    refine wpAnyH_take (i := 7) (v := ?_) rfl (by kernel_rfl) (by kernel_rfl) (by kernel_rfl) (fun _ _ _ h => h) (Or.inl ⟨by rfl, ?_⟩) (by assumption) ?_
    rotate_left
    · intro w hSw
      go_simp
      try rfl
    simp only [Act.put, List.setIfInBounds_toArray, List.set_cons_zero, List.set_cons_succ, List.getElem_toArray, List.getElem_cons_succ, List.getElem_cons_zero]
    refine wpAnyH_take (i := 8) (v := ?_) rfl (by kernel_rfl) (by kernel_rfl) (by kernel_rfl) (fun _ _ _ h => h) (Or.inl ⟨by rfl, ?_⟩) (by assumption) ?_
    rotate_left
    · intro w hSw
      go_simp
      try rfl
    simp only [Act.put, List.setIfInBounds_toArray, List.set_cons_zero, List.set_cons_succ, List.getElem_toArray, List.getElem_cons_succ, List.getElem_cons_zero]
    refine wpAnyH_take (i := 9) (v := ?_) rfl (by kernel_rfl) (by kernel_rfl) (by kernel_rfl) (fun _ _ _ h => h) (Or.inl ⟨by rfl, ?_⟩) (by assumption) ?_
    rotate_left
    · intro w hSw
      go_simp
      try rfl
    simp only [Act.put, List.setIfInBounds_toArray, List.set_cons_zero, List.set_cons_succ, List.getElem_toArray, List.getElem_cons_succ, List.getElem_cons_zero]
    refine wpAnyH_take (i := 10) (v := ?_) rfl (by kernel_rfl) (by kernel_rfl) (by kernel_rfl) (fun _ _ _ h => h) (Or.inl ⟨by rfl, ?_⟩) (by assumption) ?_
    rotate_left
    · intro w hSw
      go_simp
      try rfl
    simp only [Act.put, List.setIfInBounds_toArray, List.set_cons_zero, List.set_cons_succ, List.getElem_toArray, List.getElem_cons_succ, List.getElem_cons_zero]
    refine wpAnyH_take (i := 11) (v := ?_) rfl (by kernel_rfl) (by kernel_rfl) (by kernel_rfl) (fun _ _ _ h => h) (Or.inl ⟨by rfl, ?_⟩) (by assumption) ?_
    rotate_left
    · intro w hSw
      go_simp
      try rfl
    simp only [Act.put, List.setIfInBounds_toArray, List.set_cons_zero, List.set_cons_succ, List.getElem_toArray, List.getElem_cons_succ, List.getElem_cons_zero]
    refine wpAnyH_take (i := 12) (v := ?_) rfl (by kernel_rfl) (by kernel_rfl) (by kernel_rfl) (fun _ _ _ h => h) (Or.inl ⟨by rfl, ?_⟩) (by assumption) ?_
    rotate_left
    · intro w hSw
      go_simp
      try rfl
    simp only [Act.put, List.setIfInBounds_toArray, List.set_cons_zero, List.set_cons_succ, List.getElem_toArray, List.getElem_cons_succ, List.getElem_cons_zero]
    refine wpAnyH_take (i := 13) (v := undef) rfl (by kernel_rfl) (by kernel_rfl) (by kernel_rfl) (fun _ _ _ h => h) (Or.inr ⟨by rfl, rfl⟩) (by assumption) ?_
    simp only [Act.put, List.setIfInBounds_toArray, List.set_cons_zero, List.set_cons_succ, List.getElem_toArray, List.getElem_cons_succ, List.getElem_cons_zero]
    refine wpAnyH_take (i := 14) (v := undef) rfl (by kernel_rfl) (by kernel_rfl) (by kernel_rfl) (fun _ _ _ h => h) (Or.inr ⟨by rfl, rfl⟩) (by assumption) ?_
    simp only [Act.put, List.setIfInBounds_toArray, List.set_cons_zero, List.set_cons_succ, List.getElem_toArray, List.getElem_cons_succ, List.getElem_cons_zero]
    refine wpAnyH_take (i := 15) (v := undef) rfl (by kernel_rfl) (by kernel_rfl) (by kernel_rfl) (fun _ _ _ h => h) (Or.inr ⟨by rfl, rfl⟩) (by assumption) ?_
    simp only [Act.put, List.setIfInBounds_toArray, List.set_cons_zero, List.set_cons_succ, List.getElem_toArray, List.getElem_cons_succ, List.getElem_cons_zero]
    refine wpAnyH_take (i := 16) (v := undef) rfl (by kernel_rfl) (by kernel_rfl) (by kernel_rfl) (fun _ _ _ h => h) (Or.inr ⟨by rfl, rfl⟩) (by assumption) ?_
    simp only [Act.put, List.setIfInBounds_toArray, List.set_cons_zero, List.set_cons_succ, List.getElem_toArray, List.getElem_cons_succ, List.getElem_cons_zero]
    refine wpAnyH_take (i := 17) (v := undef) rfl (by kernel_rfl) (by kernel_rfl) (by kernel_rfl) (fun _ _ _ h => h) (Or.inr ⟨by rfl, rfl⟩) (by assumption) ?_
    simp only [Act.put, List.setIfInBounds_toArray, List.set_cons_zero, List.set_cons_succ, List.getElem_toArray, List.getElem_cons_succ, List.getElem_cons_zero]
    refine wpAnyH_take (i := 18) (v := undef) rfl (by kernel_rfl) (by kernel_rfl) (by kernel_rfl) (fun _ _ _ h => h) (Or.inr ⟨by rfl, rfl⟩) (by assumption) ?_
    simp only [Act.put, List.setIfInBounds_toArray, List.set_cons_zero, List.set_cons_succ, List.getElem_toArray, List.getElem_cons_succ, List.getElem_cons_zero]
    refine wpAnyH_take (i := 19) (v := undef) rfl (by kernel_rfl) (by kernel_rfl) (by kernel_rfl) (fun _ _ _ h => h) (Or.inr ⟨by rfl, rfl⟩) (by assumption) ?_
    simp only [Act.put, List.setIfInBounds_toArray, List.set_cons_zero, List.set_cons_succ, List.getElem_toArray, List.getElem_cons_succ, List.getElem_cons_zero]
    refine wpAnyH_take (i := 20) (v := undef) rfl (by kernel_rfl) (by kernel_rfl) (by kernel_rfl) (fun _ _ _ h => h) (Or.inr ⟨by rfl, rfl⟩) (by assumption) ?_
    simp only [Act.put, List.setIfInBounds_toArray, List.set_cons_zero, List.set_cons_succ, List.getElem_toArray, List.getElem_cons_succ, List.getElem_cons_zero]
    refine wpAnyH_take (i := 21) (v := undef) rfl (by kernel_rfl) (by kernel_rfl) (by kernel_rfl) (fun _ _ _ h => h) (Or.inr ⟨by rfl, rfl⟩) (by assumption) ?_
    simp only [Act.put, List.setIfInBounds_toArray, List.set_cons_zero, List.set_cons_succ, List.getElem_toArray, List.getElem_cons_succ, List.getElem_cons_zero]
    refine wpAnyH_take (i := 22) (v := undef) rfl (by kernel_rfl) (by kernel_rfl) (by kernel_rfl) (fun _ _ _ h => h) (Or.inr ⟨by rfl, rfl⟩) (by assumption) ?_
    simp only [Act.put, List.setIfInBounds_toArray, List.set_cons_zero, List.set_cons_succ, List.getElem_toArray, List.getElem_cons_succ, List.getElem_cons_zero]
    refine wpAnyH_take (i := 23) (v := undef) rfl (by kernel_rfl) (by kernel_rfl) (by kernel_rfl) (fun _ _ _ h => h) (Or.inr ⟨by rfl, rfl⟩) (by assumption) ?_
    simp only [Act.put, List.setIfInBounds_toArray, List.set_cons_zero, List.set_cons_succ, List.getElem_toArray, List.getElem_cons_succ, List.getElem_cons_zero]
    refine wpAnyH_take (i := 24) (v := undef) rfl (by kernel_rfl) (by kernel_rfl) (by kernel_rfl) (fun _ _ _ h => h) (Or.inr ⟨by rfl, rfl⟩) (by assumption) ?_
    simp only [Act.put, List.setIfInBounds_toArray, List.set_cons_zero, List.set_cons_succ, List.getElem_toArray, List.getElem_cons_succ, List.getElem_cons_zero]
    refine wpAnyH_take (i := 25) (v := undef) rfl (by kernel_rfl) (by kernel_rfl) (by kernel_rfl) (fun _ _ _ h => h) (Or.inr ⟨by rfl, rfl⟩) (by assumption) ?_
    simp only [Act.put, List.setIfInBounds_toArray, List.set_cons_zero, List.set_cons_succ, List.getElem_toArray, List.getElem_cons_succ, List.getElem_cons_zero]
    refine wpAnyH_take (i := 26) (v := ?_) rfl (by kernel_rfl) (by kernel_rfl) (by kernel_rfl) (fun _ _ _ h => h) (Or.inl ⟨by rfl, ?_⟩) (by assumption) ?_
    rotate_left
    · intro w hSw
      go_simp
      try rfl
    simp only [Act.put, List.setIfInBounds_toArray, List.set_cons_zero, List.set_cons_succ, List.getElem_toArray, List.getElem_cons_succ, List.getElem_cons_zero]
    refine wpAnyH_take (i := 27) (v := ?_) rfl (by kernel_rfl) (by kernel_rfl) (by kernel_rfl) (fun _ _ _ h => h) (Or.inl ⟨by rfl, ?_⟩) (by assumption) ?_
    rotate_left
    · intro w hSw
      go_simp
      try rfl
    simp only [Act.put, List.setIfInBounds_toArray, List.set_cons_zero, List.set_cons_succ, List.getElem_toArray, List.getElem_cons_succ, List.getElem_cons_zero]
    refine wpAnyH_take (i := 28) (v := ?_) rfl (by kernel_rfl) (by kernel_rfl) (by kernel_rfl) (fun _ _ _ h => h) (Or.inl ⟨by rfl, ?_⟩) (by assumption) ?_
    rotate_left
    · intro w hSw
      go_simp
      try rfl
    simp only [Act.put, List.setIfInBounds_toArray, List.set_cons_zero, List.set_cons_succ, List.getElem_toArray, List.getElem_cons_succ, List.getElem_cons_zero]
    refine wpAnyH_take (i := 29) (v := ?_) rfl (by kernel_rfl) (by kernel_rfl) (by kernel_rfl) (fun _ _ _ h => h) (Or.inl ⟨by rfl, ?_⟩) (by assumption) ?_
    rotate_left
    · intro w hSw
      go_simp
      try rfl
    simp only [Act.put, List.setIfInBounds_toArray, List.set_cons_zero, List.set_cons_succ, List.getElem_toArray, List.getElem_cons_succ, List.getElem_cons_zero]
    refine wpAnyH_take (i := 30) (v := ?_) rfl (by kernel_rfl) (by kernel_rfl) (by kernel_rfl) (fun _ _ _ h => h) (Or.inl ⟨by rfl, ?_⟩) (by assumption) ?_
    rotate_left
    · intro w hSw
      go_simp
      try rfl
    simp only [Act.put, List.setIfInBounds_toArray, List.set_cons_zero, List.set_cons_succ, List.getElem_toArray, List.getElem_cons_succ, List.getElem_cons_zero]
    refine wpAnyH_take (i := 31) (v := ?_) rfl (by kernel_rfl) (by kernel_rfl) (by kernel_rfl) (fun _ _ _ h => h) (Or.inl ⟨by rfl, ?_⟩) (by assumption) ?_
    rotate_left
    · intro w hSw
      go_simp
      try rfl
    simp only [Act.put, List.setIfInBounds_toArray, List.set_cons_zero, List.set_cons_succ, List.getElem_toArray, List.getElem_cons_succ, List.getElem_cons_zero]
    refine wpAnyH_take (i := 32) (v := ?_) rfl (by kernel_rfl) (by kernel_rfl) (by kernel_rfl) (fun _ _ _ h => h) (Or.inl ⟨by rfl, ?_⟩) (by assumption) ?_
    rotate_left
    · intro w hSw
      go_simp
      try rfl
    simp only [Act.put, List.setIfInBounds_toArray, List.set_cons_zero, List.set_cons_succ, List.getElem_toArray, List.getElem_cons_succ, List.getElem_cons_zero]
    refine wpAnyH_take (i := 33) (v := undef) rfl (by kernel_rfl) (by kernel_rfl) (by kernel_rfl) (fun _ _ _ h => h) (Or.inr ⟨by rfl, rfl⟩) (by assumption) ?_
    simp only [Act.put, List.setIfInBounds_toArray, List.set_cons_zero, List.set_cons_succ, List.getElem_toArray, List.getElem_cons_succ, List.getElem_cons_zero]
    refine wpAnyH_take (i := 34) (v := ?_) rfl (by kernel_rfl) (by kernel_rfl) (by kernel_rfl) (fun _ _ _ h => h) (Or.inl ⟨by rfl, ?_⟩) (by assumption) ?_
    rotate_left
    · intro w hSw
      go_simp
      try rfl
    simp only [Act.put, List.setIfInBounds_toArray, List.set_cons_zero, List.set_cons_succ, List.getElem_toArray, List.getElem_cons_succ, List.getElem_cons_zero]
    refine wpAnyH_take (i := 35) (v := ?_) rfl (by kernel_rfl) (by kernel_rfl) (by kernel_rfl) (fun _ _ _ h => h) (Or.inl ⟨by rfl, ?_⟩) (by assumption) ?_
    rotate_left
    · intro w hSw
      go_simp
      try rfl
    simp only [Act.put, List.setIfInBounds_toArray, List.set_cons_zero, List.set_cons_succ, List.getElem_toArray, List.getElem_cons_succ, List.getElem_cons_zero]
    refine wpAnyH_take (i := 36) (v := ?_) rfl (by kernel_rfl) (by kernel_rfl) (by kernel_rfl) (fun _ _ _ h => h) (Or.inl ⟨by rfl, ?_⟩) (by assumption) ?_
    rotate_left
    · intro w hSw
      go_simp
      try rfl
    simp only [Act.put, List.setIfInBounds_toArray, List.set_cons_zero, List.set_cons_succ, List.getElem_toArray, List.getElem_cons_succ, List.getElem_cons_zero]
    refine wpAnyH_done (by kernel_rfl) ?_ _
    clear hHeld
    go_wp2_with fail
    go_ret
    exact ⟨by rw [HV2.out]; try rfl, HB2.out.drew⟩
end Go.Proofs.Ytjnmcadfaombjaa

/- Walks: the document's whole of a word's node. -/
namespace Go.Proofs.Ytjnmcadfaombjaa
open Go.RowKit
set_option linter.unusedVariables false
set_option linter.unusedSimpArgs false
set_option linter.constructorNameAsVariable false
set_option maxRecDepth 100000 in
set_option maxHeartbeats 8000000 in
theorem whole_97 (q : Nat) (t : List UInt8) (ks : List (List UInt8)) (ns : List Node) (hF : ∀ (j : Nat) (n : Node), ns[j]? = some n → WholeC n) (hq : q = 97) : WholeC (.mk q t ks ns) := by
  intro ok a b c e w hn hs
  have HQ := Lib.hid hq
  clear hq
  unfold NodeA at hn
  obtain ⟨kv, nv, cs, hv, h1, h2, h3⟩ := hn
  simp only [Value.agg.injEq, Array.mk.injEq, List.cons.injEq, and_true] at hv
  obtain ⟨rfl, rfl, rfl, rfl⟩ := hv
  have hT := TxtA.of h1
  obtain ⟨o1, c1, rfl⟩ := rowA_len h1
  obtain ⟨o2, c2, rfl⟩ := rowA_len h2
  unfold SmallN at hs
  obtain ⟨s1, s2, s3, s4, s5⟩ := hs
  have HS2 := Lib.hid s2
  have HSm := Lib.hid s5
  have HF := Lib.hid hF
  have HR := Lib.hid h2
  have HKd := Lib.hid h3
  have hxs : (strOf t).size = t.length := strOf_size t
  have HP := Lib.hid (fun w => ris_any (strOf t) w (by rw [strOf_size]; omega))
  have HNX : 0 < t.length → Hid (∀ w, Calls Try.prog 44 #[.string (strOf t), .int .i64 0] w fun e w' => e = .returned (.int .i64 (numI (numE t 0))) ∧ w = w') := fun h0 w => by
    have := rnumber_any (strOf t) 0 w (by rw [strOf_size]; omega) (by rw [strOf_size]; omega)
    rw [strOf_list] at this
    exact this
  rw [strOf_list] at HP
  have HV : Hid (wholeN (.mk q t ks ns) = (good t && (if q = 34 ∨ q = 48 ∨ q = 97 then leafB q t ks ns else shapeB q t ks ns && (ks.all fun k => good k) && wholeL ns))) := by show _ = _; rw [wholeN]
  have e1 : (IntKind.i64.wrap ((ks.length : Int) + (ns.length : Int)) == 0) = decide (ks.length + ns.length = 0) := by rw [IntWalk.i64_in _ (by omega)]; exact sum_zero _ _
  have e2 := str_nil t
  have e3 := str_nil2 t
  have w1 := str_word t [116, 114, 117, 101]
  have w2 := str_word t [102, 97, 108, 115, 101]
  have w3 := str_word t [110, 117, 108, 108]
  have hB0 := (Below.refl w.heap.size w).alloc (Nat.le_refl _) (.cells #[.int .u8 q, .string (strOf t), .slice o1 ks.length c1, .slice o2 ns.length c2] 44)
  have HB0 := Lib.hid hB0
  have HN0 := Lib.hid (Blk.new w 44 #[.int .u8 q, .string (strOf t), .slice o1 ks.length c1, .slice o2 ns.length c2])
  have HT0 := Lib.hid (txtA_below hT hB0)
  obtain ⟨et, het⟩ : ∃ et, decide (t = []) = et := ⟨_, rfl⟩
  rw [het] at e2 e3
  have HET := Lib.hid het
  clear h1 h2 h3 hF s2 s5 hT hB0 het
  generalize strOf t = x at *
  go_enter Try.func33, Try.ntmps33
  go_upto_region 1 with fail
  generalize w.alloc (.cells #[.int .u8 q, .string x, .slice o1 ks.length c1, .slice o2 ns.length c2] 44) = W0 at *
  have n1 := HN0.out.cell 1
  go_wp2_with fail
  refine (HP.out _).mono ?_
  rintro e W2 ⟨rfl, b2⟩
  have HN2 := Lib.hid (HN0.out.below b2 HN0.out.lt)
  have HB2 := Lib.hid (HB0.out.trans (b2.mono HB0.out.size))
  have HT2 := Lib.hid (txtA_below HT0.out (b2.mono (Nat.le_refl _)))
  clear n1 b2 HN0 HB0 HT0 HP
  have n0 := HN2.out.cell 0
  have n1 := HN2.out.cell 1
  have n2 := HN2.out.cell 2
  have n3 := HN2.out.cell 3
  cases hg : good t
  · have HV2 : Hid (wholeN (.mk q t ks ns) = false) := by show _ = _; rw [HV.out, hg]; rfl
    clear HV
    go_wp2_with fail
    go_ret
    exact ⟨by rw [HV2.out]; rfl, HB2.out⟩
  rw [hg, Bool.true_and] at HV
  have q97 := HQ.out
  clear HQ
  subst q97
  have HV2 : Hid (wholeN (.mk 97 t ks ns) = (decide (ks.length + ns.length = 0) && (decide (t = [116, 114, 117, 101]) || (decide (t = [102, 97, 108, 115, 101]) || decide (t = [110, 117, 108, 108]))))) := by show _ = _; rw [HV.out]; simp [leafB, isW]
  obtain ⟨b1, hb1⟩ : ∃ b1, decide (ks.length + ns.length = 0) = b1 := ⟨_, rfl⟩
  rw [hb1] at e1
  rw [hb1] at HV2
  obtain ⟨v1, hv1⟩ : ∃ b, decide (t = [116, 114, 117, 101]) = b := ⟨_, rfl⟩
  obtain ⟨v2, hv2⟩ : ∃ b, decide (t = [102, 97, 108, 115, 101]) = b := ⟨_, rfl⟩
  obtain ⟨v3, hv3⟩ : ∃ b, decide (t = [110, 117, 108, 108]) = b := ⟨_, rfl⟩
  rw [hv1] at w1
  rw [hv2] at w2
  rw [hv3] at w3
  rw [hv1, hv2, hv3] at HV2
  clear HV hg hb1 hv1 hv2 hv3 e2 e3 HT2 HF HR HKd HSm HS2 HET s1 s3 s4
  clear HNX
  have hfour : (v1 = true ∨ (v1 = false ∧ v2 = true)) ∨ ((v1 = false ∧ v2 = false ∧ v3 = true) ∨ (v1 = false ∧ v2 = false ∧ v3 = false)) := by cases v1 <;> cases v2 <;> cases v3 <;> simp
  obtain ⟨vd, hvd⟩ : ∃ vd, (v1 || (v2 || v3)) = vd := ⟨_, rfl⟩
  have HVD := Lib.hid hvd
  clear hvd
  go_upto_region 4 with fail
  go_cut [3] (fun v wx => v = .bool vd ∧ W2 = wx)
  case first =>
    rcases hfour with (rfl | ⟨rfl, rfl⟩) | (⟨rfl, rfl, rfl⟩ | ⟨rfl, rfl, rfl⟩)
    all_goals
      go_wp2_with fail
      go_meet
      exact ⟨by rw [← HVD.out]; rfl, rfl⟩
  case rest =>
  obtain ⟨rfl, rfl⟩ := hcut
  clear hfour w1 w2 w3
  have KX : W2.drew.cell? ⟨w.heap.size, 0, none⟩ = some (.int .u8 97) ∧ W2.drew.cell? ⟨w.heap.size, 1, none⟩ = some (.string x) ∧ W2.drew.cell? ⟨w.heap.size, 2, none⟩ = some (.slice o1 ks.length c1) ∧ W2.drew.cell? ⟨w.heap.size, 3, none⟩ = some (.slice o2 ns.length c2) := ⟨n0, n1, n2, n3⟩
  cases b1
  · go_wp2_with fail
    refine wp_region_held_drew (S := (fun w' => w'.cell? ⟨w.heap.size, 0, none⟩ = some (.int .u8 97) ∧ w'.cell? ⟨w.heap.size, 1, none⟩ = some (.string x) ∧ w'.cell? ⟨w.heap.size, 2, none⟩ = some (.slice o1 ks.length c1) ∧ w'.cell? ⟨w.heap.size, 3, none⟩ = some (.slice o2 ns.length c2))) (by kernel_rfl) (by with_reducible exact KX) (fun hHeld => ?_)
    refine wpAnyH_take (i := 0) (v := ?_) rfl (by kernel_rfl) (by kernel_rfl) (by kernel_rfl) (fun _ _ _ h => h) (Or.inl ⟨by rfl, ?_⟩) (by assumption) ?_
    rotate_left
    · intro w hSw
      go_simp
      try rfl
    simp only [Act.put, List.setIfInBounds_toArray, List.set_cons_zero, List.set_cons_succ, List.getElem_toArray, List.getElem_cons_succ, List.getElem_cons_zero]
    refine wpAnyH_take (i := 1) (v := ?_) rfl (by kernel_rfl) (by kernel_rfl) (by kernel_rfl) (fun _ _ _ h => h) (Or.inl ⟨by rfl, ?_⟩) (by assumption) ?_
    rotate_left
    · intro w hSw
      go_simp
      try rfl
    simp only [Act.put, List.setIfInBounds_toArray, List.set_cons_zero, List.set_cons_succ, List.getElem_toArray, List.getElem_cons_succ, List.getElem_cons_zero]
    refine wpAnyH_take (i := 2) (v := ?_) rfl (by kernel_rfl) (by kernel_rfl) (by kernel_rfl) (fun _ _ _ h => h) (Or.inl ⟨by rfl, ?_⟩) (by assumption) ?_
    rotate_left
    · intro w hSw
      go_simp
      try rfl
    simp only [Act.put, List.setIfInBounds_toArray, List.set_cons_zero, List.set_cons_succ, List.getElem_toArray, List.getElem_cons_succ, List.getElem_cons_zero]
    refine wpAnyH_take (i := 3) (v := ?_) rfl (by kernel_rfl) (by kernel_rfl) (by kernel_rfl) (fun _ _ _ h => h) (Or.inl ⟨by rfl, ?_⟩) (by assumption) ?_
    rotate_left
    · intro w hSw
      go_simp
      try rfl
    simp only [Act.put, List.setIfInBounds_toArray, List.set_cons_zero, List.set_cons_succ, List.getElem_toArray, List.getElem_cons_succ, List.getElem_cons_zero]
    refine wpAnyH_take (i := 4) (v := ?_) rfl (by kernel_rfl) (by kernel_rfl) (by kernel_rfl) (fun _ _ _ h => h) (Or.inl ⟨by rfl, ?_⟩) (by assumption) ?_
    rotate_left
    · intro w hSw
      go_simp
      try rfl
    simp only [Act.put, List.setIfInBounds_toArray, List.set_cons_zero, List.set_cons_succ, List.getElem_toArray, List.getElem_cons_succ, List.getElem_cons_zero]
    refine wpAnyH_take (i := 5) (v := ?_) rfl (by kernel_rfl) (by kernel_rfl) (by kernel_rfl) (fun _ _ _ h => h) (Or.inl ⟨by rfl, ?_⟩) (by assumption) ?_
    rotate_left
    · intro w hSw
      go_simp
      try rfl
    simp only [Act.put, List.setIfInBounds_toArray, List.set_cons_zero, List.set_cons_succ, List.getElem_toArray, List.getElem_cons_succ, List.getElem_cons_zero]
    refine wpAnyH_take (i := 6) (v := ?_) rfl (by kernel_rfl) (by kernel_rfl) (by kernel_rfl) (fun _ _ _ h => h) (Or.inl ⟨by rfl, ?_⟩) (by assumption) ?_
    rotate_left
    · intro w hSw
      go_simp
      try rfl
    simp only [Act.put, List.setIfInBounds_toArray, List.set_cons_zero, List.set_cons_succ, List.getElem_toArray, List.getElem_cons_succ, List.getElem_cons_zero]
    refine wpAnyH_take (i := 7) (v := ?_) rfl (by kernel_rfl) (by kernel_rfl) (by kernel_rfl) (fun _ _ _ h => h) (Or.inl ⟨by rfl, ?_⟩) (by assumption) ?_
    rotate_left
    · intro w hSw
      go_simp
      try rfl
    simp only [Act.put, List.setIfInBounds_toArray, List.set_cons_zero, List.set_cons_succ, List.getElem_toArray, List.getElem_cons_succ, List.getElem_cons_zero]
    refine wpAnyH_take (i := 8) (v := ?_) rfl (by kernel_rfl) (by kernel_rfl) (by kernel_rfl) (fun _ _ _ h => h) (Or.inl ⟨by rfl, ?_⟩) (by assumption) ?_
    rotate_left
    · intro w hSw
      go_simp
      try rfl
    simp only [Act.put, List.setIfInBounds_toArray, List.set_cons_zero, List.set_cons_succ, List.getElem_toArray, List.getElem_cons_succ, List.getElem_cons_zero]
    refine wpAnyH_take (i := 9) (v := undef) rfl (by kernel_rfl) (by kernel_rfl) (by kernel_rfl) (fun _ _ _ h => h) (Or.inr ⟨by rfl, rfl⟩) (by assumption) ?_
    simp only [Act.put, List.setIfInBounds_toArray, List.set_cons_zero, List.set_cons_succ, List.getElem_toArray, List.getElem_cons_succ, List.getElem_cons_zero]
    refine wpAnyH_take (i := 10) (v := undef) rfl (by kernel_rfl) (by kernel_rfl) (by kernel_rfl) (fun _ _ _ h => h) (Or.inr ⟨by rfl, rfl⟩) (by assumption) ?_
    simp only [Act.put, List.setIfInBounds_toArray, List.set_cons_zero, List.set_cons_succ, List.getElem_toArray, List.getElem_cons_succ, List.getElem_cons_zero]
    refine wpAnyH_take (i := 11) (v := undef) rfl (by kernel_rfl) (by kernel_rfl) (by kernel_rfl) (fun _ _ _ h => h) (Or.inr ⟨by rfl, rfl⟩) (by assumption) ?_
    simp only [Act.put, List.setIfInBounds_toArray, List.set_cons_zero, List.set_cons_succ, List.getElem_toArray, List.getElem_cons_succ, List.getElem_cons_zero]
    refine wpAnyH_take (i := 12) (v := undef) rfl (by kernel_rfl) (by kernel_rfl) (by kernel_rfl) (fun _ _ _ h => h) (Or.inr ⟨by rfl, rfl⟩) (by assumption) ?_
    simp only [Act.put, List.setIfInBounds_toArray, List.set_cons_zero, List.set_cons_succ, List.getElem_toArray, List.getElem_cons_succ, List.getElem_cons_zero]
    refine wpAnyH_take (i := 13) (v := undef) rfl (by kernel_rfl) (by kernel_rfl) (by kernel_rfl) (fun _ _ _ h => h) (Or.inr ⟨by rfl, rfl⟩) (by assumption) ?_
    simp only [Act.put, List.setIfInBounds_toArray, List.set_cons_zero, List.set_cons_succ, List.getElem_toArray, List.getElem_cons_succ, List.getElem_cons_zero]
    refine wpAnyH_take (i := 14) (v := undef) rfl (by kernel_rfl) (by kernel_rfl) (by kernel_rfl) (fun _ _ _ h => h) (Or.inr ⟨by rfl, rfl⟩) (by assumption) ?_
    simp only [Act.put, List.setIfInBounds_toArray, List.set_cons_zero, List.set_cons_succ, List.getElem_toArray, List.getElem_cons_succ, List.getElem_cons_zero]
    refine wpAnyH_take (i := 15) (v := undef) rfl (by kernel_rfl) (by kernel_rfl) (by kernel_rfl) (fun _ _ _ h => h) (Or.inr ⟨by rfl, rfl⟩) (by assumption) ?_
    simp only [Act.put, List.setIfInBounds_toArray, List.set_cons_zero, List.set_cons_succ, List.getElem_toArray, List.getElem_cons_succ, List.getElem_cons_zero]
    refine wpAnyH_take (i := 16) (v := undef) rfl (by kernel_rfl) (by kernel_rfl) (by kernel_rfl) (fun _ _ _ h => h) (Or.inr ⟨by rfl, rfl⟩) (by assumption) ?_
    simp only [Act.put, List.setIfInBounds_toArray, List.set_cons_zero, List.set_cons_succ, List.getElem_toArray, List.getElem_cons_succ, List.getElem_cons_zero]
    refine wpAnyH_take (i := 17) (v := undef) rfl (by kernel_rfl) (by kernel_rfl) (by kernel_rfl) (fun _ _ _ h => h) (Or.inr ⟨by rfl, rfl⟩) (by assumption) ?_
    simp only [Act.put, List.setIfInBounds_toArray, List.set_cons_zero, List.set_cons_succ, List.getElem_toArray, List.getElem_cons_succ, List.getElem_cons_zero]
    refine wpAnyH_take (i := 18) (v := undef) rfl (by kernel_rfl) (by kernel_rfl) (by kernel_rfl) (fun _ _ _ h => h) (Or.inr ⟨by rfl, rfl⟩) (by assumption) ?_
    simp only [Act.put, List.setIfInBounds_toArray, List.set_cons_zero, List.set_cons_succ, List.getElem_toArray, List.getElem_cons_succ, List.getElem_cons_zero]
    refine wpAnyH_take (i := 19) (v := undef) rfl (by kernel_rfl) (by kernel_rfl) (by kernel_rfl) (fun _ _ _ h => h) (Or.inr ⟨by rfl, rfl⟩) (by assumption) ?_
    simp only [Act.put, List.setIfInBounds_toArray, List.set_cons_zero, List.set_cons_succ, List.getElem_toArray, List.getElem_cons_succ, List.getElem_cons_zero]
    refine wpAnyH_take (i := 20) (v := undef) rfl (by kernel_rfl) (by kernel_rfl) (by kernel_rfl) (fun _ _ _ h => h) (Or.inr ⟨by rfl, rfl⟩) (by assumption) ?_
    simp only [Act.put, List.setIfInBounds_toArray, List.set_cons_zero, List.set_cons_succ, List.getElem_toArray, List.getElem_cons_succ, List.getElem_cons_zero]
    refine wpAnyH_take (i := 21) (v := undef) rfl (by kernel_rfl) (by kernel_rfl) (by kernel_rfl) (fun _ _ _ h => h) (Or.inr ⟨by rfl, rfl⟩) (by assumption) ?_
    simp only [Act.put, List.setIfInBounds_toArray, List.set_cons_zero, List.set_cons_succ, List.getElem_toArray, List.getElem_cons_succ, List.getElem_cons_zero]
    refine wpAnyH_take (i := 22) (v := undef) rfl (by kernel_rfl) (by kernel_rfl) (by kernel_rfl) (fun _ _ _ h => h) (Or.inr ⟨by rfl, rfl⟩) (by assumption) ?_
    simp only [Act.put, List.setIfInBounds_toArray, List.set_cons_zero, List.set_cons_succ, List.getElem_toArray, List.getElem_cons_succ, List.getElem_cons_zero]
    refine wpAnyH_take (i := 23) (v := undef) rfl (by kernel_rfl) (by kernel_rfl) (by kernel_rfl) (fun _ _ _ h => h) (Or.inr ⟨by rfl, rfl⟩) (by assumption) ?_
    simp only [Act.put, List.setIfInBounds_toArray, List.set_cons_zero, List.set_cons_succ, List.getElem_toArray, List.getElem_cons_succ, List.getElem_cons_zero]
    refine wpAnyH_take (i := 24) (v := undef) rfl (by kernel_rfl) (by kernel_rfl) (by kernel_rfl) (fun _ _ _ h => h) (Or.inr ⟨by rfl, rfl⟩) (by assumption) ?_
    simp only [Act.put, List.setIfInBounds_toArray, List.set_cons_zero, List.set_cons_succ, List.getElem_toArray, List.getElem_cons_succ, List.getElem_cons_zero]
    refine wpAnyH_take (i := 25) (v := undef) rfl (by kernel_rfl) (by kernel_rfl) (by kernel_rfl) (fun _ _ _ h => h) (Or.inr ⟨by rfl, rfl⟩) (by assumption) ?_
    simp only [Act.put, List.setIfInBounds_toArray, List.set_cons_zero, List.set_cons_succ, List.getElem_toArray, List.getElem_cons_succ, List.getElem_cons_zero]
    refine wpAnyH_take (i := 26) (v := undef) rfl (by kernel_rfl) (by kernel_rfl) (by kernel_rfl) (fun _ _ _ h => h) (Or.inr ⟨by rfl, rfl⟩) (by assumption) ?_
    simp only [Act.put, List.setIfInBounds_toArray, List.set_cons_zero, List.set_cons_succ, List.getElem_toArray, List.getElem_cons_succ, List.getElem_cons_zero]
    refine wpAnyH_take (i := 27) (v := ?_) rfl (by kernel_rfl) (by kernel_rfl) (by kernel_rfl) (fun _ _ _ h => h) (Or.inl ⟨by rfl, ?_⟩) (by assumption) ?_
    rotate_left
    · intro w hSw
      go_simp
      try rfl
    simp only [Act.put, List.setIfInBounds_toArray, List.set_cons_zero, List.set_cons_succ, List.getElem_toArray, List.getElem_cons_succ, List.getElem_cons_zero]
    refine wpAnyH_take (i := 28) (v := ?_) rfl (by kernel_rfl) (by kernel_rfl) (by kernel_rfl) (fun _ _ _ h => h) (Or.inl ⟨by rfl, ?_⟩) (by assumption) ?_
    rotate_left
    · intro w hSw
      go_simp
      try rfl
    simp only [Act.put, List.setIfInBounds_toArray, List.set_cons_zero, List.set_cons_succ, List.getElem_toArray, List.getElem_cons_succ, List.getElem_cons_zero]
    refine wpAnyH_take (i := 29) (v := undef) rfl (by kernel_rfl) (by kernel_rfl) (by kernel_rfl) (fun _ _ _ h => h) (Or.inr ⟨by rfl, rfl⟩) (by assumption) ?_
    simp only [Act.put, List.setIfInBounds_toArray, List.set_cons_zero, List.set_cons_succ, List.getElem_toArray, List.getElem_cons_succ, List.getElem_cons_zero]
    refine wpAnyH_take (i := 30) (v := undef) rfl (by kernel_rfl) (by kernel_rfl) (by kernel_rfl) (fun _ _ _ h => h) (Or.inr ⟨by rfl, rfl⟩) (by assumption) ?_
    simp only [Act.put, List.setIfInBounds_toArray, List.set_cons_zero, List.set_cons_succ, List.getElem_toArray, List.getElem_cons_succ, List.getElem_cons_zero]
    refine wpAnyH_take (i := 31) (v := undef) rfl (by kernel_rfl) (by kernel_rfl) (by kernel_rfl) (fun _ _ _ h => h) (Or.inr ⟨by rfl, rfl⟩) (by assumption) ?_
    simp only [Act.put, List.setIfInBounds_toArray, List.set_cons_zero, List.set_cons_succ, List.getElem_toArray, List.getElem_cons_succ, List.getElem_cons_zero]
    refine wpAnyH_take (i := 32) (v := undef) rfl (by kernel_rfl) (by kernel_rfl) (by kernel_rfl) (fun _ _ _ h => h) (Or.inr ⟨by rfl, rfl⟩) (by assumption) ?_
    simp only [Act.put, List.setIfInBounds_toArray, List.set_cons_zero, List.set_cons_succ, List.getElem_toArray, List.getElem_cons_succ, List.getElem_cons_zero]
    refine wpAnyH_take (i := 33) (v := undef) rfl (by kernel_rfl) (by kernel_rfl) (by kernel_rfl) (fun _ _ _ h => h) (Or.inr ⟨by rfl, rfl⟩) (by assumption) ?_
    simp only [Act.put, List.setIfInBounds_toArray, List.set_cons_zero, List.set_cons_succ, List.getElem_toArray, List.getElem_cons_succ, List.getElem_cons_zero]
    refine wpAnyH_take (i := 34) (v := undef) rfl (by kernel_rfl) (by kernel_rfl) (by kernel_rfl) (fun _ _ _ h => h) (Or.inr ⟨by rfl, rfl⟩) (by assumption) ?_
    simp only [Act.put, List.setIfInBounds_toArray, List.set_cons_zero, List.set_cons_succ, List.getElem_toArray, List.getElem_cons_succ, List.getElem_cons_zero]
    refine wpAnyH_take (i := 35) (v := ?_) rfl (by kernel_rfl) (by kernel_rfl) (by kernel_rfl) (fun _ _ _ h => h) (Or.inl ⟨by rfl, ?_⟩) (by assumption) ?_
    rotate_left
    · intro w hSw
      go_simp
      try rfl
    simp only [Act.put, List.setIfInBounds_toArray, List.set_cons_zero, List.set_cons_succ, List.getElem_toArray, List.getElem_cons_succ, List.getElem_cons_zero]
    refine wpAnyH_take (i := 36) (v := ?_) rfl (by kernel_rfl) (by kernel_rfl) (by kernel_rfl) (fun _ _ _ h => h) (Or.inl ⟨by rfl, ?_⟩) (by assumption) ?_
    rotate_left
    · intro w hSw
      go_simp
      try rfl
    simp only [Act.put, List.setIfInBounds_toArray, List.set_cons_zero, List.set_cons_succ, List.getElem_toArray, List.getElem_cons_succ, List.getElem_cons_zero]
    refine wpAnyH_done (by kernel_rfl) ?_ _
    clear hHeld
    go_wp2_with fail
    go_ret
    exact ⟨by rw [HV2.out]; try rfl, HB2.out.drew⟩
  · go_wp2_with fail
    refine wp_region_held_drew (S := (fun w' => w'.cell? ⟨w.heap.size, 0, none⟩ = some (.int .u8 97) ∧ w'.cell? ⟨w.heap.size, 1, none⟩ = some (.string x) ∧ w'.cell? ⟨w.heap.size, 2, none⟩ = some (.slice o1 ks.length c1) ∧ w'.cell? ⟨w.heap.size, 3, none⟩ = some (.slice o2 ns.length c2))) (by kernel_rfl) (by with_reducible exact KX) (fun hHeld => ?_)
    refine wpAnyH_take (i := 0) (v := ?_) rfl (by kernel_rfl) (by kernel_rfl) (by kernel_rfl) (fun _ _ _ h => h) (Or.inl ⟨by rfl, ?_⟩) (by assumption) ?_
    rotate_left
    · intro w hSw
      go_simp
      try rfl
    simp only [Act.put, List.setIfInBounds_toArray, List.set_cons_zero, List.set_cons_succ, List.getElem_toArray, List.getElem_cons_succ, List.getElem_cons_zero]
    refine wpAnyH_take (i := 1) (v := ?_) rfl (by kernel_rfl) (by kernel_rfl) (by kernel_rfl) (fun _ _ _ h => h) (Or.inl ⟨by rfl, ?_⟩) (by assumption) ?_
    rotate_left
    · intro w hSw
      go_simp
      try rfl
    simp only [Act.put, List.setIfInBounds_toArray, List.set_cons_zero, List.set_cons_succ, List.getElem_toArray, List.getElem_cons_succ, List.getElem_cons_zero]
    refine wpAnyH_take (i := 2) (v := ?_) rfl (by kernel_rfl) (by kernel_rfl) (by kernel_rfl) (fun _ _ _ h => h) (Or.inl ⟨by rfl, ?_⟩) (by assumption) ?_
    rotate_left
    · intro w hSw
      go_simp
      try rfl
    simp only [Act.put, List.setIfInBounds_toArray, List.set_cons_zero, List.set_cons_succ, List.getElem_toArray, List.getElem_cons_succ, List.getElem_cons_zero]
    refine wpAnyH_take (i := 3) (v := ?_) rfl (by kernel_rfl) (by kernel_rfl) (by kernel_rfl) (fun _ _ _ h => h) (Or.inl ⟨by rfl, ?_⟩) (by assumption) ?_
    rotate_left
    · intro w hSw
      go_simp
      try rfl
    simp only [Act.put, List.setIfInBounds_toArray, List.set_cons_zero, List.set_cons_succ, List.getElem_toArray, List.getElem_cons_succ, List.getElem_cons_zero]
    refine wpAnyH_take (i := 4) (v := ?_) rfl (by kernel_rfl) (by kernel_rfl) (by kernel_rfl) (fun _ _ _ h => h) (Or.inl ⟨by rfl, ?_⟩) (by assumption) ?_
    rotate_left
    · intro w hSw
      go_simp
      try rfl
    simp only [Act.put, List.setIfInBounds_toArray, List.set_cons_zero, List.set_cons_succ, List.getElem_toArray, List.getElem_cons_succ, List.getElem_cons_zero]
    refine wpAnyH_take (i := 5) (v := ?_) rfl (by kernel_rfl) (by kernel_rfl) (by kernel_rfl) (fun _ _ _ h => h) (Or.inl ⟨by rfl, ?_⟩) (by assumption) ?_
    rotate_left
    · intro w hSw
      go_simp
      try rfl
    simp only [Act.put, List.setIfInBounds_toArray, List.set_cons_zero, List.set_cons_succ, List.getElem_toArray, List.getElem_cons_succ, List.getElem_cons_zero]
    refine wpAnyH_take (i := 6) (v := ?_) rfl (by kernel_rfl) (by kernel_rfl) (by kernel_rfl) (fun _ _ _ h => h) (Or.inl ⟨by rfl, ?_⟩) (by assumption) ?_
    rotate_left
    · intro w hSw
      go_simp
      try rfl
    simp only [Act.put, List.setIfInBounds_toArray, List.set_cons_zero, List.set_cons_succ, List.getElem_toArray, List.getElem_cons_succ, List.getElem_cons_zero]
    refine wpAnyH_take (i := 7) (v := ?_) rfl (by kernel_rfl) (by kernel_rfl) (by kernel_rfl) (fun _ _ _ h => h) (Or.inl ⟨by rfl, ?_⟩) (by assumption) ?_
    rotate_left
    · intro w hSw
      go_simp
      try rfl
    simp only [Act.put, List.setIfInBounds_toArray, List.set_cons_zero, List.set_cons_succ, List.getElem_toArray, List.getElem_cons_succ, List.getElem_cons_zero]
    refine wpAnyH_take (i := 8) (v := ?_) rfl (by kernel_rfl) (by kernel_rfl) (by kernel_rfl) (fun _ _ _ h => h) (Or.inl ⟨by rfl, ?_⟩) (by assumption) ?_
    rotate_left
    · intro w hSw
      go_simp
      try rfl
    simp only [Act.put, List.setIfInBounds_toArray, List.set_cons_zero, List.set_cons_succ, List.getElem_toArray, List.getElem_cons_succ, List.getElem_cons_zero]
    refine wpAnyH_take (i := 9) (v := ?_) rfl (by kernel_rfl) (by kernel_rfl) (by kernel_rfl) (fun _ _ _ h => h) (Or.inl ⟨by rfl, ?_⟩) (by assumption) ?_
    rotate_left
    · intro w hSw
      go_simp
      try rfl
    simp only [Act.put, List.setIfInBounds_toArray, List.set_cons_zero, List.set_cons_succ, List.getElem_toArray, List.getElem_cons_succ, List.getElem_cons_zero]
    refine wpAnyH_take (i := 10) (v := ?_) rfl (by kernel_rfl) (by kernel_rfl) (by kernel_rfl) (fun _ _ _ h => h) (Or.inl ⟨by rfl, ?_⟩) (by assumption) ?_
    rotate_left
    · intro w hSw
      go_simp
      try rfl
    simp only [Act.put, List.setIfInBounds_toArray, List.set_cons_zero, List.set_cons_succ, List.getElem_toArray, List.getElem_cons_succ, List.getElem_cons_zero]
    refine wpAnyH_take (i := 11) (v := ?_) rfl (by kernel_rfl) (by kernel_rfl) (by kernel_rfl) (fun _ _ _ h => h) (Or.inl ⟨by rfl, ?_⟩) (by assumption) ?_
    rotate_left
    · intro w hSw
      go_simp
      try rfl
    simp only [Act.put, List.setIfInBounds_toArray, List.set_cons_zero, List.set_cons_succ, List.getElem_toArray, List.getElem_cons_succ, List.getElem_cons_zero]
    refine wpAnyH_take (i := 12) (v := ?_) rfl (by kernel_rfl) (by kernel_rfl) (by kernel_rfl) (fun _ _ _ h => h) (Or.inl ⟨by rfl, ?_⟩) (by assumption) ?_
    rotate_left
    · intro w hSw
      go_simp
      try rfl
    simp only [Act.put, List.setIfInBounds_toArray, List.set_cons_zero, List.set_cons_succ, List.getElem_toArray, List.getElem_cons_succ, List.getElem_cons_zero]
    refine wpAnyH_take (i := 13) (v := undef) rfl (by kernel_rfl) (by kernel_rfl) (by kernel_rfl) (fun _ _ _ h => h) (Or.inr ⟨by rfl, rfl⟩) (by assumption) ?_
    simp only [Act.put, List.setIfInBounds_toArray, List.set_cons_zero, List.set_cons_succ, List.getElem_toArray, List.getElem_cons_succ, List.getElem_cons_zero]
    refine wpAnyH_take (i := 14) (v := undef) rfl (by kernel_rfl) (by kernel_rfl) (by kernel_rfl) (fun _ _ _ h => h) (Or.inr ⟨by rfl, rfl⟩) (by assumption) ?_
    simp only [Act.put, List.setIfInBounds_toArray, List.set_cons_zero, List.set_cons_succ, List.getElem_toArray, List.getElem_cons_succ, List.getElem_cons_zero]
    refine wpAnyH_take (i := 15) (v := undef) rfl (by kernel_rfl) (by kernel_rfl) (by kernel_rfl) (fun _ _ _ h => h) (Or.inr ⟨by rfl, rfl⟩) (by assumption) ?_
    simp only [Act.put, List.setIfInBounds_toArray, List.set_cons_zero, List.set_cons_succ, List.getElem_toArray, List.getElem_cons_succ, List.getElem_cons_zero]
    refine wpAnyH_take (i := 16) (v := undef) rfl (by kernel_rfl) (by kernel_rfl) (by kernel_rfl) (fun _ _ _ h => h) (Or.inr ⟨by rfl, rfl⟩) (by assumption) ?_
    simp only [Act.put, List.setIfInBounds_toArray, List.set_cons_zero, List.set_cons_succ, List.getElem_toArray, List.getElem_cons_succ, List.getElem_cons_zero]
    refine wpAnyH_take (i := 17) (v := undef) rfl (by kernel_rfl) (by kernel_rfl) (by kernel_rfl) (fun _ _ _ h => h) (Or.inr ⟨by rfl, rfl⟩) (by assumption) ?_
    simp only [Act.put, List.setIfInBounds_toArray, List.set_cons_zero, List.set_cons_succ, List.getElem_toArray, List.getElem_cons_succ, List.getElem_cons_zero]
    refine wpAnyH_take (i := 18) (v := undef) rfl (by kernel_rfl) (by kernel_rfl) (by kernel_rfl) (fun _ _ _ h => h) (Or.inr ⟨by rfl, rfl⟩) (by assumption) ?_
    simp only [Act.put, List.setIfInBounds_toArray, List.set_cons_zero, List.set_cons_succ, List.getElem_toArray, List.getElem_cons_succ, List.getElem_cons_zero]
    refine wpAnyH_take (i := 19) (v := undef) rfl (by kernel_rfl) (by kernel_rfl) (by kernel_rfl) (fun _ _ _ h => h) (Or.inr ⟨by rfl, rfl⟩) (by assumption) ?_
    simp only [Act.put, List.setIfInBounds_toArray, List.set_cons_zero, List.set_cons_succ, List.getElem_toArray, List.getElem_cons_succ, List.getElem_cons_zero]
    refine wpAnyH_take (i := 20) (v := undef) rfl (by kernel_rfl) (by kernel_rfl) (by kernel_rfl) (fun _ _ _ h => h) (Or.inr ⟨by rfl, rfl⟩) (by assumption) ?_
    simp only [Act.put, List.setIfInBounds_toArray, List.set_cons_zero, List.set_cons_succ, List.getElem_toArray, List.getElem_cons_succ, List.getElem_cons_zero]
    refine wpAnyH_take (i := 21) (v := undef) rfl (by kernel_rfl) (by kernel_rfl) (by kernel_rfl) (fun _ _ _ h => h) (Or.inr ⟨by rfl, rfl⟩) (by assumption) ?_
    simp only [Act.put, List.setIfInBounds_toArray, List.set_cons_zero, List.set_cons_succ, List.getElem_toArray, List.getElem_cons_succ, List.getElem_cons_zero]
    refine wpAnyH_take (i := 22) (v := undef) rfl (by kernel_rfl) (by kernel_rfl) (by kernel_rfl) (fun _ _ _ h => h) (Or.inr ⟨by rfl, rfl⟩) (by assumption) ?_
    simp only [Act.put, List.setIfInBounds_toArray, List.set_cons_zero, List.set_cons_succ, List.getElem_toArray, List.getElem_cons_succ, List.getElem_cons_zero]
    refine wpAnyH_take (i := 23) (v := undef) rfl (by kernel_rfl) (by kernel_rfl) (by kernel_rfl) (fun _ _ _ h => h) (Or.inr ⟨by rfl, rfl⟩) (by assumption) ?_
    simp only [Act.put, List.setIfInBounds_toArray, List.set_cons_zero, List.set_cons_succ, List.getElem_toArray, List.getElem_cons_succ, List.getElem_cons_zero]
    refine wpAnyH_take (i := 24) (v := undef) rfl (by kernel_rfl) (by kernel_rfl) (by kernel_rfl) (fun _ _ _ h => h) (Or.inr ⟨by rfl, rfl⟩) (by assumption) ?_
    simp only [Act.put, List.setIfInBounds_toArray, List.set_cons_zero, List.set_cons_succ, List.getElem_toArray, List.getElem_cons_succ, List.getElem_cons_zero]
    refine wpAnyH_take (i := 25) (v := undef) rfl (by kernel_rfl) (by kernel_rfl) (by kernel_rfl) (fun _ _ _ h => h) (Or.inr ⟨by rfl, rfl⟩) (by assumption) ?_
    simp only [Act.put, List.setIfInBounds_toArray, List.set_cons_zero, List.set_cons_succ, List.getElem_toArray, List.getElem_cons_succ, List.getElem_cons_zero]
    refine wpAnyH_take (i := 26) (v := ?_) rfl (by kernel_rfl) (by kernel_rfl) (by kernel_rfl) (fun _ _ _ h => h) (Or.inl ⟨by rfl, ?_⟩) (by assumption) ?_
    rotate_left
    · intro w hSw
      go_simp
      try rfl
    simp only [Act.put, List.setIfInBounds_toArray, List.set_cons_zero, List.set_cons_succ, List.getElem_toArray, List.getElem_cons_succ, List.getElem_cons_zero]
    refine wpAnyH_take (i := 27) (v := ?_) rfl (by kernel_rfl) (by kernel_rfl) (by kernel_rfl) (fun _ _ _ h => h) (Or.inl ⟨by rfl, ?_⟩) (by assumption) ?_
    rotate_left
    · intro w hSw
      go_simp
      try rfl
    simp only [Act.put, List.setIfInBounds_toArray, List.set_cons_zero, List.set_cons_succ, List.getElem_toArray, List.getElem_cons_succ, List.getElem_cons_zero]
    refine wpAnyH_take (i := 28) (v := ?_) rfl (by kernel_rfl) (by kernel_rfl) (by kernel_rfl) (fun _ _ _ h => h) (Or.inl ⟨by rfl, ?_⟩) (by assumption) ?_
    rotate_left
    · intro w hSw
      go_simp
      try rfl
    simp only [Act.put, List.setIfInBounds_toArray, List.set_cons_zero, List.set_cons_succ, List.getElem_toArray, List.getElem_cons_succ, List.getElem_cons_zero]
    refine wpAnyH_take (i := 29) (v := ?_) rfl (by kernel_rfl) (by kernel_rfl) (by kernel_rfl) (fun _ _ _ h => h) (Or.inl ⟨by rfl, ?_⟩) (by assumption) ?_
    rotate_left
    · intro w hSw
      go_simp
      try rfl
    simp only [Act.put, List.setIfInBounds_toArray, List.set_cons_zero, List.set_cons_succ, List.getElem_toArray, List.getElem_cons_succ, List.getElem_cons_zero]
    refine wpAnyH_take (i := 30) (v := ?_) rfl (by kernel_rfl) (by kernel_rfl) (by kernel_rfl) (fun _ _ _ h => h) (Or.inl ⟨by rfl, ?_⟩) (by assumption) ?_
    rotate_left
    · intro w hSw
      go_simp
      try rfl
    simp only [Act.put, List.setIfInBounds_toArray, List.set_cons_zero, List.set_cons_succ, List.getElem_toArray, List.getElem_cons_succ, List.getElem_cons_zero]
    refine wpAnyH_take (i := 31) (v := ?_) rfl (by kernel_rfl) (by kernel_rfl) (by kernel_rfl) (fun _ _ _ h => h) (Or.inl ⟨by rfl, ?_⟩) (by assumption) ?_
    rotate_left
    · intro w hSw
      go_simp
      try rfl
    simp only [Act.put, List.setIfInBounds_toArray, List.set_cons_zero, List.set_cons_succ, List.getElem_toArray, List.getElem_cons_succ, List.getElem_cons_zero]
    refine wpAnyH_take (i := 32) (v := ?_) rfl (by kernel_rfl) (by kernel_rfl) (by kernel_rfl) (fun _ _ _ h => h) (Or.inl ⟨by rfl, ?_⟩) (by assumption) ?_
    rotate_left
    · intro w hSw
      go_simp
      try rfl
    simp only [Act.put, List.setIfInBounds_toArray, List.set_cons_zero, List.set_cons_succ, List.getElem_toArray, List.getElem_cons_succ, List.getElem_cons_zero]
    refine wpAnyH_take (i := 33) (v := ?_) rfl (by kernel_rfl) (by kernel_rfl) (by kernel_rfl) (fun _ _ _ h => h) (Or.inl ⟨by rfl, ?_⟩) (by assumption) ?_
    rotate_left
    · intro w hSw
      go_simp
      try rfl
    simp only [Act.put, List.setIfInBounds_toArray, List.set_cons_zero, List.set_cons_succ, List.getElem_toArray, List.getElem_cons_succ, List.getElem_cons_zero]
    refine wpAnyH_take (i := 34) (v := ?_) rfl (by kernel_rfl) (by kernel_rfl) (by kernel_rfl) (fun _ _ _ h => h) (Or.inl ⟨by rfl, ?_⟩) (by assumption) ?_
    rotate_left
    · intro w hSw
      go_simp
      try rfl
    simp only [Act.put, List.setIfInBounds_toArray, List.set_cons_zero, List.set_cons_succ, List.getElem_toArray, List.getElem_cons_succ, List.getElem_cons_zero]
    refine wpAnyH_take (i := 35) (v := ?_) rfl (by kernel_rfl) (by kernel_rfl) (by kernel_rfl) (fun _ _ _ h => h) (Or.inl ⟨by rfl, ?_⟩) (by assumption) ?_
    rotate_left
    · intro w hSw
      go_simp
      try rfl
    simp only [Act.put, List.setIfInBounds_toArray, List.set_cons_zero, List.set_cons_succ, List.getElem_toArray, List.getElem_cons_succ, List.getElem_cons_zero]
    refine wpAnyH_take (i := 36) (v := ?_) rfl (by kernel_rfl) (by kernel_rfl) (by kernel_rfl) (fun _ _ _ h => h) (Or.inl ⟨by rfl, ?_⟩) (by assumption) ?_
    rotate_left
    · intro w hSw
      go_simp
      try rfl
    simp only [Act.put, List.setIfInBounds_toArray, List.set_cons_zero, List.set_cons_succ, List.getElem_toArray, List.getElem_cons_succ, List.getElem_cons_zero]
    refine wpAnyH_done (by kernel_rfl) ?_ _
    clear hHeld
    go_wp2_with fail
    go_ret
    exact ⟨by rw [HV2.out, HVD.out]; try rfl, HB2.out.drew⟩
end Go.Proofs.Ytjnmcadfaombjaa

/- Walks: the document's whole of a row or a map. -/
namespace Go.Proofs.Ytjnmcadfaombjaa
open Go.RowKit
set_option linter.unusedVariables false
set_option linter.unusedSimpArgs false
set_option linter.constructorNameAsVariable false
set_option maxRecDepth 100000 in
set_option maxHeartbeats 8000000 in
theorem whole_rest (q : Nat) (t : List UInt8) (ks : List (List UInt8)) (ns : List Node) (hF : ∀ (j : Nat) (n : Node), ns[j]? = some n → WholeC n) (q34 : q ≠ 34) (q48 : q ≠ 48) (q97 : q ≠ 97) : WholeC (.mk q t ks ns) := by
  intro ok a b c e w hn hs
  unfold NodeA at hn
  obtain ⟨kv, nv, cs, hv, h1, h2, h3⟩ := hn
  simp only [Value.agg.injEq, Array.mk.injEq, List.cons.injEq, and_true] at hv
  obtain ⟨rfl, rfl, rfl, rfl⟩ := hv
  have hT := TxtA.of h1
  obtain ⟨o1, c1, rfl⟩ := rowA_len h1
  obtain ⟨o2, c2, rfl⟩ := rowA_len h2
  unfold SmallN at hs
  obtain ⟨s1, s2, s3, s4, s5⟩ := hs
  have HS2 := Lib.hid s2
  have HSm := Lib.hid s5
  have HF := Lib.hid hF
  have HR := Lib.hid h2
  have HKd := Lib.hid h3
  have hxs : (strOf t).size = t.length := strOf_size t
  have HP := Lib.hid (fun w => ris_any (strOf t) w (by rw [strOf_size]; omega))
  have HNX : 0 < t.length → Hid (∀ w, Calls Try.prog 44 #[.string (strOf t), .int .i64 0] w fun e w' => e = .returned (.int .i64 (numI (numE t 0))) ∧ w = w') := fun h0 w => by
    have := rnumber_any (strOf t) 0 w (by rw [strOf_size]; omega) (by rw [strOf_size]; omega)
    rw [strOf_list] at this
    exact this
  rw [strOf_list] at HP
  have HV : Hid (wholeN (.mk q t ks ns) = (good t && (if q = 34 ∨ q = 48 ∨ q = 97 then leafB q t ks ns else shapeB q t ks ns && (ks.all fun k => good k) && wholeL ns))) := by show _ = _; rw [wholeN]
  have e1 : (IntKind.i64.wrap ((ks.length : Int) + (ns.length : Int)) == 0) = decide (ks.length + ns.length = 0) := by rw [IntWalk.i64_in _ (by omega)]; exact sum_zero _ _
  have e2 := str_nil t
  have e3 := str_nil2 t
  have w1 := str_word t [116, 114, 117, 101]
  have w2 := str_word t [102, 97, 108, 115, 101]
  have w3 := str_word t [110, 117, 108, 108]
  have hB0 := (Below.refl w.heap.size w).alloc (Nat.le_refl _) (.cells #[.int .u8 q, .string (strOf t), .slice o1 ks.length c1, .slice o2 ns.length c2] 44)
  have HB0 := Lib.hid hB0
  have HN0 := Lib.hid (Blk.new w 44 #[.int .u8 q, .string (strOf t), .slice o1 ks.length c1, .slice o2 ns.length c2])
  have HT0 := Lib.hid (txtA_below hT hB0)
  obtain ⟨et, het⟩ : ∃ et, decide (t = []) = et := ⟨_, rfl⟩
  rw [het] at e2 e3
  have HET := Lib.hid het
  clear h1 h2 h3 hF s2 s5 hT hB0 het
  generalize strOf t = x at *
  go_enter Try.func33, Try.ntmps33
  go_upto_region 1 with fail
  generalize w.alloc (.cells #[.int .u8 q, .string x, .slice o1 ks.length c1, .slice o2 ns.length c2] 44) = W0 at *
  have n1 := HN0.out.cell 1
  go_wp2_with fail
  refine (HP.out _).mono ?_
  rintro e W2 ⟨rfl, b2⟩
  have HN2 := Lib.hid (HN0.out.below b2 HN0.out.lt)
  have HB2 := Lib.hid (HB0.out.trans (b2.mono HB0.out.size))
  have HT2 := Lib.hid (txtA_below HT0.out (b2.mono (Nat.le_refl _)))
  clear n1 b2 HN0 HB0 HT0 HP
  have n0 := HN2.out.cell 0
  have n1 := HN2.out.cell 1
  have n2 := HN2.out.cell 2
  have n3 := HN2.out.cell 3
  cases hg : good t
  · have HV2 : Hid (wholeN (.mk q t ks ns) = false) := by show _ = _; rw [HV.out, hg]; rfl
    clear HV
    go_wp2_with fail
    go_ret
    exact ⟨by rw [HV2.out]; rfl, HB2.out⟩
  rw [hg, Bool.true_and] at HV
  have c34 : ((q : Int) == 34) = false := by simp; omega
  have c48 : ((q : Int) == 48) = false := by simp; omega
  have c97 : ((q : Int) == 97) = false := by simp; omega
  have HV3 : Hid (wholeN (.mk q t ks ns) = (shapeB q t ks ns && (ks.all fun k => good k) && wholeL ns)) := by show _ = _; rw [HV.out, if_neg (by omega)]
  clear HV hg w1 w2 w3 e1 HNX
  by_cases q91 : q = 91
  · subst q91
    cases et
    · have HV4 : Hid (wholeN (.mk 91 t ks ns) = false) := by show _ = _; rw [HV3.out, show shapeB 91 t ks ns = false from by unfold shapeB; rw [HET.out]; rfl]; rfl
      clear HV3 HF HR HKd HSm
      go_wp2_with fail
      go_ret
      exact ⟨by rw [HV4.out]; try rfl, HB2.out⟩
    · by_cases hk0 : ks.length = 0
      · have hsh : shapeB 91 t ks ns = true := by unfold shapeB; rw [HET.out, hk0]; rfl
        have hk1 : decide (0 < ks.length) = false := decide_eq_false (by omega)
        clear hk0
        have HV5 : Hid (wholeN (.mk 91 t ks ns) = ((ks.all fun k => good k) && wholeL ns)) := by show _ = _; rw [HV3.out, hsh, Bool.true_and]
        clear HV3 hsh
        have HW2 := HN2.out.lt
        go_upto_region 8 with fail
        clear hk1
        go_wp2_with fail
        go_loopw [4] (fun z wr => ∃ i : Nat, z = .int .i64 i ∧ i ≤ ks.length ∧ (∀ (j : Nat) (u : List UInt8), j < i → ks[j]? = some u → good u = true) ∧ Below W2.heap.size W2 wr) (fun z _ => ks.length - (intOf z).toNat)
        case atStart => exact ⟨0, rfl, Nat.zero_le _, fun j u hj => by omega, Below.refl _ _⟩
        case round =>
          obtain ⟨i, rfl, hi, hs, hb⟩ := hrel
          have HS := Lib.hid hs
          have HB := Lib.hid hb
          have HNr := HN2.out.below hb HW2
          have x2 := HNr.cell 2
          clear hs n0 n1 n2 n3
          by_cases hlt : i < ks.length
          · obtain ⟨u, hu⟩ : ∃ u, ks[i]? = some u := ⟨_, List.getElem?_eq_getElem hlt⟩
            obtain ⟨ao, cap, hv, hc⟩ := txtA_below HT2.out hb
            obtain ⟨g, o, rfl, hg, d1⟩ := hc i u hu
            simp only [Value.slice.injEq] at hv
            obtain ⟨rfl, _, rfl⟩ := hv
            have HU := Lib.hid hu
            have hus : (strOf u).size = u.length := strOf_size u
            have hul := HS2.out u (List.mem_of_getElem? hu)
            have HI := Lib.hid (ris_any (strOf u) wr (by omega))
            rw [strOf_list] at HI
            generalize strOf u = y at *
            obtain ⟨gu, hgu⟩ : ∃ gu, good u = gu := ⟨_, rfl⟩
            rw [hgu] at HI
            have HGU := Lib.hid hgu
            clear hc hu hb hgu hus HNr
            go_wp2_with fail
            refine HI.out.mono ?_
            rintro e w5 ⟨rfl, k5⟩
            cases gu
            · have HV6 : Hid (wholeN (.mk 91 t ks ns) = false) := by
                show _ = _
                rw [HV5.out]
                have : (ks.all fun k => good k) = false := by
                  rw [Bool.eq_false_iff]; intro h
                  have h2 := List.all_eq_true.1 h u (List.mem_of_getElem? HU.out)
                  rw [HGU.out] at h2; cases h2
                rw [this]; rfl
              go_wp2_with fail
              go_ret
              exact ⟨by rw [HV6.out]; rfl, HB2.out.trans ((HB.out.trans (k5.mono HB.out.size)).mono HB2.out.size)⟩
            · go_wp2_with fail
              go_roundw
              case rel =>
                refine ⟨i + 1, by go_num, hlt, fun j v hj hv => ?_, HB.out.trans (k5.mono HB.out.size)⟩
                rcases Nat.lt_or_ge j i with h | h
                · exact HS.out j v h hv
                · obtain rfl : j = i := by omega
                  rw [HU.out] at hv; cases hv; exact HGU.out
              case measure => simp [intOf]; omega
          · have HV6 : Hid (wholeN (.mk 91 t ks ns) = wholeL ns) := by
              show _ = _
              rw [HV5.out]
              have : (ks.all fun k => good k) = true := by
                rw [List.all_eq_true]
                intro k hk
                obtain ⟨j, hj⟩ := List.getElem?_of_mem hk
                exact HS.out j k (by have := (List.getElem?_eq_some_iff.1 hj).1; omega) hj
              rw [this]; rfl
            have hwr := HNr.lt
            have x3 := HNr.cell 3
            have HNR := Lib.hid HNr
            have HB3 := Lib.hid (HB2.out.trans (hb.mono HB2.out.size))
            clear hb HNr
            go_wp2_with fail
            go_loopw [5] (fun z w6 => ∃ i : Nat, z = .int .i64 i ∧ i ≤ ns.length ∧ (∀ (j : Nat) (n : Node), j < i → ns[j]? = some n → wholeN n = true) ∧ Below wr.heap.size wr w6) (fun z _ => ns.length - (intOf z).toNat)
            case atStart => exact ⟨0, rfl, Nat.zero_le _, fun j n hj => by omega, Below.refl _ _⟩
            case round =>
              rename_i w6
              obtain ⟨i, rfl, hi2, hs, hb⟩ := hrel
              have HS3 := Lib.hid hs
              have HB4 := Lib.hid hb
              have hN6 := HNR.out.below hb hwr
              have y3 := hN6.cell 3
              clear hs x2 x3
              by_cases hlt2 : i < ns.length
              · obtain ⟨n, hn⟩ : ∃ n, ns[i]? = some n := ⟨_, List.getElem?_eq_getElem hlt2⟩
                have hbw := HB3.out.trans (hb.mono HB3.out.size)
                obtain ⟨g, o, _, e0, e1, e2', e3', hv, p0, p1, p2, p3, hNn⟩ := kidA_at HR.out HKd.out hn hbw
                simp only [Value.slice.injEq] at hv
                obtain ⟨rfl, _, rfl⟩ := hv
                have HC := Lib.hid (HF.out i n hn ok e0 e1 e2' e3' _ hNn (HSm.out.at hn))
                obtain ⟨gn, hgn⟩ : ∃ gn, wholeN n = gn := ⟨_, rfl⟩
                rw [hgn] at HC
                have HGN := Lib.hid hgn
                have HNN := Lib.hid hn
                clear hn hNn hbw hb hgn hN6
                go_wp2_with fail
                refine HC.out.mono ?_
                rintro e w7 ⟨rfl, k7⟩
                have HB7 := Lib.hid (HB4.out.trans (k7.mono HB4.out.size))
                cases gn
                · have HV7 : Hid (wholeN (.mk 91 t ks ns) = false) := by
                    show _ = _
                    rw [HV6.out, Bool.eq_false_iff]
                    intro h
                    have h2 := wholeL_at.1 h i n HNN.out
                    rw [HGN.out] at h2; cases h2
                  go_wp2_with fail
                  go_ret
                  exact ⟨by rw [HV7.out]; rfl, HB3.out.trans (HB7.out.mono HB3.out.size)⟩
                · go_wp2_with fail
                  go_roundw
                  case rel =>
                    refine ⟨i + 1, by go_num, hlt2, fun j m hj hm => ?_, HB7.out⟩
                    rcases Nat.lt_or_ge j i with h | h
                    · exact HS3.out j m h hm
                    · obtain rfl : j = i := by omega
                      rw [HNN.out] at hm; cases hm; exact HGN.out
                  case measure => simp [intOf]; omega
              · have HV7 : Hid (wholeN (.mk 91 t ks ns) = true) := by
                  show _ = _
                  rw [HV6.out]
                  exact wholeL_at.2 fun j n hj => HS3.out j n (by have := (List.getElem?_eq_some_iff.1 hj).1; omega) hj
                clear hN6 hb
                go_wp2_with fail
                go_ret
                exact ⟨by rw [HV7.out]; rfl, HB3.out.trans (HB4.out.mono HB3.out.size)⟩
      · have hk1 : decide (0 < ks.length) = true := decide_eq_true (by omega)
        have HV4 : Hid (wholeN (.mk 91 t ks ns) = false) := by show _ = _; rw [HV3.out, show shapeB 91 t ks ns = false from by unfold shapeB; rw [decide_eq_false hk0]; simp]; rfl
        clear HV3 HF HR HKd HSm
        go_wp2_with fail
        go_ret
        exact ⟨by rw [HV4.out]; try rfl, HB2.out⟩
  have c91 : ((q : Int) != 91) = true := by simp; omega
  have c91b : ((q : Int) == 91) = false := by simp; omega
  by_cases q123 : q = 123
  · subst q123
    cases et
    · have HV4 : Hid (wholeN (.mk 123 t ks ns) = false) := by show _ = _; rw [HV3.out, show shapeB 123 t ks ns = false from by unfold shapeB; rw [HET.out]; rfl]; rfl
      clear HV3 HF HR HKd HSm
      go_wp2_with fail
      go_ret
      exact ⟨by rw [HV4.out]; try rfl, HB2.out⟩
    · by_cases hkl : ks.length = ns.length
      · have hsh : shapeB 123 t ks ns = true := by unfold shapeB; rw [HET.out, hkl]; simp
        have hk1 : ((ks.length : Int) != (ns.length : Int)) = false := by simp [hkl]
        clear hkl
        have HV5 : Hid (wholeN (.mk 123 t ks ns) = ((ks.all fun k => good k) && wholeL ns)) := by show _ = _; rw [HV3.out, hsh, Bool.true_and]
        clear HV3 hsh
        have HW2 := HN2.out.lt
        go_upto_region 8 with fail
        clear hk1
        go_wp2_with fail
        go_loopw [4] (fun z wr => ∃ i : Nat, z = .int .i64 i ∧ i ≤ ks.length ∧ (∀ (j : Nat) (u : List UInt8), j < i → ks[j]? = some u → good u = true) ∧ Below W2.heap.size W2 wr) (fun z _ => ks.length - (intOf z).toNat)
        case atStart => exact ⟨0, rfl, Nat.zero_le _, fun j u hj => by omega, Below.refl _ _⟩
        case round =>
          obtain ⟨i, rfl, hi, hs, hb⟩ := hrel
          have HS := Lib.hid hs
          have HB := Lib.hid hb
          have HNr := HN2.out.below hb HW2
          have x2 := HNr.cell 2
          clear hs n0 n1 n2 n3
          by_cases hlt : i < ks.length
          · obtain ⟨u, hu⟩ : ∃ u, ks[i]? = some u := ⟨_, List.getElem?_eq_getElem hlt⟩
            obtain ⟨ao, cap, hv, hc⟩ := txtA_below HT2.out hb
            obtain ⟨g, o, rfl, hg, d1⟩ := hc i u hu
            simp only [Value.slice.injEq] at hv
            obtain ⟨rfl, _, rfl⟩ := hv
            have HU := Lib.hid hu
            have hus : (strOf u).size = u.length := strOf_size u
            have hul := HS2.out u (List.mem_of_getElem? hu)
            have HI := Lib.hid (ris_any (strOf u) wr (by omega))
            rw [strOf_list] at HI
            generalize strOf u = y at *
            obtain ⟨gu, hgu⟩ : ∃ gu, good u = gu := ⟨_, rfl⟩
            rw [hgu] at HI
            have HGU := Lib.hid hgu
            clear hc hu hb hgu hus HNr
            go_wp2_with fail
            refine HI.out.mono ?_
            rintro e w5 ⟨rfl, k5⟩
            cases gu
            · have HV6 : Hid (wholeN (.mk 123 t ks ns) = false) := by
                show _ = _
                rw [HV5.out]
                have : (ks.all fun k => good k) = false := by
                  rw [Bool.eq_false_iff]; intro h
                  have h2 := List.all_eq_true.1 h u (List.mem_of_getElem? HU.out)
                  rw [HGU.out] at h2; cases h2
                rw [this]; rfl
              go_wp2_with fail
              go_ret
              exact ⟨by rw [HV6.out]; rfl, HB2.out.trans ((HB.out.trans (k5.mono HB.out.size)).mono HB2.out.size)⟩
            · go_wp2_with fail
              go_roundw
              case rel =>
                refine ⟨i + 1, by go_num, hlt, fun j v hj hv => ?_, HB.out.trans (k5.mono HB.out.size)⟩
                rcases Nat.lt_or_ge j i with h | h
                · exact HS.out j v h hv
                · obtain rfl : j = i := by omega
                  rw [HU.out] at hv; cases hv; exact HGU.out
              case measure => simp [intOf]; omega
          · have HV6 : Hid (wholeN (.mk 123 t ks ns) = wholeL ns) := by
              show _ = _
              rw [HV5.out]
              have : (ks.all fun k => good k) = true := by
                rw [List.all_eq_true]
                intro k hk
                obtain ⟨j, hj⟩ := List.getElem?_of_mem hk
                exact HS.out j k (by have := (List.getElem?_eq_some_iff.1 hj).1; omega) hj
              rw [this]; rfl
            have hwr := HNr.lt
            have x3 := HNr.cell 3
            have HNR := Lib.hid HNr
            have HB3 := Lib.hid (HB2.out.trans (hb.mono HB2.out.size))
            clear hb HNr
            go_wp2_with fail
            go_loopw [5] (fun z w6 => ∃ i : Nat, z = .int .i64 i ∧ i ≤ ns.length ∧ (∀ (j : Nat) (n : Node), j < i → ns[j]? = some n → wholeN n = true) ∧ Below wr.heap.size wr w6) (fun z _ => ns.length - (intOf z).toNat)
            case atStart => exact ⟨0, rfl, Nat.zero_le _, fun j n hj => by omega, Below.refl _ _⟩
            case round =>
              rename_i w6
              obtain ⟨i, rfl, hi2, hs, hb⟩ := hrel
              have HS3 := Lib.hid hs
              have HB4 := Lib.hid hb
              have hN6 := HNR.out.below hb hwr
              have y3 := hN6.cell 3
              clear hs x2 x3
              by_cases hlt2 : i < ns.length
              · obtain ⟨n, hn⟩ : ∃ n, ns[i]? = some n := ⟨_, List.getElem?_eq_getElem hlt2⟩
                have hbw := HB3.out.trans (hb.mono HB3.out.size)
                obtain ⟨g, o, _, e0, e1, e2', e3', hv, p0, p1, p2, p3, hNn⟩ := kidA_at HR.out HKd.out hn hbw
                simp only [Value.slice.injEq] at hv
                obtain ⟨rfl, _, rfl⟩ := hv
                have HC := Lib.hid (HF.out i n hn ok e0 e1 e2' e3' _ hNn (HSm.out.at hn))
                obtain ⟨gn, hgn⟩ : ∃ gn, wholeN n = gn := ⟨_, rfl⟩
                rw [hgn] at HC
                have HGN := Lib.hid hgn
                have HNN := Lib.hid hn
                clear hn hNn hbw hb hgn hN6
                go_wp2_with fail
                refine HC.out.mono ?_
                rintro e w7 ⟨rfl, k7⟩
                have HB7 := Lib.hid (HB4.out.trans (k7.mono HB4.out.size))
                cases gn
                · have HV7 : Hid (wholeN (.mk 123 t ks ns) = false) := by
                    show _ = _
                    rw [HV6.out, Bool.eq_false_iff]
                    intro h
                    have h2 := wholeL_at.1 h i n HNN.out
                    rw [HGN.out] at h2; cases h2
                  go_wp2_with fail
                  go_ret
                  exact ⟨by rw [HV7.out]; rfl, HB3.out.trans (HB7.out.mono HB3.out.size)⟩
                · go_wp2_with fail
                  go_roundw
                  case rel =>
                    refine ⟨i + 1, by go_num, hlt2, fun j m hj hm => ?_, HB7.out⟩
                    rcases Nat.lt_or_ge j i with h | h
                    · exact HS3.out j m h hm
                    · obtain rfl : j = i := by omega
                      rw [HNN.out] at hm; cases hm; exact HGN.out
                  case measure => simp [intOf]; omega
              · have HV7 : Hid (wholeN (.mk 123 t ks ns) = true) := by
                  show _ = _
                  rw [HV6.out]
                  exact wholeL_at.2 fun j n hj => HS3.out j n (by have := (List.getElem?_eq_some_iff.1 hj).1; omega) hj
                clear hN6 hb
                go_wp2_with fail
                go_ret
                exact ⟨by rw [HV7.out]; rfl, HB3.out.trans (HB4.out.mono HB3.out.size)⟩
      · have hk1 : ((ks.length : Int) != (ns.length : Int)) = true := by simp; omega
        have HV4 : Hid (wholeN (.mk 123 t ks ns) = false) := by show _ = _; rw [HV3.out, show shapeB 123 t ks ns = false from by unfold shapeB; rw [decide_eq_false hkl]; simp]; rfl
        clear HV3 HF HR HKd HSm
        go_wp2_with fail
        go_ret
        exact ⟨by rw [HV4.out]; try rfl, HB2.out⟩
  have c123 : ((q : Int) != 123) = true := by simp; omega
  have HV4 : Hid (wholeN (.mk q t ks ns) = false) := by show _ = _; rw [HV3.out, show shapeB q t ks ns = false from by unfold shapeB; rw [decide_eq_false q91, decide_eq_false q123]; simp]; rfl
  clear HV3 HF HR HKd HSm
  go_wp2_with fail
  go_ret
  exact ⟨by rw [HV4.out]; try rfl, HB2.out⟩
end Go.Proofs.Ytjnmcadfaombjaa
