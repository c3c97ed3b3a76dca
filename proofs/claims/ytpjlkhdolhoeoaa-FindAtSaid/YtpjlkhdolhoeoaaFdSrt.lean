/- Walks: the hits in order (find.Hits, chapter 03). -/
import Derived.Test.YtpjlkhdolhoeoaaFdUse
namespace Go.Proofs.Ytpjlkhdolhoeoaa
open Go.Shelf Go.RowKit Go.Lib Go.Sort Go.Maps
set_option linter.unusedVariables false
set_option linter.unusedSimpArgs false
def orI (x y : Int) : Int := if x = 0 then y else x
set_option maxRecDepth 100000 in
set_option maxHeartbeats 2000000 in
theorem forOr (x y : Int) (b : Nat) (w : World) (c0 : w.cell? ⟨b, 0, none⟩ = some (.int .i64 x)) (c1 : w.cell? ⟨b, 1, none⟩ = some (.int .i64 y)) :
    Calls Try.prog 33 #[.slice (some ⟨b, 0, none⟩) 2 2] w fun e w' => e = .returned (.int .i64 (orI x y)) ∧ w = w' := by
  unfold orI
  by_cases hx : x = 0
  · subst hx
    by_cases hy : y = 0
    · subst hy
      go_enter Try.func33, Try.ntmps33
      go_wp2_with fail
      refine wp_loop_rounds 3 ?_
      rw [rounds_succ]
      go_wp2_with fail
      rw [rounds_succ]
      go_wp2_with fail
      rw [rounds_succ]
      go_wp2_with fail
      go_ret
      exact ⟨rfl, rfl⟩
    · go_enter Try.func33, Try.ntmps33
      go_wp2_with fail
      refine wp_loop_rounds 3 ?_
      rw [rounds_succ]
      go_wp2_with fail
      rw [rounds_succ]
      go_wp2_with fail
      go_ret
      exact ⟨rfl, rfl⟩
  · go_enter Try.func33, Try.ntmps33
    go_wp2_with fail
    refine wp_loop_rounds 3 ?_
    rw [rounds_succ]
    go_wp2_with fail
    go_ret
    exact ⟨rfl, rfl⟩
def cmpH (x y : Nat × Nat) : Int := orI (Lib.compareInt (x.1 : Int) (y.1 : Int)) (Lib.compareInt (x.2 : Int) (y.2 : Int))
set_option maxRecDepth 100000 in
set_option maxHeartbeats 4000000 in
theorem cmpHit (x y : Nat × Nat) (W : World) : Calls Try.prog 32 #[.agg (hitV x).toArray, .agg (hitV y).toArray] W fun e w' => e = .returned (.int .i64 (cmpH x y)) ∧ ∃ q os', w' = grow (W.drewN q) os' := by
  obtain ⟨x1, x2⟩ := x
  obtain ⟨y1, y2⟩ := y
  have h1 := cmpW
  simp only [hitV, cmpH]
  generalize Lib.compareInt = cf at h1 ⊢
  have H1 := Lib.hid h1
  have HO := Lib.hid (forOr (cf x1 y1) (cf x2 y2))
  clear h1
  go_enter Try.func32, Try.ntmps32
  go_upto_region 1 with fail
  obtain ⟨A1, hA1⟩ : ∃ o : Obj, o = .cells #[.int .i64 (x1 : Int), .int .i64 (x2 : Int)] 45 := ⟨_, rfl⟩
  obtain ⟨A2, hA2⟩ : ∃ o : Obj, o = .cells #[.int .i64 (y1 : Int), .int .i64 (y2 : Int)] 45 := ⟨_, rfl⟩
  rw [← hA1, ← hA2]
  have k1 : Blk ((W.alloc A1).alloc A2) W.heap.size 45 #[.int .i64 (x1 : Int), .int .i64 (x2 : Int)] := by rw [hA1]; exact (Blk.new W _ _).alloc _
  have k2 : Blk ((W.alloc A1).alloc A2) (W.heap.size + 1) 45 #[.int .i64 (y1 : Int), .int .i64 (y2 : Int)] := by
    rw [hA2]
    have := Blk.new (W.alloc A1) 45 #[.int .i64 (y1 : Int), .int .i64 (y2 : Int)]
    rwa [show (W.alloc A1).heap.size = W.heap.size + 1 by simp] at this
  have HW := Lib.hid (show (W.alloc A1).alloc A2 = grow W (#[A1] ++ #[A2]) by rw [alloc_eq_grow, alloc_eq_grow, grow_grow])
  clear hA1 hA2
  generalize (W.alloc A1).alloc A2 = W2 at k1 k2 HW ⊢
  have HC := Lib.hid (And.intro (k1.cell 0) (And.intro (k1.cell 1) (And.intro (k2.cell 0) (k2.cell 1))))
  have hn := Blk.new W2 3 #[.int .i64 (cf x1 y1), .int .i64 (cf x2 y2)]
  have HN := Lib.hid (And.intro (hn.cell 0) (hn.cell 1))
  have HK := Lib.hid (And.intro ((k1.alloc (.cells #[.int .i64 (cf x1 y1), .int .i64 (cf x2 y2)] 3)).cell 0) (And.intro ((k1.alloc (.cells #[.int .i64 (cf x1 y1), .int .i64 (cf x2 y2)] 3)).cell 1) (And.intro ((k2.alloc (.cells #[.int .i64 (cf x1 y1), .int .i64 (cf x2 y2)] 3)).cell 0) ((k2.alloc (.cells #[.int .i64 (cf x1 y1), .int .i64 (cf x2 y2)] 3)).cell 1))))
  clear k1 k2 hn
  go_region_held3 (fun w' => w'.cell? ⟨W.heap.size, 0, none⟩ = some (.int .i64 (x1 : Int)) ∧ w'.cell? ⟨W.heap.size, 1, none⟩ = some (.int .i64 (x2 : Int)) ∧ w'.cell? ⟨W.heap.size + 1, 0, none⟩ = some (.int .i64 (y1 : Int)) ∧ w'.cell? ⟨W.heap.size + 1, 1, none⟩ = some (.int .i64 (y2 : Int)))
    (first | exact HC.out | exact HK.out)
    (first
      | (go_at_call 34; refine (H1.out _ _ _).mono ?_; rintro e w8 ⟨rfl, rfl⟩)
      | (go_at_call 33; refine (HO.out _ _ (by exact HN.out.1) (by exact HN.out.2)).mono ?_; rintro e w8 ⟨rfl, rfl⟩))
  go_wp2_with fail
  go_ret
  exact ⟨rfl, 1, _, by rw [HW.out]; simp only [alloc_eq_grow, grow_grow]; rfl⟩
theorem ltOf_cmpH (x y : Nat × Nat) : ltOf cmpH x y = true ↔ ltH x y := by
  unfold ltOf cmpH orI ltH Lib.compareInt
  simp only [decide_eq_true_eq]
  by_cases h1 : (x.1 : Int) < (y.1 : Int)
  · rw [if_pos h1]; simp; omega
  · rw [if_neg h1]
    by_cases h2 : (y.1 : Int) < (x.1 : Int)
    · rw [if_pos h2]; simp; omega
    · rw [if_neg h2]
      rw [if_pos rfl]
      by_cases h3 : (x.2 : Int) < (y.2 : Int)
      · rw [if_pos h3]; simp; omega
      · rw [if_neg h3]
        by_cases h4 : (y.2 : Int) < (x.2 : Int)
        · rw [if_pos h4]; simp; omega
        · rw [if_neg h4]; simp; omega
theorem ltOf_cmpH' (x y : Nat × Nat) : ltOf cmpH x y = false ↔ ¬ ltH x y := by
  rw [← ltOf_cmpH]; simp
theorem swoH : SWO (ltOf cmpH) where
  irrefl x := by rw [ltOf_cmpH']; unfold ltH; omega
  trans x y z h1 h2 := by rw [ltOf_cmpH] at *; unfold ltH at *; omega
  ntrans x y z h1 h2 := by rw [ltOf_cmpH'] at *; unfold ltH at *; omega
theorem eg32 : ∀ args w, (callFunc 32 args).run Try.prog w = .ok (.enter 32 args) w := enters_of Try.func32 (by kernel_rfl) rfl
theorem eg30 : ∀ args w, (callFunc 30 args).run Try.prog w = .ok (.enter 30 args) w := enters_of Try.func30 (by kernel_rfl) rfl
theorem sortHits {w : World} {base : Nat} {v : Value} {l : List (Nat × Nat)} (h : w.ownsRow base 45 2 v l.length (hitG l)) (hsz : l.length < 4611686018427387904) :
    Calls Try.prog 31 #[v, .func (.func 32) #[] #[]] w fun e w' =>
      e = .returned (.tuple #[]) ∧ ∃ l' : List (Nat × Nat), l'.Perm l ∧ (l'.Pairwise fun a b => ¬ ltH b a) ∧ w'.ownsRow base 45 2 v l'.length (hitG l') ∧ w.grownBy w' v.ownBlock := by
  rcases h.2 with ⟨rfl, h0⟩ | ⟨g, cap, cur, rfl, _⟩
  · have he : l = [] := List.length_eq_zero_iff.1 h0
    subst he
    have hc := AnyF.slices_SortFunc_none Try.sortHit none 0 (.func (.func 32) #[] #[]) w
    change Calls Try.prog 31 _ _ _ at hc
    refine hc.mono ?_
    rintro e w' ⟨rfl, rfl⟩
    exact ⟨rfl, [], List.Perm.refl _, List.Pairwise.nil, h, ⟨rfl, rfl, rfl, Nat.le_refl _, fun _ _ _ => rfl⟩⟩
  · have hk2 : ∀ x : Nat × Nat, (hitV x).length = 2 := fun _ => rfl
    obtain ⟨hH, hg⟩ := holdsK_own (enc := hitV) hk2 (by omega) h
    have hc : CmpLays Try.prog 32 #[] hitV 2 cmpH g 0 l.toArray.size w := fun _ _ _ _ x y => cmpHit x y _
    have hcon := AnyQ.slices_SortFunc Try.sortHit 2 Try.isAgg45 Try.sizeOf45 hitV hk2 hitV_one cmpH swoH 32 #[] g 0 cap l.toArray w eg32 hc hH hg (by simpa using hsz)
    change Calls Try.prog 31 _ _ _ at hcon
    simp only [List.size_toArray] at hcon
    refine hcon.mono ?_
    rintro e w' ⟨rfl, d', m, os, hp, hs, rfl⟩
    have hp2 := permIn_perm (d := l.toArray) (by rw [List.size_toArray]; exact hp)
    have hsz2 : d'.size = l.length := by simpa using hp.1
    refine ⟨rfl, d'.toList, by simpa using hp2, ?_, ?_, ?_⟩
    · have := sortedIn_pair (d := d') (by rw [hsz2]; exact hs)
      exact this.imp fun {a b} hab => (ltOf_cmpH' _ _).1 hab
    · have := ownK_sorted hk2 (by omega) (n := m) (os := os) (l := l) (ts := d'.toList) (by simpa using hsz2) h
      rw [show l.length = d'.toList.length by simpa using hsz2.symm]
      rw [show d'.toList.toArray = d' by simp] at this
      exact this
    · exact grownByK (enc := hitV) (k := 2) d'
end Go.Proofs.Ytpjlkhdolhoeoaa
