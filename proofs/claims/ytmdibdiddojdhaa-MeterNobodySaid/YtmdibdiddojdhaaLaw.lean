/- The walks of the three laws of the meter. -/
import Derived.Test.YtmdibdiddojdhaaRef
import Derived.Deep.DeepCutAuto
import Derived.KernelRfl
namespace Go.Proofs.Ytmdibdiddojdhaa
open Go.RowKit
set_option linter.unusedVariables false
set_option linter.unusedSimpArgs false
set_option maxHeartbeats 2000000 in
theorem nobody_walk (n : Int) (w : World) : Calls Try.prog 5 #[.int .i64 n] w fun e w' => e = .returned (.bool true) ∧ Below w.heap.size w w' := by
  go_enter Try.func5, Try.ntmps5
  go_wp2_with fail
  have b0 : Below w.heap.size w (w.alloc (.cells zeroM 38)) := (Below.refl _ _).alloc (Nat.le_refl _) _
  have h0 : Blk (w.alloc (.cells zeroM 38)) w.heap.size 38 zeroM := Blk.new _ _ _
  refine (used_nil _).mono ?_
  rintro e w0 ⟨rfl, rfl⟩
  go_wp2_with fail
  refine (used_any _ zeroM 0 0 _ h0 rfl rfl).mono ?_
  rintro e w0 ⟨rfl, k, rfl⟩
  go_wp2_with fail
  refine (left_nil _).mono ?_
  rintro e w0 ⟨rfl, rfl⟩
  go_wp2_with fail
  refine (left_any _ zeroM 0 0 0 0 _ (h0.drewN _) rfl rfl rfl rfl (by omega) (by omega) (by omega) (by omega) (by omega) (by omega)).mono ?_
  rintro e w0 ⟨rfl, k', rfl⟩
  have h1 := (h0.drewN k).drewN k'
  have b1 := below_drewN (below_drewN b0 k) k'
  generalize ((w.alloc (.cells zeroM 38)).drewN k).drewN k' = w1 at *
  go_wp2_with fail
  refine (step_nil _).mono ?_
  rintro e w0 ⟨rfl, rfl⟩
  go_wp2_with fail
  refine (step_odd _ _ h1).mono ?_
  rintro e w0 ⟨rfl, rfl⟩
  go_wp2_with fail
  refine (put_nil n _).mono ?_
  rintro e w0 ⟨rfl, rfl⟩
  go_wp2_with fail
  refine (put_odd _ n _ h1).mono ?_
  rintro e w0 ⟨rfl, rfl⟩
  go_wp2_with fail
  refine (over_nil _).mono ?_
  rintro e w0 ⟨rfl, rfl⟩
  go_wp2_with fail
  refine (over_odd _ _ h1).mono ?_
  rintro e w0 ⟨rfl, rfl⟩
  go_wp2_with fail
  refine (awake_any _).mono ?_
  rintro e w0 ⟨rfl, b2⟩
  go_wp2_with fail
  go_ret
  exact ⟨rfl, b1.trans (b2.mono b1.size)⟩
/-- A slice of numbers that came in: each of its cells below block B. -/
def Nums (w : World) (B : Nat) (a : Option Addr) (len : Nat) (z : Nat → Int) : Prop :=
  len = 0 ∨ ∃ b off, a = some ⟨b, off, none⟩ ∧ b < B ∧ ∀ i, i < len → w.cell? ⟨b, off + i, none⟩ = some (.int .i64 (z i)) ∧ -9223372036854775808 ≤ z i ∧ z i ≤ 9223372036854775807
set_option maxHeartbeats 2000000 in
theorem runs_walk (f sz : Int) (a : Option Addr) (len cap : Nat) (z : Nat → Int) (w : World) (hl : len ≤ 9223372036854775807) (h : Nums w w.heap.size a len z) :
    Calls Try.prog 4 #[.int .i64 f, .int .i64 sz, .slice a len cap] w fun e w' => e = .returned (.bool true) ∧ Below w.heap.size w w' := by
  go_enter Try.func4, Try.ntmps4
  go_wp2_with fail
  refine (new_any f sz _).mono ?_
  rintro e w0 ⟨rfl, rfl⟩
  go_wp2_with fail
  refine (rnew_any f sz _).mono ?_
  rintro e w0 ⟨rfl, rfl⟩
  have m0 : IsM ((w.alloc (.cells (Mt.new f sz).cells 38)).alloc (.cells (Mt.new f sz).rcells 43)) w.heap.size (Mt.new f sz) := (isM_new f sz w).alloc _
  have r0 : IsR ((w.alloc (.cells (Mt.new f sz).cells 38)).alloc (.cells (Mt.new f sz).rcells 43)) (w.alloc (.cells (Mt.new f sz).cells 38)).heap.size (Mt.new f sz) := Blk.new _ _ _
  have b0 : Below w.heap.size w ((w.alloc (.cells (Mt.new f sz).cells 38)).alloc (.cells (Mt.new f sz).rcells 43)) := ((Below.refl _ _).alloc (Nat.le_refl _) _).alloc (by simp) _
  simp only [World.size_alloc] at r0 ⊢
  generalize ((w.alloc (.cells (Mt.new f sz).cells 38)).alloc (.cells (Mt.new f sz).rcells 43)) = w1 at *
  have ok0 := Mt.new_ok f sz
  generalize Mt.new f sz = s0 at *
  go_wp2_with fail
  refine (as_any _ _ s0 _ m0 r0 ok0).mono ?_
  rintro e w2 ⟨rfl, n2, rfl⟩
  go_wp2_with fail
  have m1 := Blk.drewN m0 n2
  have r1 := Blk.drewN r0 n2
  have b1 := below_drewN b0 n2
  clear m0 r0 b0
  generalize w1.drewN n2 = w2 at *
  obtain ⟨B, hB⟩ : ∃ B, B = w.heap.size := ⟨_, rfl⟩
  rw [← hB] at h m1 r1 b1 ⊢
  have HB := Lib.hid hB
  clear hB
  go_loopw [9] (fun i wr => ∃ (k : Nat) (s : Mt), i = .int .i64 k ∧ k ≤ len ∧ IsM wr B s ∧ IsR wr (B + 1) s ∧ s.ok ∧ Below B w wr) (fun i _ => len - (intOf i).toNat)
  case atStart => exact ⟨0, s0, rfl, Nat.zero_le _, m1, r1, ok0, b1⟩
  case round =>
    obtain ⟨k, s, rfl, hk, hm, hr, ok, hb⟩ := hrel
    clear m1 r1 ok0 b1
    by_cases hlt : k < len
    · by_cases h80 : k < 80
      · obtain ⟨bl, off, ha, hbl, hz⟩ : ∃ b off, a = some ⟨b, off, none⟩ ∧ b < B ∧ ∀ i, i < len → w.cell? ⟨b, off + i, none⟩ = some (.int .i64 (z i)) ∧ -9223372036854775808 ≤ z i ∧ z i ≤ 9223372036854775807 := by
          rcases h with h | h
          · omega
          · exact h
        obtain ⟨hc, z1, z2⟩ := hz k hlt
        have hc1 := (hb.cell (p := ⟨bl, off + k, none⟩) hbl).trans hc
        have hbs : bl < wr.heap.size := by have := Blk.lt hm; omega
        have hne : bl ≠ B := by omega
        have hBne : B + 1 ≠ B := by omega
        have hne1 : bl ≠ B + 1 := by omega
        clear hz hc h
        subst ha
        by_cases hneg : z k < -1
        · go_wp2_with fail
          refine (step_any B s _ hm ok).mono ?_
          rintro e w3 ⟨rfl, hm3, o3⟩
          go_wp2_with fail
          refine (rstep_any (B + 1) s _ (hr.only o3 (by omega)) ok).mono ?_
          rintro e w4 ⟨rfl, hr4, o4⟩
          have hm4 := hm3.only o4 (by omega)
          have ok4 := Mt.step_ok ok
          have hb4 : Below B w w4 := (hb.trans (o3.below (Nat.le_refl _) (by have := hb.size; have := Blk.lt hm; omega))).trans (o4.below (by omega) (by have := Blk.lt hm3; omega))
          clear hm hr hm3 o3 o4 hb ok
          generalize s.step = s' at *
          go_wp2_with fail
          refine (as_any _ _ s' _ hm4 hr4 ok4).mono ?_
          rintro e w5 ⟨rfl, n5, rfl⟩
          go_wp2_with fail
          go_roundw
          case rel => exact ⟨k + 1, s', by go_num, by omega, hm4.drewN _, hr4.drewN _, ok4, below_drewN hb4 _⟩
          case measure => simp [intOf]; omega
        · go_wp2_with fail
          go_region_held3 (fun w' => w'.cell? ⟨bl, off + k, none⟩ = some (.int .i64 (z k)))
            (first | go_keep | (rw [World.cell?_of_block (o4.block bl hbs3 hne1)]; assumption) | (rw [World.cell?_of_block (o3.block bl hbs hne)]; assumption))
            (first | (go_at_call 8; refine (put_any B s (z k) _ ?_ ok ⟨z1, z2⟩).mono ?_; exact hm; rintro e w3 ⟨rfl, hm3, o3⟩; have hbs3 : bl < w3.heap.size := Nat.lt_of_lt_of_le hbs o3.size) | (go_at_call 13; refine (rput_any (B + 1) s (z k) _ ?_ ok ⟨z1, z2⟩).mono ?_; exact Blk.only (Blk.drew hr) o3 hBne; rintro e w4 ⟨rfl, hr4, o4⟩))
          have hm4 := hm3.only o4 (by omega)
          have ok4 := Mt.put_ok ok (z k)
          have hb4 : Below B w w4 := ((hb.drew).trans (o3.below (Nat.le_refl _) (by show B ≤ wr.heap.size; have := hb.size; have := Blk.lt hm; omega))).trans (o4.below (by omega) (by have := Blk.lt hm3; omega))
          clear hm hr hm3 o3 o4 hb ok
          generalize s.put (z k) = s' at *
          go_wp2_with fail
          refine (as_any _ _ s' _ hm4 hr4 ok4).mono ?_
          rintro e w5 ⟨rfl, n5, rfl⟩
          go_wp2_with fail
          go_roundw
          case rel => exact ⟨k + 1, s', by go_num, by omega, hm4.drewN _, hr4.drewN _, ok4, below_drewN hb4 _⟩
          case measure => simp [intOf]; omega
      · go_wp2_with fail
        refine (awake_any _).mono ?_
        rintro e w3 ⟨rfl, b3⟩
        go_wp2_with fail
        go_ret
        exact ⟨rfl, by rw [← HB.out]; exact hb.trans (b3.mono (by have := Blk.lt hm; omega))⟩
    · go_wp2_with fail
      refine (awake_any _).mono ?_
      rintro e w3 ⟨rfl, b3⟩
      go_wp2_with fail
      go_ret
      exact ⟨rfl, by rw [← HB.out]; exact hb.trans (b3.mono (by have := Blk.lt hm; omega))⟩
/-- What the meter with more has of the other one. -/
structure More (s t : Mt) : Prop where
  a : s.ok
  b : t.ok
  c : s.m ≤ t.m
  d : s.bm ≤ t.bm
  e : s.ov = 0 → t.ov = 0 ∧ t.u = s.u ∧ t.bu = s.bu
theorem More.step {s t : Mt} (h : More s t) : More s.step t.step ∧ (s.step.ov = 0 → t.step.ov = 0) := by
  obtain ⟨a, b, c, d, e⟩ := h
  have key : s.step.m = s.m ∧ t.step.m = t.m ∧ s.step.bm = s.bm ∧ t.step.bm = t.bm ∧ (s.step.ov = 0 → t.step.ov = 0 ∧ t.step.u = s.step.u ∧ t.step.bu = s.step.bu) := by
    unfold Mt.step
    by_cases h0 : s.ov = 0
    · obtain ⟨e1, e2, e3⟩ := e h0
      simp only [h0, e1, if_true]
      by_cases h1 : 1 ≤ s.m - s.u
      · rw [if_pos h1, if_pos (by omega)]; simp [e2, e3, h0, e1]
      · rw [if_neg h1]; split <;> simp
    · rw [if_neg h0]
      split
      · split <;> simp [h0]
      · simp [h0]
  obtain ⟨k1, k2, k3, k4, k5⟩ := key
  exact ⟨⟨Mt.step_ok a, Mt.step_ok b, by omega, by omega, k5⟩, fun h => (k5 h).1⟩
theorem More.put {s t : Mt} (h : More s t) (n : Int) : More (s.put n) (t.put n) ∧ (s.putE n = 0 → t.putE n = 0) := by
  obtain ⟨a, b, c, d, e⟩ := h
  have key : (s.put n).m = s.m ∧ (t.put n).m = t.m ∧ (s.put n).bm = s.bm ∧ (t.put n).bm = t.bm ∧ ((s.put n).ov = 0 → (t.put n).ov = 0 ∧ (t.put n).u = (s.put n).u ∧ (t.put n).bu = (s.put n).bu) := by
    unfold Mt.put
    by_cases h0 : s.ov = 0
    · obtain ⟨e1, e2, e3⟩ := e h0
      by_cases hn : 0 ≤ n
      · simp only [h0, e1, hn, and_self, if_true]
        by_cases h1 : n ≤ s.bm - s.bu
        · rw [if_pos h1, if_pos (by omega)]; simp [e2, e3, h0, e1]
        · rw [if_neg h1]; split <;> simp
      · rw [if_neg (by omega), if_neg (by omega)]; simp [e1, e2, e3]
    · rw [if_neg (by omega)]
      split
      · split <;> simp [h0]
      · simp [h0]
  obtain ⟨k1, k2, k3, k4, k5⟩ := key
  refine ⟨⟨Mt.put_ok a n, Mt.put_ok b n, by omega, by omega, k5⟩, fun h => ?_⟩
  unfold Mt.putE at h ⊢
  by_cases h0 : s.ov = 0
  · obtain ⟨e1, e2, e3⟩ := e h0
    rw [if_pos h0] at h
    rw [if_pos e1]
    by_cases hn : n < 0
    · rw [if_pos hn] at h; omega
    · rw [if_neg hn] at h ⊢
      by_cases h1 : n ≤ s.bm - s.bu
      · rw [if_pos (by omega)]
      · rw [if_neg h1] at h; omega
  · rw [if_neg h0] at h; omega
theorem More.new (f s x y : Int) (hf : 0 ≤ f) (hs : 0 ≤ s) (hx : 0 ≤ x) (hy : 0 ≤ y) : More (Mt.new f s) (Mt.new (f + x) (s + y)) :=
  ⟨Mt.new_ok _ _, Mt.new_ok _ _, by simp only [Mt.new, clampM]; omega, by simp only [Mt.new, clampM]; omega, fun _ => ⟨rfl, rfl, rfl⟩⟩
set_option maxHeartbeats 4000000 in
theorem more_walk (f sz mo wi : Int) (a : Option Addr) (len cap : Nat) (z : Nat → Int) (w : World) (hl : len ≤ 9223372036854775807) (h : Nums w w.heap.size a len z)
    (m0 : 0 ≤ mo) (m1 : mo ≤ 65535) (i0 : 0 ≤ wi) (i1 : wi ≤ 65535) :
    Calls Try.prog 3 #[.int .i64 f, .int .i64 sz, .int .u16 mo, .int .u16 wi, .slice a len cap] w fun e w' => e = .returned (.bool true) ∧ Below w.heap.size w w' := by
  have hf0 : 0 ≤ clampM f ∧ clampM f ≤ 1048576 := by unfold clampM; omega
  have hs0 : 0 ≤ clampM sz ∧ clampM sz ≤ 1048576 := by unfold clampM; omega
  obtain ⟨f', hf'⟩ : ∃ f', f' = clampM f := ⟨_, rfl⟩
  obtain ⟨s', hs'⟩ : ∃ s', s' = clampM sz := ⟨_, rfl⟩
  rw [← hf'] at hf0
  rw [← hs'] at hs0
  have Hf := Lib.hid hf'
  have Hs := Lib.hid hs'
  clear hf' hs'
  obtain ⟨hf1, hf2⟩ := hf0
  obtain ⟨hs1, hs2⟩ := hs0
  go_enter Try.func3, Try.ntmps3
  go_upto_region 1 with fail
  go_cut [0, 1] (fun t0 t1 wx => t0 = .int .i64 f' ∧ t1 = .int .i64 s' ∧ w = wx)
  case first =>
    go_wp2
    all_goals (go_meet; exact ⟨by rw [Hf.out]; unfold clampM; go_num, by rw [Hs.out]; unfold clampM; go_num, rfl⟩)
  case rest =>
    obtain ⟨rfl, rfl, rfl⟩ := hcut
    go_wp2_with fail
    refine (new_any f' s' _).mono ?_
    rintro e w0 ⟨rfl, rfl⟩
    go_wp2_with fail
    refine (new_any (f' + mo) (s' + wi) _).mono ?_
    rintro e w0 ⟨rfl, rfl⟩
    have hm0 : IsM ((w.alloc (.cells (Mt.new f' s').cells 38)).alloc (.cells (Mt.new (f' + mo) (s' + wi)).cells 38)) w.heap.size (Mt.new f' s') := (isM_new f' s' w).alloc _
    have hn0 : IsM ((w.alloc (.cells (Mt.new f' s').cells 38)).alloc (.cells (Mt.new (f' + mo) (s' + wi)).cells 38)) (w.alloc (.cells (Mt.new f' s').cells 38)).heap.size (Mt.new (f' + mo) (s' + wi)) := Blk.new _ _ _
    have b1 : Below w.heap.size w ((w.alloc (.cells (Mt.new f' s').cells 38)).alloc (.cells (Mt.new (f' + mo) (s' + wi)).cells 38)) := ((Below.refl _ _).alloc (Nat.le_refl _) _).alloc (by simp) _
    have mr0 := More.new f' s' mo wi hf1 hs1 m0 i0
    simp only [World.size_alloc] at hn0 ⊢
    generalize ((w.alloc (.cells (Mt.new f' s').cells 38)).alloc (.cells (Mt.new (f' + mo) (s' + wi)).cells 38)) = w1 at *
    generalize Mt.new f' s' = u0 at *
    generalize Mt.new (f' + mo) (s' + wi) = v0 at *
    go_wp2_with fail
    obtain ⟨B, hB⟩ : ∃ B, B = w.heap.size := ⟨_, rfl⟩
    rw [← hB] at h hm0 hn0 b1 ⊢
    have HB := Lib.hid hB
    clear hB
    go_loopw [13] (fun i wr => ∃ (k : Nat) (s t : Mt), i = .int .i64 k ∧ k ≤ len ∧ IsM wr B s ∧ IsM wr (B + 1) t ∧ More s t ∧ Below B w wr) (fun i _ => len - (intOf i).toNat)
    case atStart => exact ⟨0, u0, v0, rfl, Nat.zero_le _, hm0, hn0, mr0, b1⟩
    case round =>
      obtain ⟨k, s, t, rfl, hk, hm, hr, hmo, hb⟩ := hrel
      clear hm0 hn0 mr0 b1
      by_cases hlt : k < len
      · by_cases h80 : k < 80
        · obtain ⟨bl, off, ha, hbl, hz⟩ : ∃ b off, a = some ⟨b, off, none⟩ ∧ b < B ∧ ∀ i, i < len → w.cell? ⟨b, off + i, none⟩ = some (.int .i64 (z i)) ∧ -9223372036854775808 ≤ z i ∧ z i ≤ 9223372036854775807 := by
            rcases h with h | h
            · omega
            · exact h
          obtain ⟨hc, z1, z2⟩ := hz k hlt
          have hc1 := (hb.cell (p := ⟨bl, off + k, none⟩) hbl).trans hc
          have hbs : bl < wr.heap.size := by have := Blk.lt hm; omega
          have hne : bl ≠ B := by omega
          have hBne : B + 1 ≠ B := by omega
          have hne1 : bl ≠ B + 1 := by omega
          clear hz hc h
          subst ha
          by_cases hneg : z k < -1
          · obtain ⟨hmo4, himp⟩ := hmo.step
            have hbool : (s.step.ov == 0) = false ∨ ((s.step.ov == 0) = true ∧ (t.step.ov != 0) = false) := by
              by_cases hx : s.step.ov = 0
              · right; simp [hx, himp hx]
              · left; simp [hx]
            clear himp
            rcases hbool with hx | ⟨hx, hy⟩
            all_goals
              go_wp2_with fail
              refine (step_any B s _ hm hmo.a).mono ?_
              rintro e w3 ⟨rfl, hm3, o3⟩
              go_wp2_with fail
              refine (step_any (B + 1) t _ (hr.only o3 (by omega)) hmo.b).mono ?_
              rintro e w4 ⟨rfl, hr4, o4⟩
              have hm4 := hm3.only o4 (by omega)
              have hb4 : Below B w w4 := (hb.trans (o3.below (Nat.le_refl _) (by have := Blk.lt hm; omega))).trans (o4.below (by omega) (by have := Blk.lt hm3; omega))
              go_wp2_with fail
              go_roundw
              case rel => exact ⟨k + 1, s.step, t.step, by go_num, by omega, hm4, hr4, hmo4, hb4⟩
              case measure => simp [intOf]; omega
          · obtain ⟨hmo4, himp⟩ := hmo.put (z k)
            have hbool : (s.putE (z k) == 0) = false ∨ ((s.putE (z k) == 0) = true ∧ (t.putE (z k) != 0) = false) := by
              by_cases hx : s.putE (z k) = 0
              · right; simp [hx, himp hx]
              · left; simp [hx]
            clear himp
            rcases hbool with hx | ⟨hx, hy⟩
            all_goals
              go_wp2_with fail
              go_region_held3 (fun w' => w'.cell? ⟨bl, off + k, none⟩ = some (.int .i64 (z k)))
                (first | go_keep | (rw [World.cell?_of_block (o4.block bl hbs3 hne1)]; assumption) | (rw [World.cell?_of_block (o3.block bl hbs hne)]; assumption))
                (first | (go_at_call_of 8 (Value.pointer (some ⟨B, 0, none⟩)); refine (put_any B s (z k) _ ?_ hmo.a ⟨z1, z2⟩).mono ?_; exact hm; rintro e w3 ⟨rfl, hm3, o3⟩; have hbs3 : bl < w3.heap.size := Nat.lt_of_lt_of_le hbs o3.size) | (go_at_call 8; refine (put_any (B + 1) t (z k) _ ?_ hmo.b ⟨z1, z2⟩).mono ?_; exact Blk.only (Blk.drew hr) o3 hBne; rintro e w4 ⟨rfl, hr4, o4⟩))
              have hm4 := hm3.only o4 (by omega)
              have hb4 : Below B w w4 := ((hb.drew).trans (o3.below (Nat.le_refl _) (by show B ≤ wr.heap.size; have := hb.size; have := Blk.lt hm; omega))).trans (o4.below (by omega) (by have := Blk.lt hm3; omega))
              go_wp2_with fail
              go_roundw
              case rel => exact ⟨k + 1, s.put (z k), t.put (z k), by go_num, by omega, hm4, hr4, hmo4, hb4⟩
              case measure => simp [intOf]; omega
        · go_wp2_with fail
          refine (awake_any _).mono ?_
          rintro e w3 ⟨rfl, b3⟩
          go_wp2_with fail
          go_ret
          exact ⟨rfl, by rw [← HB.out]; exact hb.trans (b3.mono (by have := Blk.lt hm; omega))⟩
      · go_wp2_with fail
        refine (awake_any _).mono ?_
        rintro e w3 ⟨rfl, b3⟩
        go_wp2_with fail
        go_ret
        exact ⟨rfl, by rw [← HB.out]; exact hb.trans (b3.mono (by have := Blk.lt hm; omega))⟩
end Go.Proofs.Ytmdibdiddojdhaa
