/- Contracts of the reference's meter, of the comparison, and of the page's example. -/
import Derived.Test.YtmdibdiddojdhaaMet
namespace Go.Proofs.Ytmdibdiddojdhaa
open Go.RowKit
set_option maxHeartbeats 1000000 in
theorem rstep_any (b : Nat) (s : Mt) (w : World) (h : IsR w b s) (ok : s.ok) :
    Calls Try.prog 12 #[.pointer (some ⟨b, 0, none⟩)] w fun e w' => e = .returned (.int .i64 s.step.ov) ∧ IsR w' b s.step ∧ Only b w w' := by
  have h0 := Blk.cell h 0
  have h2 := Blk.cell h 2
  have h4 := Blk.cell h 4
  have f2 := Blk.frozen h 2
  have f4 := Blk.frozen h 4
  simp only [Mt.rcells] at h0 h2 h4
  obtain ⟨a, ub, c, d, e, f⟩ := ok
  by_cases hov : s.ov = 0
  · have hb : (s.ov == 0) = true := by simp [hov]
    by_cases hle : 1 ≤ s.m - s.u
    · have hs : s.step = { s with u := s.u + 1 } := by unfold Mt.step; rw [if_pos hov, if_pos hle]
      have hne : (s.u == s.m) = false := by simp; omega
      rw [hs]
      have Hs := Lib.hid hs
      have Hov := Lib.hid hov
      clear hs hov
      go_enter Try.func12, Try.ntmps12
      go_wp2
      go_quiet (fail)
      go_wp2
      go_ret
      exact ⟨rfl, (h.drewN _).set_ 2 _, ((Only.refl b w).drewN _).set _ _⟩
    · have hs : s.step = { s with ov := 203 } := by unfold Mt.step; rw [if_pos hov, if_neg hle]
      have hne : (s.u == s.m) = true := by simp; omega
      rw [hs]
      have Hs := Lib.hid hs
      have Hov := Lib.hid hov
      clear hs hov
      go_enter Try.func12, Try.ntmps12
      go_wp2
      go_quiet (fail)
      go_wp2
      go_ret
      exact ⟨rfl, (h.drewN _).set_ 4 _, ((Only.refl b w).drewN _).set _ _⟩
  · have hb : (s.ov == 0) = false := by simp [hov]
    have hs : s.step = s := by unfold Mt.step; rw [if_neg hov]
    rw [hs]
    have Hs := Lib.hid hs
    have Hov := Lib.hid hov
    clear hs hov
    go_enter Try.func12, Try.ntmps12
    go_wp2
    go_quiet (fail)
    go_wp2
    go_ret
    exact ⟨rfl, h.drewN _, (Only.refl b w).drewN _⟩
set_option maxHeartbeats 1000000 in
theorem rput_any (b : Nat) (s : Mt) (n : Int) (w : World) (h : IsR w b s) (ok : s.ok) (hn : -9223372036854775808 ≤ n ∧ n ≤ 9223372036854775807) :
    Calls Try.prog 13 #[.pointer (some ⟨b, 0, none⟩), .int .i64 n] w fun e w' => e = .returned (.int .i64 (s.putE n)) ∧ IsR w' b (s.put n) ∧ Only b w w' := by
  have h1 := Blk.cell h 1
  have h3 := Blk.cell h 3
  have h4 := Blk.cell h 4
  have f3 := Blk.frozen h 3
  have f4 := Blk.frozen h 4
  simp only [Mt.rcells] at h1 h3 h4
  obtain ⟨a, ub, c, d, e, f⟩ := ok
  by_cases hov : s.ov = 0
  · have hb : (s.ov == 0) = true := by simp [hov]
    by_cases hneg : n < 0
    · have hs : s.put n = s := by unfold Mt.put; rw [if_neg (by omega)]
      have he : s.putE n = 1 := by unfold Mt.putE; rw [if_pos hov, if_pos hneg]
      rw [hs, he]
      clear hs he
      have Hov := Lib.hid hov
      clear hov
      go_enter Try.func13, Try.ntmps13
      go_wp2
      go_ret
      exact ⟨rfl, h, Only.refl b w⟩
    by_cases hle : n ≤ s.bm - s.bu
    · have hs : s.put n = { s with bu := s.bu + n } := by unfold Mt.put; rw [if_pos ⟨hov, by omega⟩, if_pos hle]
      have he : s.putE n = s.ov := by unfold Mt.putE; rw [if_pos hov, if_neg hneg, if_pos hle, hov]
      rw [hs, he]
      clear hs he
      have Hov := Lib.hid hov
      clear hov
      have hgt : decide (s.bm - s.bu < n) = false := by simp; omega
      go_enter Try.func13, Try.ntmps13
      go_wp2
      go_quiet (fail)
      go_wp2
      go_ret
      exact ⟨rfl, (h.drewN _).set_ 3 _, ((Only.refl b w).drewN _).set _ _⟩
    · have hs : s.put n = { s with ov := 204 } := by unfold Mt.put; rw [if_pos ⟨hov, by omega⟩, if_neg hle]
      have he : s.putE n = 204 := by unfold Mt.putE; rw [if_pos hov, if_neg hneg, if_neg hle]
      rw [hs, he]
      clear hs he
      have Hov := Lib.hid hov
      clear hov
      have hgt : decide (s.bm - s.bu < n) = true := by simp; omega
      go_enter Try.func13, Try.ntmps13
      go_wp2
      go_quiet (fail)
      go_wp2
      go_ret
      exact ⟨rfl, (h.drewN _).set_ 4 _, ((Only.refl b w).drewN _).set _ _⟩
  · have hb : (s.ov == 0) = false := by simp [hov]
    have hs : s.put n = s := by unfold Mt.put; rw [if_neg (by omega)]
    have he : s.putE n = s.ov := by unfold Mt.putE; rw [if_neg hov]
    rw [hs, he]
    clear hs he
    have Hov := Lib.hid hov
    clear hov
    go_enter Try.func13, Try.ntmps13
    go_wp2
    go_quiet (fail)
    go_wp2
    go_ret
    exact ⟨rfl, h.drewN _, (Only.refl b w).drewN _⟩
set_option maxHeartbeats 1000000 in
theorem as_any (b c : Nat) (s : Mt) (w : World) (h : IsM w b s) (h' : IsR w c s) (ok : s.ok) :
    Calls Try.prog 11 #[.pointer (some ⟨b, 0, none⟩), .pointer (some ⟨c, 0, none⟩)] w fun e w' => e = .returned (.bool true) ∧ ∃ n, w' = w.drewN n := by
  have g0 := Blk.cell h' 0
  have g1 := Blk.cell h' 1
  have g2 := Blk.cell h' 2
  have g3 := Blk.cell h' 3
  have g4 := Blk.cell h' 4
  simp only [Mt.rcells] at g0 g1 g2 g3 g4
  obtain ⟨a, ub, cc, d, e, f⟩ := ok
  go_enter Try.func11, Try.ntmps11
  go_wp2_with (first | (go_at_call 14; refine (used_any b s.cells s.u s.bu _ h rfl rfl).mono ?_; rintro e w' ⟨rfl, k, rfl⟩) | (go_at_call 15; refine (left_any b s.cells s.m s.u s.bm s.bu _ (h.drewN _) rfl rfl rfl rfl a ub cc d e f).mono ?_; rintro e w' ⟨rfl, k, rfl⟩))
  have s1 : IntKind.i64.wrap (s.m - s.u) = s.m - s.u := IntWalk.i64_in _ (by omega)
  have s2 : IntKind.i64.wrap (s.bm - s.bu) = s.bm - s.bu := IntWalk.i64_in _ (by omega)
  go_quiet ((go_at_call 16; exact quiet_add_left (over_any b s _ (h.drewN _))))
  clear s1 s2
  go_wp2
  go_ret
  exact ⟨rfl, _, World.drewN_drewN _ _ _⟩
theorem step_to (b : Nat) (s s' : Mt) (v : Int) (w : World) (h : IsM w b s) (ok : s.ok) (hs : s.step = s') (hv : s'.ov = v) :
    Calls Try.prog 7 #[.pointer (some ⟨b, 0, none⟩)] w fun e w' => e = .returned (.int .i64 v) ∧ IsM w' b s' ∧ Only b w w' := by
  subst hs; subst hv; exact step_any b s w h ok
theorem put_to (b : Nat) (s s' : Mt) (n v : Int) (w : World) (h : IsM w b s) (ok : s.ok) (hn : -9223372036854775808 ≤ n ∧ n ≤ 9223372036854775807) (hs : s.put n = s') (hv : s.putE n = v) :
    Calls Try.prog 8 #[.pointer (some ⟨b, 0, none⟩), .int .i64 n] w fun e w' => e = .returned (.int .i64 v) ∧ IsM w' b s' ∧ Only b w w' := by
  subst hs; subst hv; exact put_any b s n w h ok hn
theorem isM_new (f s : Int) (w : World) : IsM (w.alloc (.cells (Mt.new f s).cells 38)) w.heap.size (Mt.new f s) := Blk.new _ _ _
set_option maxHeartbeats 1000000 in
theorem awake_any (w : World) : Calls Try.prog 9 #[] w fun e w' => e = .returned (.bool true) ∧ Below w.heap.size w w' := by
  go_enter Try.func9, Try.ntmps9
  go_wp2_with fail
  refine (new_any 2 3 _).mono ?_
  rintro e w0 ⟨rfl, rfl⟩
  have h0 := isM_new 2 3 w
  have b0 : Below w.heap.size w (w.alloc (.cells (Mt.new 2 3).cells 38)) := (Below.refl _ _).alloc (Nat.le_refl _) _
  generalize (w.alloc (.cells (Mt.new 2 3).cells 38)) = w0 at *
  go_wp2_with fail
  refine (step_to _ _ ⟨2, 1, 3, 0, 0⟩ 0 _ h0 (Mt.new_ok 2 3) rfl rfl).mono ?_
  rintro e w1 ⟨rfl, h1, o1⟩
  go_wp2_with fail
  refine (step_to _ _ ⟨2, 2, 3, 0, 0⟩ 0 _ h1 (by constructor <;> simp) rfl rfl).mono ?_
  rintro e w2 ⟨rfl, h2, o2⟩
  go_wp2_with fail
  refine (put_to _ _ ⟨2, 2, 3, 3, 0⟩ 3 0 _ h2 (by constructor <;> simp) (by omega) rfl rfl).mono ?_
  rintro e w3 ⟨rfl, h3, o3⟩
  go_wp2_with fail
  refine (put_to _ _ ⟨2, 2, 3, 3, 0⟩ 0 0 _ h3 (by constructor <;> simp) (by omega) rfl rfl).mono ?_
  rintro e w4 ⟨rfl, h4, o4⟩
  go_wp2_with fail
  refine (step_to _ _ ⟨2, 2, 3, 3, 203⟩ 203 _ h4 (by constructor <;> simp) rfl rfl).mono ?_
  rintro e w5 ⟨rfl, h5, o5⟩
  go_wp2_with fail
  refine (put_to _ _ ⟨2, 2, 3, 3, 203⟩ 0 203 _ h5 (by constructor <;> simp) (by omega) rfl rfl).mono ?_
  rintro e w6 ⟨rfl, h6, o6⟩
  go_wp2_with fail
  go_ret
  exact ⟨rfl, b0.trans (((((o1.trans o2).trans o3).trans o4).trans o5).trans o6 |>.below (Nat.le_refl _) b0.size)⟩
end Go.Proofs.Ytmdibdiddojdhaa
