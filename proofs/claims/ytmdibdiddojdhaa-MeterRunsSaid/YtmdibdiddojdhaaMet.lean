/- Contracts of the meter, and of the reference's meter. -/
import Derived.Test.YtmdibdiddojdhaaMem
namespace Go.Proofs.Ytmdibdiddojdhaa
open Go.RowKit
/-- A meter's state. -/
structure Mt where
  m : Int
  u : Int
  bm : Int
  bu : Int
  ov : Int
def Mt.cells (s : Mt) : Array Value := #[.int .i64 s.m, .int .i64 s.u, .int .i64 s.bm, .int .i64 s.bu, .bool true, .int .i64 s.ov]
def Mt.rcells (s : Mt) : Array Value := #[.int .i64 s.m, .int .i64 s.bm, .int .i64 s.u, .int .i64 s.bu, .int .i64 s.ov]
structure Mt.ok (s : Mt) : Prop where
  a : 0 ≤ s.u
  b : s.u ≤ s.m
  c : s.m ≤ 1048576
  d : 0 ≤ s.bu
  e : s.bu ≤ s.bm
  f : s.bm ≤ 1048576
def IsM (w : World) (b : Nat) (s : Mt) : Prop := Blk w b 38 s.cells
def IsR (w : World) (b : Nat) (s : Mt) : Prop := Blk w b 43 s.rcells
def Mt.step (s : Mt) : Mt := if s.ov = 0 then (if 1 ≤ s.m - s.u then { s with u := s.u + 1 } else { s with ov := 203 }) else s
def Mt.put (s : Mt) (n : Int) : Mt := if s.ov = 0 ∧ 0 ≤ n then (if n ≤ s.bm - s.bu then { s with bu := s.bu + n } else { s with ov := 204 }) else s
def Mt.putE (s : Mt) (n : Int) : Int := if s.ov = 0 then (if n < 0 then 1 else if n ≤ s.bm - s.bu then 0 else 204) else s.ov
def clampM (n : Int) : Int := max 0 (min n 1048576)
def Mt.new (f s : Int) : Mt := ⟨clampM f, 0, clampM s, 0, 0⟩
theorem Mt.new_ok (f s : Int) : (Mt.new f s).ok := by
  constructor <;> simp [Mt.new, clampM] <;> omega
theorem Mt.step_ok {s : Mt} (h : s.ok) : s.step.ok := by
  obtain ⟨a, b, c, d, e, f⟩ := h
  unfold Mt.step
  split
  · split <;> constructor <;> dsimp only <;> omega
  · constructor <;> assumption
theorem Mt.put_ok {s : Mt} (h : s.ok) (n : Int) : (s.put n).ok := by
  obtain ⟨a, b, c, d, e, f⟩ := h
  unfold Mt.put
  split
  · split <;> constructor <;> dsimp only <;> omega
  · constructor <;> assumption
theorem new_eq {f s x y : Int} (w : World) (t : TypeId) (k : Nat × Nat) (hx : clampM f = x) (hy : clampM s = y) :
    w.alloc (.cells (Mt.new f s).cells t k) = w.alloc (.cells #[.int .i64 x, .int .i64 0, .int .i64 y, .int .i64 0, .bool true, .int .i64 0] t k) := by
  subst hx; subst hy; rfl
theorem rnew_eq {f s x y : Int} (w : World) (t : TypeId) (k : Nat × Nat) (hx : clampM f = x) (hy : clampM s = y) :
    w.alloc (.cells (Mt.new f s).rcells t k) = w.alloc (.cells #[.int .i64 x, .int .i64 y, .int .i64 0, .int .i64 0, .int .i64 0] t k) := by
  subst hx; subst hy; rfl
set_option maxHeartbeats 400000 in
theorem new_any (f s : Int) (w : World) :
    Calls Try.prog 6 #[.int .i64 f, .int .i64 s] w fun e w' => e = .returned (.pointer (some ⟨w.heap.size, 0, none⟩)) ∧ w.alloc (.cells (Mt.new f s).cells 38) = w' := by
  go_enter Try.func6, Try.ntmps6
  go_wp2
  all_goals
    go_ret
    exact ⟨rfl, new_eq _ _ _ (by unfold clampM; omega) (by unfold clampM; omega)⟩
set_option maxHeartbeats 400000 in
theorem rnew_any (f s : Int) (w : World) :
    Calls Try.prog 10 #[.int .i64 f, .int .i64 s] w fun e w' => e = .returned (.pointer (some ⟨w.heap.size, 0, none⟩)) ∧ w.alloc (.cells (Mt.new f s).rcells 43) = w' := by
  go_enter Try.func10, Try.ntmps10
  go_wp2
  all_goals
    go_ret
    exact ⟨rfl, rnew_eq _ _ _ (by unfold clampM; omega) (by unfold clampM; omega)⟩
set_option maxHeartbeats 400000 in
theorem over_any (b : Nat) (s : Mt) (w : World) (h : IsM w b s) :
    Calls Try.prog 16 #[.pointer (some ⟨b, 0, none⟩)] w fun e w' => e = .returned (.int .i64 s.ov) ∧ w = w' := by
  have h4 := Blk.cell h 4
  have h5 := Blk.cell h 5
  simp only [Mt.cells] at h4 h5
  go_enter Try.func16, Try.ntmps16
  go_wp2
  go_ret
  exact ⟨rfl, rfl⟩
theorem over_nil (w : World) :
    Calls Try.prog 16 #[.pointer none] w fun e w' => e = .returned (.int .i64 2) ∧ w = w' := by
  go_enter Try.func16, Try.ntmps16
  go_wp2
  go_ret
  exact ⟨rfl, rfl⟩
set_option maxHeartbeats 400000 in
theorem take_yes (b o : Nat) (m u n : Int) (w : World) (h0 : w.cell? ⟨b, o, none⟩ = some (.int .i64 m)) (h1 : w.cell? ⟨b, o+1, none⟩ = some (.int .i64 u)) (hf : w.frozen? ⟨b, o+1, none⟩ = false)
   (a : 0 ≤ u) (c : u ≤ m) (d : m ≤ 1048576) (g : 0 ≤ n) (hn : n ≤ m - u) :
    Calls Try.prog 17 #[.pointer (some ⟨b, o, none⟩), .int .i64 n] w fun e w' => e = .returned (.bool true) ∧ ∃ k, w' = (w.setCell ⟨b, o+1, none⟩ (.int .i64 (u + n))).drewN k := by
  go_enter Try.func17, Try.ntmps17
  go_wp2
  go_quiet (fail)
  go_wp2
  go_ret
  exact ⟨rfl, _, rfl⟩
set_option maxHeartbeats 400000 in
theorem take_no (b o : Nat) (m u n : Int) (w : World) (h0 : w.cell? ⟨b, o, none⟩ = some (.int .i64 m)) (h1 : w.cell? ⟨b, o+1, none⟩ = some (.int .i64 u))
   (a : 0 ≤ u) (c : u ≤ m) (d : m ≤ 1048576) (hn : m - u < n) :
    Calls Try.prog 17 #[.pointer (some ⟨b, o, none⟩), .int .i64 n] w fun e w' => e = .returned (.bool false) ∧ ∃ k, w' = w.drewN k := by
  go_enter Try.func17, Try.ntmps17
  go_wp2
  go_quiet (fail)
  go_wp2
  go_ret
  exact ⟨rfl, _, rfl⟩
theorem setIf {a : Array Value} {i : Nat} {v : Value} {c : Array Value} {w w' : World} {b : Nat} {t : TypeId} (h : Blk w b t a) (n : Nat) (hw : w' = (w.setCell ⟨b, i, none⟩ v).drewN n) (hc : a.setIfInBounds i v = c) : Blk w' b t c := by
  subst hw; subst hc; exact (h.set_ i v).drewN n
set_option maxHeartbeats 1000000 in
theorem step_any (b : Nat) (s : Mt) (w : World) (h : IsM w b s) (ok : s.ok) :
    Calls Try.prog 7 #[.pointer (some ⟨b, 0, none⟩)] w fun e w' => e = .returned (.int .i64 s.step.ov) ∧ IsM w' b s.step ∧ Only b w w' := by
  have h0 := Blk.cell h 0
  have h1 := Blk.cell h 1
  have h5 := Blk.cell h 5
  have f1 := Blk.frozen h 1
  have f5 := Blk.frozen h 5
  simp only [Mt.cells] at h0 h1 h5
  obtain ⟨a, ub, c, d, e, f⟩ := ok
  by_cases hov : s.ov = 0
  · have hb : (s.ov != 0) = false := by simp [hov]
    by_cases hle : 1 ≤ s.m - s.u
    · have hs : s.step = { s with u := s.u + 1 } := by unfold Mt.step; rw [if_pos hov, if_pos hle]
      rw [hs]
      have Hs := Lib.hid hs
      have Hov := Lib.hid hov
      clear hs hov
      go_enter Try.func7, Try.ntmps7
      go_wp2_with (first | (go_at_call 16; refine (over_any b s _ h).mono ?_; rintro e w' ⟨rfl, rfl⟩) | (go_at_call 17; refine (take_yes b 0 s.m s.u 1 _ h0 h1 f1 a ub c (by omega) hle).mono ?_; rintro e w' ⟨rfl, k, rfl⟩))
      go_ret
      exact ⟨rfl, setIf h _ rfl rfl, ((Only.refl b w).set _ _).drewN _⟩
    · have hs : s.step = { s with ov := 203 } := by unfold Mt.step; rw [if_pos hov, if_neg hle]
      rw [hs]
      have Hs := Lib.hid hs
      have Hov := Lib.hid hov
      clear hs hov
      go_enter Try.func7, Try.ntmps7
      go_wp2_with (first | (go_at_call 16; refine (over_any b s _ h).mono ?_; rintro e w' ⟨rfl, rfl⟩) | (go_at_call 17; refine (take_no b 0 s.m s.u 1 _ h0 h1 a ub c (by omega)).mono ?_; rintro e w' ⟨rfl, k, rfl⟩))
      go_ret
      exact ⟨rfl, (h.drewN k).set_ 5 _, ((Only.refl b w).drewN k).set _ _⟩
  · have hb : (s.ov != 0) = true := by simp [hov]
    have hs : s.step = s := by unfold Mt.step; rw [if_neg hov]
    rw [hs]
    have Hs := Lib.hid hs
    have Hov := Lib.hid hov
    clear hs hov
    go_enter Try.func7, Try.ntmps7
    go_wp2_with (first | (go_at_call 16; refine (over_any b s _ h).mono ?_; rintro e w' ⟨rfl, rfl⟩))
    go_ret
    exact ⟨rfl, h, Only.refl b w⟩
set_option maxHeartbeats 1000000 in
theorem put_any (b : Nat) (s : Mt) (n : Int) (w : World) (h : IsM w b s) (ok : s.ok) (hn : -9223372036854775808 ≤ n ∧ n ≤ 9223372036854775807) :
    Calls Try.prog 8 #[.pointer (some ⟨b, 0, none⟩), .int .i64 n] w fun e w' => e = .returned (.int .i64 (s.putE n)) ∧ IsM w' b (s.put n) ∧ Only b w w' := by
  have h2 := Blk.cell h 2
  have h3 := Blk.cell h 3
  have h5 := Blk.cell h 5
  have f3 := Blk.frozen h 3
  have f5 := Blk.frozen h 5
  simp only [Mt.cells] at h2 h3 h5
  obtain ⟨a, ub, c, d, e, f⟩ := ok
  by_cases hov : s.ov = 0
  · have hb : (s.ov != 0) = false := by simp [hov]
    by_cases hneg : n < 0
    · have hs : s.put n = s := by unfold Mt.put; rw [if_neg (by omega)]
      have he : s.putE n = 1 := by unfold Mt.putE; rw [if_pos hov, if_pos hneg]
      rw [hs, he]
      clear hs he
      have Hov := Lib.hid hov
      clear hov
      go_enter Try.func8, Try.ntmps8
      go_wp2_with (first | (go_at_call 16; refine (over_any b s _ h).mono ?_; rintro e w' ⟨rfl, rfl⟩))
      go_ret
      exact ⟨rfl, h, Only.refl b w⟩
    by_cases hle : n ≤ s.bm - s.bu
    · have hs : s.put n = { s with bu := s.bu + n } := by unfold Mt.put; rw [if_pos ⟨hov, by omega⟩, if_pos hle]
      have he : s.putE n = s.ov := by unfold Mt.putE; rw [if_pos hov, if_neg hneg, if_pos hle, hov]
      rw [hs, he]
      clear hs he
      have Hov := Lib.hid hov
      clear hov
      go_enter Try.func8, Try.ntmps8
      go_wp2_with (first | (go_at_call 16; refine (over_any b s _ h).mono ?_; rintro e w' ⟨rfl, rfl⟩) | (go_at_call 17; refine (take_yes b 2 s.bm s.bu n _ h2 h3 f3 d e f (by omega) hle).mono ?_; rintro e w' ⟨rfl, k, rfl⟩))
      go_ret
      exact ⟨rfl, setIf h _ rfl rfl, ((Only.refl b w).set _ _).drewN _⟩
    · have hs : s.put n = { s with ov := 204 } := by unfold Mt.put; rw [if_pos ⟨hov, by omega⟩, if_neg hle]
      have he : s.putE n = 204 := by unfold Mt.putE; rw [if_pos hov, if_neg hneg, if_neg hle]
      rw [hs, he]
      clear hs he
      have Hov := Lib.hid hov
      clear hov
      go_enter Try.func8, Try.ntmps8
      go_wp2_with (first | (go_at_call 16; refine (over_any b s _ h).mono ?_; rintro e w' ⟨rfl, rfl⟩) | (go_at_call 17; refine (take_no b 2 s.bm s.bu n _ h2 h3 d e f (by omega)).mono ?_; rintro e w' ⟨rfl, k, rfl⟩))
      go_ret
      exact ⟨rfl, (h.drewN k).set_ 5 _, ((Only.refl b w).drewN k).set _ _⟩
  · have hb : (s.ov != 0) = true := by simp [hov]
    have hs : s.put n = s := by unfold Mt.put; rw [if_neg (by omega)]
    have he : s.putE n = s.ov := by unfold Mt.putE; rw [if_neg hov]
    rw [hs, he]
    clear hs he
    have Hov := Lib.hid hov
    clear hov
    go_enter Try.func8, Try.ntmps8
    go_wp2_with (first | (go_at_call 16; refine (over_any b s _ h).mono ?_; rintro e w' ⟨rfl, rfl⟩))
    go_ret
    exact ⟨rfl, h, Only.refl b w⟩
theorem step_nil (w : World) :
    Calls Try.prog 7 #[.pointer none] w fun e w' => e = .returned (.int .i64 2) ∧ w = w' := by
  go_enter Try.func7, Try.ntmps7
  go_wp2_with (first | (go_at_call 16; refine (over_nil _).mono ?_; rintro e w' ⟨rfl, rfl⟩))
  go_ret
  exact ⟨rfl, rfl⟩
theorem put_nil (n : Int) (w : World) :
    Calls Try.prog 8 #[.pointer none, .int .i64 n] w fun e w' => e = .returned (.int .i64 2) ∧ w = w' := by
  go_enter Try.func8, Try.ntmps8
  go_wp2_with (first | (go_at_call 16; refine (over_nil _).mono ?_; rintro e w' ⟨rfl, rfl⟩))
  go_ret
  exact ⟨rfl, rfl⟩
/-- The meter that nobody made: all its cells are zero. -/
def zeroM : Array Value := #[.int .i64 0, .int .i64 0, .int .i64 0, .int .i64 0, .bool false, .int .i64 0]
theorem over_odd (b : Nat) (w : World) (h : Blk w b 38 zeroM) :
    Calls Try.prog 16 #[.pointer (some ⟨b, 0, none⟩)] w fun e w' => e = .returned (.int .i64 2) ∧ w = w' := by
  have h4 := Blk.cell h 4
  simp only [zeroM] at h4
  go_enter Try.func16, Try.ntmps16
  go_wp2
  go_ret
  exact ⟨rfl, rfl⟩
theorem step_odd (b : Nat) (w : World) (h : Blk w b 38 zeroM) :
    Calls Try.prog 7 #[.pointer (some ⟨b, 0, none⟩)] w fun e w' => e = .returned (.int .i64 2) ∧ w = w' := by
  go_enter Try.func7, Try.ntmps7
  go_wp2_with (first | (go_at_call 16; refine (over_odd _ _ h).mono ?_; rintro e w' ⟨rfl, rfl⟩))
  go_ret
  exact ⟨rfl, rfl⟩
theorem put_odd (b : Nat) (n : Int) (w : World) (h : Blk w b 38 zeroM) :
    Calls Try.prog 8 #[.pointer (some ⟨b, 0, none⟩), .int .i64 n] w fun e w' => e = .returned (.int .i64 2) ∧ w = w' := by
  go_enter Try.func8, Try.ntmps8
  go_wp2_with (first | (go_at_call 16; refine (over_odd _ _ h).mono ?_; rintro e w' ⟨rfl, rfl⟩))
  go_ret
  exact ⟨rfl, rfl⟩
theorem used_any (b : Nat) (cs : Array Value) (u v : Int) (w : World) (h : Blk w b 38 cs) (h1 : cs[1]? = some (.int .i64 u)) (h3 : cs[3]? = some (.int .i64 v)) :
    Calls Try.prog 14 #[.pointer (some ⟨b, 0, none⟩)] w fun e w' => e = .returned (.tuple #[.int .i64 u, .int .i64 v]) ∧ ∃ k, w' = w.drewN k := by
  have g1 := (Blk.cell h 1).trans h1
  have g3 := (Blk.cell h 3).trans h3
  clear h1 h3
  go_enter Try.func14, Try.ntmps14
  go_wp2
  go_quiet (fail)
  go_wp2
  go_ret2
  exact ⟨rfl, _, rfl⟩
theorem used_nil (w : World) :
    Calls Try.prog 14 #[.pointer none] w fun e w' => e = .returned (.tuple #[.int .i64 0, .int .i64 0]) ∧ w = w' := by
  go_enter Try.func14, Try.ntmps14
  go_wp2
  go_ret2
  exact ⟨rfl, rfl⟩
theorem countleft_any (b o : Nat) (m u : Int) (w : World) (h0 : w.cell? ⟨b, o, none⟩ = some (.int .i64 m)) (h1 : w.cell? ⟨b, o+1, none⟩ = some (.int .i64 u))
   (a : 0 ≤ u) (c : u ≤ m) (d : m ≤ 1048576) :
    Calls Try.prog 18 #[.pointer (some ⟨b, o, none⟩)] w fun e w' => e = .returned (.int .i64 (m - u)) ∧ ∃ n, w' = w.drewN n := by
  go_enter Try.func18, Try.ntmps18
  go_wp2
  go_quiet (fail)
  go_wp2
  go_ret
  exact ⟨rfl, _, rfl⟩
theorem left_any (b : Nat) (cs : Array Value) (m u p v : Int) (w : World) (h : Blk w b 38 cs) (h0 : cs[0]? = some (.int .i64 m)) (h1 : cs[1]? = some (.int .i64 u))
    (h2 : cs[2]? = some (.int .i64 p)) (h3 : cs[3]? = some (.int .i64 v)) (a : 0 ≤ u) (c : u ≤ m) (d : m ≤ 1048576) (a' : 0 ≤ v) (c' : v ≤ p) (d' : p ≤ 1048576) :
    Calls Try.prog 15 #[.pointer (some ⟨b, 0, none⟩)] w fun e w' => e = .returned (.tuple #[.int .i64 (m - u), .int .i64 (p - v)]) ∧ ∃ k, w' = w.drewN k := by
  have g0 := (Blk.cell h 0).trans h0
  have g1 := (Blk.cell h 1).trans h1
  have g2 := (Blk.cell h 2).trans h2
  have g3 := (Blk.cell h 3).trans h3
  clear h0 h1 h2 h3
  go_enter Try.func15, Try.ntmps15
  go_wp2
  go_quiet (first | (go_at_call_of 18 (Value.pointer (some ⟨b, 0, none⟩)); exact Calls.quiet_of (countleft_any b 0 m u _ g0 g1 a c d)) | (go_at_call_of 18 (Value.pointer (some ⟨b, 2, none⟩)); exact Calls.quiet_of (countleft_any b 2 p v _ g2 g3 a' c' d')))
  go_wp2
  go_ret2
  exact ⟨rfl, _, rfl⟩
theorem left_nil (w : World) :
    Calls Try.prog 15 #[.pointer none] w fun e w' => e = .returned (.tuple #[.int .i64 0, .int .i64 0]) ∧ w = w' := by
  go_enter Try.func15, Try.ntmps15
  go_wp2
  go_ret2
  exact ⟨rfl, rfl⟩
end Go.Proofs.Ytmdibdiddojdhaa
