/- Loops over the iterator: Front. -/
import Derived.Test.YtdmlciebkilmjaaUtfJ
import Derived.Test.YtdmlciebkilmjaaUtfK
namespace Go.Proofs.Ytdmlciebkilmjaa
open Go.RowKit Go.Shelf
set_option linter.unusedVariables false
set_option linter.unusedSimpArgs false
attribute [local go_sem] Oper.semAt_some
theorem frontS_le : ∀ (l : List Stp) (m : Int), frontS l m ≤ total l
  | [], _ => Nat.zero_le _
  | x :: t, m => by
    rw [frontS, total_cons]
    split
    · omega
    · have := frontS_le t (m - x.n); omega
theorem total_stps (l : List UInt8) : total (stps l) = l.length := by
  have : ∀ (n : Nat) (l : List UInt8), l.length ≤ n → total (stps l) = l.length := by
    intro n
    induction n with
    | zero => intro l h; have : l = [] := by cases l <;> simp_all
              subst this; rfl
    | succ n ih =>
      intro l h
      by_cases hl : l = []
      · subst hl; rfl
      · have h1 := (next_bound l).2.2.2 hl
        have h2 := (next_bound l).2.2.1
        rw [stps_cons hl, total_cons, ih _ (by rw [List.length_drop]; omega), List.length_drop]
        show (next l).2 + _ = _
        omega
  exact this _ l (Nat.le_refl _)
def FrontI (s : ByteArray) (m : Int) (B : Nat) (pre : List Stp) (W : World) : Prop :=
  (Blk W B 3 #[.int .i64 m] ∧ Blk W (B + 1) 3 #[.int .i64 (total pre)]) ∧ ((∀ rest, frontS (pre ++ rest) m = total pre + frontS rest (m - total pre)) ∧ (pre = [] ∨ (total pre : Int) ≤ m))
def FrontX (s : ByteArray) (m : Int) (B : Nat) (c : Code) (pre : List Stp) (W : World) : Prop :=
  c = .exit 0 ∧ Blk W B 3 #[.int .i64 m] ∧ ∃ v : Nat, Blk W (B + 1) 3 #[.int .i64 v] ∧ ∀ rest, frontS (pre ++ rest) m = v
theorem frontI_own (s : ByteArray) (m : Int) (B n : Nat) : OwnFrom n (FrontI s m B) := fun pre W W' row ⟨⟨a, b⟩, c⟩ hg hr =>
  ⟨⟨a.kept hg (fun r e => (hr r e).2), b.kept hg (fun r e => (hr r e).2)⟩, c⟩
theorem frontX_own (s : ByteArray) (m : Int) (B n : Nat) (c : Code) : OwnFrom n (FrontX s m B c) := fun pre W W' row ⟨a, b, v, d, e⟩ hg hr =>
  ⟨a, b.kept hg (fun r e => (hr r e).2), v, d.kept hg (fun r e => (hr r e).2), e⟩
set_option maxRecDepth 100000 in
set_option maxHeartbeats 2000000 in
theorem front_in (n : Nat) (hn : 3 ≤ n) (s : ByteArray) (m : Int) (w : World) (hs : s.size ≤ 60000) (hm : -9223372036854775808 ≤ m ∧ m ≤ 9223372036854775807) :
    CallsIn Fence.wide n Try.prog 39 #[.string s, .int .i64 m] w fun e W' => e = .returned (.string (strOf (s.data.toList.take (front s.data.toList m)))) ∧ Below w.heap.size w W' := by
  have h1 : 1 ≤ n := by omega
  have Hlen := Lib.hid (stps_length_le s.data.toList)
  have Hsl := Lib.hid (sz_len s)
  have HA := Lib.hid (all_any s)
  refine callsIn_of_wp_marks Try.func39 rfl trivial ?_ rfl
  simp only [Try.ntmps39, List.size_toArray, List.length_cons, List.length_nil, Nat.reduceAdd, Nat.reduceSub, Array.replicate_succ, Array.replicate_zero, List.push_toArray, List.append_toArray, List.nil_append, List.cons_append]
  gi_wp2_with (first | (refine ⟨trivial, ?_⟩; gi_at_call 33; refine (callsIn_wide.2 (HA.out _)).mono ?_; rintro e w' ⟨rfl, rfl⟩) | (gi_at_call 33; refine (callsIn_wide.2 (HA.out _)).mono ?_; rintro e w' ⟨rfl, rfl⟩))
  obtain ⟨W0, hW0⟩ : ∃ W0, ((w.alloc (.cells #[.int .i64 m] 3)).alloc (.cells #[.int .i64 0] 3)).alloc (.cells #[.string s] 9) = W0 := ⟨_, rfl⟩
  have hb0 : Blk W0 w.heap.size 3 #[.int .i64 m] := by rw [← hW0]; exact ((Blk.new w _ _).alloc _).alloc _
  have hb1 : Blk W0 (w.heap.size + 1) 3 #[.int .i64 0] := by
    have := (Blk.new (w.alloc (.cells #[.int .i64 m] 3)) 3 #[.int .i64 0]).alloc (.cells #[.string s] 9)
    rw [World.size_alloc] at this
    rw [← hW0]; exact this
  have hb2 : Blk W0 (w.heap.size + 1 + 1) 9 #[.string s] := by
    have := Blk.new ((w.alloc (.cells #[.int .i64 m] 3)).alloc (.cells #[.int .i64 0] 3)) 9 #[.string s]
    rw [World.size_alloc, World.size_alloc] at this
    rw [← hW0]; exact this
  have hB0 : Below w.heap.size w W0 := by rw [← hW0]; exact (((Below.refl _ w).alloc (Nat.le_refl _) _).alloc (by simp) _).alloc (by simp; omega) _
  have hsz : W0.heap.size = w.heap.size + 3 := by rw [← hW0]; simp
  rw [hW0]
  clear hW0
  refine wpIn_rangeFunc_ownF rfl h1 (gf := 54) (lb := #[.pointer (some ⟨w.heap.size + 1 + 1, 0, none⟩)]) rfl trivial (enters_of Try.func54 (by kernel_rfl) rfl)
    (all_stops (n - 1) (w.heap.size + 1 + 1) s _ (by omega) (by omega) (by omega) (hb2.cell 0)) KB.t (KB.b (by omega)) (Below.refl _ _) stpV_size
    (fun pre W => FrontI s m w.heap.size pre W ∧ Below w.heap.size w W)
    (fun c pre W => FrontX s m w.heap.size c pre W ∧ Below w.heap.size w W)
    (OwnFrom.and (frontI_own _ _ _ _) (ownFrom_below (Nat.le_refl _) (by omega)))
    (fun c => OwnFrom.and (frontX_own _ _ _ _ c) (ownFrom_below (Nat.le_refl _) (by omega)))
    ⟨⟨⟨hb0, hb1⟩, fun rest => by simp [total_nil], .inl rfl⟩, hB0⟩
    (fun x => { tmps := #[.string s, .int .i64 m, undef, .pointer (some ⟨w.heap.size, 0, none⟩), .string { data := #[] }, .pointer (some ⟨w.heap.size + 1, 0, none⟩), undef, .int .i64 x.n, .string s, .func (.func 54) #[] #[.pointer (some ⟨w.heap.size + 1 + 1, 0, none⟩)], .int .i32 x.r, .int .i64 x.n, undef, undef, undef, undef, undef, undef, undef, undef, undef, undef, undef], defers := [] }) ?assign ?body ?done ?stop
  case assign =>
    intro l x W K hK
    unfold stpV
    gi_wp2
    simpa using hK
  case body =>
    rintro l pre ⟨r, k, hr, hk1, hk4⟩ W ⟨⟨⟨hc, hd⟩, hf, hp⟩, hB⟩ hN
    have hN2 : total pre < 240000 := by have := Hlen.out; have := Hsl.out; have := total_le pre; omega
    have c0 := hc.cell 0
    have c1 := hd.cell 0
    have f1 := hd.frozen 0
    have hsub : IntKind.i64.wrap (m - total pre) = m - total pre := IntWalk.i64_in _ (by
      rcases hp with hp | hp
      · subst hp; rw [total_nil]; omega
      · omega)
    clear hN
    dsimp only
    have HF := Lib.hid hf
    have HPP := Lib.hid hp
    clear hf hp
    by_cases hlt : m - (total pre : Int) < k
    · have HX : Hid (∀ rest, frontS ((pre ++ [⟨r, k, hr, hk1, hk4⟩]) ++ rest) m = total pre) := fun rest => by
        rw [List.append_assoc, HF.out, List.singleton_append, frontS, if_pos hlt]; rfl
      gi_wp2
      exact ⟨KeepsOthers.refl _, ⟨rfl, hc, total pre, hd, HX.out⟩, hB⟩
    · have HX : Hid (∀ rest, frontS ((pre ++ [⟨r, k, hr, hk1, hk4⟩]) ++ rest) m = total (pre ++ [⟨r, k, hr, hk1, hk4⟩]) + frontS rest (m - total (pre ++ [⟨r, k, hr, hk1, hk4⟩]))) := fun rest => by
        rw [List.append_assoc, HF.out, List.singleton_append, frontS, if_neg hlt, total_snoc]
        have e : m - (total pre : Int) - k = m - ((total pre + k : Nat) : Int) := by omega
        show _ = total pre + k + frontS rest (m - ((total pre + k : Nat) : Int))
        rw [← e]; dsimp only; omega
      have HY : Hid ((pre ++ [(⟨r, k, hr, hk1, hk4⟩ : Stp)]) = [] ∨ ((total (pre ++ [⟨r, k, hr, hk1, hk4⟩]) : Nat) : Int) ≤ m) := .inr (by rw [total_snoc]; dsimp only; omega)
      have HT : Hid (((total (pre ++ [⟨r, k, hr, hk1, hk4⟩]) : Nat) : Int) = (total pre : Int) + k) := by show _ = _; rw [total_snoc]; dsimp only; omega
      gi_wp2
      refine ⟨KeepsOthers.setCell _ _ _, Below.heap_setCell _ _ _ _ (by simp), ⟨⟨hc.far (p := ⟨w.heap.size + 1, 0, none⟩) (by simp) _, ?_⟩, HX.out, HY.out⟩, hB.setCell (p := ⟨w.heap.size + 1, 0, none⟩) (by simp) _⟩
      rw [HT.out]
      exact hd.set_ 0 (.int .i64 ((total pre : Int) + k))
  case done =>
    rintro D ys W hD rfl ⟨⟨⟨hc, hd⟩, hf, _⟩, hB⟩ hK
    have HT := total_stps s.data.toList
    rw [HT, ← sz_len] at hd
    have hv := hf []
    rw [List.append_nil, HT, frontS_all] at hv
    have HV : Hid (strOf (s.data.toList.take (front s.data.toList m)) = s) := by
      show _ = _
      rw [hv, List.take_of_length_le (Nat.le_add_right _ _), strOf_data]
    clear HT hv hf
    have c1 := hd.cell 0
    gi_wp2
    refine ⟨by simp, .inl ⟨_, _, rfl, run_takeDeferred hK, ?_⟩⟩
    exact ⟨_, results_tmp rfl _ _ _, by rw [HV.out]; rfl, hB.trans (belowK_b (w := w) (Nat.le_refl _) W D _ _ (by omega) hK rfl rfl)⟩
  case stop =>
    rintro D c pre W hD hpre ⟨⟨rfl, hc, v, hd, hv⟩, hB⟩ hK
    obtain ⟨rest, hrest⟩ := hpre
    have hv' := hv rest
    rw [hrest] at hv'
    have hle := frontS_le (stps s.data.toList) m
    rw [hv', total_stps, ← sz_len] at hle
    rw [frontS_all] at hv'
    have HV : Hid (strOf (s.data.toList.take (front s.data.toList m)) = s.extract 0 v) := by show _ = _; rw [hv', take_ext s _ hle]
    clear hv hv' hrest
    have c1 := hd.cell 0
    gi_wp2
    refine ⟨by simp, .inl ⟨_, _, rfl, run_takeDeferred hK, ?_⟩⟩
    exact ⟨_, results_tmp rfl _ _ _, by rw [HV.out]; rfl, hB.trans (belowK_b (w := w) (Nat.le_refl _) W D _ _ (by omega) hK rfl rfl)⟩
theorem front_any (s : ByteArray) (m : Int) (w : World) (hs : s.size ≤ 60000) (hm : -9223372036854775808 ≤ m ∧ m ≤ 9223372036854775807) :
    Calls Try.prog 39 #[.string s, .int .i64 m] w fun e W' => e = .returned (.string (strOf (s.data.toList.take (front s.data.toList m)))) ∧ Below w.heap.size w W' :=
  callsIn_wide.1 (front_in 3 (Nat.le_refl _) s m w hs hm)
end Go.Proofs.Ytdmlciebkilmjaa
