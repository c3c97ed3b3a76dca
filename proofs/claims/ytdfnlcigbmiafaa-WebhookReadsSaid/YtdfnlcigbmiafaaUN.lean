/- Loops over the iterator: Runes. -/
import Derived.Test.YtdfnlcigbmiafaaUtfM
import Derived.RangeFuncBox
import Derived.OwnWalkIn
namespace Go.Proofs.Ytdfnlcigbmiafaa
open Go.RowKit Go.Shelf
set_option linter.unusedVariables false
set_option linter.unusedSimpArgs false
attribute [local go_sem] Oper.semAt_some
theorem infoI32 : (Try.prog.info? 21).map (fun i => (i.zero, i.size, i.bytes)) = some (some (.int .i32 0), 1, 4) := by kernel_rfl
theorem infoInt : (Try.prog.info? 3).map (fun i => (i.zero, i.size, i.bytes)) = some (some (.int .i64 0), 1, 8) := by kernel_rfl
def v32 (r : Nat) : Value := .int .i32 r
def v64 (r : Nat) : Value := .int .i64 r
def RunesI (B : Nat) (s : ByteArray) (pre : List Stp) (W : World) : Prop :=
  (∃ v, Boxed W B 68 v ∧ W.ownsRow B 21 1 v pre.length (pre.map fun x => v32 x.r) ∧ True) ∧ Blk W (B + 1) 9 #[.string s]
theorem runesI_own (B n : Nat) (s : ByteArray) : OwnFrom n (RunesI B s) :=
  OwnFrom.and (Own.from (holdsRow_own B B 68 21 1 (fun pre : List Stp => pre.length) (fun pre => pre.map fun x => v32 x.r) (fun _ _ => True)) _) (own_blk _ _ (fun _ => #[.string s]) _)
set_option maxRecDepth 100000 in
set_option maxHeartbeats 2000000 in
theorem prunes_in (n : Nat) (hn : 3 ≤ n) (s : ByteArray) (w : World) (hs : s.size ≤ 60000) :
    CallsIn Fence.wide n Try.prog 29 #[.string s] w fun e W' => ∃ v, e = .returned v ∧ W'.ownsRow w.heap.size 21 1 v (runes s.data.toList).length ((runes s.data.toList).map v32) ∧ Below w.heap.size w W' := by
  have h1 : 1 ≤ n := by omega
  have Hlen := Lib.hid (stps_length_le s.data.toList)
  have Hsl := Lib.hid (sz_len s)
  have HA := Lib.hid (all_any s)
  obtain ⟨i0, hi, hz0, hz1, hz2⟩ := info_parts infoI32
  refine callsIn_of_wp_marks Try.func29 rfl trivial ?_ rfl
  simp only [Try.ntmps29, List.size_toArray, List.length_cons, List.length_nil, Nat.reduceAdd, Nat.reduceSub, Array.replicate_succ, Array.replicate_zero, List.push_toArray, List.append_toArray, List.nil_append, List.cons_append]
  gi_wp2_with (first | (refine ⟨trivial, ?_⟩; gi_at_call 43; refine (callsIn_wide.2 (HA.out _)).mono ?_; rintro e w' ⟨rfl, rfl⟩) | (gi_at_call 43; refine (callsIn_wide.2 (HA.out _)).mono ?_; rintro e w' ⟨rfl, rfl⟩))
  obtain ⟨W0, hW0⟩ : ∃ W0, (w.alloc (.cells #[.slice none 0 0] 68)).alloc (.cells #[.string s] 9) = W0 := ⟨_, rfl⟩
  have hb0 : Boxed W0 w.heap.size 68 (.slice none 0 0) := by rw [← hW0]; exact (Boxed.new w _ _).alloc _
  have hb1 : Blk W0 (w.heap.size + 1) 9 #[.string s] := by
    have := Blk.new (w.alloc (.cells #[.slice none 0 0] 68)) 9 #[.string s]
    rw [World.size_alloc, hW0] at this
    exact this
  have hB0 : Below w.heap.size w W0 := by rw [← hW0]; exact ((Below.refl _ w).alloc (Nat.le_refl _) _).alloc (by simp) _
  have hsz : W0.heap.size = w.heap.size + 2 := by rw [← hW0]; simp
  rw [hW0]
  clear hW0
  refine wpIn_rangeFunc_ownF rfl h1 (gf := 61) (lb := #[.pointer (some ⟨w.heap.size + 1, 0, none⟩)]) rfl trivial (enters_of Try.func61 (by kernel_rfl) rfl)
    (all_stops (n - 1) (w.heap.size + 1) s _ (by omega) (by omega) (by omega) (hb1.cell 0)) KB.t (KB.b (by omega)) (Below.refl _ _) stpV_size
    (fun pre W => RunesI w.heap.size s pre W ∧ Below w.heap.size w W)
    (fun _ _ _ => False)
    (OwnFrom.and (runesI_own _ _ _) (ownFrom_below (Nat.le_refl _) (by omega)))
    (fun _ _ _ _ _ hs _ _ => hs)
    ⟨⟨⟨_, hb0, World.ownsRow_nil _ _ _ _, trivial⟩, hb1⟩, hB0⟩
    (fun x => { tmps := #[.string s, undef, .slice none 0 0, .pointer (some ⟨w.heap.size, 0, none⟩), .int .i32 x.r, .string s, .func (.func 61) #[] #[.pointer (some ⟨w.heap.size + 1, 0, none⟩)], .int .i32 x.r, .int .i64 x.n, undef, undef, undef, undef, undef], defers := [] }) ?assign ?body ?done ?stop
  case assign =>
    intro l x W K hK
    unfold stpV
    gi_wp2
    simpa using hK
  case body =>
    rintro l pre x W ⟨⟨⟨v, hv, hrow, _⟩, hS⟩, hB⟩ hN
    have hN2 : pre.length < 60000 := by have := Hlen.out; have := Hsl.out; omega
    have hc := hv.cell
    have hlt := hS.lt
    have hne := Boxed.not_row (t := 9) hS (by decide) hrow
    clear hN
    have e3 : pre.length + 1 ≤ maxLen := by unfold maxLen; omega
    have e4 : (pre.length + 1) * 4 ≤ 140737488355328 := by omega
    have e5 : w.heap.size ≤ (W.alloc (.cells #[.int .i32 x.r] 21)).heap.size := by have := hB.size; simp; omega
    gi_wp2_with (gi_at_builtin; refine wpListIn_append_own _ rfl _ _ 68 rfl w.heap.size 21 i0 (.int .i32 0) 1 4 Try.underlying68 hi hz0 hz1 hz2 rfl (by decide) _ _ _ rfl (hrow.alloc _) ⟨W.heap.size, 0, none⟩ 1 1 [.int .i32 x.r] rfl rfl (cell_one_new _ _ _) (by simp [Value.oneCell']) e3 e4 e5 ?_; intro v' w1 hown' hgrow _; obtain ⟨g', cap', rfl⟩ := ownsRow_succ hown'; obtain ⟨hv1, hv2, hr2, hk2, hb2⟩ := hv.appended (by decide) hrow hB.size (Nat.le_refl _) hown' hgrow; have hc1 := hv1.cell; have hf1 := hv1.frozen)
    have hkb : KB (w.heap.size + 1) W (w1.setCell ⟨w.heap.size, 0, none⟩ (.slice (some ⟨g', 0, none⟩) (pre.length + 1) cap')) :=
      (Below.heap_setCell _ _ _ _ (by simp)).trans ((hgrow.block _ (by simp; omega) hne).trans (Below.heap_alloc _ _ _ hlt))
    refine ⟨hk2, hkb, ⟨⟨_, hv2, ?_, trivial⟩, Eq.trans hkb hS⟩, hB.trans hb2⟩
    simpa [v32] using hr2
  case done =>
    rintro D ys W hD rfl ⟨⟨⟨v, hv, hrow, _⟩, hS⟩, hB⟩ hK
    have hc := hv.cell
    gi_wp2
    refine ⟨by simp, .inl ⟨_, _, rfl, run_takeDeferred hK, ?_⟩⟩
    refine ⟨_, results_tmp rfl _ _ _, v, rfl, ?_, hB.trans (belowK_b (w := w) (Nat.le_refl _) W D _ _ (by omega) hK rfl rfl)⟩
    have hr := ownsRow_putObj hrow (.deferred none) hK rfl
    have e : runes s.data.toList = (stps s.data.toList).map (·.r) := by rw [runes, ← stps_map, List.map_map]; rfl
    rw [e, List.length_map, List.map_map]
    exact hr
  case stop =>
    rintro D c pre W _ _ h _
    exact h.elim
theorem prunes_any (s : ByteArray) (w : World) (hs : s.size ≤ 60000) :
    Calls Try.prog 29 #[.string s] w fun e W' => ∃ v, e = .returned v ∧ W'.ownsRow w.heap.size 21 1 v (runes s.data.toList).length ((runes s.data.toList).map v32) ∧ Below w.heap.size w W' :=
  callsIn_wide.1 (prunes_in 3 (Nat.le_refl _) s w hs)
end Go.Proofs.Ytdfnlcigbmiafaa

/- Walks: the reference's Runes. -/
namespace Go.Proofs.Ytdfnlcigbmiafaa
open Go.RowKit
set_option linter.unusedVariables false
set_option linter.unusedSimpArgs false
theorem ownsRow_ofBelow {w w' : World} {base : Nat} {e : TypeId} {size n : Nat} {v : Value} {xs : List Value} (h : w.ownsRow base e size v n xs) (hb : Below w.heap.size w w') : w'.ownsRow base e size v n xs :=
  ⟨h.1, h.2.elim Or.inl (fun ⟨g, cap, cur, hv, hg, hh, r⟩ => Or.inr ⟨g, cap, cur, hv, hg, (hb.block g (Array.getElem?_eq_some_iff.1 hh).1).trans hh, r⟩)⟩
theorem below_grown {w0 w w' : World} {tmp : Obj} {base : Nat} {e : TypeId} {size n : Nat} {v : Value} {xs : List Value} (hb : Below base w0 w) (hB : base ≤ w.heap.size) (ho : w.ownsRow base e size v n xs) (hg : (w.alloc tmp).grownBy w' v.ownBlock) : Below base w0 w' := by
  refine (hb.alloc hB tmp).grown hg (by simp; omega) fun j ej => ?_
  rcases ho.2 with ⟨rfl, _⟩ | ⟨g, cap, cur, rfl, hb, _, _⟩
  · simp [Value.ownBlock] at ej
  · obtain rfl : g = j := by simpa [Value.ownBlock] using ej
    exact hb
set_option maxHeartbeats 2000000 in
theorem rrunes_any (s : ByteArray) (w : World) (hs : s.size ≤ 60000) :
    Calls Try.prog 38 #[.string s] w fun e W' => ∃ v, e = .returned v ∧ W'.ownsRow w.heap.size 3 1 v (runes s.data.toList).length ((runes s.data.toList).map v64) ∧ Below w.heap.size w W' := by
  obtain ⟨i0, hi, hz0, hz1, hz2⟩ := info_parts infoInt
  go_enter Try.func38, Try.ntmps38
  go_wp2_with fail
  go_loopw [3, 4] (fun o z wr => ∃ (k : Nat) (pre : List Nat), z = .int .i64 k ∧ k ≤ s.size ∧ pre.length ≤ k ∧ runes s.data.toList = pre ++ runes (s.data.toList.drop k) ∧ wr.ownsRow w.heap.size 3 1 o pre.length (pre.map v64) ∧ Below w.heap.size w wr) (fun _ z _ => s.size - (intOf z).toNat)
  case atStart => exact ⟨0, [], rfl, Nat.zero_le _, Nat.le_refl _, by simp, ⟨by simp, .inr ⟨w.heap.size, 0, #[], rfl, Nat.le_refl _, World.alloc_heap_new _ _, by simp⟩⟩, (Below.refl _ w).alloc (Nat.le_refl _) _⟩
  case round =>
    obtain ⟨k, pre, rfl, hk, hpk, hr, ho, hb⟩ := hrel
    have HG := Lib.hid hr
    clear hr
    by_cases hlt : k < s.size
    · obtain ⟨r, n, hn, hr, hn1, hn4, hkn, hne, hdd⟩ := next_at hlt
      have hc := runes_cons hne
      rw [hn] at hc
      dsimp only at hc
      rw [hdd] at hc
      have HN := Lib.hid (fun w => rnext_to s k r n w (by omega) hlt hn)
      have HQ : Hid (runes s.data.toList = (pre ++ [r]) ++ runes (s.data.toList.drop (k + n))) := by
        show _ = _; rw [HG.out, hc]; simp
      clear hn hne hdd hc
      go_wp2_with fail
      refine (HN.out _).mono ?_
      rintro e w2 ⟨rfl, b2⟩
      have ho2 := ownsRow_ofBelow ho b2
      have hb2 := hb.trans (b2.mono hb.size)
      clear ho b2 hb
      have e3 : pre.length + 1 ≤ maxLen := by unfold maxLen; omega
      have e4 : (pre.length + 1) * 8 ≤ 140737488355328 := by omega
      have e5 : w.heap.size ≤ (w2.alloc (.cells #[.int .i64 r] 3)).heap.size := by have := hb2.size; simp; omega
      go_wp2_with (at_builtin; refine wpList_append_own _ rfl _ _ 81 rfl w.heap.size 3 i0 (.int .i64 0) 1 8 Try.underlying81 hi hz0 hz1 hz2 rfl (by decide) _ _ _ rfl (ho2.alloc _) ⟨w2.heap.size, 0, none⟩ 1 1 [.int .i64 r] rfl rfl (cell_one_new _ _ _) (by simp [Value.oneCell']) e3 e4 e5 ?_; intro v' w3 hown' hgrow _)
      go_roundw
      case rel => exact ⟨k + n, pre ++ [r], by go_num, hkn, by simp; omega, HQ.out, by simpa [v64] using hown', below_grown hb2 hb2.size ho2 hgrow⟩
      case measure => simp [intOf]; omega
    · have HE : Hid (runes s.data.toList = pre) := by show _ = _; rw [HG.out, drop_end (by omega), runes_nil, List.append_nil]
      go_wp2_with fail
      go_ret
      exact ⟨_, rfl, by rw [HE.out]; exact ho, hb⟩
end Go.Proofs.Ytdfnlcigbmiafaa
