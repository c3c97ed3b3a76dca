/- Walks: the document's answers: does a text stand at a place, hits, the first hit, why not (chapter 03). -/
import Derived.Test.YtpjlkhdolhoeoaaFdNob
import Derived.Laws.OwnMore
namespace Go.Proofs.Ytpjlkhdolhoeoaa
open Go.Shelf Go.RowKit Go.Lib Go.Maps
set_option linter.unusedVariables false
set_option linter.unusedSimpArgs false
theorem beqF (a b : Bs) : ((strOf a).toList == (strOf b).toList) = decide (a = b) := by
  rw [Bool.eq_iff_iff, beq_iff_eq, ByteArray.toList_eq, ByteArray.toList_eq, strOf_list, strOf_list, decide_eq_true_iff]
theorem extF (s : Bs) (k j : Nat) : (strOf s).extract k (k + j) = strOf ((s.drop k).take j) := by
  have h : ((strOf s).extract k (k + j)).data.toList = (s.drop k).take j := by
    have : ((strOf s).extract k (k + j)).data.toList = ((strOf s).data.extract k (k + j)).toList := by rw [ByteArray.data_extract]
    rw [this]
    simp [strOf, Array.toList_extract, List.extract_eq_take_drop]
  rw [← strOf_data ((strOf s).extract k (k + j)), h]
/-- Does a text begin there? -/
def begB (s x : Bs) (k : Nat) : Bool := decide (k ≤ s.length) && decide ((s.drop k).take x.length = x)
theorem stands_beg (s x : Bs) (k : Nat) : standsB s x k = (decide (x ≠ []) && begB s x k) := rfl
set_option maxRecDepth 100000 in
set_option maxHeartbeats 1000000 in
theorem fbegins (s p : Bs) (k : Nat) (w : World) (hs : s.length ≤ 9223372036854775807) (hp : p.length ≤ 9223372036854775807) :
    Calls Try.prog 45 #[.string (strOf s), .string (strOf p), .int .i64 k] w fun e w' => e = .returned (.bool (begB s p k)) ∧ w = w' := by
  have z1 := strOf_size s
  have z2 := strOf_size p
  by_cases hk : k ≤ s.length ∧ (p.length : Int) ≤ (s.length : Int) - k
  · obtain ⟨hk, hk2⟩ := hk
    have he : (((strOf s).extract k (k + p.length)).toList == (strOf p).toList) = begB s p k := by
      rw [extF, beqF]
      unfold begB
      rw [decide_eq_true (by omega : k ≤ s.length), Bool.true_and]
    generalize begB s p k = v at *
    go_enter Try.func45, Try.ntmps45
    go_wp2_with fail
    go_ret
    exact ⟨rfl, rfl⟩
  · have HE : Hid (begB s p k = false) := by
      show _ = _
      unfold begB
      by_cases h3 : k ≤ s.length
      · rw [decide_eq_false (p := List.take _ _ = _), Bool.and_false]
        intro h
        have := congrArg List.length h
        rw [List.length_take, List.length_drop] at this
        omega
      · rw [decide_eq_false (by omega : ¬ k ≤ s.length), Bool.false_and]
    by_cases h3 : k ≤ s.length
    · have h4 : ¬ ((p.length : Int) ≤ (s.length : Int) - k) := fun h => hk ⟨h3, h⟩
      clear hk
      go_enter Try.func45, Try.ntmps45
      go_wp2_with fail
      go_ret
      exact ⟨by rw [HE.out]; rfl, rfl⟩
    · clear hk
      go_enter Try.func45, Try.ntmps45
      go_wp2_with fail
      go_ret
      exact ⟨by rw [HE.out]; rfl, rfl⟩
set_option maxRecDepth 100000 in
theorem fstands (s p : Bs) (k : Nat) (w : World) (hs : s.length ≤ 9223372036854775807) (hp : p.length ≤ 9223372036854775807) :
    Calls Try.prog 35 #[.string (strOf s), .string (strOf p), .int .i64 k] w fun e w' => e = .returned (.bool (standsB s p k)) ∧ w = w' := by
  have H := Lib.hid (fbegins s p k w hs hp)
  rw [stands_beg]
  generalize begB s p k = v at *
  have z2 := strOf_size p
  by_cases h0 : p = []
  · have hl : p.length = 0 := by rw [h0]; rfl
    rw [decide_eq_false (by simpa using h0 : ¬ p ≠ []), Bool.false_and]
    rw [hl] at z2
    clear h0 hl H
    generalize strOf p = X at z2 ⊢
    go_enter Try.func35, Try.ntmps35
    go_wp2_with fail
    go_ret
    exact ⟨rfl, rfl⟩
  · have hl : 0 < p.length := List.length_pos_iff.2 h0
    rw [decide_eq_true (by simpa using h0 : p ≠ []), Bool.true_and]
    have hz : (0 : Int) < ((strOf p).size : Int) := by omega
    clear h0 hl z2
    generalize strOf p = X at H hz ⊢
    go_enter Try.func35, Try.ntmps35
    go_wp2_with (go_at_call 45; refine H.out.mono ?_; rintro e w1 ⟨rfl, rfl⟩)
    go_ret
    exact ⟨rfl, rfl⟩
/-- The hits at a place, of the first texts. -/
def rowH (ls : List Bs) (s : Bs) (k n : Nat) : List (Nat × Nat) := ((List.range n).filter fun w => standsB s (ls.getD w []) k).map fun w => (k, w)
def hitsTo (ls : List Bs) (s : Bs) (k : Nat) : List (Nat × Nat) := (List.range k).flatMap fun k => rowH ls s k ls.length
theorem hitsTo_all (ls : List Bs) (s : Bs) : hitsTo ls s s.length = hitsJ ls s := rfl
theorem hitsTo_succ (ls : List Bs) (s : Bs) (k : Nat) : hitsTo ls s (k + 1) = hitsTo ls s k ++ rowH ls s k ls.length := by
  unfold hitsTo
  rw [List.range_succ, List.flatMap_append]
  simp
theorem rowH_zero (ls : List Bs) (s : Bs) (k : Nat) : rowH ls s k 0 = [] := rfl
theorem rowH_yes {ls : List Bs} {s : Bs} {k n : Nat} (h : standsB s (ls.getD n []) k = true) : rowH ls s k (n + 1) = rowH ls s k n ++ [(k, n)] := by
  unfold rowH
  rw [List.range_succ, List.filter_append, List.map_append]
  simp only [List.filter_cons, h, if_true, List.filter_nil, List.map_cons, List.map_nil]
theorem rowH_no {ls : List Bs} {s : Bs} {k n : Nat} (h : standsB s (ls.getD n []) k = false) : rowH ls s k (n + 1) = rowH ls s k n := by
  unfold rowH
  rw [List.range_succ, List.filter_append, List.map_append]
  simp only [List.filter_cons, h, List.filter_nil, List.map_nil, List.append_nil, Bool.false_eq_true, if_false]
theorem rowH_len (ls : List Bs) (s : Bs) (k n : Nat) : (rowH ls s k n).length ≤ n := by
  unfold rowH
  rw [List.length_map]
  exact Nat.le_trans (List.length_filter_le _ _) (by simp)
theorem hitsTo_len (ls : List Bs) (s : Bs) : ∀ k, (hitsTo ls s k).length ≤ k * ls.length
  | 0 => by simp [hitsTo]
  | k + 1 => by
    rw [hitsTo_succ, List.length_append, Nat.succ_mul]
    have := hitsTo_len ls s k
    have := rowH_len ls s k ls.length
    omega
theorem acc_len {ls : List Bs} {s : Bs} {k n : Nat} (hk : k < s.length) (hn : n < ls.length) : (hitsTo ls s k ++ rowH ls s k n).length + 1 ≤ s.length * ls.length := by
  have h1 := hitsTo_len ls s k
  have h2 := rowH_len ls s k n
  have h3 : (k + 1) * ls.length ≤ s.length * ls.length := Nat.mul_le_mul_right _ hk
  rw [Nat.succ_mul] at h3
  rw [List.length_append]
  omega
def zeroRH : Value := .agg #[.int .i64 0, .int .i64 0]
theorem infoRH : (Try.prog.info? 46).map (fun i => (i.zero, i.size, i.bytes)) = some (some zeroRH, 2, 16) := by kernel_rfl
set_option maxRecDepth 100000 in
set_option maxHeartbeats 8000000 in
theorem fhitsR {w : World} {b off cap : Nat} {ls : List Bs} (h : TxtM w b off ls) (hl : ls.length ≤ 100000) (hx : ∀ x ∈ ls, x.length ≤ 1000000) (s : Bs) (hs : s.length ≤ 1000000) (hsl : s.length * ls.length ≤ 1000000) :
    Calls Try.prog 18 #[.slice (some ⟨b, off, none⟩) ls.length cap, .string (strOf s)] w fun e w' => ∃ v, e = .returned v ∧ w'.ownsRow w.heap.size 46 2 v (hitsJ ls s).length (hitG (hitsJ ls s)) ∧ Below w.heap.size w w' := by
  obtain ⟨i0, hi, hz0, hz1, hz2⟩ := info_parts infoRH
  have hsz := strOf_size s
  have HH := Lib.hid (fun (W : World) (hb : Below w.heap.size w W) => h.keep hb)
  have HX := Lib.hid hx
  have HSL := Lib.hid hsl
  have hst : (w.alloc (.cells #[] 46)).ownsRow w.heap.size 46 2 (.slice (some ⟨w.heap.size, 0, none⟩) 0 0) 0 (hitG []) := World.ownsRow_lit w #[] 0 (Nat.le_refl _) (by decide) rfl
  have HST := Lib.hid hst
  have HB0 := Lib.hid ((Below.refl w.heap.size w).alloc (Nat.le_refl _) (.cells #[] 46))
  clear h hx hsl hst
  go_enter Try.func18, Try.ntmps18
  go_wp2_with fail
  go_loopw [5, 6] (fun v z wr => ∃ k : Nat, z = .int .i64 k ∧ k ≤ s.length ∧ wr.ownsRow w.heap.size 46 2 v (hitsTo ls s k).length (hitG (hitsTo ls s k)) ∧ Below w.heap.size w wr) (fun _ z _ => s.length - (intOf z).toNat)
  case atStart => exact ⟨0, rfl, Nat.zero_le _, HST.out, HB0.out⟩
  case round =>
    obtain ⟨k, rfl, hk, hr, hb⟩ := hrel
    by_cases hlt : k < s.length
    · have kz : (k : Int) < (s.length : Int) := by omega
      have e2 : IntKind.i64.wrap ((k : Int) + 1) = (k : Int) + 1 := IntWalk.i64_in _ (by omega)
      have HR := Lib.hid (And.intro hr hb)
      obtain ⟨ov, cv, rfl⟩ := own_shapeF hr
      clear hr hb
      go_wp2_with fail
      go_loopw [5, 7] (fun v z wr2 => ∃ i : Nat, z = .int .i64 i ∧ i ≤ ls.length ∧ wr2.ownsRow w.heap.size 46 2 v (hitsTo ls s k ++ rowH ls s k i).length (hitG (hitsTo ls s k ++ rowH ls s k i)) ∧ Below w.heap.size w wr2) (fun _ z _ => ls.length - (intOf z).toNat)
      case atStart => exact ⟨0, rfl, Nat.zero_le _, by rw [rowH_zero, List.append_nil]; exact HR.out.1, HR.out.2⟩
      case round =>
        obtain ⟨i, rfl, hi2, hr, hb⟩ := hrel
        by_cases hil : i < ls.length
        · obtain ⟨x, hx⟩ : ∃ x, ls[i]? = some x := ⟨_, List.getElem?_eq_getElem hil⟩
          have hc := HH.out wr hb i x hx
          have hst := fstands s x k wr (by omega) (by have := HX.out x (List.mem_of_getElem? hx); omega)
          have hgd : ls.getD i [] = x := by rw [List.getD_eq_getElem?_getD, hx]; rfl
          rw [← hgd] at hst
          have HS := Lib.hid hst
          have iz : (i : Int) < (ls.length : Int) := by omega
          have i0z : (0 : Int) ≤ (i : Int) := by omega
          have e3 : IntKind.i64.wrap ((i : Int) + 1) = (i : Int) + 1 := IntWalk.i64_in _ (by omega)
          have hal := acc_len (ls := ls) (s := s) hlt hil
          have HAL := Lib.hid hal
          obtain ⟨A, hA⟩ : ∃ A, hitsTo ls s k ++ rowH ls s k i = A := ⟨_, rfl⟩
          rw [hA] at hr HAL
          have HA := Lib.hid hA
          have HRI := Lib.hid (And.intro hr hb)
          obtain ⟨o1, c1, rfl⟩ := own_shapeF hr
          rw [hgd] at HS
          have HY := Lib.hid (fun (q : standsB s x k = true) => rowH_yes (ls := ls) (s := s) (k := k) (n := i) (by rw [hgd]; exact q))
          have HNO := Lib.hid (fun (q : standsB s x k = false) => rowH_no (ls := ls) (s := s) (k := k) (n := i) (by rw [hgd]; exact q))
          generalize standsB s x k = q at *
          clear hst hx hgd hal hr hA
          obtain ⟨X, hX⟩ : ∃ X, strOf x = X := ⟨_, rfl⟩
          rw [hX] at hc HS
          clear hX
          cases q
          · go_wp2_with (go_at_call 35; refine HS.out.mono ?_; rintro e w1 ⟨rfl, rfl⟩)
            go_roundw
            case rel => exact ⟨i + 1, by go_num, hil, by rw [HNO.out (by first | rfl | trivial), HA.out]; exact HRI.out.1, HRI.out.2⟩
            case measure => simp [intOf]; omega
          · go_upto_region 9 with (go_at_call 35; refine HS.out.mono ?_; rintro e w1 ⟨rfl, rfl⟩)
            have hr2 := HRI.out.1
            have e3' : A.length + 1 ≤ maxLen := by have := HAL.out; have := HSL.out; unfold maxLen; omega
            have e4 : (A.length + 1) * 16 ≤ 140737488355328 := by have := HAL.out; have := HSL.out; omega
            have e5 : w.heap.size ≤ (wr.alloc (.cells #[.int .i64 (k : Int), .int .i64 (i : Int)] 46)).heap.size := by have := hb.size; simp; omega
            have HBB := Lib.hid hb
            clear hb hc
            go_wp2_with (at_builtin; refine wpList_append_own _ rfl _ _ 42 rfl w.heap.size 46 i0 zeroRH 2 16 Try.underlying42 hi hz0 hz1 hz2 rfl (by decide) _ _ _ rfl (hr2.alloc _) ⟨wr.heap.size, 0, none⟩ 1 1 (hitV (k, i)) rfl rfl (cells_newF _ _ _) (hitV_one _) e3' e4 e5 ?_; intro v' w4 hown4 hg4 _; have H4 := Lib.hid (And.intro hown4 hg4); obtain ⟨o4, c4, rfl⟩ := own_shapeF hown4; go_frame)
            obtain ⟨hown4, hg4⟩ := H4.out
            have hg4 : (wr.alloc (.cells #[.int .i64 (k : Int), .int .i64 (i : Int)] 46)).grownBy w4 _ := hg4
            have hb4 : Below w.heap.size w w4 := (HBB.out.alloc HBB.out.size _).trans (below_grown hg4 e5 (fun j hj => (hr2.lt j hj).1))
            have HB4 := Lib.hid (And.intro hown4 hb4)
            clear hown4 hg4 hr2 hb4
            go_wp2_with fail
            go_roundw
            case rel =>
              refine ⟨i + 1, by go_num, hil, ?_, HB4.out.2⟩
              have h4 := HB4.out.1
              rw [HY.out (by first | rfl | trivial), ← List.append_assoc, HA.out, hitG_snoc, List.length_append, List.length_singleton]
              exact h4
            case measure => simp [intOf]; omega
        · have hie : i = ls.length := by omega
          subst hie
          rw [← hitsTo_succ] at hr
          have HRI := Lib.hid (And.intro hr hb)
          clear hr hb
          go_wp2_with fail
          go_roundw
          case rel => exact ⟨k + 1, by go_num, hlt, HRI.out.1, HRI.out.2⟩
          case measure => simp [intOf]; omega
    · have hke : k = s.length := by omega
      subst hke
      rw [hitsTo_all] at hr
      have HRI := Lib.hid (And.intro hr hb)
      clear hr hb
      go_wp2_with fail
      go_ret
      exact ⟨_, rfl, HRI.out.1, HRI.out.2⟩
end Go.Proofs.Ytpjlkhdolhoeoaa
