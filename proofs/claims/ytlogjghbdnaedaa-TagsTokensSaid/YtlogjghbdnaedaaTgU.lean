/- Walks: has a row of attributes one of a name? (slices.ContainsFunc, chapter 11). -/
import Derived.Test.YtlogjghbdnaedaaTgG
import Derived.Test.YtlogjghbdnaedaaTgA
namespace Go.Proofs.Ytlogjghbdnaedaa
open Go.RowKit
set_option linter.unusedVariables false
set_option linter.unusedSimpArgs false
theorem str_eqT (n m : List UInt8) : ((strOf n).toList == (strOf m).toList) = decide (n = m) := by
  rw [Bool.eq_iff_iff, beq_iff_eq, decide_eq_true_iff, ByteArray.toList_eq, ByteArray.toList_eq, strOf_list, strOf_list]
set_option maxHeartbeats 1000000 in
theorem open1_any (n m : List UInt8) (v : ByteArray) (x y : Int) (D : Nat) (w : World) (hD : w.cell? ⟨D, 0, none⟩ = some (.string (strOf m))) (hDl : D < w.heap.size) :
    Calls Try.prog 54 #[.agg #[.string (strOf n), .string v, .int .i64 x, .int .i64 y], .pointer (some ⟨D, 0, none⟩)] w fun e w' => e = .returned (.bool (decide (n = m))) ∧ Below w.heap.size w w' := by
  have he := str_eqT n m
  have hB := (Below.refl w.heap.size w).alloc (Nat.le_refl _) (.cells #[.string (strOf n), .string v, .int .i64 x, .int .i64 y] 47)
  have HB := Lib.hid hB
  have d1 := (hB.cell (p := ⟨D, 0, none⟩) hDl).trans hD
  have d0 := (Blk.new w 47 #[.string (strOf n), .string v, .int .i64 x, .int .i64 y]).cell 0
  generalize decide (n = m) = b at *
  generalize strOf n = a at *
  generalize strOf m = c at *
  clear hB hD
  go_enter Try.func54, Try.ntmps54
  go_upto_region 1 with fail
  generalize w.alloc (.cells #[.string a, .string v, .int .i64 x, .int .i64 y] 47) = W0 at *
  go_wp2_with fail
  go_ret
  exact ⟨rfl, HB.out⟩
theorem first_att (m : List UInt8) : ∀ az : List Att, (∃ (i : Nat) (a : Att), az[i]? = some a ∧ decide (a.name = m) = true ∧ ∀ (j : Nat) (b : Att), j < i → az[j]? = some b → decide (b.name = m) = false) ∨ ∀ (j : Nat) (b : Att), az[j]? = some b → decide (b.name = m) = false
  | [] => .inr fun j b h => by simp at h
  | a :: az => by
    by_cases h : a.name = m
    · exact .inl ⟨0, a, rfl, decide_eq_true h, fun j b hj => by omega⟩
    · rcases first_att m az with ⟨i, b, h1, h2, h3⟩ | h4
      · refine .inl ⟨i + 1, b, by simpa using h1, h2, fun j c hj hc => ?_⟩
        cases j with
        | zero => simp at hc; subst hc; exact decide_eq_false h
        | succ j => exact h3 j c (by omega) (by simpa using hc)
      · refine .inr fun j c hc => ?_
        cases j with
        | zero => simp at hc; subst hc; exact decide_eq_false h
        | succ j => exact h4 j c (by simpa using hc)
theorem any_att {m : List UInt8} {az : List Att} {i : Nat} {a : Att} (h : az[i]? = some a) (ha : decide (a.name = m) = true) : (az.any fun b => decide (b.name = m)) = true :=
  List.any_eq_true.2 ⟨a, List.mem_of_getElem? h, ha⟩
theorem none_att {m : List UInt8} {az : List Att} (h : ∀ (j : Nat) (b : Att), az[j]? = some b → decide (b.name = m) = false) : (az.any fun b => decide (b.name = m)) = false := by
  rw [Bool.eq_false_iff]
  intro h1
  obtain ⟨a, ha, h2⟩ := List.any_eq_true.1 h1
  obtain ⟨j, hj⟩ := List.getElem?_of_mem ha
  rw [h j a hj] at h2; cases h2
set_option maxHeartbeats 4000000 in
theorem idxA_any (az : List Att) (cs : List Value) (ok : Nat → Prop) (pl : Bool) (v : Value) (m : List UInt8) (D : Nat) (w : World) (hr : RowG w ok v az.length cs) (hk : AttsC pl az cs) (hl : az.length ≤ 1000000) (hD : w.cell? ⟨D, 0, none⟩ = some (.string (strOf m))) (hDl : D < w.heap.size) :
    ∃ r : Int, decide (0 ≤ r) = (az.any fun b => decide (b.name = m)) ∧ Calls Try.prog 67 #[v, .func (Fn.func 54) #[] #[.pointer (some ⟨D, 0, none⟩)]] w fun e w' => e = .returned (.int .i64 r) ∧ Below w.heap.size w w' := by
  have HR := Lib.hid hr
  have HK := Lib.hid hk
  have HD := Lib.hid hD
  obtain ⟨o1, cap, rfl⟩ := rowG_len hr
  clear hr hk hD
  rcases first_att m az with ⟨i, n, hn, hg, hj⟩ | hall
  · have hi := (List.getElem?_eq_some_iff.1 hn).1
    refine ⟨i, ?_, ?_⟩
    · rw [decide_eq_true (by omega), any_att hn hg]
    · have HJ := Lib.hid hj
      have HU := Lib.hid (And.intro hn hg)
      clear hj hn hg
      go_enter Try.func67, Try.ntmps67
      go_wp2_with fail
      go_loopw [8] (fun z wr => ∃ k : Nat, z = .int .i64 k ∧ k ≤ i ∧ Below w.heap.size w wr) (fun z _ => az.length - (intOf z).toNat)
      case atStart => exact ⟨0, rfl, Nat.zero_le _, Below.refl _ _⟩
      case round =>
        obtain ⟨k, rfl, hki, hb⟩ := hrel
        have hkl : k < az.length := by omega
        obtain ⟨a, ha⟩ : ∃ a, az[k]? = some a := ⟨_, List.getElem?_eq_getElem hkl⟩
        obtain ⟨g, o, cap', e, f, hv, hgl, c0, c1, c2, c3, x, y, rfl, rfl, _⟩ := att_at HR.out HK.out ha hb
        simp only [Value.slice.injEq] at hv
        obtain ⟨rfl, _, rfl⟩ := hv
        have HC := Lib.hid (open1_any a.name m (strOf a.val) x y D wr ((hb.cell (p := ⟨D, 0, none⟩) hDl).trans HD.out) (Nat.lt_of_lt_of_le hDl hb.size))
        have HB := Lib.hid hb
        have HX := Lib.hid ha
        clear hb ha
        generalize strOf a.name = n1 at *
        generalize strOf a.val = n2 at *
        by_cases hlt : k < i
        · rw [HJ.out k a hlt HX.out] at HC
          go_wp2_with fail
          refine HC.out.mono ?_
          rintro e w2 ⟨rfl, b2⟩
          go_wp2_with fail
          go_roundw
          case rel => exact ⟨k + 1, by go_num, hlt, HB.out.trans (b2.mono HB.out.size)⟩
          case measure => simp [intOf]; omega
        · obtain rfl : k = i := by omega
          have hgx : decide (a.name = m) = true := by have h1 := HU.out.1; have h2 := HX.out; rw [h1] at h2; rw [← Option.some.inj h2]; exact HU.out.2
          rw [hgx] at HC
          clear hgx
          go_wp2_with fail
          refine HC.out.mono ?_
          rintro e w2 ⟨rfl, b2⟩
          go_wp2_with fail
          go_ret
          exact ⟨rfl, HB.out.trans (b2.mono HB.out.size)⟩
  · refine ⟨-1, ?_, ?_⟩
    · rw [decide_eq_false (by omega), none_att hall]
    · have HJ := Lib.hid hall
      clear hall
      go_enter Try.func67, Try.ntmps67
      go_wp2_with fail
      go_loopw [8] (fun z wr => ∃ k : Nat, z = .int .i64 k ∧ k ≤ az.length ∧ Below w.heap.size w wr) (fun z _ => az.length - (intOf z).toNat)
      case atStart => exact ⟨0, rfl, Nat.zero_le _, Below.refl _ _⟩
      case round =>
        obtain ⟨k, rfl, hki, hb⟩ := hrel
        by_cases hkl : k < az.length
        · obtain ⟨a, ha⟩ : ∃ a, az[k]? = some a := ⟨_, List.getElem?_eq_getElem hkl⟩
          obtain ⟨g, o, cap', e, f, hv, hgl, c0, c1, c2, c3, x, y, rfl, rfl, _⟩ := att_at HR.out HK.out ha hb
          simp only [Value.slice.injEq] at hv
          obtain ⟨rfl, _, rfl⟩ := hv
          have HC := Lib.hid (open1_any a.name m (strOf a.val) x y D wr ((hb.cell (p := ⟨D, 0, none⟩) hDl).trans HD.out) (Nat.lt_of_lt_of_le hDl hb.size))
          rw [HJ.out k a ha] at HC
          have HB := Lib.hid hb
          clear hb ha
          generalize strOf a.name = n1 at *
          generalize strOf a.val = n2 at *
          go_wp2_with fail
          refine HC.out.mono ?_
          rintro e w2 ⟨rfl, b2⟩
          go_wp2_with fail
          go_roundw
          case rel => exact ⟨k + 1, by go_num, hkl, HB.out.trans (b2.mono HB.out.size)⟩
          case measure => simp [intOf]; omega
        · have HB := Lib.hid hb
          clear hb
          go_wp2_with fail
          go_ret
          exact ⟨rfl, HB.out⟩
/-- slices.ContainsFunc over attributes. -/
theorem hasA_any (az : List Att) (cs : List Value) (ok : Nat → Prop) (pl : Bool) (v : Value) (m : List UInt8) (D : Nat) (w : World) (hr : RowG w ok v az.length cs) (hk : AttsC pl az cs) (hl : az.length ≤ 1000000) (hD : w.cell? ⟨D, 0, none⟩ = some (.string (strOf m))) (hDl : D < w.heap.size) :
    Calls Try.prog 53 #[v, .func (Fn.func 54) #[] #[.pointer (some ⟨D, 0, none⟩)]] w fun e w' => e = .returned (.bool (az.any fun b => decide (b.name = m))) ∧ Below w.heap.size w w' := by
  obtain ⟨r, hr1, hi⟩ := idxA_any az cs ok pl v m D w hr hk hl hD hDl
  obtain ⟨o1, cap, rfl⟩ := rowG_len hr
  have HI := Lib.hid hi
  rw [← hr1]
  clear hi hr1 hr hk hD
  go_enter Try.func53, Try.ntmps53
  go_wp2_with fail
  refine HI.out.mono ?_
  rintro e w2 ⟨rfl, b2⟩
  go_wp2_with fail
  go_ret
  exact ⟨rfl, b2⟩
end Go.Proofs.Ytlogjghbdnaedaa
