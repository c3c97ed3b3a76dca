/- Walks: the laws' few, hole and awake. -/
import Derived.Test.YtmfldffbafamnaaCjT
import Derived.Test.YtmfldffbafamnaaCjR
import Derived.Deep.DeepCutAuto
namespace Go.Proofs.Ytmfldffbafamnaa
open Go.RowKit
set_option linter.unusedVariables false
set_option linter.unusedSimpArgs false
theorem few_any (l : List UInt8) (w : World) (hl : l.length ≤ 9223372036854775807) :
    Calls Try.prog 8 #[.string (strOf l)] w fun e w' => e = .returned (.string (strOf (l.take 120))) ∧ w = w' := by
  have hz := strOf_size l
  obtain ⟨k, hk⟩ : ∃ k, k = min l.length 120 := ⟨_, rfl⟩
  have hmin : min ((l.length : Nat) : Int) 120 = (k : Int) := by omega
  have hkl : k ≤ l.length := by omega
  have HE : Hid ((strOf l).extract 0 k = strOf (l.take 120)) := by
    show _ = _
    rw [strOf_extract, List.drop_zero, Nat.sub_zero]
    congr 1
    rw [hk]
    by_cases h : l.length ≤ 120
    · rw [Nat.min_eq_left h, List.take_of_length_le (Nat.le_refl _), List.take_of_length_le h]
    · rw [Nat.min_eq_right (by omega)]
  clear hk
  go_enter Try.func8, Try.ntmps8
  go_wp2_with fail
  go_ret
  exact ⟨by rw [← HE.out]; rfl, rfl⟩
def q0 : Q := ⟨0, [], []⟩
theorem q0_good : q0.good 0 := ⟨by decide, by decide, by decide, by decide⟩
def holeL (l : List UInt8) : Bool × Bool := ((runS q0 l).2 && holeS (runS q0 l).1, (runS q0 l).2 && endS (runS q0 l).1)
theorem run0 (l : List UInt8) (w : World) (hl : l.length ≤ 900) :
    Calls Try.prog 10 #[.agg #[.int .i64 0, .string ⟨#[]⟩, .string ⟨#[]⟩], .string (strOf l)] w fun x w' => x = .returned (qr (runS q0 l)) ∧ Below w.heap.size w w' :=
  run_any q0 l 0 w q0_good (by omega)
set_option maxRecDepth 100000 in
theorem hole_law (l : List UInt8) (w : World) (hl : l.length ≤ 900) :
    Calls Try.prog 26 #[.string (strOf l)] w fun e w' => e = .returned (.tuple #[.bool (holeL l).1, .bool (holeL l).2]) ∧ Below w.heap.size w w' := by
  have HR := Lib.hid (fun w => run0 l w hl)
  have K0 : Hid (holeL l = ((runS q0 l).2 && holeS (runS q0 l).1, (runS q0 l).2 && endS (runS q0 l).1)) := by show _ = _; rfl
  generalize runS q0 l = r at *
  obtain ⟨⟨x1, x2, x3⟩, y⟩ := r
  have HH := Lib.hid (fun w => hole_any ⟨x1, x2, x3⟩ w)
  have HX := Lib.hid (fun w => end_any ⟨x1, x2, x3⟩ w)
  dsimp only at K0
  generalize holeS ⟨x1, x2, x3⟩ = a at *
  generalize endS ⟨x1, x2, x3⟩ = b at *
  unfold qr Q.v sv at HR
  unfold Q.v sv at HH HX
  dsimp only at HR HH HX
  go_enter Try.func26, Try.ntmps26
  go_wp2_with fail
  refine (HR.out _).mono ?_
  rintro x w2 ⟨rfl, b2⟩
  have hX : StAt (w2.alloc (.cells #[.int .i64 x1, .string (strOf x2), .string (strOf x3)] 25)) w2.heap.size ⟨x1, x2, x3⟩ := Blk.new w2 _ _
  have hb := b2.alloc b2.size (.cells #[.int .i64 x1, .string (strOf x2), .string (strOf x3)] 25)
  go_upto_region 2 with fail
  generalize w2.alloc _ = w3 at *
  obtain ⟨c0, c1, c2, _, _, _⟩ := hX.facts
  dsimp only at c0 c1 c2
  cases y
  · go_wp2_with fail
    go_ret2
    exact ⟨by rw [K0.out]; rfl, hb⟩
  · go_wp2_with fail
    refine (HH.out _).mono ?_
    rintro x w4 ⟨rfl, b4⟩
    obtain ⟨e0, e1, e2, _, _, _⟩ := (hX.below' b4).facts
    have hb4 := hb.trans (b4.mono hb.size)
    clear c0 c1 c2 b4
    dsimp only at e0 e1 e2
    go_wp2_with fail
    refine (HX.out _).mono ?_
    rintro x w5 ⟨rfl, b5⟩
    have hb5 := hb4.trans (b5.mono hb4.size)
    go_wp2_with fail
    go_ret2
    exact ⟨by rw [K0.out]; rfl, hb5⟩
theorem hole_to (l : List UInt8) (a b : Bool) (w : World) (hl : l.length ≤ 900) (h : holeL l = (a, b)) :
    Calls Try.prog 26 #[.string (strOf l)] w fun e w' => e = .returned (.tuple #[.bool a, .bool b]) ∧ Below w.heap.size w w' := by
  have := hole_law l w hl
  rwa [h] at this
set_option maxRecDepth 100000 in
theorem awake_any (w : World) :
    Calls Try.prog 13 #[] w fun e w' => e = .returned (.bool true) ∧ Below w.heap.size w w' := by
  have H1 := Lib.hid (fun w => hole_to [123, 34, 97, 34, 58, 34] true false w (by decide) (by decide +kernel))
  have H2 := Lib.hid (fun w => hole_to [123, 34] false false w (by decide) (by decide +kernel))
  have H3 := Lib.hid (fun w => hole_to [123, 34, 97, 34, 58] false false w (by decide) (by decide +kernel))
  have H4 := Lib.hid (fun w => hole_to [123, 34, 97, 34, 58, 34, 92, 117, 48, 48] false false w (by decide) (by decide +kernel))
  have H5 := Lib.hid (fun w => hole_to [49] false true w (by decide) (by decide +kernel))
  have H6 := Lib.hid (fun w => hole_to [49, 46] false false w (by decide) (by decide +kernel))
  go_enter Try.func13, Try.ntmps13
  go_wp2_with fail
  refine (H1.out _).mono ?_
  rintro x w1 ⟨rfl, b1⟩
  go_wp2_with fail
  refine (H2.out _).mono ?_
  rintro x w2 ⟨rfl, b⟩
  have b2 := b1.trans (b.mono b1.size)
  clear b b1
  go_wp2_with fail
  refine (H3.out _).mono ?_
  rintro x w3 ⟨rfl, b⟩
  have b3 := b2.trans (b.mono b2.size)
  clear b b2
  go_wp2_with fail
  refine (H4.out _).mono ?_
  rintro x w4 ⟨rfl, b⟩
  have b4 := b3.trans (b.mono b3.size)
  clear b b3
  go_wp2_with fail
  refine (H5.out _).mono ?_
  rintro x w5 ⟨rfl, b⟩
  have b5 := b4.trans (b.mono b4.size)
  clear b b4
  go_wp2_with fail
  refine (H6.out _).mono ?_
  rintro x w6 ⟨rfl, b⟩
  have b6 := b5.trans (b.mono b5.size)
  clear b b5
  go_wp2_with fail
  go_ret
  exact ⟨rfl, b6⟩
end Go.Proofs.Ytmfldffbafamnaa
