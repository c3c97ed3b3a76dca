/- Walks: the reference's Word and shut. -/
import Derived.Test.YtmfldffbafamnaaRfA
import Derived.Test.YtmfldffbafamnaaCjC
namespace Go.Proofs.Ytmfldffbafamnaa
open Go.RowKit
set_option linter.unusedVariables false
set_option linter.unusedSimpArgs false
/-- A state of the reference. -/
structure RD where
  o : List UInt8
  m : Nat
  n : Nat
  p : List UInt8
deriving DecidableEq
def RD.v (r : RD) : Value := .agg #[.string (strOf r.o), .int .i64 r.m, .int .u8 r.n, .string (strOf r.p)]
def rr (x : RD × Bool) : Value := .tuple #[x.1.v, .bool x.2]
def shutS (r : RD) : RD := ⟨r.o, 5, 0, []⟩
theorem shut_any (o : List UInt8) (m n : Nat) (p : List UInt8) (w : World) :
    Calls Try.prog 43 #[.agg #[.string (strOf o), .int .i64 m, .int .u8 n, .string (strOf p)]] w fun e w' => e = .returned (.agg #[.string (strOf o), .int .i64 5, .int .u8 0, .string (strOf [])]) ∧ Below w.heap.size w w' := by
  go_enter Try.func43, Try.ntmps43
  go_wp2_with fail
  refine bodyPost_ret (v := .agg #[.string (strOf o), .int .i64 5, .int .u8 0, .string (strOf [])]) (by simp [results, Try.f43, go_sem]; try rfl) rfl ⟨rfl, ?_⟩
  go_grown
theorem word_len {a p : List UInt8} (h : Lib.hasPrefix a p = true) : (a == p) = ((p.length : Int) == a.length) := by
  rw [← Lib.hasPrefix_of_take] at h
  simp only [Bool.and_eq_true, decide_eq_true_eq, beq_iff_eq] at h
  obtain ⟨h1, h2⟩ := h
  rw [Bool.eq_iff_iff]
  simp only [beq_iff_eq]
  constructor
  · intro e; subst e; rfl
  · intro e
    rw [← h2, List.take_of_length_le (by omega)]
theorem pre_cases (a p : List UInt8) :
    (Lib.hasPrefix a p = true ∧ p.length ≤ a.length ∧ (((strOf a).extract 0 p.length).toList == p) = true) ∨ (Lib.hasPrefix a p = false ∧ a.length < p.length) ∨
    (Lib.hasPrefix a p = false ∧ p.length ≤ a.length ∧ (((strOf a).extract 0 p.length).toList == p) = false) := by
  have h := Lib.hasPrefix_raw (strOf a) (strOf p)
  rw [strOf_size, strOf_size, strOf_list, strOf_list, strOf_toList] at h
  rw [← h]
  by_cases hl : p.length ≤ a.length
  · cases hx : ((strOf a).extract 0 p.length).toList == p
    · right; right; exact ⟨by simp, hl, rfl⟩
    · left; exact ⟨by simp [hl], hl, rfl⟩
  · right; left; exact ⟨by simp [hl], by omega⟩
set_option maxRecDepth 100000 in
set_option maxHeartbeats 2000000 in
theorem rword_any (p : List UInt8) (w : World) (hp : p.length ≤ 60000) :
    Calls Try.prog 44 #[.string (strOf p)] w fun e w' => e = .returned (.tuple #[.bool (wordS p).1, .bool (wordS p).2]) ∧ Below w.heap.size w w' := by
  have hT := strOf_toList
  have hz := strOf_size p
  have hzT : ({ data := #[116, 114, 117, 101] } : ByteArray).size = 4 := rfl
  have hzF : ({ data := #[102, 97, 108, 115, 101] } : ByteArray).size = 5 := rfl
  have hzN : ({ data := #[110, 117, 108, 108] } : ByteArray).size = 4 := rfl
  have c1 := pre_cases wT p
  have c2 := pre_cases wF p
  have c3 := pre_cases wN p
  have eT : strOf wT = ({ data := #[116, 114, 117, 101] } : ByteArray) := rfl
  have eF : strOf wF = ({ data := #[102, 97, 108, 115, 101] } : ByteArray) := rfl
  have eN : strOf wN = ({ data := #[110, 117, 108, 108] } : ByteArray) := rfl
  rw [eT] at c1
  rw [eF] at c2
  rw [eN] at c3
  have lT : wT.length = 4 := rfl
  have lF : wF.length = 5 := rfl
  have lN : wN.length = 4 := rfl
  rw [lT] at c1
  rw [lF] at c2
  rw [lN] at c3
  clear eT eF eN
  rcases c1 with ⟨h1, i1, j1⟩ | c1
  · have K : Hid (wordS p = (true, (p.length : Int) == 4)) := by show _ = _; unfold wordS; rw [h1, word_len h1, lT]; rfl
    clear h1 c2 c3
    go_enter Try.func44, Try.ntmps44
    go_wp2_with fail
    refine wp_loop_rounds 4 ?_
    rw [rounds_succ]
    go_wp2_with fail
    go_quiet (fail)
    go_wp2_with fail
    go_ret2
    exact ⟨by rw [K.out]; rfl, below_drewN ((Below.refl _ w).alloc (Nat.le_refl _) _) _⟩
  · have h1 : Lib.hasPrefix wT p = false := by rcases c1 with h | h <;> exact h.1
    have c1' : 4 < p.length ∨ (p.length ≤ 4 ∧ ((({ data := #[116, 114, 117, 101] } : ByteArray).extract 0 p.length).toList == p) = false) := by
      rcases c1 with h | h
      · exact Or.inl h.2
      · exact Or.inr h.2
    clear c1
    rcases c2 with ⟨h2, i2, j2⟩ | c2
    · have K : Hid (wordS p = (true, (p.length : Int) == 5)) := by show _ = _; unfold wordS; rw [h1, h2, word_len h2, lF]; rfl
      clear h1 h2 c3
      rcases c1' with d1 | ⟨d1, e1⟩
      all_goals
        go_enter Try.func44, Try.ntmps44
        go_wp2_with fail
        refine wp_loop_rounds 4 ?_
        rw [rounds_succ]
        go_wp2_with fail
        rw [rounds_succ]
        go_wp2_with fail
        go_quiet (fail)
        go_wp2_with fail
        go_ret2
        exact ⟨by rw [K.out]; rfl, below_drewN ((Below.refl _ w).alloc (Nat.le_refl _) _) _⟩
    · have h2 : Lib.hasPrefix wF p = false := by rcases c2 with h | h <;> exact h.1
      have c2' : 5 < p.length ∨ (p.length ≤ 5 ∧ ((({ data := #[102, 97, 108, 115, 101] } : ByteArray).extract 0 p.length).toList == p) = false) := by
        rcases c2 with h | h
        · exact Or.inl h.2
        · exact Or.inr h.2
      clear c2
      rcases c3 with ⟨h3, i3, j3⟩ | c3
      · have K : Hid (wordS p = (true, (p.length : Int) == 4)) := by show _ = _; unfold wordS; rw [h1, h2, h3, word_len h3, lN]; rfl
        clear h1 h2 h3
        rcases c1' with d1 | ⟨d1, e1⟩ <;> rcases c2' with d2 | ⟨d2, e2⟩
        all_goals first
          | (exfalso; omega)
          | skip
        all_goals
          go_enter Try.func44, Try.ntmps44
          go_wp2_with fail
          refine wp_loop_rounds 4 ?_
          rw [rounds_succ]
          go_wp2_with fail
          rw [rounds_succ]
          go_wp2_with fail
          rw [rounds_succ]
          go_wp2_with fail
          go_quiet (fail)
          go_wp2_with fail
          go_ret2
          exact ⟨by rw [K.out]; rfl, below_drewN ((Below.refl _ w).alloc (Nat.le_refl _) _) _⟩
      · have h3 : Lib.hasPrefix wN p = false := by rcases c3 with h | h <;> exact h.1
        have c3' : 4 < p.length ∨ (p.length ≤ 4 ∧ ((({ data := #[110, 117, 108, 108] } : ByteArray).extract 0 p.length).toList == p) = false) := by
          rcases c3 with h | h
          · exact Or.inl h.2
          · exact Or.inr h.2
        clear c3
        have K : Hid (wordS p = (false, false)) := by show _ = _; unfold wordS; rw [h1, h2, h3]; rfl
        clear h1 h2 h3
        rcases c1' with d1 | ⟨d1, e1⟩ <;> rcases c2' with d2 | ⟨d2, e2⟩ <;> rcases c3' with d3 | ⟨d3, e3⟩
        all_goals first
          | (exfalso; omega)
          | skip
        all_goals
          go_enter Try.func44, Try.ntmps44
          go_wp2_with fail
          refine wp_loop_rounds 4 ?_
          rw [rounds_succ]
          go_wp2_with fail
          rw [rounds_succ]
          go_wp2_with fail
          rw [rounds_succ]
          go_wp2_with fail
          rw [rounds_succ]
          go_wp2_with fail
          go_ret2
          exact ⟨by rw [K.out]; rfl, (Below.refl _ w).alloc (Nat.le_refl _) _⟩
end Go.Proofs.Ytmfldffbafamnaa
