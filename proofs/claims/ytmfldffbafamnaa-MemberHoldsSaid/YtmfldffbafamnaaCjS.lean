/- Walks: ctxjson's Step and Run. -/
import Derived.Test.YtmfldffbafamnaaCjQ
import Derived.Test.YtmfldffbafamnaaRfA
import Derived.Deep.DeepCutAuto
namespace Go.Proofs.Ytmfldffbafamnaa
open Go.RowKit
set_option linter.unusedVariables false
set_option linter.unusedSimpArgs false
/-- How far a state's strings may have grown. -/
structure Q.good (k : Nat) (q : Q) : Prop where
  m : q.m < 10
  o : q.o.length ≤ k
  p : q.p.length ≤ k + 1
  n : q.m = 9 → q.p ∈ numC
theorem Q.good.fit {k : Nat} {q : Q} (h : q.good k) (hk : k ≤ 999) : q.fit := ⟨h.m, by have := h.o; omega, by have := h.p; omega⟩
theorem numS_in (p : List UInt8) (c : Nat) : (numS p c).1 ∈ numC := by
  unfold numS numC
  repeat' split
  all_goals simp
theorem escS_len (p : List UInt8) (c : UInt8) : (escS p c).1.length ≤ p.length + 1 := by
  unfold escS
  dsimp only
  repeat' split
  all_goals simp
theorem beginS_good {k : Nat} {q : Q} (h : q.good k) (c : UInt8) : (beginS q c).1.good (k + 1) := by
  have h1 := h.o
  have h2 := h.p
  have h3 := h.m
  have hn : (numS [] c.toNat).1.length ≤ 1 := by
    unfold numS; repeat' split
    all_goals simp
  have same : q.good (k + 1) := ⟨h.m, by omega, by omega, h.n⟩
  unfold beginS
  split
  · exact same
  split
  · exact ⟨by simp, by simp; omega, by simp, by simp⟩
  split
  · exact ⟨by simp, by simp; omega, by simp, by simp⟩
  split
  · exact ⟨by simp, by simp; omega, by simp, by simp⟩
  split
  · exact ⟨by simp, by simp; omega, by simp, by simp [numC]⟩
  split
  · exact ⟨by simp, by simp; omega, by dsimp only; omega, fun _ => numS_in _ _⟩
  · exact ⟨by simp, by simp; omega, by simp, by simp⟩
theorem outS_good {k : Nat} {q : Q} (h : q.good k) (c : UInt8) : (outS q c).1.good (k + 1) := by
  have h1 := h.o
  have h2 := h.p
  have h3 := h.m
  have same : q.good (k + 1) := ⟨h.m, by omega, by omega, h.n⟩
  have hcl : ∀ a b, (closeS q a b).1.good (k + 1) := fun a b => by
    unfold closeS
    split
    · exact same
    · exact ⟨by simp, by simp; omega, by simp, by simp⟩
  unfold outS
  split
  · exact same
  split
  · exact hcl _ _
  split
  · exact hcl _ _
  split
  · refine ⟨?_, by dsimp only; omega, by simp, ?_⟩
    · dsimp only; split <;> omega
    · dsimp only; split <;> simp
  split
  · exact ⟨by simp, by dsimp only; omega, by simp, by simp⟩
  split
  · exact ⟨by simp, by dsimp only; omega, by simp, by simp⟩
  · exact beginS_good h c
theorem nextS_good {k : Nat} {q : Q} (h : q.good k) (c : UInt8) : (nextS q c).1.good (k + 1) := by
  have h1 := h.o
  have h2 := h.p
  have h3 := h.m
  have same : q.good (k + 1) := ⟨h.m, by omega, by omega, h.n⟩
  unfold nextS
  split
  · rename_i hm
    unfold quoteS
    split
    · refine ⟨h.m, by dsimp only; omega, ?_, ?_⟩
      · have := escS_len q.p c; dsimp only; omega
      · dsimp only; omega
    split
    · exact ⟨by simp, by dsimp only; omega, by simp, by simp⟩
    split
    · exact ⟨by simp, by dsimp only; omega, by simp, by simp⟩
    · exact same
  split
  · split
    · exact ⟨by simp, by dsimp only; omega, by simp, by simp⟩
    · exact ⟨by simp, by dsimp only; omega, by simp; omega, by simp⟩
  split
  · rename_i h9
    split
    · refine ⟨by simp, by dsimp only; omega, ?_, fun _ => numS_in _ _⟩
      have : ∀ x ∈ numC, x.length ≤ 1 := by unfold numC; decide
      have := this _ (numS_in q.p c.toNat)
      dsimp only; omega
    split
    · exact outS_good ⟨by simp, by dsimp only; omega, by simp, by simp⟩ c
    · exact ⟨by simp, by dsimp only; omega, by dsimp only; omega, fun _ => h.n h9⟩
  · exact outS_good h c
def stepS (q : Q) (c : UInt8) : Q × Bool := if (nextS q c).2 = true then ((nextS q c).1, true) else (q, false)
set_option maxRecDepth 100000 in
set_option maxHeartbeats 1000000 in
theorem step_any (q : Q) (c : UInt8) (w : World) (hq : q.fit) (hn : q.m = 9 → q.p ∈ numC) :
    Calls Try.prog 11 #[q.v, .int .u8 c.toNat] w fun x w' => x = .returned (qr (stepS q c)) ∧ Below w.heap.size w w' := by
  have HC := Lib.hid (fun w => cnext_any q c w hq hn)
  have K0 : Hid (stepS q c = if (nextS q c).2 = true then ((nextS q c).1, true) else (q, false)) := by show _ = _; unfold stepS; rfl
  clear hq hn
  generalize nextS q c = r at *
  obtain ⟨⟨x1, x2, x3⟩, y⟩ := r
  obtain ⟨m, o, p⟩ := q
  have HB := Lib.hid (boxes_new w m o p)
  unfold qr Q.v sv at HC
  unfold Q.v sv
  dsimp only at HC K0 ⊢
  cases y
  · have K : Hid (stepS ⟨m, o, p⟩ c = (⟨m, o, p⟩, false)) := by show _ = _; rw [K0.out]; rfl
    clear K0
    go_enter Try.func11, Try.ntmps11
    go_wp2_with fail
    refine (HC.out _).mono ?_
    rintro x w2 ⟨rfl, b2⟩
    obtain ⟨hA, hR, hb⟩ := HB.out
    have hA2 := Blk.alloc (hA.below' b2) (.cells #[.int .i64 x1, .string (strOf x2), .string (strOf x3)] 25)
    have hR2 := Blk.alloc (hR.below' b2) (.cells #[.int .i64 x1, .string (strOf x2), .string (strOf x3)] 25)
    have hb2 := (hb.trans (b2.mono hb.size)).alloc (Nat.le_of_lt (Blk.lt (hA.below' b2))) (.cells #[.int .i64 x1, .string (strOf x2), .string (strOf x3)] 25)
    go_upto_region 2 with fail
    generalize w2.alloc _ = w3 at *
    obtain ⟨a0, a1, a2, _, _, _⟩ := StAt.facts hA2
    obtain ⟨_, _, _, g0, g1, g2⟩ := StAt.facts hR2
    have HR3 := Lib.hid hR2
    dsimp only at a0 a1 a2
    clear hA hR hb b2 hA2 hR2
    go_wp2_with fail
    obtain ⟨s0, s1, s2, _, _, _⟩ := (StAt.put HR3.out ⟨m, o, p⟩).facts
    refine bodyPost_ret (v := .tuple #[.agg #[.int .i64 m, .string (strOf o), .string (strOf p)], .bool false]) (by simp [results, Try.f11, go_sem, s0, s1, s2]) rfl ⟨by rw [K.out]; rfl, ?_⟩
    exact below_put hb2 (by simp) _ _ _
  · have K : Hid (stepS ⟨m, o, p⟩ c = (⟨x1, x2, x3⟩, true)) := by show _ = _; rw [K0.out]; rfl
    clear K0
    go_enter Try.func11, Try.ntmps11
    go_wp2_with fail
    refine (HC.out _).mono ?_
    rintro x w2 ⟨rfl, b2⟩
    obtain ⟨hA, hR, hb⟩ := HB.out
    have hX2 : StAt (w2.alloc (.cells #[.int .i64 x1, .string (strOf x2), .string (strOf x3)] 25)) w2.heap.size ⟨x1, x2, x3⟩ := Blk.new w2 _ _
    have hR2 := Blk.alloc (hR.below' b2) (.cells #[.int .i64 x1, .string (strOf x2), .string (strOf x3)] 25)
    have hb2 := (hb.trans (b2.mono hb.size)).alloc (Nat.le_of_lt (Blk.lt (hA.below' b2))) (.cells #[.int .i64 x1, .string (strOf x2), .string (strOf x3)] 25)
    go_upto_region 2 with fail
    generalize w2.alloc _ = w3 at *
    obtain ⟨a0, a1, a2, _, _, _⟩ := hX2.facts
    obtain ⟨_, _, _, g0, g1, g2⟩ := StAt.facts hR2
    have HR3 := Lib.hid hR2
    dsimp only at a0 a1 a2
    clear hA hR hb b2 hX2 hR2
    go_wp2_with fail
    obtain ⟨s0, s1, s2, _, _, _⟩ := (StAt.put HR3.out ⟨x1, x2, x3⟩).facts
    refine bodyPost_ret (v := .tuple #[.agg #[.int .i64 x1, .string (strOf x2), .string (strOf x3)], .bool true]) (by simp [results, Try.f11, go_sem, s0, s1, s2]) rfl ⟨by rw [K.out]; rfl, ?_⟩
    exact below_put hb2 (by simp) _ _ _
end Go.Proofs.Ytmfldffbafamnaa
