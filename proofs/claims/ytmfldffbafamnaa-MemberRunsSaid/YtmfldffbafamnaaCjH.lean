/- Walks: in a string. -/
import Derived.Test.YtmfldffbafamnaaCjG
namespace Go.Proofs.Ytmfldffbafamnaa
open Go.RowKit
set_option linter.unusedVariables false
set_option linter.unusedSimpArgs false
def quoteS (q : Q) (c : UInt8) : Q × Bool :=
  if q.p ≠ [] ∨ c.toNat = 92 then (⟨q.m, q.o, (escS q.p c).1⟩, (escS q.p c).2)
  else if c.toNat = 34 ∧ q.m = 7 then (⟨4, q.o, []⟩, true)
  else if c.toNat = 34 then (⟨5, q.o, []⟩, true)
  else (q, decide (32 ≤ (c.toNat : Int)))
set_option maxRecDepth 100000 in
theorem quoted_esc (m : Nat) (o p : List UInt8) (c : UInt8) (w : World) (hm : m < 10) (hp : p.length ≤ 1000) (hh : p ≠ [] ∨ c.toNat = 92) :
    Calls Try.prog 37 #[sv m o p, .int .u8 c.toNat] w fun x w' => x = .returned (qr (quoteS ⟨m, o, p⟩ c)) ∧ Below w.heap.size w w' := by
  have K : Hid (quoteS ⟨m, o, p⟩ c = (⟨m, o, (escS p c).1⟩, (escS p c).2)) := by show _ = _; unfold quoteS; rw [if_pos hh]
  have HE := Lib.hid (fun w => escape_any p c w (by omega))
  have hc := UInt8.toNat_lt c
  have ht := strOf_toList p
  have hcase : ((!(p.isEmpty)) = true) ∨ (p.isEmpty = true ∧ ((c.toNat : Int) == 92) = true) := by
    cases p with
    | nil => right; refine ⟨rfl, ?_⟩; rcases hh with h | h
             · exact absurd rfl h
             · rw [h]; rfl
    | cons a t => left; rfl
  generalize escS p c = r at *
  obtain ⟨r1, r2⟩ := r
  dsimp only at K HE
  unfold sv
  have HB := Lib.hid (boxes_new w m o p)
  clear hh
  rcases hcase with h1 | ⟨h1, h2⟩
  · go_enter Try.func37, Try.ntmps37
    go_wp2_with fail
    refine (HE.out _).mono ?_
    rintro x w2 ⟨rfl, b2⟩
    obtain ⟨hA, hR, hb⟩ := HB.out
    have HA2 := Lib.hid (hA.below' b2)
    have HR2 := Lib.hid (hR.below' b2)
    have hb2 := hb.trans (b2.mono hb.size)
    obtain ⟨a0, a1, a2, f0, f1, f2⟩ := (hA.below' b2).facts
    obtain ⟨c0, c1, c2, g0, g1, g2⟩ := (hR.below' b2).facts
    clear hA hR hb b2
    go_wp2_with fail
    have hS := (HR2.out.far (a := ⟨w.heap.size, 2, none⟩) (by simp) (.string (strOf r1))).put ⟨m, o, r1⟩
    obtain ⟨s0, s1, s2, _, _, _⟩ := hS.facts
    refine bodyPost_ret (v := .tuple #[.agg #[.int .i64 m, .string (strOf o), .string (strOf r1)], .bool r2]) (by simp [results, Try.f37, go_sem, s0, s1, s2]) rfl ⟨by rw [K.out]; rfl, ?_⟩
    exact below_put (hb2.setCell (p := ⟨w.heap.size, 2, none⟩) (Nat.le_refl _) _) (by simp) _ _ _
  · go_enter Try.func37, Try.ntmps37
    go_wp2_with fail
    refine (HE.out _).mono ?_
    rintro x w2 ⟨rfl, b2⟩
    obtain ⟨hA, hR, hb⟩ := HB.out
    have HA2 := Lib.hid (hA.below' b2)
    have HR2 := Lib.hid (hR.below' b2)
    have hb2 := hb.trans (b2.mono hb.size)
    obtain ⟨a0, a1, a2, f0, f1, f2⟩ := (hA.below' b2).facts
    obtain ⟨c0, c1, c2, g0, g1, g2⟩ := (hR.below' b2).facts
    clear hA hR hb b2
    go_wp2_with fail
    have hS := (HR2.out.far (a := ⟨w.heap.size, 2, none⟩) (by simp) (.string (strOf r1))).put ⟨m, o, r1⟩
    obtain ⟨s0, s1, s2, _, _, _⟩ := hS.facts
    refine bodyPost_ret (v := .tuple #[.agg #[.int .i64 m, .string (strOf o), .string (strOf r1)], .bool r2]) (by simp [results, Try.f37, go_sem, s0, s1, s2]) rfl ⟨by rw [K.out]; rfl, ?_⟩
    exact below_put (hb2.setCell (p := ⟨w.heap.size, 2, none⟩) (Nat.le_refl _) _) (by simp) _ _ _
set_option maxRecDepth 100000 in
theorem quoted_plain (m : Nat) (o : List UInt8) (c : UInt8) (w : World) (hm : m < 10) (hh : ¬ c.toNat = 92) :
    Calls Try.prog 37 #[sv m o [], .int .u8 c.toNat] w fun x w' => x = .returned (qr (quoteS ⟨m, o, []⟩ c)) ∧ Below w.heap.size w w' := by
  have hc := UInt8.toNat_lt c
  have ht : (strOf []).toList.isEmpty = true := by rw [strOf_toList]; rfl
  have h92 : ((c.toNat : Int) == 92) = false := by simp only [beq_eq_false_iff_ne]; omega
  have HB := Lib.hid (boxes_new w m o [])
  have HD := Lib.hid (fun w => done_any m o [] w)
  unfold sv at HD ⊢
  by_cases h34 : c.toNat = 34
  · have i34 : ((c.toNat : Int) == 34) = true := by rw [h34]; rfl
    by_cases h7 : m = 7
    · have K : Hid (quoteS ⟨m, o, []⟩ c = (⟨4, o, []⟩, true)) := by show _ = _; unfold quoteS; rw [if_neg (by simp [hh]), if_pos ⟨h34, h7⟩]
      have i7 : ((m : Int) == 7) = true := by rw [h7]; rfl
      clear h34 h7 hh
      go_enter Try.func37, Try.ntmps37
      go_wp2_with fail
      obtain ⟨hA, hR, hb⟩ := HB.out
      refine bodyPost_ret (v := .tuple #[.agg #[.int .i64 4, .string (strOf o), .string (strOf [])], .bool true]) (by simp [results, Try.f37, go_sem]; rfl) rfl ⟨by rw [K.out]; rfl, ?_⟩
      go_grown
    · have K : Hid (quoteS ⟨m, o, []⟩ c = (⟨5, o, []⟩, true)) := by show _ = _; unfold quoteS; rw [if_neg (by simp [hh]), if_neg (by rintro ⟨_, h⟩; exact h7 h), if_pos h34]
      have i7 : ((m : Int) == 7) = false := by simp only [beq_eq_false_iff_ne]; omega
      clear h34 h7 hh
      go_enter Try.func37, Try.ntmps37
      go_wp2_with fail
      refine (HD.out _).mono ?_
      rintro x w2 ⟨rfl, b2⟩
      obtain ⟨hA, hR, hb⟩ := HB.out
      have HR2 := Lib.hid (hR.below' b2)
      have hb2 := hb.trans (b2.mono hb.size)
      obtain ⟨c0, c1, c2, g0, g1, g2⟩ := (hR.below' b2).facts
      clear hA hR hb b2
      go_wp2_with fail
      have hS := HR2.out.put ⟨5, o, []⟩
      dsimp only at hS
      obtain ⟨s0, s1, s2, _, _, _⟩ := hS.facts
      have e5 : ((5 : Nat) : Int) = 5 := rfl
      rw [e5] at s0 s1 s2
      refine bodyPost_ret (v := .tuple #[.agg #[.int .i64 5, .string (strOf o), .string (strOf [])], .bool true]) (by simp [results, Try.f37, go_sem, s0, s1, s2]) rfl ⟨by rw [K.out]; rfl, ?_⟩
      exact below_put hb2 (by simp) _ _ _
  · have i34 : ((c.toNat : Int) == 34) = false := by simp only [beq_eq_false_iff_ne]; omega
    have K : Hid (quoteS ⟨m, o, []⟩ c = (⟨m, o, []⟩, decide (32 ≤ (c.toNat : Int)))) := by show _ = _; unfold quoteS; rw [if_neg (by simp [hh]), if_neg (by rintro ⟨h, _⟩; exact h34 h), if_neg h34]
    clear h34 hh
    go_enter Try.func37, Try.ntmps37
    go_wp2_with fail
    obtain ⟨hA, hR, hb⟩ := HB.out
    refine bodyPost_ret (v := .tuple #[.agg #[.int .i64 m, .string (strOf o), .string (strOf [])], .bool (decide (32 ≤ (c.toNat : Int)))]) (by simp [results, Try.f37, go_sem]) rfl ⟨by rw [K.out]; rfl, ?_⟩
    go_grown
end Go.Proofs.Ytmfldffbafamnaa
