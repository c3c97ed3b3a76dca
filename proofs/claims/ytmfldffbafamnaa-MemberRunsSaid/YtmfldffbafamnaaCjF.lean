/- Walks: brackets, quotes. -/
import Derived.Test.YtmfldffbafamnaaCjE
namespace Go.Proofs.Ytmfldffbafamnaa
open Go.RowKit
set_option linter.unusedVariables false
set_option linter.unusedSimpArgs false
theorem escape_any (p : List UInt8) (c : UInt8) (w : World) (hp : p.length ≤ 60000) :
    Calls Try.prog 55 #[.string (strOf p), .int .u8 c.toNat] w fun e w' => e = .returned (.tuple #[.string (strOf (escS p c).1), .bool (escS p c).2]) ∧ Below w.heap.size w w' := by
  have h : p.length = 0 ∨ p.length = 1 ∨ p.length = 2 ∨ p.length = 3 ∨ p.length = 4 ∨ p.length = 5 ∨ p.length = 6 ∨ p.length = 7 ∨ p.length = 8 ∨ p.length = 9 ∨ p.length = 10 ∨ 11 ≤ p.length := by omega
  rcases h with h | h | h | h | h | h | h | h | h | h | h | h
  · exact escape_0 p c w h
  · exact escape_1 p c w h
  · exact escape_2 p c w h
  · exact escape_3 p c w h
  · exact escape_4 p c w h
  · exact escape_5 p c w h
  · exact escape_6 p c w h
  · exact escape_7 p c w h
  · exact escape_8 p c w h
  · exact escape_9 p c w h
  · exact escape_10 p c w h
  · exact escape_11 p c w h hp
/-- Where in a JSON text: what may come or is being read; what is open; what of a token was read. -/
structure Q where
  m : Nat
  o : List UInt8
  p : List UInt8
deriving DecidableEq
def Q.v (q : Q) : Value := sv q.m q.o q.p
def Q.fit (q : Q) : Prop := q.m < 10 ∧ q.o.length ≤ 1000 ∧ q.p.length ≤ 1000
def qr (x : Q × Bool) : Value := .tuple #[x.1.v, .bool x.2]
def closeS (q : Q) (b : Nat) (e : Nat) : Q × Bool :=
  if inB q.o ≠ b ∨ (q.m ≠ e ∧ q.m ≠ 5) then (q, false) else (⟨5, q.o.take (q.o.length - 1), []⟩, true)
set_option maxRecDepth 100000 in
theorem closed_any (q : Q) (b e : Nat) (w : World) (hq : q.fit) (hb : b = 91 ∨ b = 123) (he : e < 10) :
    Calls Try.prog 57 #[q.v, .int .u8 b, .int .i64 e] w fun x w' => x = .returned (qr (closeS q b e)) ∧ Below w.heap.size w w' := by
  obtain ⟨m, o, p⟩ := q
  obtain ⟨h1, h2, h3⟩ := hq
  dsimp only at h1 h2 h3
  have HI := Lib.hid (fun w => inside_any m o p w (by omega))
  unfold Q.v sv at *
  dsimp only at *
  by_cases hi : inB o = b
  · by_cases hm : m = e ∨ m = 5
    · have K : Hid (closeS ⟨m, o, p⟩ b e = (⟨5, o.take (o.length - 1), []⟩, true)) := by
        show _ = _; unfold closeS; rw [if_neg (by dsimp only; omega)]
      have ho : 0 < o.length := by
        rcases Nat.eq_zero_or_pos o.length with h | h
        · have : o = [] := List.length_eq_zero_iff.1 h
          subst this
          have : inB [] = 0 := rfl
          omega
        · exact h
      have hz := strOf_size o
      have HE : Hid ((strOf o).extract 0 (o.length - 1) = strOf (o.take (o.length - 1))) := by show _ = _; rw [strOf_extract]; simp
      have HD := Lib.hid (fun w => done_any m (o.take (o.length - 1)) p w)
      unfold sv at HD
      rw [hi] at HI
      have hme : (((m : Int) != e) = false) ∨ (((m : Int) != e) = true ∧ ((m : Int) != 5) = false) := by
        by_cases h : m = e
        · left; subst h; simp
        · right
          have h5 : m = 5 := by omega
          subst h5
          exact ⟨by simp only [bne_iff_ne, ne_eq]; omega, rfl⟩
      clear hm hi
      rcases hme with m3 | ⟨m3, m4⟩
      all_goals
        go_enter Try.func57, Try.ntmps57
        go_wp2_with fail
        refine (HI.out _).mono ?_
        rintro x w' ⟨rfl, b2⟩
        have hA : Blk w' w.heap.size 25 #[.int .i64 m, .string (strOf o), .string (strOf p)] := ((Blk.new w _ _).alloc _).below b2 (by simp; try omega)
        have hR := (Blk.new (w.alloc (.cells #[.int .i64 m, .string (strOf o), .string (strOf p)] 25)) 25 #[.int .i64 0, .string ⟨#[]⟩, .string ⟨#[]⟩])
        rw [World.size_alloc] at hR
        have hB := hR.below b2 (by simp only [World.size_alloc]; omega)
        have a0 := hA.cell 0
        have a1 := hA.cell 1
        have a2 := hA.cell 2
        have g1 := hA.frozen 1
        have hbw : Below w.heap.size w w' := (((Below.refl _ w).alloc (Nat.le_refl _) _).alloc (by simp) _).trans (b2.mono (by simp; omega))
        go_wp2_with fail
        rw [HE.out]
        refine (HD.out _).mono ?_
        rintro x w4 ⟨rfl, b4⟩
        have hC := (hB.far (p := ⟨w.heap.size, 1, none⟩) (by simp) (.string (strOf (o.take (o.length - 1))))).below b4 (by simp [World.setCell]; have := hB.lt; omega)
        have f0 := hC.frozen 0
        have f1 := hC.frozen 1
        have f2 := hC.frozen 2
        have r0 := hC.cell 0
        have r1 := hC.cell 1
        have r2 := hC.cell 2
        have hS := ((hC.set_ 0 (.int .i64 5)).set_ 1 (.string (strOf (o.take (o.length - 1))))).set_ 2 (.string (strOf []))
        have H0 := Lib.hid (hS.cell 0)
        have H1 := Lib.hid (hS.cell 1)
        have H2 := Lib.hid (hS.cell 2)
        have hbx := (hbw.setCell (p := ⟨w.heap.size, 1, none⟩) (by simp) (.string (strOf (o.take (o.length - 1))))).trans (b4.mono (by simp [World.setCell]; have := hbw.size; omega))
        clear hA hR hB b2 hS hC
        go_wp2_with fail
        have s0 := H0.out
        have s1 := H1.out
        have s2 := H2.out
        refine bodyPost_ret (v := .tuple #[.agg #[.int .i64 5, .string (strOf (o.take (o.length - 1))), .string (strOf [])], .bool true]) (by simp [results, Try.f57, go_sem, s0, s1, s2]) rfl ⟨by rw [K.out]; rfl, ?_⟩
        exact ((hbx.setCell (by simp) _).setCell (by simp) _).setCell (by simp) _
    · have K : Hid (closeS ⟨m, o, p⟩ b e = (⟨m, o, p⟩, false)) := by
        show _ = _; unfold closeS; rw [if_pos (by dsimp only; omega)]
      rw [hi] at HI
      have m1 : ((m : Int) == e) = false := by simp only [beq_eq_false_iff_ne]; omega
      have m2 : ((m : Int) == 5) = false := by simp only [beq_eq_false_iff_ne]; omega
      have m3 : ((m : Int) != e) = true := by simp only [bne, m1]; rfl
      have m4 : ((m : Int) != 5) = true := by simp only [bne, m2]; rfl
      clear hm hi
      go_enter Try.func57, Try.ntmps57
      go_wp2_with fail
      refine (HI.out _).mono ?_
      rintro x w' ⟨rfl, b2⟩
      have hA : Blk w' w.heap.size 25 #[.int .i64 m, .string (strOf o), .string (strOf p)] := ((Blk.new w _ _).alloc _).below b2 (by simp; try omega)
      have hR := (Blk.new (w.alloc (.cells #[.int .i64 m, .string (strOf o), .string (strOf p)] 25)) 25 #[.int .i64 0, .string ⟨#[]⟩, .string ⟨#[]⟩])
      rw [World.size_alloc] at hR
      have hB := hR.below b2 (by simp only [World.size_alloc]; omega)
      have a0 := hA.cell 0
      have a1 := hA.cell 1
      have a2 := hA.cell 2
      have f0 := hB.frozen 0
      have f1 := hB.frozen 1
      have f2 := hB.frozen 2
      have r0 := hB.cell 0
      have r1 := hB.cell 1
      have r2 := hB.cell 2
      have hbw : Below w.heap.size w w' := (((Below.refl _ w).alloc (Nat.le_refl _) _).alloc (by simp) _).trans (b2.mono (by simp; omega))
      have hS := ((hB.set_ 0 (.int .i64 m)).set_ 1 (.string (strOf o))).set_ 2 (.string (strOf p))
      have s0 := hS.cell 0
      have s1 := hS.cell 1
      have s2 := hS.cell 2
      have H0 := Lib.hid s0
      have H1 := Lib.hid s1
      have H2 := Lib.hid s2
      clear hA hR hB b2 hS s0 s1 s2
      go_wp2_with fail
      have s0 := H0.out
      have s1 := H1.out
      have s2 := H2.out
      refine bodyPost_ret (v := .tuple #[.agg #[.int .i64 m, .string (strOf o), .string (strOf p)], .bool false]) (by simp [results, Try.f57, go_sem, s0, s1, s2]) rfl ⟨by rw [K.out]; rfl, ?_⟩
      exact ((hbw.setCell (by simp) _).setCell (by simp) _).setCell (by simp) _
  · have K : Hid (closeS ⟨m, o, p⟩ b e = (⟨m, o, p⟩, false)) := by
      show _ = _; unfold closeS; rw [if_pos (by dsimp only; omega)]
    have i1 : ((inB o : Int) != b) = true := by simp only [bne_iff_ne, ne_eq]; omega
    have i2 : inB o < 256 := by unfold inB; split; · omega
                                · exact bt_lt _ _
    generalize inB o = i at *
    clear hi
    go_enter Try.func57, Try.ntmps57
    go_wp2_with fail
    refine (HI.out _).mono ?_
    rintro x w' ⟨rfl, b2⟩
    have hA : Blk w' w.heap.size 25 #[.int .i64 m, .string (strOf o), .string (strOf p)] := ((Blk.new w _ _).alloc _).below b2 (by simp; try omega)
    have hR := (Blk.new (w.alloc (.cells #[.int .i64 m, .string (strOf o), .string (strOf p)] 25)) 25 #[.int .i64 0, .string ⟨#[]⟩, .string ⟨#[]⟩])
    rw [World.size_alloc] at hR
    have hB := hR.below b2 (by simp only [World.size_alloc]; omega)
    have a0 := hA.cell 0
    have a1 := hA.cell 1
    have a2 := hA.cell 2
    have f0 := hB.frozen 0
    have f1 := hB.frozen 1
    have f2 := hB.frozen 2
    have r0 := hB.cell 0
    have r1 := hB.cell 1
    have r2 := hB.cell 2
    have hbw : Below w.heap.size w w' := (((Below.refl _ w).alloc (Nat.le_refl _) _).alloc (by simp) _).trans (b2.mono (by simp; omega))
    have hS := ((hB.set_ 0 (.int .i64 m)).set_ 1 (.string (strOf o))).set_ 2 (.string (strOf p))
    have H0 := Lib.hid (hS.cell 0)
    have H1 := Lib.hid (hS.cell 1)
    have H2 := Lib.hid (hS.cell 2)
    clear hA hR hB b2 hS
    go_wp2_with fail
    have s0 := H0.out
    have s1 := H1.out
    have s2 := H2.out
    refine bodyPost_ret (v := .tuple #[.agg #[.int .i64 m, .string (strOf o), .string (strOf p)], .bool false]) (by simp [results, Try.f57, go_sem, s0, s1, s2]) rfl ⟨by rw [K.out]; rfl, ?_⟩
    exact ((hbw.setCell (by simp) _).setCell (by simp) _).setCell (by simp) _
end Go.Proofs.Ytmfldffbafamnaa
