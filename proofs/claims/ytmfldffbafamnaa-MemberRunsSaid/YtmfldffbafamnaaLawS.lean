/- Walks: the law MemberSteps. -/
import Derived.Test.YtmfldffbafamnaaRfO
import Derived.Test.YtmfldffbafamnaaCjD
namespace Go.Proofs.Ytmfldffbafamnaa
open Go.RowKit
set_option linter.unusedVariables false
set_option linter.unusedSimpArgs false
theorem runS_good {k : Nat} {q : Q} (h : q.good k) (l : List UInt8) : (runS q l).1.good (k + l.length) := by
  induction l generalizing q k with
  | nil => exact h
  | cons c t ih =>
    rw [runS_cons]
    by_cases e : (nextS q c).2 = true
    · rw [if_pos e]
      have := ih (nextS_good h c)
      rw [List.length_cons, show k + (t.length + 1) = k + 1 + t.length by omega]
      exact this
    · rw [if_neg e]
      exact ⟨h.m, by have := h.o; simp; omega, by have := h.p; simp; omega, h.n⟩
theorem conv_blk (W : World) (g : Nat) (c : UInt8) (h : Blk W g 5 #[.int .u8 c.toNat]) : (convert 33 9 (.slice (some ⟨g, 0, none⟩) 1 1)).run Try.prog W = .ok (.string (strOf [c])) W := by
  have e : strOfNums [(c.toNat : Int)] = strOf [c] := by simp [strOfNums, strOf]
  rw [← e]
  exact run_convert_bytes_arg _ 33 5 Try.underlying33 Try.underlying5 g 0 1 1 [(c.toNat : Int)] rfl (fun i hi => by
    have hi0 : i = 0 := by omega
    subst hi0
    exact Blk.cell h 0) 9 Try.underlying9
theorem convA (w : World) (c : UInt8) : (convert 33 9 (.slice (some ⟨w.heap.size, 0, none⟩) 1 1)).run Try.prog (World.drew (w.alloc (.cells #[.int .u8 c.toNat] 5))) =
    .ok (.string (strOf [c])) (World.drew (w.alloc (.cells #[.int .u8 c.toNat] 5))) := conv_blk _ _ c (Blk.new w _ _)
theorem convB (w : World) (Z : Obj) (c : UInt8) : (convert 33 9 (.slice (some ⟨w.heap.size + 1, 0, none⟩) 1 1)).run Try.prog (World.drew ((w.alloc Z).alloc (.cells #[.int .u8 c.toNat] 5))) =
    .ok (.string (strOf [c])) (World.drew ((w.alloc Z).alloc (.cells #[.int .u8 c.toNat] 5))) := by
  have h : Blk ((w.alloc Z).alloc (.cells #[.int .u8 c.toNat] 5)) (w.heap.size + 1) 5 #[.int .u8 c.toNat] := by
    have := Blk.new (w.alloc Z) 5 #[.int .u8 c.toNat]
    rwa [World.size_alloc] at this
  exact conv_blk _ _ c h
theorem convC (w : World) (Z : Obj) (c : UInt8) : (convert 33 9 (.slice (some ⟨w.heap.size, 0, none⟩) 1 1)).run Try.prog (World.drew ((w.alloc (.cells #[.int .u8 c.toNat] 5)).alloc Z)) =
    .ok (.string (strOf [c])) (World.drew ((w.alloc (.cells #[.int .u8 c.toNat] 5)).alloc Z)) := conv_blk _ _ c (Blk.alloc (Blk.new w _ _) Z)
theorem StAt.dr {w : World} {g : Nat} {q : Q} (h : StAt w g q) : StAt w.drew g q := h
theorem StAt.al {w : World} {g : Nat} {q : Q} (h : StAt w g q) (o : Obj) : StAt (w.alloc o) g q := Blk.alloc h o
theorem StAt.far4 {w : World} {g k : Nat} {q : Q} (h : StAt w g q) (hk : g ≠ k) (u v x y : Value) : StAt ((((w.setCell ⟨k, 0, none⟩ u).setCell ⟨k, 1, none⟩ v).setCell ⟨k, 2, none⟩ x).setCell ⟨k, 3, none⟩ y) g q :=
  (((h.far (a := ⟨k, 0, none⟩) hk u).far (a := ⟨k, 1, none⟩) hk v).far (a := ⟨k, 2, none⟩) hk x).far (a := ⟨k, 3, none⟩) hk y
theorem RdAt.new1 (w : World) (Z : Obj) : RdAt ((w.alloc Z).alloc (.cells #[.string ⟨#[]⟩, .int .i64 0, .int .u8 0, .string ⟨#[]⟩] 30)) (w.heap.size + 1) r0 := by
  have h := RdAt.new0 (w.alloc Z)
  rwa [World.size_alloc] at h
theorem below_1 {w w6 w7 : World} {Z : Obj} (hb : Below w.heap.size w w6) (b7 : Below (World.drew (w6.alloc Z)).heap.size (World.drew (w6.alloc Z)) w7) : Below w.heap.size w w7 := by
  have h : Below w.heap.size w (World.drew (w6.alloc Z)) := below_drewN (hb.alloc hb.size Z) 1
  exact h.trans (b7.mono h.size)
theorem below_2 {w w6 w7 : World} {Z Y : Obj} (hb : Below w.heap.size w w6) (b7 : Below (World.drew ((w6.alloc Z).alloc Y)).heap.size (World.drew ((w6.alloc Z).alloc Y)) w7) : Below w.heap.size w w7 := by
  have h1 := hb.alloc hb.size Z
  have h : Below w.heap.size w (World.drew ((w6.alloc Z).alloc Y)) := below_drewN (h1.alloc h1.size Y) 1
  exact h.trans (b7.mono h.size)
set_option maxRecDepth 100000 in
set_option maxHeartbeats 4000000 in
theorem law_steps (l : List UInt8) (c : UInt8) (w : World) (hl : l.length ≤ 9223372036854775807) :
    Calls Try.prog 3 #[.string (strOf l), .int .u8 c.toNat] w fun e w' => e = .returned (.bool true) ∧ Below w.heap.size w w' := by
  have HF := Lib.hid (fun w => few_any l w hl)
  have ht : (l.take 120).length ≤ 120 := by rw [List.length_take]; omega
  generalize l.take 120 = t at *
  have HL := Lib.hid (fun w => longest_any t w (by omega))
  have hle := lng_le t
  have hsl := step_law t c
  have HE : Hid ((strOf t).extract 0 (lng t) = strOf (t.take (lng t))) := by show _ = _; rw [strOf_extract]; simp
  have hlen : (t.take (lng t)).length ≤ 120 := by rw [List.length_take]; omega
  have HR := Lib.hid (fun w => run0 (t.take (lng t)) w (by omega))
  have hgood := runS_good q0_good (t.take (lng t))
  have HO := Lib.hid (fun w => of_to (t.take (lng t) ++ [c]) _ w (by simp; omega) rfl)
  have hok := ok_take t (lng t) (Nat.le_refl _)
  have hfit := hgood.fit (by omega)
  have HS := Lib.hid (fun w => step_any (runS q0 (t.take (lng t))).1 c w hfit hgood.n)
  have hz := strOf_size t
  have hz1 := strOf_size [c]
  have hz2 := strOf_size (t.take (lng t))
  have ha := strOf_append
  have hE2 : (strOf t).extract 0 (lng t) ++ strOf [c] = strOf (t.take (lng t) ++ [c]) := by rw [HE.out, strOf_append]
  rw [← hE2] at HO
  clear hE2
  generalize (runR r0 (t.take (lng t) ++ [c])).1 = rr1 at *
  rw [← hsl.1] at HO
  have hsl2 := hsl.2
  clear hsl hgood hfit
  generalize hrr : runS q0 (t.take (lng t)) = rq at *
  obtain ⟨⟨m, o, p⟩, ok⟩ := rq
  dsimp only at hok hsl2 HS HO
  subst hok
  generalize stepS ⟨m, o, p⟩ c = st at *
  obtain ⟨⟨x1, x2, x3⟩, y⟩ := st
  obtain ⟨d1, d2, d3, d4⟩ := rr1
  unfold qr Q.v sv at HR HS
  unfold RD.v at HO
  dsimp only at HR HS HO hsl2
  have HY := Lib.hid hsl2
  have kA := fun w => convA w c
  have kB := fun w Z => convB w Z c
  have kC := fun w Z => convC w Z c
  clear hsl2 hrr
  generalize lng t = n at *
  generalize t.take n = u at *
  go_enter Try.func3, Try.ntmps3
  go_wp2_with fail
  refine (HF.out _).mono ?_
  rintro e w' ⟨rfl, rfl⟩
  go_wp2_with fail
  refine (HL.out _).mono ?_
  rintro e w2 ⟨rfl, b2⟩
  go_wp2_with fail
  rw [HE.out]
  refine (HR.out _).mono ?_
  rintro e w3 ⟨rfl, b⟩
  have b3 := b2.trans (b.mono b2.size)
  clear b b2
  have hX : StAt (w3.alloc (.cells #[.int .i64 m, .string (strOf o), .string (strOf p)] 25)) w3.heap.size ⟨m, o, p⟩ := Blk.new w3 _ _
  have b4 := b3.alloc b3.size (.cells #[.int .i64 m, .string (strOf o), .string (strOf p)] 25)
  clear b3
  go_upto_region 4 with fail
  generalize w3.alloc _ = w4 at *
  generalize w3.heap.size = g1 at *
  obtain ⟨c0, c1, c2, _, _, _⟩ := hX.facts
  dsimp only at c0 c1 c2
  go_wp2_with fail
  refine (HS.out _).mono ?_
  rintro e w5 ⟨rfl, b⟩
  have b5 := b4.trans (b.mono b4.size)
  have hX5 := hX.below' b
  clear b b4 hX c0 c1 c2
  have hY : StAt (w5.alloc (.cells #[.int .i64 x1, .string (strOf x2), .string (strOf x3)] 25)) w5.heap.size ⟨x1, x2, x3⟩ := Blk.new w5 _ _
  have hX6 : StAt (w5.alloc (.cells #[.int .i64 x1, .string (strOf x2), .string (strOf x3)] 25)) g1 ⟨m, o, p⟩ := Blk.alloc hX5 _
  have b6 := b5.alloc b5.size (.cells #[.int .i64 x1, .string (strOf x2), .string (strOf x3)] 25)
  clear b5 hX5
  go_upto_region 5 with fail
  generalize w5.alloc _ = w6 at *
  generalize w5.heap.size = g2 at *
  go_cut [11] (fun s wx => s = .bool y ∧ StAt wx g1 ⟨m, o, p⟩ ∧ StAt wx g2 ⟨x1, x2, x3⟩ ∧ Below w.heap.size w wx)
  case first =>
    have hg1 := Blk.lt hX6
    have hg2 := Blk.lt hY
    go_region_with (first | (go_at_call 12; refine (HO.out _).mono ?_; rintro e w7 ⟨rfl, b7⟩; first | (have hZ := RdAt.frz (RdAt.below' (RdAt.drew (RdAt.alloc (RdAt.new0 w6) _)) b7); have hZ2 := RdAt.facts (RdAt.below' (RdAt.drew (RdAt.alloc (RdAt.new0 w6) _)) b7); obtain ⟨f0, f1, f2, f3⟩ := hZ; obtain ⟨k0, k1, k2, k3⟩ := hZ2; unfold r0 at k0 k1 k2 k3; dsimp only at k0 k1 k2 k3) | (have hZ := RdAt.frz (RdAt.below' (RdAt.drew (RdAt.new1 w6 _)) b7); have hZ2 := RdAt.facts (RdAt.below' (RdAt.drew (RdAt.new1 w6 _)) b7); obtain ⟨f0, f1, f2, f3⟩ := hZ; obtain ⟨k0, k1, k2, k3⟩ := hZ2; unfold r0 at k0 k1 k2 k3; dsimp only at k0 k1 k2 k3) | skip))
    all_goals
      go_wp2_with fail
      go_meet
      first
        | exact ⟨rfl, StAt.al (StAt.below' (StAt.dr (StAt.al hX6 _)) b7) _, StAt.al (StAt.below' (StAt.dr (StAt.al hY _)) b7) _, (below_1 b6 b7).alloc (below_1 b6 b7).size _⟩
        | exact ⟨rfl, StAt.far4 (StAt.below' (StAt.dr (StAt.al (StAt.al hX6 _) _)) b7) (by omega) _ _ _ _, StAt.far4 (StAt.below' (StAt.dr (StAt.al (StAt.al hY _) _)) b7) (by omega) _ _ _ _, rbelow_put (below_2 b6 b7) (by have := b6.size; omega) _ _ _ _⟩
  case rest =>
  obtain ⟨rfl, hX7, hY7, b8⟩ := hcut
  obtain ⟨c0, c1, c2, _, _, _⟩ := hX7.facts
  obtain ⟨e0, e1, e2, _, _, _⟩ := hY7.facts
  dsimp only at c0 c1 c2 e0 e1 e2
  cases y
  · have hh := HY.out rfl
    obtain ⟨rfl, rfl, rfl⟩ : x1 = m ∧ x2 = o ∧ x3 = p := by cases hh; exact ⟨rfl, rfl, rfl⟩
    clear HY hh
    go_wp2_with fail
    refine (awake_any _).mono ?_
    rintro e w9 ⟨rfl, b9⟩
    go_wp2_with fail
    go_ret
    exact ⟨rfl, b8.trans (b9.mono b8.size)⟩
  · clear HY
    go_wp2_with fail
    refine (awake_any _).mono ?_
    rintro e w9 ⟨rfl, b9⟩
    go_wp2_with fail
    go_ret
    exact ⟨rfl, b8.trans (b9.mono b8.size)⟩
end Go.Proofs.Ytmfldffbafamnaa
