/- Walks: the reference's Of, Longest, Hole, End. -/
import Derived.Test.YtmfldffbafamnaaRfL
import Derived.Test.YtmfldffbafamnaaCjT
namespace Go.Proofs.Ytmfldffbafamnaa
open Go.RowKit
set_option linter.unusedVariables false
set_option linter.unusedSimpArgs false
structure RD.good (k : Nat) (r : RD) : Prop where
  m : r.m < 10
  o : r.o.length ≤ k
  p : r.p.length ≤ k
  n : r.n < 256
theorem outR_good {k : Nat} {r : RD} (h : r.good k) (c : UInt8) : (outR r c).1.good (k + 1) := by
  have h1 := h.o
  have h2 := h.p
  have h3 := h.m
  have h4 := h.n
  have same : r.good (k + 1) := ⟨h.m, by omega, by omega, h.n⟩
  unfold outR
  split
  · exact same
  split
  · exact ⟨by simp, by simp; omega, by simp, by simp⟩
  split
  · exact ⟨by simp, by simp; omega, by simp, by simp⟩
  split
  · refine ⟨?_, by dsimp only; omega, by dsimp only; omega, h4⟩
    dsimp only; split <;> omega
  split
  · exact ⟨by simp, by dsimp only; omega, by dsimp only; omega, h4⟩
  split
  · refine ⟨?_, by simp; omega, by dsimp only; omega, h4⟩
    dsimp only; split <;> omega
  split
  · exact ⟨h3, by dsimp only; omega, by dsimp only; omega, by simp⟩
  split
  · exact same
  split
  · exact ⟨h3, by dsimp only; omega, by simp, by simp⟩
  split
  · exact ⟨h3, by dsimp only; omega, by simp, by simp⟩
  · exact ⟨h3, by dsimp only; omega, by simp, by simp⟩
theorem nextR_good {k : Nat} {r : RD} (h : r.good k) (c : UInt8) : (nextR r c).1.good (k + 1) := by
  have h1 := h.o
  have h2 := h.p
  have h3 := h.m
  have h4 := h.n
  have same : r.good (k + 1) := ⟨h.m, by omega, by omega, h.n⟩
  unfold nextR
  split
  · split
    · refine ⟨h3, by dsimp only; omega, ?_, h4⟩
      dsimp only; split
      · simp
      · simp; omega
    split
    · refine ⟨?_, by dsimp only; omega, by simp, by simp⟩
      dsimp only; split <;> omega
    · exact same
  split
  · split
    · exact ⟨by simp, by dsimp only; omega, by simp, by simp⟩
    · exact ⟨h3, by dsimp only; omega, by simp; omega, by simp⟩
  split
  · split
    · exact ⟨h3, by dsimp only; omega, by simp; omega, by simp⟩
    split
    · exact outR_good ⟨by simp, by dsimp only; omega, by simp, by simp⟩ c
    · exact ⟨h3, by dsimp only; omega, by dsimp only; omega, by simp⟩
  · exact outR_good h c
def runR (r : RD) : List UInt8 → RD × Bool
  | [] => (r, true)
  | c :: t => if (nextR r c).2 = true then runR (nextR r c).1 t else (r, false)
def r0 : RD := ⟨[], 0, 0, []⟩
theorem RdAt.far4 {w : World} {g k : Nat} {q : RD} (h : RdAt w g q) (hk : g ≠ k) (u v x y : Value) : RdAt ((((w.setCell ⟨k, 0, none⟩ u).setCell ⟨k, 1, none⟩ v).setCell ⟨k, 2, none⟩ x).setCell ⟨k, 3, none⟩ y) g q :=
  (((h.far (a := ⟨k, 0, none⟩) hk u).far (a := ⟨k, 1, none⟩) hk v).far (a := ⟨k, 2, none⟩) hk x).far (a := ⟨k, 3, none⟩) hk y
theorem RdAt.drew {w : World} {g : Nat} {q : RD} (h : RdAt w g q) : RdAt w.drew g q := h
theorem RdAt.alloc {w : World} {g : Nat} {q : RD} (h : RdAt w g q) (o : Obj) : RdAt (w.alloc o) g q := Blk.alloc h o
theorem RdAt.new0 (w : World) : RdAt (w.alloc (.cells #[.string ⟨#[]⟩, .int .i64 0, .int .u8 0, .string ⟨#[]⟩] 30)) w.heap.size r0 := Blk.new w _ _
theorem of_new (w : World) (W : World) (hW : W = (w.alloc (.cells #[.string ⟨#[]⟩, .int .i64 0, .int .u8 0, .string ⟨#[]⟩] 30)).alloc (.cells #[.string ⟨#[]⟩, .int .i64 0, .int .u8 0, .string ⟨#[]⟩] 30)) :
    RdAt W w.heap.size r0 ∧ RdAt W (w.heap.size + 1) r0 ∧ Below w.heap.size w W := by
  exact rboxes_new w r0 W hW
set_option maxRecDepth 100000 in
set_option maxHeartbeats 4000000 in
theorem of_any (l : List UInt8) (w : World) (hn : l.length ≤ 900) :
    Calls Try.prog 12 #[.string (strOf l)] w fun x w' => x = .returned (rr (runR r0 l)) ∧ Below w.heap.size w w' := by
  have HB := Lib.hid (fun W => of_new w W)
  have hz := strOf_size l
  go_enter Try.func12, Try.ntmps12
  go_wp2_with fail
  obtain ⟨hR, hA, hb⟩ := HB.out _ rfl
  generalize (w.alloc _).alloc _ = w1 at *
  obtain ⟨B, hB⟩ : ∃ B, B = w.heap.size := ⟨_, rfl⟩
  rw [← hB] at hA hR hb ⊢
  have HBB := Lib.hid hB
  clear hB HB
  go_loopw [5] (fun z wr => ∃ (k : Nat) (r' : RD), z = .int .i64 k ∧ k ≤ l.length ∧ runR r0 l = runR r' (l.drop k) ∧ r'.good k ∧ RdAt wr B r0 ∧ RdAt wr (B + 1) r' ∧ Below B w wr) (fun z _ => l.length - (intOf z).toNat)
  case atStart => exact ⟨0, r0, rfl, Nat.zero_le _, rfl, ⟨by decide, by decide, by decide, by decide⟩, hR, hA, hb⟩
  case round =>
    obtain ⟨k, ⟨o', m', n', p'⟩, rfl, hk, hg, hgood, hR', hA', hb'⟩ := hrel
    clear hA hR hb
    by_cases hlt : k < l.length
    · obtain ⟨c, hdrop, hcb⟩ := drop_step hlt
      have hbx := strOf_byte l k (by omega)
      rw [← hcb] at hbx
      have hc256 := UInt8.toNat_lt c
      have HS := Lib.hid (fun w => rnext_any ⟨o', m', n', p'⟩ c w (by have := hgood.o; omega) (by have := hgood.p; omega) hgood.m hgood.n)
      have HG2 := nextR_good hgood c
      have hrun : runR ⟨o', m', n', p'⟩ (l.drop k) = if (nextR ⟨o', m', n', p'⟩ c).2 = true then runR (nextR ⟨o', m', n', p'⟩ c).1 (l.drop (k + 1)) else (⟨o', m', n', p'⟩, false) := by rw [hdrop]; rfl
      have K0 := hg.trans hrun
      generalize nextR ⟨o', m', n', p'⟩ c = rz at *
      obtain ⟨⟨x1, x2, x3, x4⟩, y⟩ := rz
      dsimp only at HG2 K0
      have KF : Hid (y = false → runR r0 l = (⟨o', m', n', p'⟩, false)) := by
        intro e; rw [K0, e]; rfl
      have KT : Hid (y = true → runR r0 l = runR ⟨x1, x2, x3, x4⟩ (l.drop (k + 1)) ∧ RD.good (k + 1) ⟨x1, x2, x3, x4⟩) := by
        intro e; rw [K0, e]; exact ⟨rfl, HG2⟩
      clear hg hrun hdrop hcb hgood K0 HG2
      unfold rr RD.v at HS
      dsimp only at HS
      obtain ⟨a0, a1, a2, a3⟩ := hA'.facts
      dsimp only at a0 a1 a2 a3
      go_upto_region 5 with fail
      go_cut [6, 7] (fun s7 s8 wx => ∃ g, s7 = .pointer (some ⟨g, 0, none⟩) ∧ s8 = .bool y ∧ RdAt wx g ⟨x1, x2, x3, x4⟩ ∧ RdAt wx (B + 1) ⟨o', m', n', p'⟩ ∧ RdAt wx B r0 ∧ Below B w wx)
      case first =>
        have hBl := Blk.lt hR'
        have hBl1 := Blk.lt hA'
        go_region_held3 (fun w' => w'.cell? ⟨B + 1, 0, none⟩ = some (.string (strOf o')) ∧ w'.cell? ⟨B + 1, 1, none⟩ = some (.int .i64 m') ∧ w'.cell? ⟨B + 1, 2, none⟩ = some (.int .u8 n') ∧ w'.cell? ⟨B + 1, 3, none⟩ = some (.string (strOf p'))) (first | with_reducible exact RdAt.facts (RdAt.drew hA') | with_reducible exact RdAt.facts (RdAt.drew (RdAt.alloc hA' _)) | with_reducible exact RdAt.facts (RdAt.below' (RdAt.drew hA') b2) | with_reducible exact RdAt.facts (RdAt.below' (RdAt.drew (RdAt.alloc hA' _)) b2) | with_reducible exact RdAt.facts (RdAt.alloc (RdAt.below' (RdAt.drew hA') b2) _) | with_reducible exact RdAt.facts (RdAt.far4 (RdAt.below' (RdAt.drew (RdAt.alloc hA' _)) b2) (Nat.ne_of_lt hBl1) _ _ _ _)) (first | (go_at_call 25; refine (HS.out _).mono ?_; rintro x w2 ⟨rfl, b2⟩; first | (have hZ := RdAt.frz (RdAt.below' (RdAt.drew (RdAt.new0 wr)) b2); have hZ2 := RdAt.facts (RdAt.below' (RdAt.drew (RdAt.new0 wr)) b2); obtain ⟨f0, f1, f2, f3⟩ := hZ; obtain ⟨c0, c1, c2, c3⟩ := hZ2; unfold r0 at c0 c1 c2 c3; dsimp only at c0 c1 c2 c3) | skip))
        all_goals
          go_wp2_with fail
          go_meet
          first
            | exact ⟨_, rfl, rfl, Blk.new w2 _ _, RdAt.alloc (RdAt.below' (RdAt.drew hA') b2) _, RdAt.alloc (RdAt.below' (RdAt.drew hR') b2) _, below_E hb' hBl b2 _⟩
            | exact ⟨_, rfl, rfl, RdAt.put (RdAt.below' (RdAt.drew (RdAt.new0 wr)) b2) ⟨x1, x2, x3, x4⟩, RdAt.far4 (RdAt.below' (RdAt.drew (RdAt.alloc hA' _)) b2) (Nat.ne_of_lt hBl1) _ _ _ _, RdAt.far4 (RdAt.below' (RdAt.drew (RdAt.alloc hR' _)) b2) (Nat.ne_of_lt hBl) _ _ _ _, rbelow_put (below_D hb' hBl b2) (Nat.le_of_lt hBl) _ _ _ _⟩
      case rest =>
      obtain ⟨g, rfl, rfl, hX, hA3, hR3, hb3⟩ := hcut
      clear HS a0 a1 a2 a3 hbx hc256 hA' hR' hb'
      obtain ⟨a0, a1, a2, a3⟩ := hA3.facts
      obtain ⟨e0, e1, e2, e3⟩ := hA3.frz
      obtain ⟨c0, c1, c2, c3⟩ := hX.facts
      obtain ⟨f0, f1, f2, f3⟩ := hR3.frz
      obtain ⟨g0, g1, g2, g3⟩ := hR3.facts
      have HA3 := Lib.hid hA3
      have HR3 := Lib.hid hR3
      clear hA3 hX hR3
      unfold r0 at g0 g1 g2 g3
      dsimp only at a0 a1 a2 a3 c0 c1 c2 c3 g0 g1 g2 g3
      cases y
      · have K : Hid (runR r0 l = (⟨o', m', n', p'⟩, false)) := KF.out rfl
        clear KF KT
        go_wp2_with fail
        obtain ⟨s0, s1, s2, s3⟩ := (RdAt.put HR3.out ⟨o', m', n', p'⟩).facts
        refine bodyPost_ret (v := .tuple #[.agg #[.string (strOf o'), .int .i64 m', .int .u8 n', .string (strOf p')], .bool false]) (by simp [results, Try.f12, go_sem, s0, s1, s2, s3]) rfl ⟨by rw [K.out]; rfl, ?_⟩
        rw [← HBB.out]
        exact rbelow_put hb3 (Nat.le_refl _) _ _ _ _
      · have K := KT
        clear KF KT
        go_wp2_with fail
        go_roundw
        case rel => exact ⟨k + 1, ⟨x1, x2, x3, x4⟩, by go_num, hlt, (K.out rfl).1, (K.out rfl).2, RdAt.far4 HR3.out (by omega) _ _ _ _, RdAt.put HA3.out ⟨x1, x2, x3, x4⟩, rbelow_put hb3 (by omega) _ _ _ _⟩
        case measure => simp [intOf]; omega
    · have K : Hid (runR r0 l = (⟨o', m', n', p'⟩, true)) := by
        show _ = _; rw [hg, List.drop_eq_nil_of_le (by omega)]; rfl
      obtain ⟨a0, a1, a2, a3⟩ := hA'.facts
      obtain ⟨f0, f1, f2, f3⟩ := hR'.frz
      obtain ⟨g0, g1, g2, g3⟩ := hR'.facts
      have HR3 := Lib.hid hR'
      unfold r0 at g0 g1 g2 g3
      dsimp only at a0 a1 a2 a3 g0 g1 g2 g3
      clear hg hgood hA' hR'
      go_wp2_with fail
      obtain ⟨s0, s1, s2, s3⟩ := (RdAt.put HR3.out ⟨o', m', n', p'⟩).facts
      refine bodyPost_ret (v := .tuple #[.agg #[.string (strOf o'), .int .i64 m', .int .u8 n', .string (strOf p')], .bool true]) (by simp [results, Try.f12, go_sem, s0, s1, s2, s3]) rfl ⟨by rw [K.out]; rfl, ?_⟩
      rw [← HBB.out]
      exact rbelow_put hb' (Nat.le_refl _) _ _ _ _
end Go.Proofs.Ytmfldffbafamnaa
