/- Walks: ctxjson's Run. -/
import Derived.Test.YtmfldffbafamnaaCjS
import Derived.Test.YtmfldffbafamnaaRfA
import Derived.Deep.DeepCutAuto
namespace Go.Proofs.Ytmfldffbafamnaa
open Go.RowKit
set_option linter.unusedVariables false
set_option linter.unusedSimpArgs false
/-- Behind a text. -/
def runS (q : Q) : List UInt8 → Q × Bool
  | [] => (q, true)
  | c :: t => if (nextS q c).2 = true then runS (nextS q c).1 t else (q, false)
theorem below_E {B : Nat} {w wr w2 : World} (hb : Below B w wr) (hB : B < wr.heap.size) (b2 : Below wr.drew.heap.size wr.drew w2) (Z : Obj) : Below B w (w2.alloc Z) := by
  have h : Below B w w2 := (below_drewN hb 1).trans (b2.mono (Nat.le_of_lt hB))
  exact h.alloc (Nat.le_of_lt (Nat.lt_of_lt_of_le hB b2.size)) _
theorem below_D {B : Nat} {w wr w2 : World} {Z : Obj} (hb : Below B w wr) (hB : B < wr.heap.size) (b2 : Below (World.drew (wr.alloc Z)).heap.size (World.drew (wr.alloc Z)) w2) : Below B w w2 := by
  have h : Below B w (World.drew (wr.alloc Z)) := below_drewN (hb.alloc (Nat.le_of_lt hB) Z) 1
  exact h.trans (b2.mono (by show B ≤ (wr.alloc Z).heap.size; rw [World.size_alloc]; omega))
theorem StAt.cells3 {w : World} {g : Nat} {q : Q} (h : StAt w g q) :
    w.cell? ⟨g, 0, none⟩ = some (.int .i64 q.m) ∧ w.cell? ⟨g, 1, none⟩ = some (.string (strOf q.o)) ∧ w.cell? ⟨g, 2, none⟩ = some (.string (strOf q.p)) := ⟨Blk.cell h 0, Blk.cell h 1, Blk.cell h 2⟩
theorem StAt.far3 {w : World} {g k : Nat} {q : Q} (h : StAt w g q) (hk : g ≠ k) (u v x : Value) : StAt (((w.setCell ⟨k, 0, none⟩ u).setCell ⟨k, 1, none⟩ v).setCell ⟨k, 2, none⟩ x) g q :=
  ((h.far (a := ⟨k, 0, none⟩) hk u).far (a := ⟨k, 1, none⟩) hk v).far (a := ⟨k, 2, none⟩) hk x
set_option maxRecDepth 100000 in
set_option maxHeartbeats 4000000 in
theorem run_any (q : Q) (l : List UInt8) (n : Nat) (w : World) (hq : q.good n) (hn : n + l.length ≤ 900) :
    Calls Try.prog 10 #[q.v, .string (strOf l)] w fun x w' => x = .returned (qr (runS q l)) ∧ Below w.heap.size w w' := by
  obtain ⟨m, o, p⟩ := q
  have HB := Lib.hid (boxes_new w m o p)
  have HQ := Lib.hid hq
  have hz := strOf_size l
  unfold Q.v sv
  dsimp only
  clear hq
  go_enter Try.func10, Try.ntmps10
  go_wp2_with fail
  obtain ⟨hA, hR, hb⟩ := HB.out
  generalize (w.alloc _).alloc _ = w1 at *
  obtain ⟨B, hB⟩ : ∃ B, B = w.heap.size := ⟨_, rfl⟩
  rw [← hB] at hA hR hb ⊢
  have HBB := Lib.hid hB
  clear hB HB
  go_loopw [11] (fun z wr => ∃ (k : Nat) (q' : Q), z = .int .i64 k ∧ k ≤ l.length ∧ runS ⟨m, o, p⟩ l = runS q' (l.drop k) ∧ q'.good (n + k) ∧ StAt wr B q' ∧ StAt wr (B + 1) ⟨0, [], []⟩ ∧ Below B w wr) (fun z _ => l.length - (intOf z).toNat)
  case atStart => exact ⟨0, ⟨m, o, p⟩, rfl, Nat.zero_le _, rfl, HQ.out, hA, hR, hb⟩
  case round =>
    obtain ⟨k, ⟨m', o', p'⟩, rfl, hk, hg, hgood, hA', hR', hb'⟩ := hrel
    clear hA hR hb
    by_cases hlt : k < l.length
    · obtain ⟨c, hdrop, hcb⟩ := drop_step hlt
      have hbx := strOf_byte l k (by omega)
      rw [← hcb] at hbx
      have hc256 := UInt8.toNat_lt c
      have HS := Lib.hid (fun w => step_any ⟨m', o', p'⟩ c w (hgood.fit (by omega)) hgood.n)
      have HG2 := nextS_good hgood c
      have hrun : runS ⟨m', o', p'⟩ (l.drop k) = if (nextS ⟨m', o', p'⟩ c).2 = true then runS (nextS ⟨m', o', p'⟩ c).1 (l.drop (k + 1)) else (⟨m', o', p'⟩, false) := by rw [hdrop]; rfl
      have K0 := hg.trans hrun
      have hst : stepS ⟨m', o', p'⟩ c = if (nextS ⟨m', o', p'⟩ c).2 = true then ((nextS ⟨m', o', p'⟩ c).1, true) else (⟨m', o', p'⟩, false) := rfl
      generalize nextS ⟨m', o', p'⟩ c = r at *
      obtain ⟨x, y⟩ := r
      dsimp only at HG2 K0 hst
      obtain ⟨z, hzz⟩ : ∃ z, z = if y = true then x else ⟨m', o', p'⟩ := ⟨_, rfl⟩
      have hst2 : stepS ⟨m', o', p'⟩ c = (z, y) := by
        rw [hst, hzz]; cases y <;> rfl
      rw [hst2] at HS
      have KF : Hid (y = false → runS ⟨m, o, p⟩ l = (⟨m', o', p'⟩, false)) := by
        intro e; rw [K0, e]; rfl
      have KT : Hid (y = true → runS ⟨m, o, p⟩ l = runS z (l.drop (k + 1)) ∧ z.good (n + k + 1)) := by
        intro e; rw [K0, hzz, e]; exact ⟨rfl, HG2⟩
      clear hg hrun hdrop hcb hgood K0 hst hst2 hzz HG2
      obtain ⟨x1, x2, x3⟩ := z
      unfold qr Q.v sv at HS
      dsimp only at HS
      obtain ⟨a0, a1, a2, _, _, _⟩ := hA'.facts
      dsimp only at a0 a1 a2
      go_upto_region 4 with fail
      go_cut [7, 8] (fun s7 s8 wx => ∃ g, s7 = .pointer (some ⟨g, 0, none⟩) ∧ s8 = .bool y ∧ StAt wx g ⟨x1, x2, x3⟩ ∧ StAt wx B ⟨m', o', p'⟩ ∧ StAt wx (B + 1) ⟨0, [], []⟩ ∧ Below B w wx)
      case first =>
        have hBl := Blk.lt hA'
        have hBl1 := Blk.lt hR'
        go_region_held3 (fun w' => w'.cell? ⟨B, 0, none⟩ = some (.int .i64 m') ∧ w'.cell? ⟨B, 1, none⟩ = some (.string (strOf o')) ∧ w'.cell? ⟨B, 2, none⟩ = some (.string (strOf p'))) (first | exact StAt.cells3 hA' | exact StAt.cells3 (Blk.alloc hA' _) | exact StAt.cells3 (StAt.below' (w := wr.drew) hA' b2) | exact StAt.cells3 (StAt.below' (w := World.drew (wr.alloc _)) (Blk.alloc hA' _) b2) | exact StAt.cells3 (Blk.alloc (StAt.below' (w := wr.drew) hA' b2) _) | exact StAt.cells3 (StAt.far3 (StAt.below' (w := World.drew (wr.alloc _)) (Blk.alloc hA' _) b2) (Nat.ne_of_lt hBl) _ _ _)) (first | (go_at_call 11; refine (HS.out _).mono ?_; rintro x w2 ⟨rfl, b2⟩; first | (have hZ := StAt.facts (q := ⟨0, [], []⟩) (StAt.below' (w := World.drew (wr.alloc _)) (Blk.new wr _ _) b2); obtain ⟨_, _, _, f0, f1, f2⟩ := hZ) | skip))
        all_goals
          go_wp2_with fail
          go_meet
          first
            | exact ⟨_, rfl, rfl, Blk.new w2 _ _, Blk.alloc (StAt.below' (w := wr.drew) hA' b2) _, Blk.alloc (StAt.below' (w := wr.drew) hR' b2) _, below_E hb' hBl b2 _⟩
            | exact ⟨_, rfl, rfl, StAt.put (q := ⟨0, [], []⟩) (StAt.below' (w := World.drew (wr.alloc _)) (Blk.new wr _ _) b2) ⟨x1, x2, x3⟩, StAt.far3 (StAt.below' (w := World.drew (wr.alloc _)) (Blk.alloc hA' _) b2) (Nat.ne_of_lt hBl) _ _ _, StAt.far3 (StAt.below' (w := World.drew (wr.alloc _)) (Blk.alloc hR' _) b2) (Nat.ne_of_lt hBl1) _ _ _, below_put (below_D hb' hBl b2) (Nat.le_of_lt hBl) _ _ _⟩
      case rest =>
      obtain ⟨g, rfl, rfl, hX, hA3, hR3, hb3⟩ := hcut
      clear HS a0 a1 a2 hbx hc256 hA' hR' hb'
      obtain ⟨a0, a1, a2, e0, e1, e2⟩ := hA3.facts
      obtain ⟨c0, c1, c2, _, _, _⟩ := hX.facts
      obtain ⟨_, _, _, f0, f1, f2⟩ := hR3.facts
      have HA3 := Lib.hid hA3
      have HR3 := Lib.hid hR3
      clear hA3 hX hR3
      dsimp only at a0 a1 a2 c0 c1 c2
      cases y
      · have K : Hid (runS ⟨m, o, p⟩ l = (⟨m', o', p'⟩, false)) := KF.out rfl
        clear KF KT
        go_wp2_with fail
        obtain ⟨s0, s1, s2, _, _, _⟩ := (StAt.put HR3.out ⟨m', o', p'⟩).facts
        refine bodyPost_ret (v := .tuple #[.agg #[.int .i64 m', .string (strOf o'), .string (strOf p')], .bool false]) (by simp [results, Try.f10, go_sem, s0, s1, s2]) rfl ⟨by rw [K.out]; rfl, ?_⟩
        rw [← HBB.out]
        exact below_put hb3 (by omega) _ _ _
      · have K := KT
        clear KF KT
        go_wp2_with fail
        go_roundw
        case rel => exact ⟨k + 1, ⟨x1, x2, x3⟩, by go_num, hlt, (K.out rfl).1, (K.out rfl).2, StAt.put HA3.out ⟨x1, x2, x3⟩, StAt.far3 HR3.out (by omega) _ _ _, below_put hb3 (Nat.le_refl _) _ _ _⟩
        case measure => simp [intOf]; omega
    · have K : Hid (runS ⟨m, o, p⟩ l = (⟨m', o', p'⟩, true)) := by
        show _ = _; rw [hg, List.drop_eq_nil_of_le (by omega)]; rfl
      obtain ⟨a0, a1, a2, e0, e1, e2⟩ := hA'.facts
      obtain ⟨_, _, _, f0, f1, f2⟩ := hR'.facts
      have HR3 := Lib.hid hR'
      dsimp only at a0 a1 a2
      clear hg hgood hA' hR'
      go_wp2_with fail
      obtain ⟨s0, s1, s2, _, _, _⟩ := (StAt.put HR3.out ⟨m', o', p'⟩).facts
      refine bodyPost_ret (v := .tuple #[.agg #[.int .i64 m', .string (strOf o'), .string (strOf p')], .bool true]) (by simp [results, Try.f10, go_sem, s0, s1, s2]) rfl ⟨by rw [K.out]; rfl, ?_⟩
      rw [← HBB.out]
      exact below_put hb' (by omega) _ _ _
end Go.Proofs.Ytmfldffbafamnaa
