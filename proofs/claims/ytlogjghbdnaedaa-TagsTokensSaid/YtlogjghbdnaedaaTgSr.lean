/- Walks: the document's Same (chapter 11). -/
import Derived.Test.YtlogjghbdnaedaaTgQ
import Derived.Test.YtlogjghbdnaedaaTgM
namespace Go.Proofs.Ytlogjghbdnaedaa
open Go.RowKit
set_option linter.unusedVariables false
set_option linter.unusedSimpArgs false
theorem blk_new2 (w : World) (o : Obj) (t : TypeId) (cs : Array Value) : Blk ((w.alloc o).alloc (.cells cs t)) (w.heap.size + 1) t cs := by
  have h := Blk.new (w.alloc o) t cs
  rwa [World.size_alloc] at h
set_option maxRecDepth 100000 in
set_option maxHeartbeats 16000000 in
theorem rsame_any (az bs : List Tg) (ok ok' : Nat → Prop) (pl pl' : Bool) (v v' : Value) (w : World) (h1 : TgsV w ok pl az v) (h2 : TgsV w ok' pl' bs v') (la : az.length ≤ 10000000000000) (lb : bs.length ≤ 10000000000000) (lz : ∀ t ∈ az, t.atts.length ≤ 10000000000000) (lz' : ∀ t ∈ bs, t.atts.length ≤ 10000000000000) :
    Calls Try.prog 11 #[v, v'] w fun e w' => e = .returned (.bool (sameGs az bs)) ∧ Below w.heap.size w w' := by
  obtain ⟨o2, c2, rfl⟩ := tgsV_len h1
  obtain ⟨o4, c4, rfl⟩ := tgsV_len h2
  have HTA := Lib.hid h1
  have HTB := Lib.hid h2
  have HLA := Lib.hid (And.intro lz lz')
  clear h1 h2 lz lz'
  by_cases hl : az.length = bs.length
  · have HLn := Lib.hid hl
    have q3 : ((az.length : Int) != (bs.length : Int)) = false := by simp [hl]
    clear hl
    go_enter Try.func11, Try.ntmps11
    go_wp2_with fail
    go_loopw [5] (fun z wr => ∃ i : Nat, z = .int .i64 i ∧ i ≤ az.length ∧ (∀ (j : Nat) (a b : Tg), j < i → az[j]? = some a → bs[j]? = some b → sameG a b = true) ∧ Below w.heap.size w wr) (fun z _ => az.length - (intOf z).toNat)
    case atStart => exact ⟨0, rfl, Nat.zero_le _, fun j a b hj => by omega, Below.refl _ _⟩
    case round =>
      obtain ⟨i, rfl, hi, hs, hb⟩ := hrel
      have HS := Lib.hid hs
      have HB := Lib.hid hb
      clear hs hb
      by_cases hlt : i < az.length
      · obtain ⟨a, hta⟩ : ∃ a, az[i]? = some a := ⟨_, List.getElem?_eq_getElem hlt⟩
        obtain ⟨b, htb⟩ : ∃ b, bs[i]? = some b := ⟨_, List.getElem?_eq_getElem (by have := HLn.out; omega)⟩
        have hli : i < bs.length := by have := HLn.out; omega
        have HAB := Lib.hid (And.intro hta htb)
        obtain ⟨ga, oa, _, xd, xe, xf, hv, hga, p0, p1, p2, p3, p4, p5, hpl, rs, hrrow, hrac⟩ := tg_at HTA.out hta HB.out
        simp only [Value.slice.injEq] at hv
        obtain ⟨rfl, _, rfl⟩ := hv
        obtain ⟨x4, x5, rfl, rfl, _⟩ := hpl
        obtain ⟨ra, rc, rfl⟩ := rowG_len hrrow
        obtain ⟨gb, ob, _, xd, xe, xf, hv, hgb, k0, k1, k2, k3, k4, k5, hpl, ss, hsrow, hsac⟩ := tg_at HTB.out htb HB.out
        simp only [Value.slice.injEq] at hv
        obtain ⟨rfl, _, rfl⟩ := hv
        obtain ⟨u4, u5, rfl, rfl, _⟩ := hpl
        obtain ⟨sa, sc, rfl⟩ := rowG_len hsrow
        have hga2 : ga < wr.heap.size := Nat.lt_of_lt_of_le hga HB.out.size
        have hgb2 : gb < wr.heap.size := Nat.lt_of_lt_of_le hgb HB.out.size
        have hla := HLA.out.1 a (mem_get hta)
        have hlb := HLA.out.2 b (mem_get htb)
        have HRA := Lib.hid hrrow
        have HRB := Lib.hid hsrow
        have HCA := Lib.hid hrac
        have HCB := Lib.hid hsac
        clear hrrow hsrow hrac hsac hta htb
        have e1 := str_eqT a.name b.name
        have e2 := str_eqT a.text b.text
        have e0 : ((a.kind : Int) != (b.kind : Int)) = !decide (a.kind = b.kind) := by
          by_cases h : a.kind = b.kind
          · simp [h]
          · have : ¬ ((a.kind : Int) = (b.kind : Int)) := by omega
            simp [h, this]
        have HV : Hid (sameG a b = (decide (a.kind = b.kind) && (decide (a.name = b.name) && (decide (a.text = b.text) && sameAs a.atts b.atts)))) := rfl
        obtain ⟨R, hR⟩ : ∃ R, sameG a b = R := ⟨_, rfl⟩
        have HRR := Lib.hid hR
        rw [hR] at HV
        clear hR
        generalize decide (a.kind = b.kind) = b0 at *
        generalize decide (a.name = b.name) = b1 at *
        generalize decide (a.text = b.text) = b2 at *
        generalize a.kind = q1 at *
        generalize b.kind = q2 at *
        generalize strOf a.name = n1 at *
        generalize strOf a.text = n2 at *
        generalize strOf b.name = m1 at *
        generalize strOf b.text = m2 at *
        have HK1 : Hid (∀ w', Below wr.heap.size wr w' → w'.cell? ⟨ga, oa + i * 6, none⟩ = some (.int .u8 q1) ∧ w'.cell? ⟨ga, oa + i * 6 + 1, none⟩ = some (.string n1) ∧ w'.cell? ⟨ga, oa + i * 6 + 2, none⟩ = some (.string n2) ∧ w'.cell? ⟨ga, oa + i * 6 + 3, none⟩ = some (.slice ra a.atts.length rc) ∧ w'.cell? ⟨ga, oa + i * 6 + 4, none⟩ = some (.int .i64 x4) ∧ w'.cell? ⟨ga, oa + i * 6 + 5, none⟩ = some (.int .i64 x5) ∧ w'.cell? ⟨gb, ob + i * 6, none⟩ = some (.int .u8 q2) ∧ w'.cell? ⟨gb, ob + i * 6 + 1, none⟩ = some (.string m1) ∧ w'.cell? ⟨gb, ob + i * 6 + 2, none⟩ = some (.string m2) ∧ w'.cell? ⟨gb, ob + i * 6 + 3, none⟩ = some (.slice sa b.atts.length sc) ∧ w'.cell? ⟨gb, ob + i * 6 + 4, none⟩ = some (.int .i64 u4) ∧ w'.cell? ⟨gb, ob + i * 6 + 5, none⟩ = some (.int .i64 u5)) := fun w' h => ⟨(h.cell (p := ⟨ga, oa + i * 6, none⟩) hga2).trans p0, (h.cell (p := ⟨ga, oa + i * 6 + 1, none⟩) hga2).trans p1, (h.cell (p := ⟨ga, oa + i * 6 + 2, none⟩) hga2).trans p2, (h.cell (p := ⟨ga, oa + i * 6 + 3, none⟩) hga2).trans p3, (h.cell (p := ⟨ga, oa + i * 6 + 4, none⟩) hga2).trans p4, (h.cell (p := ⟨ga, oa + i * 6 + 5, none⟩) hga2).trans p5, (h.cell (p := ⟨gb, ob + i * 6, none⟩) hgb2).trans k0, (h.cell (p := ⟨gb, ob + i * 6 + 1, none⟩) hgb2).trans k1, (h.cell (p := ⟨gb, ob + i * 6 + 2, none⟩) hgb2).trans k2, (h.cell (p := ⟨gb, ob + i * 6 + 3, none⟩) hgb2).trans k3, (h.cell (p := ⟨gb, ob + i * 6 + 4, none⟩) hgb2).trans k4, (h.cell (p := ⟨gb, ob + i * 6 + 5, none⟩) hgb2).trans k5⟩
        clear p0 p1 p2 p3 p4 p5 k0 k1 k2 k3 k4 k5
        go_upto_region 6 with fail
        go_cut [6, 7] (fun x y wx => ∃ X Y, x = .pointer (some ⟨X, 0, none⟩) ∧ y = .pointer (some ⟨Y, 0, none⟩) ∧ Blk wx X 34 #[.int .u8 q1, .string n1, .string n2, .slice ra a.atts.length rc, .int .i64 x4, .int .i64 x5] ∧ Blk wx Y 34 #[.int .u8 q2, .string m1, .string m2, .slice sa b.atts.length sc, .int .i64 u4, .int .i64 u5] ∧ Below wr.heap.size wr wx)
        case first =>
          go_region_held3 (fun w' => w'.cell? ⟨ga, oa + i * 6, none⟩ = some (.int .u8 q1) ∧ w'.cell? ⟨ga, oa + i * 6 + 1, none⟩ = some (.string n1) ∧ w'.cell? ⟨ga, oa + i * 6 + 2, none⟩ = some (.string n2) ∧ w'.cell? ⟨ga, oa + i * 6 + 3, none⟩ = some (.slice ra a.atts.length rc) ∧ w'.cell? ⟨ga, oa + i * 6 + 4, none⟩ = some (.int .i64 x4) ∧ w'.cell? ⟨ga, oa + i * 6 + 5, none⟩ = some (.int .i64 x5) ∧ w'.cell? ⟨gb, ob + i * 6, none⟩ = some (.int .u8 q2) ∧ w'.cell? ⟨gb, ob + i * 6 + 1, none⟩ = some (.string m1) ∧ w'.cell? ⟨gb, ob + i * 6 + 2, none⟩ = some (.string m2) ∧ w'.cell? ⟨gb, ob + i * 6 + 3, none⟩ = some (.slice sa b.atts.length sc) ∧ w'.cell? ⟨gb, ob + i * 6 + 4, none⟩ = some (.int .i64 u4) ∧ w'.cell? ⟨gb, ob + i * 6 + 5, none⟩ = some (.int .i64 u5)) (first | exact HK1.out _ (Below.refl _ _) | exact HK1.out _ (below_drewT (Below.refl _ _)) | exact HK1.out _ (below_drewT ((Below.refl _ _).alloc (Nat.le_refl _) _)) | exact HK1.out _ ((below_drewT (Below.refl _ _)).alloc (Nat.le_refl _) _) | exact HK1.out _ (below_drewT (((Below.refl _ _).alloc (Nat.le_refl _) _).alloc (by simp) _))) (fail)
          all_goals ((try go_wp2_with fail); go_meet; first | exact ⟨_, _, rfl, rfl, ((Blk.new wr 34 #[.int .u8 q1, .string n1, .string n2, .slice ra a.atts.length rc, .int .i64 x4, .int .i64 x5]).alloc _).drew, (blk_new2 wr _ 34 #[.int .u8 q2, .string m1, .string m2, .slice sa b.atts.length sc, .int .i64 u4, .int .i64 u5]).drew, below_drewT (((Below.refl _ _).alloc (Nat.le_refl _) _).alloc (by simp) _)⟩ | exact ⟨_, _, rfl, rfl, (blk_new2 wr _ 34 #[.int .u8 q1, .string n1, .string n2, .slice ra a.atts.length rc, .int .i64 x4, .int .i64 x5]).drew, ((Blk.new wr 34 #[.int .u8 q2, .string m1, .string m2, .slice sa b.atts.length sc, .int .i64 u4, .int .i64 u5]).alloc _).drew, below_drewT (((Below.refl _ _).alloc (Nat.le_refl _) _).alloc (by simp) _)⟩)
        case rest =>
        obtain ⟨X, Y, rfl, rfl, hX, hY, hB6⟩ := hcut
        have HX := Lib.hid hX
        have HY := Lib.hid hY
        have HB6 := Lib.hid hB6
        clear hX hY hB6 HK1
        have c0 := HX.out.cell 0
        have c1 := HX.out.cell 1
        have c2 := HX.out.cell 2
        have c3 := HX.out.cell 3
        have d0 := HY.out.cell 0
        have d1 := HY.out.cell 1
        have d2 := HY.out.cell 2
        have d3 := HY.out.cell 3
        have hbw : Hid (Below w.heap.size w wc) := HB.out.trans (HB6.out.mono HB.out.size)
        cases b0
        · have HE : Hid (sameGs az bs = false) := sameGs_no HAB.out.1 HAB.out.2 (by rw [HRR.out, HV.out]; rfl)
          go_wp2_with fail
          go_ret
          exact ⟨by rw [HE.out]; rfl, hbw.out⟩
        cases b1
        · have HE : Hid (sameGs az bs = false) := sameGs_no HAB.out.1 HAB.out.2 (by rw [HRR.out, HV.out]; rfl)
          go_wp2_with fail
          go_ret
          exact ⟨by rw [HE.out]; rfl, hbw.out⟩
        cases b2
        · have HE : Hid (sameGs az bs = false) := sameGs_no HAB.out.1 HAB.out.2 (by rw [HRR.out, HV.out]; rfl)
          go_wp2_with fail
          go_ret
          exact ⟨by rw [HE.out]; rfl, hbw.out⟩
        by_cases hla2 : a.atts.length = b.atts.length
        · have HL2 := Lib.hid hla2
          have q5 : ((a.atts.length : Int) != (b.atts.length : Int)) = false := by simp [hla2]
          have HV2 : Hid (R = sameAs a.atts b.atts) := by show _ = _; rw [HV.out]; simp
          clear hla2 HV
          go_wp2_with fail
          go_loopw [8] (fun z wr => ∃ k : Nat, z = .int .i64 k ∧ k ≤ a.atts.length ∧ (∀ (j : Nat) (p q : Att), j < k → a.atts[j]? = some p → b.atts[j]? = some q → sameA2 p q = true) ∧ Below wc.heap.size wc wr) (fun z _ => a.atts.length - (intOf z).toNat)
          case atStart => exact ⟨0, rfl, Nat.zero_le _, fun j p q hj => by omega, Below.refl _ _⟩
          case round =>
            clear c0 c1 c2 c3 d0 d1 d2 d3
            obtain ⟨wi, rfl⟩ : ∃ wi, wi = wr := ⟨_, rfl⟩
            obtain ⟨k, rfl, hk, hs2, hb2⟩ := hrel
            have HS2 := Lib.hid hs2
            have HB2 := Lib.hid hb2
            clear hs2 hb2
            have c3 := (HX.out.below HB2.out HX.out.lt).cell 3
            have d3 := (HY.out.below HB2.out HY.out.lt).cell 3
            by_cases hkl : k < a.atts.length
            · obtain ⟨p, hap⟩ : ∃ p, a.atts[k]? = some p := ⟨_, List.getElem?_eq_getElem hkl⟩
              obtain ⟨q, hbq⟩ : ∃ p, b.atts[k]? = some p := ⟨_, List.getElem?_eq_getElem (by have := HL2.out; omega)⟩
              have hkl2 : k < b.atts.length := by have := HL2.out; omega
              have hBi := HB6.out.trans (HB2.out.mono HB6.out.size)
              obtain ⟨ha, pa, _, _, _, hva, hgal, r0, r1, _, _, _⟩ := att_at HRA.out HCA.out hap hBi
              simp only [Value.slice.injEq] at hva
              obtain ⟨rfl, _, rfl⟩ := hva
              obtain ⟨hb1, pb, _, _, _, hvb, hgbl, v0, v1, _, _, _⟩ := att_at HRB.out HCB.out hbq hBi
              simp only [Value.slice.injEq] at hvb
              obtain ⟨rfl, _, rfl⟩ := hvb
              have f1 := str_eqT p.name q.name
              have f2 := str_eqT p.val q.val
              have HPQ := Lib.hid (And.intro hap hbq)
              have HA2 : Hid (sameA2 p q = (decide (p.name = q.name) && decide (p.val = q.val))) := rfl
              generalize decide (p.name = q.name) = b3 at *
              generalize decide (p.val = q.val) = b4 at *
              generalize strOf p.name = s1 at *
              generalize strOf p.val = s2 at *
              generalize strOf q.name = t1 at *
              generalize strOf q.val = t2 at *
              have HC : Hid (wi.cell? ⟨X, 3, none⟩ = some (.slice (some ⟨ha, pa, none⟩) a.atts.length rc) ∧ wi.cell? ⟨Y, 3, none⟩ = some (.slice (some ⟨hb1, pb, none⟩) b.atts.length sc) ∧ wi.cell? ⟨ha, pa + k * 4, none⟩ = some (.string s1) ∧ wi.cell? ⟨ha, pa + k * 4 + 1, none⟩ = some (.string s2) ∧ wi.cell? ⟨hb1, pb + k * 4, none⟩ = some (.string t1) ∧ wi.cell? ⟨hb1, pb + k * 4 + 1, none⟩ = some (.string t2)) := ⟨c3, d3, r0, r1, v0, v1⟩
              have hbw2 : Hid (Below w.heap.size w wi) := hbw.out.trans (HB2.out.mono hbw.out.size)
              clear hap hbq hBi r0 r1 v0 v1
              cases b3
              · have HE : Hid (sameGs az bs = false) := sameGs_no HAB.out.1 HAB.out.2 (by rw [HRR.out, HV2.out]; exact sameAs_no HPQ.out.1 HPQ.out.2 (by rw [HA2.out]; rfl))
                go_upto_region 12 with fail
                refine wp_region_held_drew (S := (fun w' => w'.cell? ⟨X, 3, none⟩ = some (.slice (some ⟨ha, pa, none⟩) a.atts.length rc) ∧ w'.cell? ⟨Y, 3, none⟩ = some (.slice (some ⟨hb1, pb, none⟩) b.atts.length sc) ∧ w'.cell? ⟨ha, pa + k * 4, none⟩ = some (.string s1) ∧ w'.cell? ⟨ha, pa + k * 4 + 1, none⟩ = some (.string s2) ∧ w'.cell? ⟨hb1, pb + k * 4, none⟩ = some (.string t1) ∧ w'.cell? ⟨hb1, pb + k * 4 + 1, none⟩ = some (.string t2))) (by kernel_rfl) (by exact HC.out) (fun hHeld => ?_)
                refine wpAnyH_take (i := 0) (v := ?_) rfl (by kernel_rfl) (by kernel_rfl) (by kernel_rfl) (fun _ _ _ h => h) (Or.inl ⟨by rfl, ?_⟩) (by assumption) ?_
                rotate_left
                · intro w hSw
                  go_simp
                  try rfl
                simp only [Act.put, List.setIfInBounds_toArray, List.set_cons_zero, List.set_cons_succ, List.getElem_toArray, List.getElem_cons_succ, List.getElem_cons_zero]
                refine wpAnyH_take (i := 1) (v := ?_) rfl (by kernel_rfl) (by kernel_rfl) (by kernel_rfl) (fun _ _ _ h => h) (Or.inl ⟨by rfl, ?_⟩) (by assumption) ?_
                rotate_left
                · intro w hSw
                  go_simp
                  try rfl
                simp only [Act.put, List.setIfInBounds_toArray, List.set_cons_zero, List.set_cons_succ, List.getElem_toArray, List.getElem_cons_succ, List.getElem_cons_zero]
                refine wpAnyH_take (i := 2) (v := ?_) rfl (by kernel_rfl) (by kernel_rfl) (by kernel_rfl) (fun _ _ _ h => h) (Or.inl ⟨by rfl, ?_⟩) (by assumption) ?_
                rotate_left
                · intro w hSw
                  go_simp
                  try rfl
                simp only [Act.put, List.setIfInBounds_toArray, List.set_cons_zero, List.set_cons_succ, List.getElem_toArray, List.getElem_cons_succ, List.getElem_cons_zero]
                refine wpAnyH_take (i := 3) (v := ?_) rfl (by kernel_rfl) (by kernel_rfl) (by kernel_rfl) (fun _ _ _ h => h) (Or.inl ⟨by rfl, ?_⟩) (by assumption) ?_
                rotate_left
                · intro w hSw
                  go_simp
                  try rfl
                simp only [Act.put, List.setIfInBounds_toArray, List.set_cons_zero, List.set_cons_succ, List.getElem_toArray, List.getElem_cons_succ, List.getElem_cons_zero]
                refine wpAnyH_take (i := 4) (v := ?_) rfl (by kernel_rfl) (by kernel_rfl) (by kernel_rfl) (fun _ _ _ h => h) (Or.inl ⟨by rfl, ?_⟩) (by assumption) ?_
                rotate_left
                · intro w hSw
                  go_simp
                  try rfl
                simp only [Act.put, List.setIfInBounds_toArray, List.set_cons_zero, List.set_cons_succ, List.getElem_toArray, List.getElem_cons_succ, List.getElem_cons_zero]
                refine wpAnyH_take (i := 5) (v := ?_) rfl (by kernel_rfl) (by kernel_rfl) (by kernel_rfl) (fun _ _ _ h => h) (Or.inl ⟨by rfl, ?_⟩) (by assumption) ?_
                rotate_left
                · intro w hSw
                  go_simp
                  try rfl
                simp only [Act.put, List.setIfInBounds_toArray, List.set_cons_zero, List.set_cons_succ, List.getElem_toArray, List.getElem_cons_succ, List.getElem_cons_zero]
                refine wpAnyH_take (i := 6) (v := ?_) rfl (by kernel_rfl) (by kernel_rfl) (by kernel_rfl) (fun _ _ _ h => h) (Or.inl ⟨by rfl, ?_⟩) (by assumption) ?_
                rotate_left
                · intro w hSw
                  go_simp
                  try rfl
                simp only [Act.put, List.setIfInBounds_toArray, List.set_cons_zero, List.set_cons_succ, List.getElem_toArray, List.getElem_cons_succ, List.getElem_cons_zero]
                refine wpAnyH_take (i := 7) (v := ?_) rfl (by kernel_rfl) (by kernel_rfl) (by kernel_rfl) (fun _ _ _ h => h) (Or.inl ⟨by rfl, ?_⟩) (by assumption) ?_
                rotate_left
                · intro w hSw
                  go_simp
                  try rfl
                simp only [Act.put, List.setIfInBounds_toArray, List.set_cons_zero, List.set_cons_succ, List.getElem_toArray, List.getElem_cons_succ, List.getElem_cons_zero]
                refine wpAnyH_take (i := 8) (v := ?_) rfl (by kernel_rfl) (by kernel_rfl) (by kernel_rfl) (fun _ _ _ h => h) (Or.inl ⟨by rfl, ?_⟩) (by assumption) ?_
                rotate_left
                · intro w hSw
                  go_simp
                  try rfl
                simp only [Act.put, List.setIfInBounds_toArray, List.set_cons_zero, List.set_cons_succ, List.getElem_toArray, List.getElem_cons_succ, List.getElem_cons_zero]
                refine wpAnyH_take (i := 9) (v := ?_) rfl (by kernel_rfl) (by kernel_rfl) (by kernel_rfl) (fun _ _ _ h => h) (Or.inl ⟨by rfl, ?_⟩) (by assumption) ?_
                rotate_left
                · intro w hSw
                  go_simp
                  try rfl
                simp only [Act.put, List.setIfInBounds_toArray, List.set_cons_zero, List.set_cons_succ, List.getElem_toArray, List.getElem_cons_succ, List.getElem_cons_zero]
                refine wpAnyH_take (i := 10) (v := ?_) rfl (by kernel_rfl) (by kernel_rfl) (by kernel_rfl) (fun _ _ _ h => h) (Or.inl ⟨by rfl, ?_⟩) (by assumption) ?_
                rotate_left
                · intro w hSw
                  go_simp
                  try rfl
                simp only [Act.put, List.setIfInBounds_toArray, List.set_cons_zero, List.set_cons_succ, List.getElem_toArray, List.getElem_cons_succ, List.getElem_cons_zero]
                refine wpAnyH_take (i := 11) (v := ?_) rfl (by kernel_rfl) (by kernel_rfl) (by kernel_rfl) (fun _ _ _ h => h) (Or.inl ⟨by rfl, ?_⟩) (by assumption) ?_
                rotate_left
                · intro w hSw
                  go_simp
                  try rfl
                simp only [Act.put, List.setIfInBounds_toArray, List.set_cons_zero, List.set_cons_succ, List.getElem_toArray, List.getElem_cons_succ, List.getElem_cons_zero]
                refine wpAnyH_take (i := 12) (v := ?_) rfl (by kernel_rfl) (by kernel_rfl) (by kernel_rfl) (fun _ _ _ h => h) (Or.inl ⟨by rfl, ?_⟩) (by assumption) ?_
                rotate_left
                · intro w hSw
                  go_simp
                  try rfl
                simp only [Act.put, List.setIfInBounds_toArray, List.set_cons_zero, List.set_cons_succ, List.getElem_toArray, List.getElem_cons_succ, List.getElem_cons_zero]
                refine wpAnyH_take (i := 13) (v := ?_) rfl (by kernel_rfl) (by kernel_rfl) (by kernel_rfl) (fun _ _ _ h => h) (Or.inl ⟨by rfl, ?_⟩) (by assumption) ?_
                rotate_left
                · intro w hSw
                  go_simp
                  try rfl
                simp only [Act.put, List.setIfInBounds_toArray, List.set_cons_zero, List.set_cons_succ, List.getElem_toArray, List.getElem_cons_succ, List.getElem_cons_zero]
                refine wpAnyH_take (i := 14) (v := undef) rfl (by kernel_rfl) (by kernel_rfl) (by kernel_rfl) (fun _ _ _ h => h) (Or.inr ⟨by rfl, rfl⟩) (by assumption) ?_
                simp only [Act.put, List.setIfInBounds_toArray, List.set_cons_zero, List.set_cons_succ, List.getElem_toArray, List.getElem_cons_succ, List.getElem_cons_zero]
                refine wpAnyH_take (i := 15) (v := undef) rfl (by kernel_rfl) (by kernel_rfl) (by kernel_rfl) (fun _ _ _ h => h) (Or.inr ⟨by rfl, rfl⟩) (by assumption) ?_
                simp only [Act.put, List.setIfInBounds_toArray, List.set_cons_zero, List.set_cons_succ, List.getElem_toArray, List.getElem_cons_succ, List.getElem_cons_zero]
                refine wpAnyH_take (i := 16) (v := undef) rfl (by kernel_rfl) (by kernel_rfl) (by kernel_rfl) (fun _ _ _ h => h) (Or.inr ⟨by rfl, rfl⟩) (by assumption) ?_
                simp only [Act.put, List.setIfInBounds_toArray, List.set_cons_zero, List.set_cons_succ, List.getElem_toArray, List.getElem_cons_succ, List.getElem_cons_zero]
                refine wpAnyH_take (i := 17) (v := undef) rfl (by kernel_rfl) (by kernel_rfl) (by kernel_rfl) (fun _ _ _ h => h) (Or.inr ⟨by rfl, rfl⟩) (by assumption) ?_
                simp only [Act.put, List.setIfInBounds_toArray, List.set_cons_zero, List.set_cons_succ, List.getElem_toArray, List.getElem_cons_succ, List.getElem_cons_zero]
                refine wpAnyH_take (i := 18) (v := undef) rfl (by kernel_rfl) (by kernel_rfl) (by kernel_rfl) (fun _ _ _ h => h) (Or.inr ⟨by rfl, rfl⟩) (by assumption) ?_
                simp only [Act.put, List.setIfInBounds_toArray, List.set_cons_zero, List.set_cons_succ, List.getElem_toArray, List.getElem_cons_succ, List.getElem_cons_zero]
                refine wpAnyH_take (i := 19) (v := undef) rfl (by kernel_rfl) (by kernel_rfl) (by kernel_rfl) (fun _ _ _ h => h) (Or.inr ⟨by rfl, rfl⟩) (by assumption) ?_
                simp only [Act.put, List.setIfInBounds_toArray, List.set_cons_zero, List.set_cons_succ, List.getElem_toArray, List.getElem_cons_succ, List.getElem_cons_zero]
                refine wpAnyH_take (i := 20) (v := undef) rfl (by kernel_rfl) (by kernel_rfl) (by kernel_rfl) (fun _ _ _ h => h) (Or.inr ⟨by rfl, rfl⟩) (by assumption) ?_
                simp only [Act.put, List.setIfInBounds_toArray, List.set_cons_zero, List.set_cons_succ, List.getElem_toArray, List.getElem_cons_succ, List.getElem_cons_zero]
                refine wpAnyH_take (i := 21) (v := undef) rfl (by kernel_rfl) (by kernel_rfl) (by kernel_rfl) (fun _ _ _ h => h) (Or.inr ⟨by rfl, rfl⟩) (by assumption) ?_
                simp only [Act.put, List.setIfInBounds_toArray, List.set_cons_zero, List.set_cons_succ, List.getElem_toArray, List.getElem_cons_succ, List.getElem_cons_zero]
                refine wpAnyH_take (i := 22) (v := undef) rfl (by kernel_rfl) (by kernel_rfl) (by kernel_rfl) (fun _ _ _ h => h) (Or.inr ⟨by rfl, rfl⟩) (by assumption) ?_
                simp only [Act.put, List.setIfInBounds_toArray, List.set_cons_zero, List.set_cons_succ, List.getElem_toArray, List.getElem_cons_succ, List.getElem_cons_zero]
                refine wpAnyH_take (i := 23) (v := undef) rfl (by kernel_rfl) (by kernel_rfl) (by kernel_rfl) (fun _ _ _ h => h) (Or.inr ⟨by rfl, rfl⟩) (by assumption) ?_
                simp only [Act.put, List.setIfInBounds_toArray, List.set_cons_zero, List.set_cons_succ, List.getElem_toArray, List.getElem_cons_succ, List.getElem_cons_zero]
                refine wpAnyH_take (i := 24) (v := undef) rfl (by kernel_rfl) (by kernel_rfl) (by kernel_rfl) (fun _ _ _ h => h) (Or.inr ⟨by rfl, rfl⟩) (by assumption) ?_
                simp only [Act.put, List.setIfInBounds_toArray, List.set_cons_zero, List.set_cons_succ, List.getElem_toArray, List.getElem_cons_succ, List.getElem_cons_zero]
                refine wpAnyH_take (i := 25) (v := undef) rfl (by kernel_rfl) (by kernel_rfl) (by kernel_rfl) (fun _ _ _ h => h) (Or.inr ⟨by rfl, rfl⟩) (by assumption) ?_
                simp only [Act.put, List.setIfInBounds_toArray, List.set_cons_zero, List.set_cons_succ, List.getElem_toArray, List.getElem_cons_succ, List.getElem_cons_zero]
                refine wpAnyH_take (i := 26) (v := undef) rfl (by kernel_rfl) (by kernel_rfl) (by kernel_rfl) (fun _ _ _ h => h) (Or.inr ⟨by rfl, rfl⟩) (by assumption) ?_
                simp only [Act.put, List.setIfInBounds_toArray, List.set_cons_zero, List.set_cons_succ, List.getElem_toArray, List.getElem_cons_succ, List.getElem_cons_zero]
                refine wpAnyH_take (i := 27) (v := ?_) rfl (by kernel_rfl) (by kernel_rfl) (by kernel_rfl) (fun _ _ _ h => h) (Or.inl ⟨by rfl, ?_⟩) (by assumption) ?_
                rotate_left
                · intro w hSw
                  go_simp
                  try rfl
                simp only [Act.put, List.setIfInBounds_toArray, List.set_cons_zero, List.set_cons_succ, List.getElem_toArray, List.getElem_cons_succ, List.getElem_cons_zero]
                refine wpAnyH_done (by kernel_rfl) ?_ _
                clear hHeld
                go_wp2_with fail
                go_ret
                exact ⟨by rw [HE.out]; rfl, hbw2.out.drew⟩
              cases b4
              · have HE : Hid (sameGs az bs = false) := sameGs_no HAB.out.1 HAB.out.2 (by rw [HRR.out, HV2.out]; exact sameAs_no HPQ.out.1 HPQ.out.2 (by rw [HA2.out]; rfl))
                go_upto_region 12 with fail
                go_region_held3 (fun w' => w'.cell? ⟨X, 3, none⟩ = some (.slice (some ⟨ha, pa, none⟩) a.atts.length rc) ∧ w'.cell? ⟨Y, 3, none⟩ = some (.slice (some ⟨hb1, pb, none⟩) b.atts.length sc) ∧ w'.cell? ⟨ha, pa + k * 4, none⟩ = some (.string s1) ∧ w'.cell? ⟨ha, pa + k * 4 + 1, none⟩ = some (.string s2) ∧ w'.cell? ⟨hb1, pb + k * 4, none⟩ = some (.string t1) ∧ w'.cell? ⟨hb1, pb + k * 4 + 1, none⟩ = some (.string t2)) (exact HC.out) (fail)
                go_wp2_with fail
                go_ret
                exact ⟨by rw [HE.out]; rfl, hbw2.out.drew⟩
              · go_upto_region 12 with fail
                go_region_held3 (fun w' => w'.cell? ⟨X, 3, none⟩ = some (.slice (some ⟨ha, pa, none⟩) a.atts.length rc) ∧ w'.cell? ⟨Y, 3, none⟩ = some (.slice (some ⟨hb1, pb, none⟩) b.atts.length sc) ∧ w'.cell? ⟨ha, pa + k * 4, none⟩ = some (.string s1) ∧ w'.cell? ⟨ha, pa + k * 4 + 1, none⟩ = some (.string s2) ∧ w'.cell? ⟨hb1, pb + k * 4, none⟩ = some (.string t1) ∧ w'.cell? ⟨hb1, pb + k * 4 + 1, none⟩ = some (.string t2)) (exact HC.out) (fail)
                go_wp2_with fail
                go_roundw
                case rel =>
                  refine ⟨k + 1, by go_num, hkl, fun j p' q' hj h1 h2 => ?_, HB2.out.drew⟩
                  rcases Nat.lt_or_ge j k with h | h
                  · exact HS2.out j p' q' h h1 h2
                  · obtain rfl : j = k := by omega
                    rw [HPQ.out.1] at h1; rw [HPQ.out.2] at h2
                    cases h1; cases h2; rw [HA2.out]; rfl
                case measure => simp [intOf]; omega
            · have HE : Hid (sameG a b = true) := by show _ = _; rw [HRR.out, HV2.out]; exact sameAs_yes HL2.out fun j p q h1 h2 => HS2.out j p q (by have := (List.getElem?_eq_some_iff.1 h1).1; omega) h1 h2
              have hbw2 : Hid (Below w.heap.size w wi) := hbw.out.trans (HB2.out.mono hbw.out.size)
              go_wp2_with fail
              go_roundw
              case rel =>
                refine ⟨i + 1, by go_num, hlt, fun j a' b' hj h1 h2 => ?_, hbw2.out⟩
                rcases Nat.lt_or_ge j i with h | h
                · exact HS.out j a' b' h h1 h2
                · obtain rfl : j = i := by omega
                  rw [HAB.out.1] at h1; rw [HAB.out.2] at h2
                  cases h1; cases h2; exact HE.out
              case measure => simp [intOf]; omega
        · have q5 : ((a.atts.length : Int) != (b.atts.length : Int)) = true := by simp; omega
          have HE : Hid (sameGs az bs = false) := sameGs_no HAB.out.1 HAB.out.2 (by rw [HRR.out, HV.out]; simp; exact sameAs_len hla2)
          clear hla2
          go_wp2_with fail
          go_ret
          exact ⟨by rw [HE.out]; rfl, hbw.out⟩
      · have HE : Hid (sameGs az bs = true) := sameGs_yes HLn.out fun j a b hja hjb => HS.out j a b (by have := (List.getElem?_eq_some_iff.1 hja).1; omega) hja hjb
        go_wp2_with fail
        go_ret
        exact ⟨by rw [HE.out]; rfl, HB.out⟩
  · have q3 : ((az.length : Int) != (bs.length : Int)) = true := by simp; omega
    have HE : Hid (sameGs az bs = false) := sameGs_len hl
    clear hl
    go_enter Try.func11, Try.ntmps11
    go_wp2_with fail
    go_ret
    exact ⟨by rw [HE.out]; rfl, Below.refl _ _⟩
end Go.Proofs.Ytlogjghbdnaedaa
