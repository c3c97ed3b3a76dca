/- Walks: the backs are laid (find.link, chapter 03). -/
import Derived.Test.YtpjlkhdolhoeoaaFdDep
import Derived.StillTailTactics
namespace Go.Proofs.Ytpjlkhdolhoeoaa
open Go.Shelf Go.RowKit Go.Lib Go.Sort Go.Maps
set_option linter.unusedVariables false
set_option linter.unusedSimpArgs false
def zeroEd : Value := .agg #[.int .i64 0, .int .i64 0, .int .i64 0]
theorem infoEd : (Try.prog.info? 75).map (fun i => (i.zero, i.size, i.bytes)) = some (some zeroEd, 3, 24) := by kernel_rfl
theorem below_grown {B : Nat} {a b : World} {row : Option Nat} (h : a.grownBy b row) (hB : B ≤ a.heap.size) (hr : ∀ j, row = some j → B ≤ j) : Below B a b :=
  ⟨h.os, h.tape, h.output, h.size, fun k hk => h.block k (by omega) (fun e => by have := hr k e.symm; omega)⟩
set_option maxRecDepth 100000 in
set_option maxHeartbeats 8000000 in
theorem flink {w0 w : World} {M B : Nat} {ls P : List Bs} {Es : List (List Nat)} {evs : List Value} {lv sv : Value} {D : DataW Unit} (h : BigM w0 M B ls P P (List.replicate P.length 0) Es evs lv sv D w) (hP : P.length ≤ 100001)
    (hst : ∀ N, N ≤ P.length → StableAt N) :
    Calls Try.prog 26 #[.pointer (some ⟨M, 0, none⟩)] w fun e w' => e = .returned (.tuple #[]) ∧ ∃ bk, BigM w0 M B ls P P bk Es evs lv sv D w' ∧ ∀ (k : Nat) (x : Bs), P[k]? = some x → bk[k]? = some (backI P k) := by
  obtain ⟨i0, hi, hz0, hz1, hz2⟩ := info_parts infoEd
  obtain ⟨i1, hi1, hy0, hy1, hy2⟩ := info_parts infoInt
  obtain ⟨gs, scap, rfl, hgs1, hgs2, hgs3⟩ := h.svn
  have HB := Lib.hid h
  have HS := Lib.hid hst
  have HP := Lib.hid hP
  have k0 : w.cell? ⟨M, 0, none⟩ = some lv := h.m.cell 0
  have k1 : w.cell? ⟨M, 1, none⟩ = some (.slice (some ⟨gs, 0, none⟩) P.length scap) := h.m.cell 1
  have k2 : w.cell? ⟨M, 2, none⟩ = some (.map (some B)) := h.m.cell 2
  have hown := h.mp
  clear h hst hP
  go_enter Try.func26, Try.ntmps26
  go_wp2_with (at_range; refine wpList_range_own _ rfl _ 53 rfl 68 3 lawStep Try.underlying53 (plainElem Try.prog 3) B P.length D rfl hown ?_; intro w1 hrg1 hg1 hs1)
  go_frame
  go_loopw [2] (fun v wr => ∃ (left : Lit → Bool) (cnt : Nat) (E : List Tri), wr.ranges Try.prog 68 (plainElem Try.prog 3) B w.heap.size P.length D left cnt ∧
      wr.ownsRow w.heap.size 75 3 v E.length (edG E) ∧ EdP P left E ∧ Below w.heap.size w wr)
    (fun _ wr => wr.rangeLeft B w.heap.size)
  case atStart => exact ⟨_, _, [], hrg1, World.ownsRow_nil _ _ _ _, EdP.start HB.out.mP, below_grown hg1 (Nat.le_refl _) (fun j hj => by cases hj)⟩
  case round =>
    obtain ⟨left, cnt, E, hrg, hrow, hE, hb⟩ := hrel
    have HE := Lib.hid hE
    have HBL := Lib.hid hb
    clear hE hb
    go_wp2_with (at_next; refine wpList_next_ranges _ rfl _ rfl 68 lawStep (plainElem Try.prog 3) (fun p : Int × Int => .agg #[.int .i64 p.1, .int .i64 p.2]) (Value.int .i64) (fun key kl hk => by obtain ⟨x, hx, _⟩ := keyOf_shape hk; exact ⟨x, hx⟩) (fun v y hv => by obtain ⟨c, rfl, _⟩ := plainElem_int_inv Try.underlying3 hv; exact ⟨c, rfl⟩) B w.heap.size P.length _ _ _ rfl hrg ?_ ?_)
    · intro hc0 hl0
      have HEA := Lib.hid (HE.out.done hl0)
      have hEl := HE.out.len HB.out.tr
      have hpos := HB.out.tr.pos
      have hPl := HP.out
      obtain ⟨o1, cp1, rfl⟩ := own_shapeF hrow
      have hto : ∀ e ∈ E, e.2.2 ≤ P.length - 1 := fun e he => by obtain ⟨x, _, h2⟩ := HEA.out.ok e he; have := get_lt h2; omega
      have hso := sortE hrow (by omega) (P.length - 1) hto
      have hne : some w.heap.size ≠ (Value.slice o1 E.length cp1).ownBlock := row_ne_iter hrow hrg
      have HSO := Lib.hid hso
      have HEL := Lib.hid hEl
      clear hso hto hrg hl0 hrow hEl hPl hc0
      go_wp2_with (first
        | (go_at_call 37; refine HSO.out.mono ?_; rintro e w2 ⟨rfl, E2, hp, ho, hrow2, hg2⟩; have HB2 := Lib.hid (HBL.out.trans (below_grown hg2 HBL.out.size (fun j hj => (hrow2.lt j hj).1))); have m1 : w2.cell? ⟨M, 1, none⟩ = some (.slice (some ⟨gs, 0, none⟩) P.length scap) := (HB.out.bel_ HB2.out).m.cell 1; have HROW2 := Lib.hid hrow2; have HPM := Lib.hid (And.intro hp ho); have HSZ2 := Lib.hid HB2.out.size; have e1 : i1.bytes * P.length ≤ 281474976710656 := (by rw [hy2]; have := HP.out; omega); have e2 : P.length ≤ maxLen := (by have := HP.out; unfold maxLen; omega); clear hp ho hrow2 hg2)
        | (at_make; refine wpList_make_full _ rfl _ _ 70 rfl w.heap.size 3 i1 (.int .i64 0) 1 Try.underlying70 hi1 hy0 hy1 _ _ _ _ P.length rfl rfl rfl rfl e1 e2 HSZ2.out ?_; intro w3 hd3 hg3; go_frame))
      have hl2 : E2.length = E.length := HPM.out.1.length_eq
      have hEA2 : EdAll P E2 := HEA.out.perm HPM.out.1
      have hord := HPM.out.2
      obtain ⟨v, hv⟩ : ∃ v : Value, v = .slice o1 E.length cp1 := ⟨_, rfl⟩
      obtain ⟨dg, hdg⟩ : ∃ dg, dg = w2.heap.size := ⟨_, rfl⟩
      obtain ⟨c, hc⟩ : ∃ c, c = w3.heap.size := ⟨_, rfl⟩
      have hd0 : DepM w dg c P v E2 [] (List.replicate P.length 0) (w3.alloc (.cells #[.slice (some ⟨dg, 0, none⟩) P.length P.length] 70)) := by
        have hs3 := hg3.size
        have hs2 := HSZ2.out
        have h23 : Below w2.heap.size w2 w3 := below_grown hg3 (Nat.le_refl _) (fun j hj => by cases hj)
        have hdl := (hd3.lt w2.heap.size rfl).2
        have hvl : ∀ b, v.ownBlock = some b → b < w2.heap.size := fun b hb => (HROW2.out.lt b (by rw [← hv]; exact hb)).2
        refine ⟨DepP.start HB.out.tr, by rw [hc]; exact Blk.new w3 _ _, ?_, ?_, (HB2.out.trans (h23.mono HSZ2.out)).alloc (by omega) _, by omega, by omega, by omega, fun e => ?_, fun e => ?_⟩
        · have e : (madeCells (Value.int .i64 0).cells (P.length * 1)).toList = intG (List.replicate P.length 0) := by
            rw [Nat.mul_one]
            show (madeCells #[Value.int .i64 0] P.length).toList = _
            rw [toList_madeCells_one]
            simp [intG]
          rw [← e, hdg]
          exact hd3.alloc _
        · rw [hv]; exact (own_below HROW2.out h23).alloc _
        · have := hvl c e.symm; omega
        · have := hvl dg e.symm; omega
      subst hv
      rw [← hdg, ← hc]
      have HL2 := Lib.hid hl2
      have HEA2 := Lib.hid hEA2
      have HORD := Lib.hid hord
      have HD0 := Lib.hid hd0
      have HDG := Lib.hid (And.intro hdg hc)
      clear hl2 hEA2 hord hd0 hd3 hg3 e1 e2 hdg hc m1 hne
      generalize w3.alloc (.cells #[.slice (some ⟨dg, 0, none⟩) P.length P.length] 70) = w4 at HD0 ⊢
      go_wp2_with fail
      go_loopw [39] (fun z wr5 => ∃ (k : Nat) (dep : List Nat), z = .int .i64 k ∧ k ≤ E.length ∧ DepM w dg c P (.slice o1 E.length cp1) E2 (E2.take k) dep wr5) (fun z _ => E.length - (intOf z).toNat)
      case atStart => exact ⟨0, _, rfl, Nat.zero_le _, HD0.out⟩
      case round =>
        obtain ⟨k, dep, rfl, hk, hM⟩ := hrel
        by_cases hlt : k < E.length
        · obtain ⟨⟨a, cc, i⟩, he⟩ : ∃ e, E2[k]? = some e := ⟨_, List.getElem?_eq_getElem (by have := HL2.out; omega)⟩
          have hsp : E2 = E2.take k ++ (a, cc, i) :: E2.drop (k + 1) := by
            have h1 : k < E2.length := by have := HL2.out; omega
            have h2 : E2[k] = (a, cc, i) := by have := List.getElem?_eq_getElem h1; rw [he] at this; exact (Option.some.inj this).symm
            rw [← h2, ← List.drop_eq_getElem_cons h1, List.take_append_drop]
          have hok := HEA2.out.ok (a, cc, i) (List.mem_of_getElem? he)
          obtain ⟨x, hx1, hx2, hx3, hx4⟩ := hM.dp.step HB.out.tr HEA2.out hsp HORD.out
          have hil : i < P.length := by obtain ⟨y, _, h2⟩ := hok; exact get_lt h2
          have hal : a < P.length := get_lt hx1
          simp only at hx1 hx2 hx4
          rw [show E2.take k ++ [(a, cc, i)] = E2.take (k + 1) by rw [List.take_add_one, he]; rfl] at hx4
          rcases hM.er.2 with ⟨hn, h0⟩ | ⟨g, cap, cur, hv, _⟩
          · have := HL2.out; omega
          simp only [Value.slice.injEq] at hv
          obtain ⟨rfl, hv1, hv2⟩ := hv; clear hv1 hv2
          obtain ⟨l0, l1, l2⟩ := row_cells hM.er he
          simp only at l0 l1 l2
          have HM := Lib.hid hM
          have HX := Lib.hid (And.intro hx3 hx4)
          have HX2 := Lib.hid hx2
          have kz : (k : Int) < (E.length : Int) := by omega
          have k0' : (0 : Int) ≤ (k : Int) := by omega
          have kN : (k : Int).toNat = k := by omega
          have HIA := Lib.hid (And.intro hil hal)
          clear hM hx1 hx2 hx3 hx4 hsp hok he hil hal hk
          go_upto_region 10 with fail
          have k5 := Blk.new wr 75 #[.int .i64 (a : Int), .int .i64 (cc.toNat : Int), .int .i64 (i : Int)]
          have hM5 := HM.out.al (.cells #[.int .i64 (a : Int), .int .i64 (cc.toNat : Int), .int .i64 (i : Int)] 75)
          have f0 := k5.cell 0
          have f2 := k5.cell 2
          have b0 := hM5.bx.cell 0
          have d0 := hM5.at_ HX2.out
          have z0 := hM5.froz i
          have hdi : ∃ dv, dep[i]? = some dv := ⟨_, List.getElem?_eq_getElem (by rw [hM5.dp.1]; exact HIA.out.1)⟩
          obtain ⟨dv, hdi⟩ := hdi
          have d1 := hM5.at_ hdi
          clear l0 l1 l2 k5 hdi
          generalize wr.alloc (.cells #[.int .i64 (a : Int), .int .i64 (cc.toNat : Int), .int .i64 (i : Int)] 75) = w5 at hM5 f0 f2 b0 d0 z0 d1 ⊢
          have HM5 := Lib.hid hM5
          have a1 : (a : Int) < (P.length : Int) := by have := HIA.out.2; omega
          have a2 : (i : Int) < (P.length : Int) := by have := HIA.out.1; omega
          have a3 : (0 : Int) ≤ (a : Int) := by omega
          have a4 : (0 : Int) ≤ (i : Int) := by omega
          have a5 : IntKind.i64.wrap ((x.length : Int) + 1) = (x.length : Int) + 1 := IntWalk.i64_in _ (by have := HX.out.1; have := HP.out; omega)
          clear hM5
          go_region
          have a6 : IntKind.i64.wrap ((k : Int) + 1) = (k : Int) + 1 := IntWalk.i64_in _ (by have := HEL.out; have := HP.out; omega)
          go_wp2_with fail
          go_roundw
          case rel => exact ⟨k + 1, dep.set i (x.length + 1), by go_num, hlt, (HM5.out.drew).set_ HIA.out.1 HX.out.2⟩
          case measure => simp [intOf]; omega
        · have hke : k = E.length := by omega
          have htk : E2.take k = E2 := List.take_of_length_le (by have := HL2.out; omega)
          rw [htk] at hM
          have hdep := hM.dp.done HB.out.tr HEA2.out
          have hlen := hM.dp.1
          have hst := HS.out E2.length (by have := HL2.out; have := HEL.out; omega) wr w.heap.size c dg P.length dep (.slice o1 E.length cp1) E2 rfl (fun e he => by obtain ⟨y, _, h2⟩ := HEA2.out.ok e he; rw [hlen]; exact get_lt h2) hM.er (by rw [hlen]; exact hM.bx.cell 0) (fun j d hj => hM.at_ hj) (by omega) (by rw [hlen]; have := HP.out; omega) hM.nc hM.nd
          have HST := Lib.hid hst
          have HM := Lib.hid hM
          have HDEP := Lib.hid hdep
          clear hst hM hdep hlen htk
          go_wp2_with (go_at_call 39; refine HST.out.mono ?_; rintro e w6 ⟨rfl, E3, hp3, ho3, hrow6, hg6⟩; go_frame)
          have hl3 : E3.length = E.length := hp3.length_eq.trans HL2.out
          have hEA3 : EdAll P E3 := HEA2.out.perm hp3
          have hb6 : Below w.heap.size w w6 := HM.out.on.trans (below_grown hg6 HM.out.on.size (fun j hj => (hrow6.lt j hj).1))
          have hK0 : BakM w0 M B ls P Es evs lv (.slice (some ⟨gs, 0, none⟩) P.length scap) D (.slice o1 E.length cp1) E3 [] w.heap.size (List.replicate P.length 0) w6 := ⟨HB.out.bel_ hb6, hrow6, BkP.start HB.out.tr, fun b hb => by cases hb; exact hgs2⟩
          have ho4 : E3.Pairwise fun a b => (P.getD a.2.2 []).length ≤ (P.getD b.2.2 []).length := by
            refine ho3.imp fun {a b} hab => ?_
            rw [HDEP.out] at hab
            have hg : ∀ j, (P.map List.length).getD j 0 = (P.getD j []).length := fun j => by
              rw [List.getD_eq_getElem?_getD, List.getD_eq_getElem?_getD, List.getElem?_map]
              cases P[j]? <;> rfl
            rw [hg, hg] at hab
            exact hab
          have HL3 := Lib.hid hl3
          have HEA3 := Lib.hid hEA3
          have HORD3 := Lib.hid ho4
          have HK0 := Lib.hid hK0
          clear hl3 hEA3 ho4 ho3 hp3 hrow6 hg6 hb6 hK0 hke hlt hk
          go_loopw [59] (fun z wr7 => ∃ (k : Nat) (bk : List Nat), z = .int .i64 k ∧ k ≤ E.length ∧ BakM w0 M B ls P Es evs lv (.slice (some ⟨gs, 0, none⟩) P.length scap) D (.slice o1 E.length cp1) E3 (E3.take k) w.heap.size bk wr7) (fun z _ => E.length - (intOf z).toNat)
          case atStart => exact ⟨0, _, rfl, Nat.zero_le _, HK0.out⟩
          case round =>
            obtain ⟨k, bk, rfl, hk, hM⟩ := hrel
            by_cases hlt : k < E.length
            · obtain ⟨⟨a, cc, i⟩, he⟩ : ∃ e, E3[k]? = some e := ⟨_, List.getElem?_eq_getElem (by have := HL3.out; omega)⟩
              have hsp : E3 = E3.take k ++ (a, cc, i) :: E3.drop (k + 1) := by
                have h1 : k < E3.length := by have := HL3.out; omega
                have h2 : E3[k] = (a, cc, i) := by have := List.getElem?_eq_getElem h1; rw [he] at this; exact (Option.some.inj this).symm
                rw [← h2, ← List.drop_eq_getElem_cons h1, List.take_append_drop]
              have hok := HEA3.out.ok (a, cc, i) (List.mem_of_getElem? he)
              have htk : E3.take k ++ [(a, cc, i)] = E3.take (k + 1) := by rw [List.take_add_one, he]; rfl
              rcases hM.er.2 with ⟨hn, h0⟩ | ⟨g, cap, cur, hv, _⟩
              · have := HL3.out; omega
              simp only [Value.slice.injEq] at hv
              obtain ⟨rfl, hv1, hv2⟩ := hv; clear hv1 hv2
              obtain ⟨l0, l1, l2⟩ := row_cells hM.er he
              simp only at l0 l1 l2
              have HM := Lib.hid hM
              have HOK := Lib.hid hok
              have HTK := Lib.hid htk
              have HSP := Lib.hid hsp
              have kz : (k : Int) < (E.length : Int) := by omega
              have k0' : (0 : Int) ≤ (k : Int) := by omega
              have kN : (k : Int).toNat = k := by omega
              have a6 : IntKind.i64.wrap ((k : Int) + 1) = (k : Int) + 1 := IntWalk.i64_in _ (by have := HEL.out; have := HP.out; omega)
              clear hM he hsp hok htk hk
              go_upto_region 16 with fail
              have k5 := Blk.new wr 75 #[.int .i64 (a : Int), .int .i64 (cc.toNat : Int), .int .i64 (i : Int)]
              have hM5 := HM.out.al (.cells #[.int .i64 (a : Int), .int .i64 (cc.toNat : Int), .int .i64 (i : Int)] 75)
              have f0 := k5.cell 0
              have f1 := k5.cell 1
              have f2 := k5.cell 2
              obtain ⟨K, hK⟩ : ∃ K, K = wr.heap.size := ⟨_, rfl⟩
              rw [← hK] at f0 f1 f2 ⊢
              have hgK : gs ≠ K := by have := (HM.out.big.ow.lt gs rfl).2; omega
              rw [← hK] at k5
              have HK5 := Lib.hid k5
              have HGK := Lib.hid hgK
              clear l0 l1 l2 k5 hK hgK
              generalize wr.alloc (.cells #[.int .i64 (a : Int), .int .i64 (cc.toNat : Int), .int .i64 (i : Int)] 75) = w5 at hM5 f0 f1 f2 HK5 ⊢
              have HM5 := Lib.hid hM5
              clear hM5
              by_cases ha : a = 0
              · have b1 : ¬ 0 < a := by omega
                have b2 : ¬ (0 : Int) < (a : Int) := by omega
                have hz : BkP P bk (E3.take (k + 1)) := by rw [← HTK.out]; exact HM.out.bp.step0 HB.out.tr HOK.out ha
                have HZ := Lib.hid hz
                clear hz ha
                go_wp2_with fail
                go_roundw
                case rel => exact ⟨k + 1, bk, by go_num, hlt, ⟨HM5.out.big, HM5.out.er, HZ.out, HM5.out.sb⟩⟩
                case measure => simp [intOf]; omega
              · obtain ⟨z, hz, hbz, hbp, hstep⟩ := HM.out.bp.step1 HB.out.tr HEA3.out HSP.out HORD3.out ha
                rw [HTK.out] at hstep
                simp only at hz hbz hstep
                have hal : a < P.length := by obtain ⟨y, h1, _⟩ := HOK.out; exact get_lt h1
                have hil : i < P.length := by obtain ⟨y, _, h2⟩ := HOK.out; exact get_lt h2
                obtain ⟨q, hq⟩ : ∃ q, backI P a = q := ⟨_, rfl⟩
                rw [hq] at hz hbz
                have hbig := HM5.out.big
                have m1 : w5.cell? ⟨M, 1, none⟩ = some (.slice (some ⟨gs, 0, none⟩) P.length scap) := hbig.m.cell 1
                obtain ⟨ev, hev⟩ : ∃ ev, evs[a]? = some ev := ⟨_, List.getElem?_eq_getElem (by rw [hbig.vl]; exact hal)⟩
                have s0 : w5.cell? ⟨gs, a * 2, none⟩ = some (.int .i64 (q : Int)) := by
                  have := hbig.ow.cells (g := gs) rfl _ _ (stG_at bk evs a q ev hbz hev).1
                  rwa [Addr.add_lit, Nat.zero_add] at this
                obtain ⟨bi, hbi⟩ : ∃ b, bk[i]? = some b := ⟨_, List.getElem?_eq_getElem (by rw [hbig.bl]; exact hil)⟩
                obtain ⟨ei, hei⟩ : ∃ ev, evs[i]? = some ev := ⟨_, List.getElem?_eq_getElem (by rw [hbig.vl]; exact hil)⟩
                have s1 : w5.cell? ⟨gs, i * 2, none⟩ = some (.int .i64 (bi : Int)) := by
                  have := hbig.ow.cells (g := gs) rfl _ _ (stG_at bk evs i bi ei hbi hei).1
                  rwa [Addr.add_lit, Nat.zero_add] at this
                have s2 : w5.frozen? ⟨gs, i * 2, none⟩ = false := (own_cf hbig.ow).2 _
                have HN := Lib.hid (fun (w' : World) (h : NxM w' M P bk) => fnext M P bk q z cc w' h HB.out.tr (by have := HP.out; omega) hz hbp)
                have HNX := Lib.hid (show NxM w5.drew M P bk from hbig.drew.next)
                have HST := Lib.hid (HM5.out.drew.set_ hil hstep)
                obtain ⟨N, hN⟩ : ∃ N, sufI P (z ++ [cc]) = N := ⟨_, rfl⟩
                rw [hN] at HN HST hstep
                have h9 := HM5.out.set_ hil hstep
                have k9 := HK5.out.far (p := ⟨gs, i * 2, none⟩) (fun e => HGK.out e.symm) (.int .i64 (N : Int))
                have hai : a < i := HOK.out.lt HB.out.tr
                have g0 : (w5.setCell ⟨gs, i * 2, none⟩ (.int .i64 (N : Int))).cell? ⟨gs, a * 2, none⟩ = some (.int .i64 (q : Int)) := by
                  have := h9.big.ow.cells (g := gs) rfl _ _ (stG_at (bk.set i N) evs a q ev (by rw [List.getElem?_set_ne (by omega)]; exact hbz) hev).1
                  rwa [Addr.add_lit, Nat.zero_add] at this
                have HC9 := Lib.hid (And.intro (h9.big.m.cell 1) (And.intro (k9.cell 0) (And.intro (k9.cell 1) (And.intro (k9.cell 2) g0))))
                have HC5 := Lib.hid (And.intro m1 (And.intro f0 (And.intro f1 (And.intro f2 s0))))
                clear h9 k9 hai g0
                have a1 : (a : Int) < (P.length : Int) := by omega
                have a2 : (i : Int) < (P.length : Int) := by omega
                have a3 : (0 : Int) ≤ (a : Int) := by omega
                have a4 : (0 : Int) ≤ (i : Int) := by omega
                have a5 : (0 : Int) < (a : Int) := by omega
                have a7 : IntKind.u8.wrap (cc.toNat : Int) = (cc.toNat : Int) := by have := UInt8.toNat_lt cc; unfold IntKind.wrap IntKind.signed IntKind.bits; simp; omega
                clear hbig hev hbz hbi hei hz hbp hstep hal hil hq hN ha
                go_upto_region 17 with fail
                go_region_held3 (fun w' => w'.cell? ⟨M, 1, none⟩ = some (.slice (some ⟨gs, 0, none⟩) P.length scap) ∧ w'.cell? ⟨K, 0, none⟩ = some (.int .i64 (a : Int)) ∧ w'.cell? ⟨K, 1, none⟩ = some (.int .i64 (cc.toNat : Int)) ∧ w'.cell? ⟨K, 2, none⟩ = some (.int .i64 (i : Int)) ∧ w'.cell? ⟨gs, a * 2, none⟩ = some (.int .i64 (q : Int)))
                  (first | exact HC5.out | exact HC9.out) ((go_at_call 41; refine (HN.out _ HNX.out).mono ?_; rintro e w8 ⟨rfl, rfl⟩))
                go_wp2_with fail
                go_roundw
                case rel => exact ⟨k + 1, _, by go_num, hlt, HST.out⟩
                case measure => simp [intOf]; omega
            · have hke : k = E.length := by omega
              have htk : E3.take k = E3 := List.take_of_length_le (by have := HL3.out; omega)
              rw [htk] at hM
              have HM := Lib.hid hM
              clear hM htk
              go_wp2_with fail
              go_end0
              exact ⟨rfl, bk, HM.out.big, fun j x hj => HM.out.bp.done HB.out.tr HEA3.out j x hj⟩
    · intro p1 p2 cv kl y1 y2 w2 cnt2 hkey hlk hv hat hrg2 hlt hg2 hs2 hen
      obtain ⟨cv', ec, ey, _⟩ := plainElem_int_inv Try.underlying3 hv
      cases ec
      cases ey
      obtain ⟨a, c, i, e1, e2, rfl, ha, hil, hE2⟩ := HE.out.step (p := (p1, p2)) HB.out.mP HB.out.tr (by have := HP.out; omega) hkey hlk hat
      simp only at e1 e2
      subst e1 e2
      have hrow2 := hrow.kept hg2 (Or.inr (row_ne_iter hrow hrg).symm)
      have HE2 := Lib.hid hE2
      have HR := Lib.hid hrg
      have HR2 := Lib.hid hrg2
      have HLT := Lib.hid hlt
      have HG2 := Lib.hid hg2
      have HA := Lib.hid (And.intro ha hil)
      have HROW := Lib.hid hrow2
      have hbs : w.heap.size ≤ w2.heap.size := by have := HBL.out.size; have := hg2.size; omega
      have HBS := Lib.hid hbs
      have hEl := HE.out.len HB.out.tr
      have HEL := Lib.hid hEl
      clear hs2 hrow hrg hrg2 hlt hg2 ha hil hE2 hrow2 hv hat hkey hlk hbs hEl
      go_upto_region 4 with fail
      have k3 := Blk.new w2 68 #[.int .i64 (a : Int), .int .i64 (c.toNat : Int)]
      have hr3 := HR2.out.alloc (.cells #[.int .i64 (a : Int), .int .i64 (c.toNat : Int)] 68)
      have hrow3 := HROW.out.alloc (.cells #[.int .i64 (a : Int), .int .i64 (c.toNat : Int)] 68)
      have hb3 : Below w.heap.size w (w2.alloc (.cells #[.int .i64 (a : Int), .int .i64 (c.toNat : Int)] 68)) :=
        (HBL.out.trans (below_grown HG2.out HBL.out.size (fun j hj => by cases hj; exact Nat.le_refl _))).alloc HBS.out _
      have f0 := k3.cell 0
      have f1 := k3.cell 1
      clear k3
      generalize w2.alloc (.cells #[.int .i64 (a : Int), .int .i64 (c.toNat : Int)] 68) = w3 at hr3 hrow3 hb3 f0 f1 ⊢
      have HR3 := Lib.hid hr3
      have HB3 := Lib.hid hb3
      have e3 : E.length + 1 ≤ maxLen := by have := HP.out; have := HEL.out; unfold maxLen; omega
      have e4 : (E.length + 1) * 24 ≤ 140737488355328 := by have := HP.out; have := HEL.out; omega
      have e5 : w.heap.size ≤ (w3.alloc (.cells #[.int .i64 (a : Int), .int .i64 (c.toNat : Int), .int .i64 (i : Int)] 75)).heap.size := by have := hb3.size; simp; omega
      clear hr3 hb3
      go_wp2_with (at_builtin; refine wpList_append_own _ rfl _ _ 73 rfl w.heap.size 75 i0 zeroEd 3 24 Try.underlying73 hi hz0 hz1 hz2 rfl (by decide) _ _ _ rfl (hrow3.alloc _) ⟨w3.heap.size, 0, none⟩ 1 1 (edV (a, c, i)) rfl rfl (cells_newF _ _ _) (by intro u hu; simp [edV] at hu; rcases hu with rfl | rfl | rfl <;> rfl) e3 e4 e5 ?_; intro v' w4 hown4 hg4 _; go_frame)
      have hg4 : (w3.alloc (.cells #[.int .i64 (a : Int), .int .i64 (c.toNat : Int), .int .i64 (i : Int)] 75)).grownBy w4 _ := hg4
      have hr4 := (HR3.out.alloc _).kept hg4 (row_ne_low hrow3 (map_lt hown)) (row_ne_iter hrow3 HR3.out)
      go_roundw
      case rel =>
        refine ⟨_, cnt2, E ++ [(a, c, i)], hr4, ?_, HE2.out, ?_⟩
        · rw [edG_snoc, List.length_append]; exact hown4
        · exact (HB3.out.alloc HB3.out.size _).trans (below_grown hg4 (by have := HB3.out.size; simp; omega) (fun j hj => (hrow3.lt j hj).1))
      case measure => rw [hr4.left_eq, HR.out.left_eq]; exact HLT.out
end Go.Proofs.Ytpjlkhdolhoeoaa
