/- Walks: tags.Same (slices.EqualFunc twice, and its closures; chapter 11). -/
import Derived.Test.YtlogjghbdnaedaaTgN
import Derived.Test.YtlogjghbdnaedaaTgU
import Derived.Test.YtlogjghbdnaedaaTgCp
namespace Go.Proofs.Ytlogjghbdnaedaa
open Go.RowKit
set_option linter.unusedVariables false
set_option linter.unusedSimpArgs false
set_option maxHeartbeats 4000000 in
theorem same11_any (n m x y : List UInt8) (p1 p2 q1 q2 : Int) (w : World) :
    Calls Try.prog 31 #[.agg #[.string (strOf n), .string (strOf x), .int .i64 p1, .int .i64 p2], .agg #[.string (strOf m), .string (strOf y), .int .i64 q1, .int .i64 q2]] w fun e w' => e = .returned (.bool (decide (n = m) && decide (x = y))) ∧ Below w.heap.size w w' := by
  have e1 := str_eqT n m
  have e2 := str_eqT x y
  have HB := Lib.hid (((Below.refl w.heap.size w).alloc (Nat.le_refl _) (.cells #[.string (strOf n), .string (strOf x), .int .i64 p1, .int .i64 p2] 47)).alloc (by simp) (.cells #[.string (strOf m), .string (strOf y), .int .i64 q1, .int .i64 q2] 47))
  have HN := Lib.hid ((Blk.new w 47 #[.string (strOf n), .string (strOf x), .int .i64 p1, .int .i64 p2]).alloc (.cells #[.string (strOf m), .string (strOf y), .int .i64 q1, .int .i64 q2] 47))
  have hM := Blk.new (w.alloc (.cells #[.string (strOf n), .string (strOf x), .int .i64 p1, .int .i64 p2] 47)) 47 #[.string (strOf m), .string (strOf y), .int .i64 q1, .int .i64 q2]
  rw [World.size_alloc] at hM
  have HM := Lib.hid hM
  clear hM
  generalize decide (n = m) = b1 at *
  generalize decide (x = y) = b2 at *
  generalize strOf n = s1 at *
  generalize strOf m = s2 at *
  generalize strOf x = s3 at *
  generalize strOf y = s4 at *
  go_enter Try.func31, Try.ntmps31
  go_upto_region 1 with fail
  generalize (w.alloc (.cells #[.string s1, .string s3, .int .i64 p1, .int .i64 p2] 47)).alloc (.cells #[.string s2, .string s4, .int .i64 q1, .int .i64 q2] 47) = W0 at *
  have c0 := HN.out.cell 0
  have c1 := HN.out.cell 1
  have d0 := HM.out.cell 0
  have d1 := HM.out.cell 1
  cases b1
  · go_wp2_with fail
    go_ret
    exact ⟨rfl, HB.out⟩
  · go_wp2_with fail
    go_ret
    exact ⟨by simp, HB.out⟩
set_option maxRecDepth 100000 in
set_option maxHeartbeats 16000000 in
theorem eqA_any (az bs : List Att) (cs ds : List Value) (ok ok' : Nat → Prop) (pl pl' : Bool) (v v' : Value) (w : World) (h1 : RowG w ok v az.length cs) (h2 : AttsC pl az cs) (g1 : RowG w ok' v' bs.length ds) (g2 : AttsC pl' bs ds)
    (la : az.length ≤ 10000000000000) (lb : bs.length ≤ 10000000000000) :
    Calls Try.prog 30 #[v, v', .func (Fn.func 31) #[] #[]] w fun e w' => e = .returned (.bool (sameAs az bs)) ∧ Below w.heap.size w w' := by
  obtain ⟨o2, c2, rfl⟩ := rowG_len h1
  obtain ⟨o4, c4, rfl⟩ := rowG_len g1
  have HR := Lib.hid h1
  have HK := Lib.hid h2
  have HR' := Lib.hid g1
  have HK' := Lib.hid g2
  clear h1 h2 g1 g2
  by_cases hl : az.length = bs.length
  · have HLn := Lib.hid hl
    have q3 : ((az.length : Int) != (bs.length : Int)) = false := by simp [hl]
    clear hl
    go_enter Try.func30, Try.ntmps30
    go_wp2_with fail
    go_loopw [17] (fun z wr => ∃ i : Nat, z = .int .i64 i ∧ i ≤ az.length ∧ (∀ (j : Nat) (a b : Att), j < i → az[j]? = some a → bs[j]? = some b → sameA2 a b = true) ∧ Below w.heap.size w wr) (fun z _ => az.length - (intOf z).toNat)
    case atStart => exact ⟨0, rfl, Nat.zero_le _, fun j a b hj => by omega, Below.refl _ _⟩
    case round =>
      obtain ⟨i, rfl, hi, hs, hb⟩ := hrel
      have HS := Lib.hid hs
      have HB := Lib.hid hb
      clear hs
      by_cases hlt : i < az.length
      · obtain ⟨a, ha⟩ : ∃ a, az[i]? = some a := ⟨_, List.getElem?_eq_getElem hlt⟩
        obtain ⟨b, hb'⟩ : ∃ b, bs[i]? = some b := ⟨_, List.getElem?_eq_getElem (by have := HLn.out; omega)⟩
        have hli : i < bs.length := by have := HLn.out; omega
        have HAB := Lib.hid (And.intro ha hb')
        obtain ⟨ga, oa, _, x2, x3, hv, hga, p0, p1, p2, p3, x2', x3', rfl, rfl, _⟩ := att_at HR.out HK.out ha hb
        simp only [Value.slice.injEq] at hv
        obtain ⟨rfl, _, rfl⟩ := hv
        obtain ⟨gb, ob, _, u2, u3, hv, hgb, r0, r1, r2, r3, u2', u3', rfl, rfl, _⟩ := att_at HR'.out HK'.out hb' hb
        simp only [Value.slice.injEq] at hv
        obtain ⟨rfl, _, rfl⟩ := hv
        have hgb2 : gb < wr.heap.size := Nat.lt_of_lt_of_le hgb hb.size
        have HC0 := Lib.hid (fun W => same11_any a.name b.name a.val b.val x2' x3' u2' u3' W)
        obtain ⟨n1, hn1⟩ : ∃ n, strOf a.name = n := ⟨_, rfl⟩
        obtain ⟨n2, hn2⟩ : ∃ n, strOf a.val = n := ⟨_, rfl⟩
        obtain ⟨m1, hm1⟩ : ∃ n, strOf b.name = n := ⟨_, rfl⟩
        obtain ⟨m2, hm2⟩ : ∃ n, strOf b.val = n := ⟨_, rfl⟩
        simp only [hn1, hn2, hm1, hm2] at HC0 p0 p1 r0 r1
        have HB2 := Lib.hid (((Below.refl wr.heap.size wr).alloc (Nat.le_refl _) (.cells #[.string n1, .string n2, .int .i64 x2', .int .i64 x3'] 47)).alloc (by simp) (.cells #[.string m1, .string m2, .int .i64 u2', .int .i64 u3'] 47))
        have hB1 := (Below.refl wr.heap.size wr).alloc (Nat.le_refl _) (.cells #[.string n1, .string n2, .int .i64 x2', .int .i64 x3'] 47)
        have y0 := (hB1.cell (p := ⟨gb, ob + i * 4, none⟩) hgb2).trans r0
        have y1 := (hB1.cell (p := ⟨gb, ob + i * 4 + 1, none⟩) hgb2).trans r1
        have y2 := (hB1.cell (p := ⟨gb, ob + i * 4 + 2, none⟩) hgb2).trans r2
        have y3 := (hB1.cell (p := ⟨gb, ob + i * 4 + 3, none⟩) hgb2).trans r3
        have HC : Hid (Calls Try.prog 31 #[.agg #[.string n1, .string n2, .int .i64 x2', .int .i64 x3'], .agg #[.string m1, .string m2, .int .i64 u2', .int .i64 u3']] ((wr.alloc (.cells #[.string n1, .string n2, .int .i64 x2', .int .i64 x3'] 47)).alloc (.cells #[.string m1, .string m2, .int .i64 u2', .int .i64 u3'] 47)) fun e w' => e = .returned (.bool (sameA2 a b)) ∧ Below ((wr.alloc (.cells #[.string n1, .string n2, .int .i64 x2', .int .i64 x3'] 47)).alloc (.cells #[.string m1, .string m2, .int .i64 u2', .int .i64 u3'] 47)).heap.size ((wr.alloc (.cells #[.string n1, .string n2, .int .i64 x2', .int .i64 x3'] 47)).alloc (.cells #[.string m1, .string m2, .int .i64 u2', .int .i64 u3'] 47)) w') := HC0.out _
        clear ha hb' hn1 hn2 hm1 hm2 hB1 r0 r1 r2 r3 HC0 hb
        obtain ⟨rs, hrs⟩ : ∃ rs, sameA2 a b = rs := ⟨_, rfl⟩
        rw [hrs] at HC
        have HRS := Lib.hid hrs
        clear hrs
        go_wp2_with fail
        refine HC.out.mono ?_
        rintro e w5 ⟨rfl, k5⟩
        have HB5 := Lib.hid (HB.out.trans ((HB2.out.trans (k5.mono HB2.out.size)).mono HB.out.size))
        cases rs
        · have HE : Hid (sameAs az bs = false) := sameAs_no HAB.out.1 HAB.out.2 HRS.out
          go_wp2_with fail
          go_ret
          exact ⟨by rw [HE.out]; rfl, HB5.out⟩
        · go_wp2_with fail
          go_roundw
          case rel =>
            refine ⟨i + 1, by go_num, hlt, fun j a' b' hj h1 h2 => ?_, HB5.out⟩
            rcases Nat.lt_or_ge j i with h | h
            · exact HS.out j a' b' h h1 h2
            · obtain rfl : j = i := by omega
              rw [HAB.out.1] at h1; rw [HAB.out.2] at h2
              cases h1; cases h2; exact HRS.out
          case measure => simp [intOf]; omega
      · have HE : Hid (sameAs az bs = true) := sameAs_yes HLn.out fun j a b hja hjb => HS.out j a b (by have := (List.getElem?_eq_some_iff.1 hja).1; omega) hja hjb
        clear hb
        go_wp2_with fail
        go_ret
        exact ⟨by rw [HE.out]; rfl, HB.out⟩
  · have q3 : ((az.length : Int) != (bs.length : Int)) = true := by simp; omega
    have HE : Hid (sameAs az bs = false) := sameAs_len hl
    clear hl
    go_enter Try.func30, Try.ntmps30
    go_wp2_with fail
    go_ret
    exact ⟨by rw [HE.out]; rfl, Below.refl _ _⟩
set_option maxRecDepth 100000 in
set_option maxHeartbeats 4000000 in
theorem same1_any (a b : Tg) (ra sa : Option Addr) (rc sc : Nat) (ok ok' : Nat → Prop) (pl pl' : Bool) (x4 x5 u4 u5 : Int) (rs ss : List Value) (w0 w : World) (h1 : RowG w0 ok (.slice ra a.atts.length rc) a.atts.length rs) (h2 : AttsC pl a.atts rs) (g1 : RowG w0 ok' (.slice sa b.atts.length sc) b.atts.length ss) (g2 : AttsC pl' b.atts ss)
    (la : a.atts.length ≤ 10000000000000) (lb : b.atts.length ≤ 10000000000000) (hb : Below w0.heap.size w0 w) :
    Calls Try.prog 29 #[.agg #[.int .u8 a.kind, .string (strOf a.name), .string (strOf a.text), .slice ra a.atts.length rc, .int .i64 x4, .int .i64 x5], .agg #[.int .u8 b.kind, .string (strOf b.name), .string (strOf b.text), .slice sa b.atts.length sc, .int .i64 u4, .int .i64 u5]] w fun e w' => e = .returned (.bool (sameG a b)) ∧ Below w.heap.size w w' := by
  have e1 := str_eqT a.name b.name
  have e2 := str_eqT a.text b.text
  have e0 : ((a.kind : Int) == (b.kind : Int)) = decide (a.kind = b.kind) := by
    by_cases h : a.kind = b.kind
    · simp [h]
    · have : ¬ ((a.kind : Int) = (b.kind : Int)) := by omega
      simp [h, this]
  have HV : Hid (sameG a b = (decide (a.kind = b.kind) && (decide (a.name = b.name) && (decide (a.text = b.text) && sameAs a.atts b.atts)))) := rfl
  have HEQ : Hid (∀ W, Below w.heap.size w W → Calls Try.prog 30 #[.slice ra a.atts.length rc, .slice sa b.atts.length sc, .func (Fn.func 31) #[] #[]] W fun e w' => e = .returned (.bool (sameAs a.atts b.atts)) ∧ Below W.heap.size W w') := fun W hW => by
    have hB := hb.trans (hW.mono hb.size)
    exact eqA_any a.atts b.atts rs ss ok ok' pl pl' _ _ W (RowG.mono (fun g hg hl => ⟨hg, Nat.lt_of_lt_of_le hl hB.size, hB.block g hl⟩) h1) h2 (RowG.mono (fun g hg hl => ⟨hg, Nat.lt_of_lt_of_le hl hB.size, hB.block g hl⟩) g1) g2 la lb
  generalize sameG a b = R at *
  generalize sameAs a.atts b.atts = b3 at *
  generalize decide (a.kind = b.kind) = b0 at *
  generalize decide (a.name = b.name) = b1 at *
  generalize decide (a.text = b.text) = b2 at *
  generalize a.kind = q1 at *
  generalize b.kind = q2 at *
  generalize strOf a.name = n1 at *
  generalize strOf a.text = n2 at *
  generalize strOf b.name = m1 at *
  generalize strOf b.text = m2 at *
  clear h1 h2 g1 g2 hb
  have HN := Lib.hid ((Blk.new w 45 #[.int .u8 q1, .string n1, .string n2, .slice ra a.atts.length rc, .int .i64 x4, .int .i64 x5]).alloc (.cells #[.int .u8 q2, .string m1, .string m2, .slice sa b.atts.length sc, .int .i64 u4, .int .i64 u5] 45))
  have hM := Blk.new (w.alloc (.cells #[.int .u8 q1, .string n1, .string n2, .slice ra a.atts.length rc, .int .i64 x4, .int .i64 x5] 45)) 45 #[.int .u8 q2, .string m1, .string m2, .slice sa b.atts.length sc, .int .i64 u4, .int .i64 u5]
  rw [World.size_alloc] at hM
  have HM := Lib.hid hM
  have hB2 := ((Below.refl w.heap.size w).alloc (Nat.le_refl _) (.cells #[.int .u8 q1, .string n1, .string n2, .slice ra a.atts.length rc, .int .i64 x4, .int .i64 x5] 45)).alloc (by simp) (.cells #[.int .u8 q2, .string m1, .string m2, .slice sa b.atts.length sc, .int .i64 u4, .int .i64 u5] 45)
  have HB := Lib.hid hB2
  have HE := Lib.hid (HEQ.out _ hB2)
  clear hM hB2 HEQ
  go_enter Try.func29, Try.ntmps29
  go_upto_region 1 with fail
  generalize (w.alloc (.cells #[.int .u8 q1, .string n1, .string n2, .slice ra a.atts.length rc, .int .i64 x4, .int .i64 x5] 45)).alloc (.cells #[.int .u8 q2, .string m1, .string m2, .slice sa b.atts.length sc, .int .i64 u4, .int .i64 u5] 45) = W0 at *
  have c0 := HN.out.cell 0
  have c1 := HN.out.cell 1
  have c2 := HN.out.cell 2
  have c3 := HN.out.cell 3
  have d0 := HM.out.cell 0
  have d1 := HM.out.cell 1
  have d2 := HM.out.cell 2
  have d3 := HM.out.cell 3
  cases b0
  · go_wp2_with fail
    go_ret
    exact ⟨by rw [HV.out]; rfl, HB.out⟩
  cases b1
  · go_wp2_with fail
    go_ret
    exact ⟨by rw [HV.out]; rfl, HB.out⟩
  cases b2
  · go_wp2_with fail
    go_ret
    exact ⟨by rw [HV.out]; rfl, HB.out⟩
  go_wp2_with fail
  refine HE.out.mono ?_
  rintro e w2 ⟨rfl, k2⟩
  go_wp2_with fail
  go_ret
  exact ⟨by rw [HV.out]; simp, HB.out.trans (k2.mono HB.out.size)⟩
set_option maxRecDepth 100000 in
set_option maxHeartbeats 16000000 in
theorem eqG_any (az bs : List Tg) (cs ds : List Value) (ok ok' : Nat → Prop) (pl pl' : Bool) (v v' : Value) (w : World) (h1 : RowG w ok v az.length cs) (h2 : TgsC w ok pl az cs) (g1 : RowG w ok' v' bs.length ds) (g2 : TgsC w ok' pl' bs ds)
    (la : az.length ≤ 10000000000000) (lb : bs.length ≤ 10000000000000) (lz : (∀ t ∈ az, t.atts.length ≤ 10000000000000) ∧ ∀ t ∈ bs, t.atts.length ≤ 10000000000000) :
    Calls Try.prog 28 #[v, v', .func (Fn.func 29) #[] #[]] w fun e w' => e = .returned (.bool (sameGs az bs)) ∧ Below w.heap.size w w' := by
  obtain ⟨o2, c2, rfl⟩ := rowG_len h1
  obtain ⟨o4, c4, rfl⟩ := rowG_len g1
  have HR := Lib.hid h1
  have HK := Lib.hid h2
  have HR' := Lib.hid g1
  have HK' := Lib.hid g2
  have HTA : Hid (TgsV w ok pl az (.slice o2 az.length c2)) := ⟨cs, h1, h2⟩
  have HTB : Hid (TgsV w ok' pl' bs (.slice o4 bs.length c4)) := ⟨ds, g1, g2⟩
  have HLA := Lib.hid lz
  clear h1 h2 g1 g2 lz HR HK HR' HK'
  by_cases hl : az.length = bs.length
  · have HLn := Lib.hid hl
    have q3 : ((az.length : Int) != (bs.length : Int)) = false := by simp [hl]
    clear hl
    go_enter Try.func28, Try.ntmps28
    go_wp2_with fail
    go_loopw [17] (fun z wr => ∃ i : Nat, z = .int .i64 i ∧ i ≤ az.length ∧ (∀ (j : Nat) (a b : Tg), j < i → az[j]? = some a → bs[j]? = some b → sameG a b = true) ∧ Below w.heap.size w wr) (fun z _ => az.length - (intOf z).toNat)
    case atStart => exact ⟨0, rfl, Nat.zero_le _, fun j a b hj => by omega, Below.refl _ _⟩
    case round =>
      obtain ⟨i, rfl, hi, hs, hb⟩ := hrel
      have HS := Lib.hid hs
      have HB := Lib.hid hb
      clear hs
      by_cases hlt : i < az.length
      · obtain ⟨a, ha⟩ : ∃ a, az[i]? = some a := ⟨_, List.getElem?_eq_getElem hlt⟩
        obtain ⟨b, hb'⟩ : ∃ b, bs[i]? = some b := ⟨_, List.getElem?_eq_getElem (by have := HLn.out; omega)⟩
        have hli : i < bs.length := by have := HLn.out; omega
        have HAB := Lib.hid (And.intro ha hb')
        obtain ⟨ga, oa, _, xd, xe, xf, hv, hga, p0, p1, p2, p3, p4, p5, hpl, rs, hrrow, hrac⟩ := tg_at HTA.out ha hb
        simp only [Value.slice.injEq] at hv
        obtain ⟨rfl, _, rfl⟩ := hv
        obtain ⟨x4, x5, rfl, rfl, _⟩ := hpl
        obtain ⟨ra, rc, rfl⟩ := rowG_len hrrow
        obtain ⟨gb, ob, _, xd, xe, xf, hv, hgb, k0, k1, k2, k3, k4, k5, hpl, ss, hsrow, hsac⟩ := tg_at HTB.out hb' hb
        simp only [Value.slice.injEq] at hv
        obtain ⟨rfl, _, rfl⟩ := hv
        obtain ⟨u4, u5, rfl, rfl, _⟩ := hpl
        obtain ⟨sa, sc, rfl⟩ := rowG_len hsrow
        have hgb2 : gb < wr.heap.size := Nat.lt_of_lt_of_le hgb hb.size
        have hla := HLA.out.1 a (mem_get ha)
        have hlb := HLA.out.2 b (mem_get hb')
        have HC0 := Lib.hid (fun W h => same1_any a b ra sa rc sc _ _ pl pl' x4 x5 u4 u5 rs ss wr W hrrow hrac hsrow hsac hla hlb h)
        obtain ⟨q1, hq1⟩ : ∃ n, a.kind = n := ⟨_, rfl⟩
        obtain ⟨n1, hn1⟩ : ∃ n, strOf a.name = n := ⟨_, rfl⟩
        obtain ⟨n2, hn2⟩ : ∃ n, strOf a.text = n := ⟨_, rfl⟩
        obtain ⟨q2, hq2⟩ : ∃ n, b.kind = n := ⟨_, rfl⟩
        obtain ⟨m1, hm1⟩ : ∃ n, strOf b.name = n := ⟨_, rfl⟩
        obtain ⟨m2, hm2⟩ : ∃ n, strOf b.text = n := ⟨_, rfl⟩
        simp only [hq1, hq2, hn1, hn2, hm1, hm2] at HC0 p0 p1 p2 k0 k1 k2
        have hB1 := (Below.refl wr.heap.size wr).alloc (Nat.le_refl _) (.cells #[.int .u8 q1, .string n1, .string n2, .slice ra a.atts.length rc, .int .i64 x4, .int .i64 x5] 45)
        have hB2 := hB1.alloc (by simp) (.cells #[.int .u8 q2, .string m1, .string m2, .slice sa b.atts.length sc, .int .i64 u4, .int .i64 u5] 45)
        have HB2 := Lib.hid hB2
        have HC := Lib.hid (HC0.out _ hB2)
        have y0 := (hB1.cell (p := ⟨gb, ob + i * 6, none⟩) hgb2).trans k0
        have y1 := (hB1.cell (p := ⟨gb, ob + i * 6 + 1, none⟩) hgb2).trans k1
        have y2 := (hB1.cell (p := ⟨gb, ob + i * 6 + 2, none⟩) hgb2).trans k2
        have y3 := (hB1.cell (p := ⟨gb, ob + i * 6 + 3, none⟩) hgb2).trans k3
        have y4 := (hB1.cell (p := ⟨gb, ob + i * 6 + 4, none⟩) hgb2).trans k4
        have y5 := (hB1.cell (p := ⟨gb, ob + i * 6 + 5, none⟩) hgb2).trans k5
        clear ha hb' hq1 hq2 hn1 hn2 hm1 hm2 hB1 hB2 k0 k1 k2 k3 k4 k5 HC0 hb hrrow hrac hsrow hsac hla hlb
        obtain ⟨rs, hrs⟩ : ∃ rs, sameG a b = rs := ⟨_, rfl⟩
        rw [hrs] at HC
        have HRS := Lib.hid hrs
        clear hrs
        go_wp2_with fail
        refine HC.out.mono ?_
        rintro e w5 ⟨rfl, k5⟩
        have HB5 := Lib.hid (HB.out.trans ((HB2.out.trans (k5.mono HB2.out.size)).mono HB.out.size))
        cases rs
        · have HE : Hid (sameGs az bs = false) := sameGs_no HAB.out.1 HAB.out.2 HRS.out
          go_wp2_with fail
          go_ret
          exact ⟨by rw [HE.out]; rfl, HB5.out⟩
        · go_wp2_with fail
          go_roundw
          case rel =>
            refine ⟨i + 1, by go_num, hlt, fun j a' b' hj h1 h2 => ?_, HB5.out⟩
            rcases Nat.lt_or_ge j i with h | h
            · exact HS.out j a' b' h h1 h2
            · obtain rfl : j = i := by omega
              rw [HAB.out.1] at h1; rw [HAB.out.2] at h2
              cases h1; cases h2; exact HRS.out
          case measure => simp [intOf]; omega
      · have HE : Hid (sameGs az bs = true) := sameGs_yes HLn.out fun j a b hja hjb => HS.out j a b (by have := (List.getElem?_eq_some_iff.1 hja).1; omega) hja hjb
        clear hb
        go_wp2_with fail
        go_ret
        exact ⟨by rw [HE.out]; rfl, HB.out⟩
  · have q3 : ((az.length : Int) != (bs.length : Int)) = true := by simp; omega
    have HE : Hid (sameGs az bs = false) := sameGs_len hl
    clear hl
    go_enter Try.func28, Try.ntmps28
    go_wp2_with fail
    go_ret
    exact ⟨by rw [HE.out]; rfl, Below.refl _ _⟩
set_option maxHeartbeats 4000000 in
theorem tsame_any (az bs : List Tg) (ok ok' : Nat → Prop) (pl pl' : Bool) (v v' : Value) (w : World) (h1 : TgsV w ok pl az v) (h2 : TgsV w ok' pl' bs v') (la : az.length ≤ 10000000000000) (lb : bs.length ≤ 10000000000000) (lz : ∀ t ∈ az, t.atts.length ≤ 10000000000000) (lz' : ∀ t ∈ bs, t.atts.length ≤ 10000000000000) :
    Calls Try.prog 22 #[v, v'] w fun e w' => e = .returned (.bool (sameGs az bs)) ∧ Below w.heap.size w w' := by
  obtain ⟨o2, c2, rfl⟩ := tgsV_len h1
  obtain ⟨o4, c4, rfl⟩ := tgsV_len h2
  obtain ⟨cs, r1, k1⟩ := h1
  obtain ⟨ds, r2, k2⟩ := h2
  have HE := Lib.hid (eqG_any az bs cs ds ok ok' pl pl' _ _ w r1 k1 r2 k2 la lb ⟨lz, lz'⟩)
  clear r1 k1 r2 k2 lz lz'
  generalize sameGs az bs = R at *
  go_enter Try.func22, Try.ntmps22
  go_wp2_with fail
  refine HE.out.mono ?_
  rintro e w2 ⟨rfl, b2⟩
  go_wp2_with fail
  go_ret
  exact ⟨rfl, b2⟩
end Go.Proofs.Ytlogjghbdnaedaa
