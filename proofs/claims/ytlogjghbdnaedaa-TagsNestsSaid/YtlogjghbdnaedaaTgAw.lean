/- Walks: the page's examples (chapter 11). -/
import Derived.Test.YtlogjghbdnaedaaTgZ
import Derived.Outline
namespace Go.Proofs.Ytlogjghbdnaedaa
open Go.RowKit
set_option linter.unusedVariables false
set_option linter.unusedSimpArgs false
def exA : List UInt8 := [60, 112, 32, 99, 108, 97, 115, 115, 61, 34, 120, 34, 62, 97, 38, 108, 116, 59, 60, 47, 112, 62]
def exT : List Tg := [⟨111, [112], [], [⟨[99, 108, 97, 115, 115], [120], 10, 11⟩], 0, 13⟩, ⟨116, [], [97, 60], [], 13, 18⟩, ⟨99, [112], [], [], 18, 22⟩]
theorem exA_tags : tagsJ exA = some exT := by rfl
theorem exT_nest : nestB exT = true := by rfl
def exB : List UInt8 := [60, 115, 99, 114, 105, 112, 116, 62]
theorem exB_tags : tagsJ exB = none := by rfl
def exC : List UInt8 := [60, 112, 32, 111, 110, 99, 108, 105, 99, 107, 61, 34, 120, 34, 62]
theorem exC_tags : tagsJ exC = none := by rfl
def exD : List UInt8 := [97, 62, 98]
theorem exD_tags : tagsJ exD = none := by rfl
theorem tok_const (l : List UInt8) (o : Option (List Tg)) (w : World) (hl : l.length ≤ 100000) (h : tagsJ l = o) :
    Calls Try.prog 8 #[.string (strOf l)] w fun e w' => TokT o w.heap.size e w' ∧ Below w.heap.size w w' := by
  have h2 := ttokens (strOf l) w (by rw [strOf_size]; omega)
  rw [strOf_list, h] at h2
  exact h2
set_option maxRecDepth 100000 in
set_option maxHeartbeats 16000000 in
theorem awake11_any (w : World) :
    Calls Try.prog 13 #[] w fun e w' => e = .returned (.bool true) ∧ Below w.heap.size w w' := by
  have HA : Hid (∀ w, Calls Try.prog 8 #[.string ⟨#[60, 112, 32, 99, 108, 97, 115, 115, 61, 34, 120, 34, 62, 97, 38, 108, 116, 59, 60, 47, 112, 62]⟩] w fun e w' => (∃ v, e = .returned (.tuple #[v, .int .i64 0]) ∧ TgsV w' (fun b => w.heap.size ≤ b) true exT v) ∧ Below w.heap.size w w') := fun w => tok_const exA _ w (by decide) exA_tags
  have HBb : Hid (∀ w, Calls Try.prog 8 #[.string ⟨#[60, 115, 99, 114, 105, 112, 116, 62]⟩] w fun e w' => e = .returned (.tuple #[.slice none 0 0, .int .i64 7]) ∧ Below w.heap.size w w') := fun w => tok_const exB _ w (by decide) exB_tags
  have HC : Hid (∀ w, Calls Try.prog 8 #[.string ⟨#[60, 112, 32, 111, 110, 99, 108, 105, 99, 107, 61, 34, 120, 34, 62]⟩] w fun e w' => e = .returned (.tuple #[.slice none 0 0, .int .i64 7]) ∧ Below w.heap.size w w') := fun w => tok_const exC _ w (by decide) exC_tags
  have HD : Hid (∀ w, Calls Try.prog 8 #[.string ⟨#[97, 62, 98]⟩] w fun e w' => e = .returned (.tuple #[.slice none 0 0, .int .i64 7]) ∧ Below w.heap.size w w') := fun w => tok_const exD _ w (by decide) exD_tags
  go_enter Try.func13, Try.ntmps13
  go_wp2_with fail
  refine (HA.out _).mono ?_
  rintro e w2 ⟨⟨v, rfl, hv⟩, b2⟩
  obtain ⟨a0, p0, rfl⟩ := tgsV_len hv
  have HV := Lib.hid hv
  have HB2 := Lib.hid b2
  clear hv b2 HA
  go_wp2_with fail
  refine (HBb.out _).mono ?_
  rintro e w3 ⟨rfl, b3⟩
  have HB3 := Lib.hid b3
  clear b3
  go_wp2_with fail
  refine (HC.out _).mono ?_
  rintro e w4 ⟨rfl, b4⟩
  have HB4 := Lib.hid (HB3.out.trans (b4.mono HB3.out.size))
  clear b4 HB3
  go_wp2_with fail
  refine (HD.out _).mono ?_
  rintro e w5 ⟨rfl, b5⟩
  have HB5 := Lib.hid (HB4.out.trans (b5.mono HB4.out.size))
  clear b5 HB4 HBb HC HD
  have HNS := Lib.hid (fun wr (hb : Below w2.heap.size w2 wr) => tnested exT _ true _ wr (tgsV_below HV.out hb) (by decide))
  rw [exT_nest] at HNS
  obtain ⟨g, o, cap, d, e', f', hv0, hgl, c0, c1, c2, c3, c4, c5, _, cs, hrow, hac⟩ := tg_at (j := 0) (t := ⟨111, [112], [], [⟨[99, 108, 97, 115, 115], [120], 10, 11⟩], 0, 13⟩) HV.out rfl HB5.out
  obtain ⟨g', o', cap', d', e'', f'', hv1, _, k0, k1, k2, k3, _, _, _, _⟩ := tg_at (j := 1) (t := ⟨116, [], [97, 60], [], 13, 18⟩) HV.out rfl HB5.out
  simp only [Value.slice.injEq] at hv0
  obtain ⟨rfl, _, rfl⟩ := hv0
  simp only [Value.slice.injEq, Option.some.injEq, Addr.mk.injEq] at hv1
  obtain ⟨⟨rfl, rfl, _⟩, _, rfl⟩ := hv1
  obtain ⟨ga, oa, capa, ea, fa, hva, hgal, a0c, a1c, _, _, _⟩ := att_at (j := 0) (a := ⟨[99, 108, 97, 115, 115], [120], 10, 11⟩) hrow hac rfl (Below.refl _ _)
  subst hva
  have q1 : w5.cell? ⟨g, o + 1, none⟩ = some (.string ⟨#[112]⟩) := c1
  have q3 : w5.cell? ⟨g, o + 3, none⟩ = some (.slice (some ⟨ga, oa, none⟩) 1 capa) := c3
  have q2 : w5.cell? ⟨g, o + 6 + 2, none⟩ = some (.string ⟨#[97, 60]⟩) := k2
  have q4 : w5.cell? ⟨ga, oa + 1, none⟩ = some (.string ⟨#[120]⟩) := a1c
  have hlen : exT.length = 3 := rfl
  rw [hlen] at HNS ⊢
  clear c0 c1 c2 c3 c4 c5 k0 k1 k2 k3 a0c a1c hrow hac HV hlen
  go_wp2_with fail
  refine (HNS.out _ HB5.out).mono ?_
  rintro e w6 ⟨rfl, b6⟩
  go_wp2_with fail
  go_ret
  exact ⟨rfl, HB2.out.trans ((HB5.out.trans (b6.mono HB5.out.size)).mono HB2.out.size)⟩
end Go.Proofs.Ytlogjghbdnaedaa
