/- Walks: the law TagsHolds (chapter 11). -/
import Derived.Test.YtlogjghbdnaedaaTgAw
import Derived.Test.YtlogjghbdnaedaaTgY
import Derived.Test.YtlogjghbdnaedaaTgH
namespace Go.Proofs.Ytlogjghbdnaedaa
open Go.RowKit
set_option linter.unusedVariables false
set_option linter.unusedSimpArgs false
theorem strOf_appL (a b : List UInt8) : strOf a ++ strOf b = strOf (a ++ b) := by simp [strOf, ByteArray.mk_append_mk]
/-- What Tokens says of a page that is known. -/
theorem tok_page (l : List UInt8) (ts : List Tg) (z : ByteArray) (hz : strOf l = z) (w : World) (hl : l.length ≤ 100000) (h : tagsJ l = some ts) :
    Calls Try.prog 8 #[.string z] w fun e w' => (∃ v, e = .returned (.tuple #[v, .int .i64 0]) ∧ TgsV w' (fun b => w.heap.size ≤ b) true ts v) ∧ Below w.heap.size w w' := by
  subst hz
  exact tok_const l (some ts) w (by omega) h
theorem nestT_page (a b c : Att) (x y : List UInt8) (f1 t1 f2 t2 f3 t3 : Nat) (az : List Att) : nestB [⟨111, [112], [], [], f1, t1⟩, ⟨116, [], x, [], f2, t2⟩, ⟨99, [112], [], [], f3, t3⟩] = true ∧ nestB [⟨111, [97], [], az, f1, t1⟩, ⟨116, [], x, [], f2, t2⟩, ⟨99, [97], [], [], f3, t3⟩] = true := ⟨by rfl, by rfl⟩
set_option maxRecDepth 100000 in
set_option maxHeartbeats 16000000 in
theorem lawHolds11 (s : ByteArray) (w : World) (hs : s.size ≤ 9223372036854775807) :
    Calls Try.prog 5 #[.string s] w fun e w' => e = .returned (.bool true) ∧ Below w.heap.size w w' := by
  have HF := Lib.hid (fun w => few11_any s w hs)
  have hz := few11_size s
  obtain ⟨x, hx⟩ : ∃ x, few11 s = x := ⟨_, rfl⟩
  rw [hx] at HF hz
  clear hx
  have HIS := Lib.hid (fun w => ris_any x w (by omega))
  have HAW := Lib.hid awake11_any
  have HXL := Lib.hid (ByteArray.toList_eq (bs := x))
  cases hem : x.toList.isEmpty with
  | true =>
    have y2 : (x.toList == []) = true := by rw [List.isEmpty_iff] at hem; rw [hem]; rfl
    go_enter Try.func5, Try.ntmps5
    go_wp2_with fail
    refine (HF.out _).mono ?_
    rintro e w2 ⟨rfl, rfl⟩
    go_wp2_with fail
    refine (HAW.out _).mono ?_
    rintro e w3 ⟨rfl, b3⟩
    go_wp2_with fail
    go_ret
    exact ⟨rfl, b3⟩
  | false =>
    have hne : x.data.toList ≠ [] := fun h => by rw [HXL.out, h] at hem; cases hem
    have y2 : (x.toList == []) = false := by
      rw [HXL.out]
      cases hl : x.data.toList with
      | nil => exact absurd hl hne
      | cons c t => rfl
    cases hg : good x.data.toList with
    | false =>
      rw [hg] at HIS
      clear hg hne
      go_enter Try.func5, Try.ntmps5
      go_wp2_with fail
      refine (HF.out _).mono ?_
      rintro e w2 ⟨rfl, rfl⟩
      go_wp2_with fail
      refine (HIS.out _).mono ?_
      rintro e w3 ⟨rfl, b3⟩
      go_wp2_with fail
      refine (HAW.out _).mono ?_
      rintro e w4 ⟨rfl, b4⟩
      go_wp2_with fail
      go_ret
      exact ⟨rfl, b3.trans (b4.mono b3.size)⟩
    | true =>
      have h0 := pgT_tags hne hg
      have h1 := pgA_tags hg
      have l0 := wrE_len false x.data.toList
      have l1 := wrE_len true x.data.toList
      have hxl : x.data.toList.length ≤ 300 := by rw [← sz_len]; exact hz
      obtain ⟨T0, hT0⟩ : ∃ T, ([⟨111, [112], [], [], 0, 3⟩, ⟨116, [], x.data.toList, [], 3, 3 + (wrE false x.data.toList).length⟩, ⟨99, [112], [], [], 3 + (wrE false x.data.toList).length, 3 + (wrE false x.data.toList).length + 4⟩] : List Tg) = T := ⟨_, rfl⟩
      obtain ⟨T1, hT1⟩ : ∃ T, ([⟨111, [97], [], [⟨[116, 105, 116, 108, 101], x.data.toList, 10, 10 + (wrE true x.data.toList).length⟩], 0, 12 + (wrE true x.data.toList).length⟩, ⟨116, [], [120], [], 12 + (wrE true x.data.toList).length, 13 + (wrE true x.data.toList).length⟩, ⟨99, [97], [], [], 13 + (wrE true x.data.toList).length, 17 + (wrE true x.data.toList).length⟩] : List Tg) = T := ⟨_, rfl⟩
      have n0 : nestB T0 = true := by rw [← hT0]; rfl
      have n1 : nestB T1 = true := by rw [← hT1]; rfl
      have g0 : T0.length = 3 ∧ ∃ f t, T0[1]? = some ⟨116, [], x.data.toList, [], f, t⟩ := by rw [← hT0]; exact ⟨rfl, _, _, rfl⟩
      have g1 : T1.length = 3 ∧ ∃ f t f2 t2, T1[0]? = some ⟨111, [97], [], [⟨[116, 105, 116, 108, 101], x.data.toList, f, t⟩], f2, t2⟩ := by rw [← hT1]; exact ⟨rfl, _, _, _, _, rfl⟩
      rw [hT0] at h0
      rw [hT1] at h1
      clear hT0 hT1
      have z0 : (strOf (wrE false x.data.toList)).size ≤ 1800 := by rw [strOf_size]; omega
      have z1 : (strOf (wrE true x.data.toList)).size ≤ 1800 := by rw [strOf_size]; omega
      have u0 : (strOf ([60, 112, 62] ++ wrE false x.data.toList)).size ≤ 1803 := by rw [strOf_size, List.length_append]; simp; omega
      have u1 : (strOf (hdA ++ wrE true x.data.toList)).size ≤ 1810 := by rw [strOf_size, List.length_append]; have e : hdA.length = 10 := rfl; omega
      have t0 : (⟨#[60, 112, 62]⟩ : ByteArray) ++ strOf (wrE false x.data.toList) = strOf ([60, 112, 62] ++ wrE false x.data.toList) := strOf_appL [60, 112, 62] _
      have t1 : strOf ([60, 112, 62] ++ wrE false x.data.toList) ++ (⟨#[60, 47, 112, 62]⟩ : ByteArray) = strOf (pgT x.data.toList) := by
        have := strOf_appL ([60, 112, 62] ++ wrE false x.data.toList) [60, 47, 112, 62]
        rw [List.append_assoc] at this
        exact this
      have t2 : (⟨#[60, 97, 32, 116, 105, 116, 108, 101, 61, 34]⟩ : ByteArray) ++ strOf (wrE true x.data.toList) = strOf (hdA ++ wrE true x.data.toList) := strOf_appL hdA _
      have t3 : strOf (hdA ++ wrE true x.data.toList) ++ (⟨#[34, 62, 120, 60, 47, 97, 62]⟩ : ByteArray) = strOf (pgA x.data.toList) := by
        have := strOf_appL (hdA ++ wrE true x.data.toList) [34, 62, 120, 60, 47, 97, 62]
        rw [List.append_assoc] at this
        exact this
      have pl0 : (pgT x.data.toList).length ≤ 100000 := by unfold pgT; simp only [List.length_append]; simp; omega
      have pl1 : (pgA x.data.toList).length ≤ 100000 := by unfold pgA; simp only [List.length_append]; have e : hdA.length = 10 := rfl; simp; omega
      obtain ⟨Z0, hZ0⟩ : ∃ Z, strOf (pgT x.data.toList) = Z := ⟨_, rfl⟩
      obtain ⟨Z1, hZ1⟩ : ∃ Z, strOf (pgA x.data.toList) = Z := ⟨_, rfl⟩
      have HT0 := Lib.hid (fun w => tok_page _ T0 Z0 hZ0 w pl0 h0)
      have HT1 := Lib.hid (fun w => tok_page _ T1 Z1 hZ1 w pl1 h1)
      rw [hZ0] at t1
      rw [hZ1] at t3
      have HW0 := Lib.hid (fun w => rwritten06 x false w (by omega))
      have HW1 := Lib.hid (fun w => rwritten06 x true w (by omega))
      obtain ⟨X0, hX0⟩ : ∃ X, strOf (wrE false x.data.toList) = X := ⟨_, rfl⟩
      obtain ⟨X1, hX1⟩ : ∃ X, strOf (wrE true x.data.toList) = X := ⟨_, rfl⟩
      obtain ⟨Y0, hY0⟩ : ∃ X, strOf ([60, 112, 62] ++ wrE false x.data.toList) = X := ⟨_, rfl⟩
      obtain ⟨Y1, hY1⟩ : ∃ X, strOf (hdA ++ wrE true x.data.toList) = X := ⟨_, rfl⟩
      rw [hX0] at HW0 z0 t0
      rw [hX1] at HW1 z1 t2
      rw [hY0] at t0 t1 u0
      rw [hY1] at t2 t3 u1
      have HG0 := Lib.hid g0
      have HG1 := Lib.hid g1
      have HN0 := Lib.hid n0
      have HN1 := Lib.hid n1
      rw [hg] at HIS
      clear h0 h1 l0 l1 hxl pl0 pl1 hZ0 hZ1 hX0 hX1 hY0 hY1 g0 g1 n0 n1 hg hne
      go_enter Try.func5, Try.ntmps5
      go_wp2_with fail
      refine (HF.out _).mono ?_
      rintro e w2 ⟨rfl, rfl⟩
      go_wp2_with fail
      refine (HIS.out _).mono ?_
      rintro e w3 ⟨rfl, b3⟩
      have HB3 := Lib.hid b3
      clear b3
      go_wp2_with fail
      refine (HW0.out _).mono ?_
      rintro e w4 ⟨rfl, rfl⟩
      go_wp2_with fail
      refine (HT0.out _).mono ?_
      rintro e w5 ⟨⟨v, rfl, hv⟩, b5⟩
      obtain ⟨a0, p0, rfl⟩ := tgsV_len hv
      have HV := Lib.hid hv
      have HB5 := Lib.hid (HB3.out.trans (b5.mono HB3.out.size))
      clear hv b5 HB3 HF HIS HW0 HT0 t0 t1 z0 u0 hem y2
      go_wp2_with fail
      refine (HW1.out _).mono ?_
      rintro e w6 ⟨rfl, rfl⟩
      go_wp2_with fail
      refine (HT1.out _).mono ?_
      rintro e w7 ⟨⟨v, rfl, hv⟩, b7⟩
      obtain ⟨a1, p1, rfl⟩ := tgsV_len hv
      have HV1 := Lib.hid hv
      have HB7 := Lib.hid (HB5.out.trans (b7.mono HB5.out.size))
      have HV0 := Lib.hid (tgsV_below HV.out b7)
      clear hv b7 HB5 HW1 HT1 t2 t3 z1 u1 HV
      obtain ⟨k0, f0, v0, i0⟩ := HG0.out
      obtain ⟨k1, f1, v1, f2, v2, i1⟩ := HG1.out
      obtain ⟨g, o, cap, d, e', f', hv0, hgl, c0, c1, c2, c3, _, _, _, _⟩ := tg_at HV0.out i0 (Below.refl _ _)
      obtain ⟨g', o', cap', d', e'', f'', hv1, hgl', q0, q1, q2, q3, _, _, _, cs, hrow, hac⟩ := tg_at HV1.out i1 (Below.refl _ _)
      simp only [Value.slice.injEq] at hv0
      obtain ⟨rfl, _, rfl⟩ := hv0
      simp only [Value.slice.injEq] at hv1
      obtain ⟨rfl, _, rfl⟩ := hv1
      obtain ⟨ga, oa, capa, ea, fa, hva, hgal, r0, r1, _, _, _⟩ := att_at (j := 0) hrow hac rfl (Below.refl _ _)
      subst hva
      have m0 : w7.cell? ⟨g, o + 6, none⟩ = some (.int .u8 116) := by rw [Nat.one_mul] at c0; exact c0
      have m2 : w7.cell? ⟨g, o + 6 + 2, none⟩ = some (.string x) := by rw [Nat.one_mul] at c2; rw [c2]; dsimp only; rw [strOf_data]
      have m3 : w7.cell? ⟨g', o' + 3, none⟩ = some (.slice (some ⟨ga, oa, none⟩) 1 capa) := q3
      have m4 : w7.cell? ⟨ga, oa + 1, none⟩ = some (.string x) := by
        have h : w7.cell? ⟨ga, oa + 1, none⟩ = some (.string (strOf x.data.toList)) := r1
        rw [h, strOf_data]
      have HS0 := Lib.hid (fun wr (hb : Below w7.heap.size w7 wr) => tnested T0 _ true _ wr (tgsV_below HV0.out hb) (by rw [k0]; decide))
      have HS1 := Lib.hid (fun wr (hb : Below w7.heap.size w7 wr) => tnested T1 _ true _ wr (tgsV_below HV1.out hb) (by rw [k1]; decide))
      rw [HN0.out, k0] at HS0
      rw [HN1.out, k1] at HS1
      rw [k0, k1]
      clear c0 c1 c2 c3 q0 q1 q2 q3 r0 r1 i0 i1 k0 k1 hrow hac HG0 HG1 HN0 HN1 HV0 HV1 HXL
      go_upto_region 8 with fail
      go_wp2_with fail
      refine (HS0.out _ (Below.refl _ _)).mono ?_
      rintro e w8 ⟨rfl, b8⟩
      have HB8 := Lib.hid b8
      clear b8
      go_wp2_with fail
      refine (HS1.out _ HB8.out).mono ?_
      rintro e w9 ⟨rfl, b9⟩
      have HB9 := Lib.hid (HB8.out.trans (b9.mono HB8.out.size))
      clear b9 HB8
      go_wp2_with fail
      refine (HAW.out _).mono ?_
      rintro e w10 ⟨rfl, b10⟩
      have HB10 := Lib.hid (HB9.out.trans (b10.mono HB9.out.size))
      clear b10 HB9
      go_wp2_with fail
      go_ret
      exact ⟨rfl, HB7.out.trans (HB10.out.mono HB7.out.size)⟩
end Go.Proofs.Ytlogjghbdnaedaa
