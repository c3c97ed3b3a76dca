/- Walks: the laws TagsNests and TagsSames (chapter 11), behind what their example shows. -/
import Derived.Test.YtlogjghbdnaedaaTgNt
import Derived.Test.YtlogjghbdnaedaaTgI
namespace Go.Proofs.Ytlogjghbdnaedaa
open Go.RowKit
set_option linter.unusedVariables false
set_option linter.unusedSimpArgs false
theorem tgsC_take {w : World} {ok : Nat → Prop} {pl : Bool} : ∀ (ts : List Tg) (cs : List Value) (k : Nat), TgsC w ok pl ts cs → TgsC w ok pl (ts.take k) (cs.take (k * 6))
  | [], cs, k, h => by
    unfold TgsC at h
    subst h
    simp [TgsC]
  | t :: ts, cs, 0, h => by simp [TgsC]
  | t :: ts, cs, k + 1, h => by
    obtain ⟨a, b, c, d, e, f, rest, rfl, h1, h2⟩ := h
    have := tgsC_take ts rest k h2
    rw [show (k + 1) * 6 = k * 6 + 6 by omega]
    exact ⟨a, b, c, d, e, f, rest.take (k * 6), rfl, h1, this⟩
theorem tgs_take {w : World} {ok : Nat → Prop} {pl : Bool} {ts : List Tg} {a : Option Addr} {len cap : Nat} (k : Nat) (h : TgsV w ok pl ts (.slice a len cap)) : TgsV w ok pl (ts.take k) (.slice a (ts.take k).length cap) := by
  obtain ⟨cs, h1, h2⟩ := h
  refine ⟨cs.take (k * 6), ?_, tgsC_take ts cs k h2⟩
  rcases h1 with ⟨ao, c, hv, h0, hc⟩ | ⟨g, o, c, hv, h3, h4, h5⟩
  · simp only [Value.slice.injEq] at hv
    obtain ⟨rfl, _, rfl⟩ := hv
    have h6 := List.length_eq_zero_iff.1 h0
    subst h6 hc
    exact .inl ⟨a, cap, by simp, by simp, by simp⟩
  · simp only [Value.slice.injEq] at hv
    obtain ⟨rfl, _, rfl⟩ := hv
    refine .inr ⟨g, o, _, rfl, h3, h4, fun m u hu => h5 m u ?_⟩
    rw [List.getElem?_take] at hu
    split at hu
    · exact hu
    · cases hu
theorem take_le80 {α : Type} (l : List α) : (l.take 80).length ≤ 80 := by rw [List.length_take]; omega
theorem mem_take80 {α : Type} {l : List α} {t : α} (h : t ∈ l.take 80) : t ∈ l := List.mem_of_mem_take h
set_option maxHeartbeats 1000000 in
theorem short11_any (ts : List Tg) (a : Option Addr) (len cap : Nat) (w : World) (hlc : len ≤ cap) (hcm : cap ≤ 9223372036854775807) (hl : ts.length = len) :
    Calls Try.prog 14 #[.slice a len cap] w fun e w' => e = .returned (.slice a (ts.take 80).length cap) ∧ w = w' := by
  have h1 : (0 : Int) ≤ min (len : Int) 80 := by omega
  have h2 : min (len : Int) 80 ≤ (cap : Int) := by omega
  have h3 : ¬ min (len : Int) 80 < 0 := by omega
  have h4 : (min (len : Int) 80).toNat ≤ cap := by omega
  have HL : Hid ((min (len : Int) 80).toNat = min 80 ts.length) := by show _ = _; omega
  clear hl
  go_enter Try.func14, Try.ntmps14
  go_wp2_with fail
  go_ret
  refine ⟨?_, rfl⟩
  show Ending.returned (.slice a (min (len : Int) 80).toNat cap) = Ending.returned (.slice a (min 80 ts.length) cap)
  rw [HL.out]
set_option maxRecDepth 100000 in
set_option maxHeartbeats 8000000 in
theorem lawNests11 (hAW : ∀ w, Calls Try.prog 13 #[] w fun e w' => e = .returned (.bool true) ∧ Below w.heap.size w w') (ts : List Tg) (a : Option Addr) (len cap : Nat) (nm : ByteArray) (w : World)
    (ht : TgsV w (fun _ => True) false ts (.slice a len cap)) (hlc : len ≤ cap) (hcm : cap ≤ 9223372036854775807) (hl : ts.length = len) (hat : ∀ t ∈ ts, t.atts.length * 48 ≤ 140737488351232) :
    Calls Try.prog 4 #[.slice a len cap, .string nm] w fun e w' => e = .returned (.bool true) ∧ Below w.heap.size w w' := by
  have HA := Lib.hid hAW
  have HS := Lib.hid (short11_any ts a len cap w hlc hcm hl)
  have hk := tgs_take 80 ht
  have hk8 := take_le80 ts
  have hka : ∀ t ∈ ts.take 80, t.atts.length * 48 ≤ 140737488351232 := fun t h => hat t (mem_take80 h)
  obtain ⟨ks, hks⟩ : ∃ ks, ts.take 80 = ks := ⟨_, rfl⟩
  rw [hks] at HS hk hk8 hka
  have HM := Lib.hid (fun W hW => mine_any ks _ false _ W (tgsV_below hk hW) (by omega) hka)
  have HR := Lib.hid (fun W hW => rnested ks _ false _ W (tgsV_below hk hW) (by omega))
  have HV1 := Lib.hid (fun w => tvoid nm w)
  have HV2 := Lib.hid (fun w => rvoid nm w)
  clear ht hlc hcm hl hat hks hk hka hAW
  go_enter Try.func4, Try.ntmps4
  go_wp2_with fail
  refine HS.out.mono ?_
  rintro e w2 ⟨rfl, rfl⟩
  go_wp2_with fail
  refine (HM.out _ (Below.refl _ _)).mono ?_
  rintro e w3 ⟨⟨v, rfl, hv⟩, b3⟩
  obtain ⟨a1, p1, rfl⟩ := tgsV_len hv
  have HB3 := Lib.hid b3
  have HN := Lib.hid (tnested ks _ false _ w3 hv (by omega))
  clear hv b3 HM
  generalize nestB ks = b0 at *
  go_wp2_with fail
  refine HN.out.mono ?_
  rintro e w4 ⟨rfl, b4⟩
  have HB4 := Lib.hid (HB3.out.trans (b4.mono HB3.out.size))
  clear b4 HB3 HN
  go_wp2_with fail
  refine (HR.out _ HB4.out).mono ?_
  rintro e w5 ⟨rfl, b5⟩
  have HB5 := Lib.hid (HB4.out.trans (b5.mono HB4.out.size))
  clear b5 HB4 HR
  go_wp2_with fail
  refine (HV1.out _).mono ?_
  rintro e w6 ⟨rfl, rfl⟩
  go_wp2_with fail
  refine (HV2.out _).mono ?_
  rintro e w6 ⟨rfl, rfl⟩
  go_wp2_with fail
  refine (HA.out _).mono ?_
  rintro e w7 ⟨rfl, b7⟩
  go_wp2_with fail
  go_ret
  exact ⟨rfl, HB5.out.trans (b7.mono HB5.out.size)⟩
set_option maxRecDepth 100000 in
set_option maxHeartbeats 8000000 in
theorem lawSames11 (hAW : ∀ w, Calls Try.prog 13 #[] w fun e w' => e = .returned (.bool true) ∧ Below w.heap.size w w') (ts us : List Tg) (a a' : Option Addr) (len cap len' cap' : Nat) (w : World)
    (ht : TgsV w (fun _ => True) false ts (.slice a len cap)) (hlc : len ≤ cap) (hcm : cap ≤ 9223372036854775807) (hl : ts.length = len) (hat : ∀ t ∈ ts, t.atts.length * 48 ≤ 140737488351232)
    (hu : TgsV w (fun _ => True) false us (.slice a' len' cap')) (hlc' : len' ≤ cap') (hcm' : cap' ≤ 9223372036854775807) (hl' : us.length = len') (hat' : ∀ t ∈ us, t.atts.length * 48 ≤ 140737488351232) :
    Calls Try.prog 6 #[.slice a len cap, .slice a' len' cap'] w fun e w' => e = .returned (.bool true) ∧ Below w.heap.size w w' := by
  have HA := Lib.hid hAW
  have HS := Lib.hid (short11_any ts a len cap w hlc hcm hl)
  have HS' := Lib.hid (short11_any us a' len' cap' w hlc' hcm' hl')
  have hk := tgs_take 80 ht
  have hk8 := take_le80 ts
  have hka : ∀ t ∈ ts.take 80, t.atts.length * 48 ≤ 140737488351232 := fun t h => hat t (mem_take80 h)
  have hj := tgs_take 80 hu
  have hj8 := take_le80 us
  have hja : ∀ t ∈ us.take 80, t.atts.length * 48 ≤ 140737488351232 := fun t h => hat' t (mem_take80 h)
  obtain ⟨ks, hks⟩ : ∃ ks, ts.take 80 = ks := ⟨_, rfl⟩
  obtain ⟨js, hjs⟩ : ∃ ks, us.take 80 = ks := ⟨_, rfl⟩
  rw [hks] at HS hk hk8 hka
  rw [hjs] at HS' hj hj8 hja
  have hkb : ∀ t ∈ ks, t.atts.length ≤ 10000000000000 := fun t h => by have := hka t h; omega
  have hjb : ∀ t ∈ js, t.atts.length ≤ 10000000000000 := fun t h => by have := hja t h; omega
  have HM := Lib.hid (fun W hW => mine_any ks _ false _ W (tgsV_below hk hW) (by omega) hka)
  have HM' := Lib.hid (fun W hW => mine_any js _ false _ W (tgsV_below hj hW) (by omega) hja)
  have HR := Lib.hid (fun W hW => rsame_any ks js _ _ false false _ _ W (tgsV_below hk hW) (tgsV_below hj hW) (by omega) (by omega) hkb hjb)
  have HKB := Lib.hid (And.intro hkb hjb)
  clear ht hlc hcm hl hat hks hk hka hu hlc' hcm' hl' hat' hjs hj hja hkb hjb hAW
  go_enter Try.func6, Try.ntmps6
  go_wp2_with fail
  refine HS.out.mono ?_
  rintro e w2 ⟨rfl, rfl⟩
  go_wp2_with fail
  refine HS'.out.mono ?_
  rintro e w2 ⟨rfl, rfl⟩
  clear HS HS'
  go_wp2_with fail
  refine (HM.out _ (Below.refl _ _)).mono ?_
  rintro e w3 ⟨⟨v, rfl, hv⟩, b3⟩
  obtain ⟨a1, p1, rfl⟩ := tgsV_len hv
  have HB3 := Lib.hid b3
  have HV := Lib.hid hv
  clear hv b3
  go_wp2_with fail
  refine (HM'.out _ HB3.out).mono ?_
  rintro e w4 ⟨⟨v, rfl, hv'⟩, b4⟩
  obtain ⟨a2, p2, rfl⟩ := tgsV_len hv'
  have HSM := Lib.hid (tsame_any ks js _ _ false false _ _ w4 (tgsV_below HV.out b4) hv' (by omega) (by omega) HKB.out.1 HKB.out.2)
  have HB4 := Lib.hid (HB3.out.trans (b4.mono HB3.out.size))
  clear hv' b4 HB3 HV HM'
  generalize sameGs ks js = b0 at *
  go_wp2_with fail
  refine HSM.out.mono ?_
  rintro e w5 ⟨rfl, b5⟩
  have HB5 := Lib.hid (HB4.out.trans (b5.mono HB4.out.size))
  clear b5 HB4 HSM
  go_wp2_with fail
  refine (HR.out _ HB5.out).mono ?_
  rintro e w6 ⟨rfl, b6⟩
  have HB6 := Lib.hid (HB5.out.trans (b6.mono HB5.out.size))
  clear b6 HB5 HR
  go_wp2_with fail
  refine (HM.out _ HB6.out).mono ?_
  rintro e w7 ⟨⟨v, rfl, hv⟩, b7⟩
  obtain ⟨a3, p3, rfl⟩ := tgsV_len hv
  have HB7 := Lib.hid (HB6.out.trans (b7.mono HB6.out.size))
  have HV := Lib.hid hv
  clear hv b7 HB6
  go_wp2_with fail
  refine (HM.out _ HB7.out).mono ?_
  rintro e w8 ⟨⟨v, rfl, hv'⟩, b8⟩
  obtain ⟨a4, p4, rfl⟩ := tgsV_len hv'
  have HSM := Lib.hid (tsame_any ks ks _ _ false false _ _ w8 (tgsV_below HV.out b8) hv' (by omega) (by omega) HKB.out.1 HKB.out.1)
  have HB8 := Lib.hid (HB7.out.trans (b8.mono HB7.out.size))
  rw [sameGs_self] at HSM
  clear hv' b8 HB7 HV
  go_wp2_with fail
  refine HSM.out.mono ?_
  rintro e w9 ⟨rfl, b9⟩
  have HB9 := Lib.hid (HB8.out.trans (b9.mono HB8.out.size))
  clear b9 HB8 HSM
  go_wp2_with fail
  refine (HA.out _).mono ?_
  rintro e w10 ⟨rfl, b10⟩
  go_wp2_with fail
  go_ret
  exact ⟨rfl, HB9.out.trans (b10.mono HB9.out.size)⟩
end Go.Proofs.Ytlogjghbdnaedaa
