/- Walks: the program's tags reader: reference (chapter 11). -/
import Derived.Test.YtlogjghbdnaedaaTgC
namespace Go.Proofs.Ytlogjghbdnaedaa
open Go.RowKit
set_option linter.unusedVariables false
set_option linter.unusedSimpArgs false
theorem refJ_at (l : List UInt8) (k : Nat) (h : k ≤ l.length) : refJ (l.drop k) =
    if atS l sAmp k then some ([38], 5) else if atS l sLt k then some ([60], 4) else if atS l sGt k then some ([62], 4) else if atS l sQuot k then some ([34], 6)
    else if atS l sHex k then (numR 16 6 (l.drop (k + 3))).map fun p => (enc p.1, 3 + p.2) else if atS l sNum k then (numR 10 7 (l.drop (k + 2))).map fun p => (enc p.1, 2 + p.2) else none := by
  unfold refJ
  rw [atS_drop _ _ _ h, atS_drop _ _ _ h, atS_drop _ _ _ h, atS_drop _ _ _ h, atS_drop _ _ _ h, atS_drop _ _ _ h, List.drop_drop, List.drop_drop]
set_option maxRecDepth 100000 in
set_option maxHeartbeats 8000000 in
theorem treference (g k : Nat) (s : ByteArray) (w : World) (hR : Rdr w g s k) (hk : k ≤ s.size) (hs : s.size ≤ 1000000) :
    Calls Try.prog 55 #[.pointer (some ⟨g, 0, none⟩)] w fun e w' => SayR (refJ (s.data.toList.drop k)) k g s e w' ∧ Only g w w' := by
  have hl := sz_len s
  have hrj := refJ_at s.data.toList k (by omega)
  have HL := Lib.hid hl
  have HR0 := Lib.hid hR
  have HO0 : Hid (Only g w w) := Only.refl g w
  have HRJ := Lib.hid hrj
  clear hR hrj hl
  have T0 : Hid (∀ (b : Bool), atS s.data.toList sAmp k = b → ∀ w, Rdr w g s k → Calls Try.prog 33 #[.pointer (some ⟨g, 0, none⟩), .string ⟨#[38, 97, 109, 112, 59]⟩] w fun e w' => e = .returned (.bool b) ∧ Rdr w' g s (if b then k + 5 else k) ∧ Only g w w') := fun b hb w hR => ttake g k s ⟨#[38, 97, 109, 112, 59]⟩ w hR hk hs (by decide) b hb
  have T1 : Hid (∀ (b : Bool), atS s.data.toList sLt k = b → ∀ w, Rdr w g s k → Calls Try.prog 33 #[.pointer (some ⟨g, 0, none⟩), .string ⟨#[38, 108, 116, 59]⟩] w fun e w' => e = .returned (.bool b) ∧ Rdr w' g s (if b then k + 4 else k) ∧ Only g w w') := fun b hb w hR => ttake g k s ⟨#[38, 108, 116, 59]⟩ w hR hk hs (by decide) b hb
  have T2 : Hid (∀ (b : Bool), atS s.data.toList sGt k = b → ∀ w, Rdr w g s k → Calls Try.prog 33 #[.pointer (some ⟨g, 0, none⟩), .string ⟨#[38, 103, 116, 59]⟩] w fun e w' => e = .returned (.bool b) ∧ Rdr w' g s (if b then k + 4 else k) ∧ Only g w w') := fun b hb w hR => ttake g k s ⟨#[38, 103, 116, 59]⟩ w hR hk hs (by decide) b hb
  have T3 : Hid (∀ (b : Bool), atS s.data.toList sQuot k = b → ∀ w, Rdr w g s k → Calls Try.prog 33 #[.pointer (some ⟨g, 0, none⟩), .string ⟨#[38, 113, 117, 111, 116, 59]⟩] w fun e w' => e = .returned (.bool b) ∧ Rdr w' g s (if b then k + 6 else k) ∧ Only g w w') := fun b hb w hR => ttake g k s ⟨#[38, 113, 117, 111, 116, 59]⟩ w hR hk hs (by decide) b hb
  have T4 : Hid (∀ (b : Bool), atS s.data.toList sHex k = b → ∀ w, Rdr w g s k → Calls Try.prog 33 #[.pointer (some ⟨g, 0, none⟩), .string ⟨#[38, 35, 120]⟩] w fun e w' => e = .returned (.bool b) ∧ Rdr w' g s (if b then k + 3 else k) ∧ Only g w w') := fun b hb w hR => ttake g k s ⟨#[38, 35, 120]⟩ w hR hk hs (by decide) b hb
  have T5 : Hid (∀ (b : Bool), atS s.data.toList sNum k = b → ∀ w, Rdr w g s k → Calls Try.prog 33 #[.pointer (some ⟨g, 0, none⟩), .string ⟨#[38, 35]⟩] w fun e w' => e = .returned (.bool b) ∧ Rdr w' g s (if b then k + 2 else k) ∧ Only g w w') := fun b hb w hR => ttake g k s ⟨#[38, 35]⟩ w hR hk hs (by decide) b hb
  cases a0 : atS s.data.toList sAmp k with
  | true =>
    have G0 : Hid (∀ w, Rdr w g s k → Calls Try.prog 33 #[.pointer (some ⟨g, 0, none⟩), .string ⟨#[38, 97, 109, 112, 59]⟩] w fun e w' => e = .returned (.bool true) ∧ Rdr w' g s (k + 5) ∧ Only g w w') := T0.out true a0
    have HV : Hid (refJ (s.data.toList.drop k) = some ([38], 5)) := by show _ = _; rw [HRJ.out]; rw [a0, if_pos rfl]
    clear a0 T0 T1 T2 T3 T4 T5 HRJ
    go_enter Try.func55, Try.ntmps55
    go_wp2_with fail
    refine (G0.out _ HR0.out).mono ?_
    rintro e w1 ⟨rfl, hR, hO⟩
    have HR1 := Lib.hid hR
    have HO1 := Lib.hid (HO0.out.trans hO)
    clear hR hO
    go_wp2_with fail
    go_ret2
    exact ⟨by rw [HV.out]; exact ⟨rfl, HR1.out⟩, HO1.out⟩
  | false =>
    have F0 : Hid (∀ w, Rdr w g s k → Calls Try.prog 33 #[.pointer (some ⟨g, 0, none⟩), .string ⟨#[38, 97, 109, 112, 59]⟩] w fun e w' => e = .returned (.bool false) ∧ Rdr w' g s k ∧ Only g w w') := T0.out false a0
    cases a1 : atS s.data.toList sLt k with
    | true =>
      have G1 : Hid (∀ w, Rdr w g s k → Calls Try.prog 33 #[.pointer (some ⟨g, 0, none⟩), .string ⟨#[38, 108, 116, 59]⟩] w fun e w' => e = .returned (.bool true) ∧ Rdr w' g s (k + 4) ∧ Only g w w') := T1.out true a1
      have HV : Hid (refJ (s.data.toList.drop k) = some ([60], 4)) := by show _ = _; rw [HRJ.out]; rw [a0, if_neg (by decide)]; rw [a1, if_pos rfl]
      clear a0 a1 T0 T1 T2 T3 T4 T5 HRJ
      go_enter Try.func55, Try.ntmps55
      go_wp2_with fail
      refine (F0.out _ HR0.out).mono ?_
      rintro e w1 ⟨rfl, hR, hO⟩
      have HR1 := Lib.hid hR
      have HO1 := Lib.hid (HO0.out.trans hO)
      clear hR hO
      go_wp2_with fail
      refine (G1.out _ HR1.out).mono ?_
      rintro e w2 ⟨rfl, hR, hO⟩
      have HR2 := Lib.hid hR
      have HO2 := Lib.hid (HO1.out.trans hO)
      clear hR hO
      go_wp2_with fail
      go_ret2
      exact ⟨by rw [HV.out]; exact ⟨rfl, HR2.out⟩, HO2.out⟩
    | false =>
      have F1 : Hid (∀ w, Rdr w g s k → Calls Try.prog 33 #[.pointer (some ⟨g, 0, none⟩), .string ⟨#[38, 108, 116, 59]⟩] w fun e w' => e = .returned (.bool false) ∧ Rdr w' g s k ∧ Only g w w') := T1.out false a1
      cases a2 : atS s.data.toList sGt k with
      | true =>
        have G2 : Hid (∀ w, Rdr w g s k → Calls Try.prog 33 #[.pointer (some ⟨g, 0, none⟩), .string ⟨#[38, 103, 116, 59]⟩] w fun e w' => e = .returned (.bool true) ∧ Rdr w' g s (k + 4) ∧ Only g w w') := T2.out true a2
        have HV : Hid (refJ (s.data.toList.drop k) = some ([62], 4)) := by show _ = _; rw [HRJ.out]; rw [a0, if_neg (by decide)]; rw [a1, if_neg (by decide)]; rw [a2, if_pos rfl]
        clear a0 a1 a2 T0 T1 T2 T3 T4 T5 HRJ
        go_enter Try.func55, Try.ntmps55
        go_wp2_with fail
        refine (F0.out _ HR0.out).mono ?_
        rintro e w1 ⟨rfl, hR, hO⟩
        have HR1 := Lib.hid hR
        have HO1 := Lib.hid (HO0.out.trans hO)
        clear hR hO
        go_wp2_with fail
        refine (F1.out _ HR1.out).mono ?_
        rintro e w2 ⟨rfl, hR, hO⟩
        have HR2 := Lib.hid hR
        have HO2 := Lib.hid (HO1.out.trans hO)
        clear hR hO
        go_wp2_with fail
        refine (G2.out _ HR2.out).mono ?_
        rintro e w3 ⟨rfl, hR, hO⟩
        have HR3 := Lib.hid hR
        have HO3 := Lib.hid (HO2.out.trans hO)
        clear hR hO
        go_wp2_with fail
        go_ret2
        exact ⟨by rw [HV.out]; exact ⟨rfl, HR3.out⟩, HO3.out⟩
      | false =>
        have F2 : Hid (∀ w, Rdr w g s k → Calls Try.prog 33 #[.pointer (some ⟨g, 0, none⟩), .string ⟨#[38, 103, 116, 59]⟩] w fun e w' => e = .returned (.bool false) ∧ Rdr w' g s k ∧ Only g w w') := T2.out false a2
        cases a3 : atS s.data.toList sQuot k with
        | true =>
          have G3 : Hid (∀ w, Rdr w g s k → Calls Try.prog 33 #[.pointer (some ⟨g, 0, none⟩), .string ⟨#[38, 113, 117, 111, 116, 59]⟩] w fun e w' => e = .returned (.bool true) ∧ Rdr w' g s (k + 6) ∧ Only g w w') := T3.out true a3
          have HV : Hid (refJ (s.data.toList.drop k) = some ([34], 6)) := by show _ = _; rw [HRJ.out]; rw [a0, if_neg (by decide)]; rw [a1, if_neg (by decide)]; rw [a2, if_neg (by decide)]; rw [a3, if_pos rfl]
          clear a0 a1 a2 a3 T0 T1 T2 T3 T4 T5 HRJ
          go_enter Try.func55, Try.ntmps55
          go_wp2_with fail
          refine (F0.out _ HR0.out).mono ?_
          rintro e w1 ⟨rfl, hR, hO⟩
          have HR1 := Lib.hid hR
          have HO1 := Lib.hid (HO0.out.trans hO)
          clear hR hO
          go_wp2_with fail
          refine (F1.out _ HR1.out).mono ?_
          rintro e w2 ⟨rfl, hR, hO⟩
          have HR2 := Lib.hid hR
          have HO2 := Lib.hid (HO1.out.trans hO)
          clear hR hO
          go_wp2_with fail
          refine (F2.out _ HR2.out).mono ?_
          rintro e w3 ⟨rfl, hR, hO⟩
          have HR3 := Lib.hid hR
          have HO3 := Lib.hid (HO2.out.trans hO)
          clear hR hO
          go_wp2_with fail
          refine (G3.out _ HR3.out).mono ?_
          rintro e w4 ⟨rfl, hR, hO⟩
          have HR4 := Lib.hid hR
          have HO4 := Lib.hid (HO3.out.trans hO)
          clear hR hO
          go_wp2_with fail
          go_ret2
          exact ⟨by rw [HV.out]; exact ⟨rfl, HR4.out⟩, HO4.out⟩
        | false =>
          have F3 : Hid (∀ w, Rdr w g s k → Calls Try.prog 33 #[.pointer (some ⟨g, 0, none⟩), .string ⟨#[38, 113, 117, 111, 116, 59]⟩] w fun e w' => e = .returned (.bool false) ∧ Rdr w' g s k ∧ Only g w w') := T3.out false a3
          cases a4 : atS s.data.toList sHex k with
          | true =>
            have G4 : Hid (∀ w, Rdr w g s k → Calls Try.prog 33 #[.pointer (some ⟨g, 0, none⟩), .string ⟨#[38, 35, 120]⟩] w fun e w' => e = .returned (.bool true) ∧ Rdr w' g s (k + 3) ∧ Only g w w') := T4.out true a4
            have hkq : k + 3 ≤ s.size := by
              rcases atS_len a4 with h | h
              · have e : sHex.length = 3 := rfl
                have := HL.out
                omega
              · cases h
            have HV : Hid (refJ (s.data.toList.drop k) = (numR 16 6 (s.data.toList.drop (k + 3))).map fun p => (enc p.1, 3 + p.2)) := by show _ = _; rw [HRJ.out]; rw [a0, if_neg (by decide)]; rw [a1, if_neg (by decide)]; rw [a2, if_neg (by decide)]; rw [a3, if_neg (by decide)]; rw [a4, if_pos rfl]
            have HN := Lib.hid (fun w hR => tnumX g (k + 3) s w hR hkq hs)
            clear a0 a1 a2 a3 a4 T0 T1 T2 T3 T4 T5 HRJ
            cases hn : numR 16 6 (s.data.toList.drop (k + 3)) with
            | none =>
              rw [hn] at HN HV
              clear hn
              go_enter Try.func55, Try.ntmps55
              go_wp2_with fail
              refine (F0.out _ HR0.out).mono ?_
              rintro e w1 ⟨rfl, hR, hO⟩
              have HR1 := Lib.hid hR
              have HO1 := Lib.hid (HO0.out.trans hO)
              clear hR hO
              go_wp2_with fail
              refine (F1.out _ HR1.out).mono ?_
              rintro e w2 ⟨rfl, hR, hO⟩
              have HR2 := Lib.hid hR
              have HO2 := Lib.hid (HO1.out.trans hO)
              clear hR hO
              go_wp2_with fail
              refine (F2.out _ HR2.out).mono ?_
              rintro e w3 ⟨rfl, hR, hO⟩
              have HR3 := Lib.hid hR
              have HO3 := Lib.hid (HO2.out.trans hO)
              clear hR hO
              go_wp2_with fail
              refine (F3.out _ HR3.out).mono ?_
              rintro e w4 ⟨rfl, hR, hO⟩
              have HR4 := Lib.hid hR
              have HO4 := Lib.hid (HO3.out.trans hO)
              clear hR hO
              go_wp2_with fail
              refine (G4.out _ HR4.out).mono ?_
              rintro e w5 ⟨rfl, hR, hO⟩
              have HR5 := Lib.hid hR
              have HO5 := Lib.hid (HO4.out.trans hO)
              clear hR hO
              go_wp2_with fail
              refine (HN.out _ HR5.out).mono ?_
              rintro e w9 ⟨⟨v, j9, rfl, hj9, hR9⟩, hO9⟩
              have HO9 := Lib.hid (HO5.out.trans hO9)
              have HR9 := Lib.hid hR9
              clear hO9 hR9
              go_wp2_with fail
              go_ret2
              exact ⟨by rw [HV.out]; exact ⟨_, j9, rfl, hj9, HR9.out⟩, HO9.out⟩
            | some pp =>
              obtain ⟨v, m⟩ := pp
              rw [hn] at HN HV
              clear hn
              obtain ⟨x, hx⟩ : ∃ x, strOf (enc (v : Int)) = x := ⟨_, rfl⟩
              have HNN : Hid (∀ w, Rdr w g s (k + 3) → Calls Try.prog 68 #[.pointer (some ⟨g, 0, none⟩), .int .i64 16, .int .i64 6] w fun e w' => (e = .returned (.tuple #[.string x, .bool true]) ∧ Rdr w' g s (k + 3 + m)) ∧ Only g w w') := by rw [← hx]; exact HN.out
              have HX := Lib.hid hx
              clear hx HN
              go_enter Try.func55, Try.ntmps55
              go_wp2_with fail
              refine (F0.out _ HR0.out).mono ?_
              rintro e w1 ⟨rfl, hR, hO⟩
              have HR1 := Lib.hid hR
              have HO1 := Lib.hid (HO0.out.trans hO)
              clear hR hO
              go_wp2_with fail
              refine (F1.out _ HR1.out).mono ?_
              rintro e w2 ⟨rfl, hR, hO⟩
              have HR2 := Lib.hid hR
              have HO2 := Lib.hid (HO1.out.trans hO)
              clear hR hO
              go_wp2_with fail
              refine (F2.out _ HR2.out).mono ?_
              rintro e w3 ⟨rfl, hR, hO⟩
              have HR3 := Lib.hid hR
              have HO3 := Lib.hid (HO2.out.trans hO)
              clear hR hO
              go_wp2_with fail
              refine (F3.out _ HR3.out).mono ?_
              rintro e w4 ⟨rfl, hR, hO⟩
              have HR4 := Lib.hid hR
              have HO4 := Lib.hid (HO3.out.trans hO)
              clear hR hO
              go_wp2_with fail
              refine (G4.out _ HR4.out).mono ?_
              rintro e w5 ⟨rfl, hR, hO⟩
              have HR5 := Lib.hid hR
              have HO5 := Lib.hid (HO4.out.trans hO)
              clear hR hO
              go_wp2_with fail
              refine (HNN.out _ HR5.out).mono ?_
              rintro e w9 ⟨⟨rfl, hR9⟩, hO9⟩
              have HR9 := Lib.hid hR9
              have HO9 := Lib.hid (HO5.out.trans hO9)
              clear hO9 hR9
              go_wp2_with fail
              go_ret2
              exact ⟨by rw [HV.out]; exact ⟨by rw [← HX.out]; rfl, by rw [← Nat.add_assoc]; exact HR9.out⟩, HO9.out⟩
          | false =>
            have F4 : Hid (∀ w, Rdr w g s k → Calls Try.prog 33 #[.pointer (some ⟨g, 0, none⟩), .string ⟨#[38, 35, 120]⟩] w fun e w' => e = .returned (.bool false) ∧ Rdr w' g s k ∧ Only g w w') := T4.out false a4
            cases a5 : atS s.data.toList sNum k with
            | true =>
              have G5 : Hid (∀ w, Rdr w g s k → Calls Try.prog 33 #[.pointer (some ⟨g, 0, none⟩), .string ⟨#[38, 35]⟩] w fun e w' => e = .returned (.bool true) ∧ Rdr w' g s (k + 2) ∧ Only g w w') := T5.out true a5
              have hkq : k + 2 ≤ s.size := by
                rcases atS_len a5 with h | h
                · have e : sNum.length = 2 := rfl
                  have := HL.out
                  omega
                · cases h
              have HV : Hid (refJ (s.data.toList.drop k) = (numR 10 7 (s.data.toList.drop (k + 2))).map fun p => (enc p.1, 2 + p.2)) := by show _ = _; rw [HRJ.out]; rw [a0, if_neg (by decide)]; rw [a1, if_neg (by decide)]; rw [a2, if_neg (by decide)]; rw [a3, if_neg (by decide)]; rw [a4, if_neg (by decide)]; rw [a5, if_pos rfl]
              have HN := Lib.hid (fun w hR => tnumD g (k + 2) s w hR hkq hs)
              clear a0 a1 a2 a3 a4 a5 T0 T1 T2 T3 T4 T5 HRJ
              cases hn : numR 10 7 (s.data.toList.drop (k + 2)) with
              | none =>
                rw [hn] at HN HV
                clear hn
                go_enter Try.func55, Try.ntmps55
                go_wp2_with fail
                refine (F0.out _ HR0.out).mono ?_
                rintro e w1 ⟨rfl, hR, hO⟩
                have HR1 := Lib.hid hR
                have HO1 := Lib.hid (HO0.out.trans hO)
                clear hR hO
                go_wp2_with fail
                refine (F1.out _ HR1.out).mono ?_
                rintro e w2 ⟨rfl, hR, hO⟩
                have HR2 := Lib.hid hR
                have HO2 := Lib.hid (HO1.out.trans hO)
                clear hR hO
                go_wp2_with fail
                refine (F2.out _ HR2.out).mono ?_
                rintro e w3 ⟨rfl, hR, hO⟩
                have HR3 := Lib.hid hR
                have HO3 := Lib.hid (HO2.out.trans hO)
                clear hR hO
                go_wp2_with fail
                refine (F3.out _ HR3.out).mono ?_
                rintro e w4 ⟨rfl, hR, hO⟩
                have HR4 := Lib.hid hR
                have HO4 := Lib.hid (HO3.out.trans hO)
                clear hR hO
                go_wp2_with fail
                refine (F4.out _ HR4.out).mono ?_
                rintro e w5 ⟨rfl, hR, hO⟩
                have HR5 := Lib.hid hR
                have HO5 := Lib.hid (HO4.out.trans hO)
                clear hR hO
                go_wp2_with fail
                refine (G5.out _ HR5.out).mono ?_
                rintro e w6 ⟨rfl, hR, hO⟩
                have HR6 := Lib.hid hR
                have HO6 := Lib.hid (HO5.out.trans hO)
                clear hR hO
                go_wp2_with fail
                refine (HN.out _ HR6.out).mono ?_
                rintro e w9 ⟨⟨v, j9, rfl, hj9, hR9⟩, hO9⟩
                have HO9 := Lib.hid (HO6.out.trans hO9)
                have HR9 := Lib.hid hR9
                clear hO9 hR9
                go_wp2_with fail
                go_ret2
                exact ⟨by rw [HV.out]; exact ⟨_, j9, rfl, hj9, HR9.out⟩, HO9.out⟩
              | some pp =>
                obtain ⟨v, m⟩ := pp
                rw [hn] at HN HV
                clear hn
                obtain ⟨x, hx⟩ : ∃ x, strOf (enc (v : Int)) = x := ⟨_, rfl⟩
                have HNN : Hid (∀ w, Rdr w g s (k + 2) → Calls Try.prog 68 #[.pointer (some ⟨g, 0, none⟩), .int .i64 10, .int .i64 7] w fun e w' => (e = .returned (.tuple #[.string x, .bool true]) ∧ Rdr w' g s (k + 2 + m)) ∧ Only g w w') := by rw [← hx]; exact HN.out
                have HX := Lib.hid hx
                clear hx HN
                go_enter Try.func55, Try.ntmps55
                go_wp2_with fail
                refine (F0.out _ HR0.out).mono ?_
                rintro e w1 ⟨rfl, hR, hO⟩
                have HR1 := Lib.hid hR
                have HO1 := Lib.hid (HO0.out.trans hO)
                clear hR hO
                go_wp2_with fail
                refine (F1.out _ HR1.out).mono ?_
                rintro e w2 ⟨rfl, hR, hO⟩
                have HR2 := Lib.hid hR
                have HO2 := Lib.hid (HO1.out.trans hO)
                clear hR hO
                go_wp2_with fail
                refine (F2.out _ HR2.out).mono ?_
                rintro e w3 ⟨rfl, hR, hO⟩
                have HR3 := Lib.hid hR
                have HO3 := Lib.hid (HO2.out.trans hO)
                clear hR hO
                go_wp2_with fail
                refine (F3.out _ HR3.out).mono ?_
                rintro e w4 ⟨rfl, hR, hO⟩
                have HR4 := Lib.hid hR
                have HO4 := Lib.hid (HO3.out.trans hO)
                clear hR hO
                go_wp2_with fail
                refine (F4.out _ HR4.out).mono ?_
                rintro e w5 ⟨rfl, hR, hO⟩
                have HR5 := Lib.hid hR
                have HO5 := Lib.hid (HO4.out.trans hO)
                clear hR hO
                go_wp2_with fail
                refine (G5.out _ HR5.out).mono ?_
                rintro e w6 ⟨rfl, hR, hO⟩
                have HR6 := Lib.hid hR
                have HO6 := Lib.hid (HO5.out.trans hO)
                clear hR hO
                go_wp2_with fail
                refine (HNN.out _ HR6.out).mono ?_
                rintro e w9 ⟨⟨rfl, hR9⟩, hO9⟩
                have HR9 := Lib.hid hR9
                have HO9 := Lib.hid (HO6.out.trans hO9)
                clear hO9 hR9
                go_wp2_with fail
                go_ret2
                exact ⟨by rw [HV.out]; exact ⟨by rw [← HX.out]; rfl, by rw [← Nat.add_assoc]; exact HR9.out⟩, HO9.out⟩
            | false =>
              have F5 : Hid (∀ w, Rdr w g s k → Calls Try.prog 33 #[.pointer (some ⟨g, 0, none⟩), .string ⟨#[38, 35]⟩] w fun e w' => e = .returned (.bool false) ∧ Rdr w' g s k ∧ Only g w w') := T5.out false a5
              have HV : Hid (refJ (s.data.toList.drop k) = none) := by show _ = _; rw [HRJ.out]; rw [a0, if_neg (by decide)]; rw [a1, if_neg (by decide)]; rw [a2, if_neg (by decide)]; rw [a3, if_neg (by decide)]; rw [a4, if_neg (by decide)]; rw [a5, if_neg (by decide)]
              clear a0 a1 a2 a3 a4 a5 T0 T1 T2 T3 T4 T5 HRJ
              go_enter Try.func55, Try.ntmps55
              go_wp2_with fail
              refine (F0.out _ HR0.out).mono ?_
              rintro e w1 ⟨rfl, hR, hO⟩
              have HR1 := Lib.hid hR
              have HO1 := Lib.hid (HO0.out.trans hO)
              clear hR hO
              go_wp2_with fail
              refine (F1.out _ HR1.out).mono ?_
              rintro e w2 ⟨rfl, hR, hO⟩
              have HR2 := Lib.hid hR
              have HO2 := Lib.hid (HO1.out.trans hO)
              clear hR hO
              go_wp2_with fail
              refine (F2.out _ HR2.out).mono ?_
              rintro e w3 ⟨rfl, hR, hO⟩
              have HR3 := Lib.hid hR
              have HO3 := Lib.hid (HO2.out.trans hO)
              clear hR hO
              go_wp2_with fail
              refine (F3.out _ HR3.out).mono ?_
              rintro e w4 ⟨rfl, hR, hO⟩
              have HR4 := Lib.hid hR
              have HO4 := Lib.hid (HO3.out.trans hO)
              clear hR hO
              go_wp2_with fail
              refine (F4.out _ HR4.out).mono ?_
              rintro e w5 ⟨rfl, hR, hO⟩
              have HR5 := Lib.hid hR
              have HO5 := Lib.hid (HO4.out.trans hO)
              clear hR hO
              go_wp2_with fail
              refine (F5.out _ HR5.out).mono ?_
              rintro e w6 ⟨rfl, hR, hO⟩
              have HR6 := Lib.hid hR
              have HO6 := Lib.hid (HO5.out.trans hO)
              clear hR hO
              go_wp2_with fail
              go_ret2
              exact ⟨by rw [HV.out]; exact ⟨_, k, rfl, hk, HR6.out⟩, HO6.out⟩
end Go.Proofs.Ytlogjghbdnaedaa
