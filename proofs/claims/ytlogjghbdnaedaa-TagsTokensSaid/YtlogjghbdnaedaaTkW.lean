/- Walks: the document's one (chapter 11). -/
import Derived.Test.YtlogjghbdnaedaaTgOp
import Derived.Test.YtlogjghbdnaedaaTgX
import Derived.Test.YtlogjghbdnaedaaTgSr
import Derived.Test.YtlogjghbdnaedaaTgH
import Derived.Test.YtlogjghbdnaedaaTgT
namespace Go.Proofs.Ytlogjghbdnaedaa
open Go.RowKit
set_option linter.unusedVariables false
set_option linter.unusedSimpArgs false
/-- What the document's one says. -/
def ROne (o : Option Tg) (B : Nat) (e : Ending) (w : World) : Prop := match o with
  | some t => ∃ av ds, e = .returned (.tuple #[.agg #[.int .u8 t.kind, .string (strOf t.name), .string (strOf t.text), av, .int .i64 t.frm, .int .i64 t.to], .bool true]) ∧ RowG w (fun b => B ≤ b) av t.atts.length ds ∧ AttsC true t.atts ds
  | none => ∃ (q : Int) (n t : ByteArray) (o : Option Addr) (m c : Nat) (f u : Int), e = .returned (.tuple #[.agg #[.int .u8 q, .string n, .string t, .slice o m c, .int .i64 f, .int .i64 u], .bool false])
theorem atS_first {l : List UInt8} {k : Nat} (h : atS l sCl k = true) : bt l k = 60 := (atS_lead (c := 60) (d := 47) h).2.1
set_option maxRecDepth 100000 in
set_option maxHeartbeats 16000000 in
theorem rone (s : ByteArray) (k : Nat) (w : World) (hk : k < s.size) (hs : s.size ≤ 1000000) :
    Calls Try.prog 26 #[.string s, .int .i64 k] w fun e w' => ROne (oneG s.data.toList k) w.heap.size e w' ∧ Below w.heap.size w w' := by
  have HL := Lib.hid (sz_len s)
  have hx := bt_byte s k hk
  have y0 := bt_lt s.data.toList k
  have HT0 := Lib.hid (Blk.new w 34 #[.int .u8 0, .string ⟨#[]⟩, .string ⟨#[]⟩, .slice none 0 0, .int .i64 0, .int .i64 0])
  have HB0 := Lib.hid ((Below.refl w.heap.size w).alloc (Nat.le_refl _) (.cells #[.int .u8 0, .string ⟨#[]⟩, .string ⟨#[]⟩, .slice none 0 0, .int .i64 0, .int .i64 0] 34))
  have HS0 : Hid (w.heap.size < (w.alloc (.cells #[.int .u8 0, .string ⟨#[]⟩, .string ⟨#[]⟩, .slice none 0 0, .int .i64 0, .int .i64 0] 34)).heap.size) := by show _ < _; simp
  obtain ⟨O, hO⟩ : ∃ O, oneG s.data.toList k = O := ⟨_, rfl⟩
  rw [hO]
  have HO : Hid (O = if atS s.data.toList sCl k = true then
    (if isElem (runT nameB s.data.toList (k + 2)) = true ∧ isVoid (runT nameB s.data.toList (k + 2)) = false ∧ bt s.data.toList (runE nameB s.data.toList (k + 2)) = 62 then some ⟨99, runT nameB s.data.toList (k + 2), [], [], k, runE nameB s.data.toList (k + 2) + 1⟩ else none)
    else if bt s.data.toList k = 60 then
    (if isElem (runT nameB s.data.toList (k + 1)) = true then (opnJ s.data.toList (runE nameB s.data.toList (k + 1)) []).map fun p => ⟨111, runT nameB s.data.toList (k + 1), [], p.1, k, p.2⟩ else none)
    else (sayJ 60 62 (s.data.toList.drop k)).map fun p => ⟨116, [], p.1, [], k, k + p.2⟩) := hO.symm
  clear hO
  have hcf : ∀ b, atS s.data.toList sCl k = b → b = true → bt s.data.toList k = 60 := fun b h hb => atS_first (h.trans hb)
  have HCF := Lib.hid hcf
  clear hcf
  cases hcl : atS s.data.toList sCl k with
  | true =>
    have h60 : bt s.data.toList k = 60 := HCF.out _ hcl rfl
    have HBG : Hid (∀ w, Calls Try.prog 40 #[.string s, .string ⟨#[60, 47]⟩, .int .i64 k] w fun e w' => e = .returned (.bool true) ∧ w = w') := fun w => begins_at s ⟨#[60, 47]⟩ k true w hs (by decide) hcl
    have hk2 : k + 2 ≤ s.size := by
      rcases atS_len hcl with h | h
      · rw [sz_len]; exact h
      · cases h
    have HO2 : Hid (O = if isElem (runT nameB s.data.toList (k + 2)) = true ∧ isVoid (runT nameB s.data.toList (k + 2)) = false ∧ bt s.data.toList (runE nameB s.data.toList (k + 2)) = 62 then some ⟨99, runT nameB s.data.toList (k + 2), [], [], k, runE nameB s.data.toList (k + 2) + 1⟩ else none) := by show _ = _; rw [HO.out, if_pos hcl]
    have hk1 : runE nameB s.data.toList (k + 2) ≤ s.size := by rw [sz_len]; exact runE_le _ _ _ (by rw [← sz_len]; exact hk2)
    have hkg := runE_ge nameB s.data.toList (k + 2)
    have hrl := runT_len (P := nameB) (l := s.data.toList) (k := k + 2) (by rw [← sz_len]; exact hk2)
    have HW : Hid (∀ w, Calls Try.prog 42 #[.string s, .int .i64 ((k : Int) + 2)] w fun e w' => e = .returned (.string (strOf (runT nameB s.data.toList (k + 2)))) ∧ w = w') := fun w => rword s (k + 2) w hk2 hs
    obtain ⟨N, hN⟩ : ∃ N, runT nameB s.data.toList (k + 2) = N := ⟨_, rfl⟩
    obtain ⟨k1, hk1e⟩ : ∃ k1, runE nameB s.data.toList (k + 2) = k1 := ⟨_, rfl⟩
    rw [hN, hk1e] at hrl
    rw [hk1e] at hk1 hkg
    simp only [hN, hk1e] at HW HO2
    obtain ⟨x, hxx⟩ : ∃ x, strOf N = x := ⟨_, rfl⟩
    have hxz : x.size = k1 - (k + 2) := by rw [← hxx, strOf_size]; exact hrl
    have hxd : x.data.toList = N := by rw [← hxx, strOf_list]
    have hxs : x.size ≤ 1000000 := by omega
    simp only [hxx] at HW
    have HX := Lib.hid hxx
    have HTO : Hid (((k1 + 1 : Nat) : Int) = (k : Int) + 2 + (x.size : Int) + 1) := by show _ = _; omega
    have ha62 := atS_one s.data.toList 62 k1 (by decide)
    have HB2' : Hid (∀ b w, decide (bt s.data.toList k1 = 62) = b → Calls Try.prog 40 #[.string s, .string ⟨#[62]⟩, .int .i64 ((k : Int) + 2 + (x.size : Int))] w fun e w' => e = .returned (.bool b) ∧ w = w') := fun b w hb => by
      have h := begins_at s ⟨#[62]⟩ k1 b w hs (by decide) (ha62.trans hb)
      rwa [show ((k1 : Nat) : Int) = (k : Int) + 2 + (x.size : Int) by omega] at h
    have HVD := Lib.hid (fun w => rvoid x w)
    rw [hxd] at HVD
    have HXD := Lib.hid hxd
    have h601 := h60
    rw [h60] at hx
    clear hcl HO HCF hN hk1e hxx hxz hxd hrl ha62 h60 h601 y0
    go_enter Try.func26, Try.ntmps26
    go_upto_region 1 with fail
    generalize w.alloc (.cells #[.int .u8 0, .string ⟨#[]⟩, .string ⟨#[]⟩, .slice none 0 0, .int .i64 0, .int .i64 0] 34) = W0 at *
    go_wp2_with fail
    refine (HBG.out _).mono ?_
    rintro e w1 ⟨rfl, rfl⟩
    go_wp2_with fail
    refine (HW.out _).mono ?_
    rintro e w1 ⟨rfl, rfl⟩
    go_wp2_with fail
    refine (rnamed _).mono ?_
    rintro e w2 ⟨rfl, b2, hin⟩
    have HT2 := Lib.hid (HT0.out.below b2 HT0.out.lt)
    have HB2 := Lib.hid (HB0.out.trans (b2.mono HB0.out.size))
    have HIN := Lib.hid (hin x w2 (Below.refl _ _))
    rw [HXD.out] at HIN
    clear b2 hin HT0 HB0 HS0 HBG HW
    have r0 := HT2.out.cell 0
    have f0 := HT2.out.frozen 0
    have r1 := HT2.out.cell 1
    have f1 := HT2.out.frozen 1
    have r2 := HT2.out.cell 2
    have f2 := HT2.out.frozen 2
    have r3 := HT2.out.cell 3
    have f3 := HT2.out.frozen 3
    have r4 := HT2.out.cell 4
    have f4 := HT2.out.frozen 4
    have r5 := HT2.out.cell 5
    have f5 := HT2.out.frozen 5
    cases hel : isElem N with
    | false =>
      have HV : Hid (O = none) := by show _ = _; rw [HO2.out, if_neg (fun h => by rw [hel] at h; cases h.1)]
      rw [hel] at HIN
      clear hel
      go_wp2_with fail
      refine HIN.out.mono ?_
      rintro e w3 ⟨rfl, rfl⟩
      go_wp2_with fail
      have hF6 := ((((((HT2.out.set_ 0 (.int .u8 99)).set_ 1 (.string x)).set_ 2 (.string ⟨#[]⟩)).set_ 3 (.slice none 0 0)).set_ 4 (.int .i64 k)).set_ 5 (.int .i64 ((k : Int) + 2 + (x.size : Int) + 1)))
      have s0 : (World.setCell _ _ _).cell? _ = some (.int .u8 99) := hF6.cell 0
      have s1 : (World.setCell _ _ _).cell? _ = some (.string x) := hF6.cell 1
      have s2 : (World.setCell _ _ _).cell? _ = some (.string ⟨#[]⟩) := hF6.cell 2
      have s3 : (World.setCell _ _ _).cell? _ = some (.slice none 0 0) := hF6.cell 3
      have s4 : (World.setCell _ _ _).cell? _ = some (.int .i64 k) := hF6.cell 4
      have s5 : (World.setCell _ _ _).cell? _ = some (.int .i64 ((k : Int) + 2 + (x.size : Int) + 1)) := hF6.cell 5
      exact bodyPost_ret (v := .tuple #[.agg #[.int .u8 99, .string x, .string ⟨#[]⟩, .slice none 0 0, .int .i64 k, .int .i64 ((k : Int) + 2 + (x.size : Int) + 1)], .bool false]) (by simp [results, Try.f26, go_sem, s0, s1, s2, s3, s4, s5]) rfl ⟨by rw [HV.out]; exact ⟨_, _, _, _, _, _, _, _, rfl⟩, ((((((HB2.out.setCell (p := ⟨w.heap.size, 0, none⟩) (Nat.le_refl _) _).setCell (p := ⟨w.heap.size, 1, none⟩) (Nat.le_refl _) _).setCell (p := ⟨w.heap.size, 2, none⟩) (Nat.le_refl _) _).setCell (p := ⟨w.heap.size, 3, none⟩) (Nat.le_refl _) _).setCell (p := ⟨w.heap.size, 4, none⟩) (Nat.le_refl _) _).setCell (p := ⟨w.heap.size, 5, none⟩) (Nat.le_refl _) _)⟩
    | true =>
      cases hvd : isVoid N with
      | true =>
        have HV : Hid (O = none) := by show _ = _; rw [HO2.out, if_neg (fun h => by rw [hvd] at h; cases h.2.1)]
        rw [hel] at HIN
        rw [hvd] at HVD
        clear hel hvd
        go_wp2_with fail
        refine HIN.out.mono ?_
        rintro e w3 ⟨rfl, rfl⟩
        go_wp2_with fail
        refine (HVD.out _).mono ?_
        rintro e w3 ⟨rfl, rfl⟩
        go_wp2_with fail
        have hF6 := ((((((HT2.out.set_ 0 (.int .u8 99)).set_ 1 (.string x)).set_ 2 (.string ⟨#[]⟩)).set_ 3 (.slice none 0 0)).set_ 4 (.int .i64 k)).set_ 5 (.int .i64 ((k : Int) + 2 + (x.size : Int) + 1)))
        have s0 : (World.setCell _ _ _).cell? _ = some (.int .u8 99) := hF6.cell 0
        have s1 : (World.setCell _ _ _).cell? _ = some (.string x) := hF6.cell 1
        have s2 : (World.setCell _ _ _).cell? _ = some (.string ⟨#[]⟩) := hF6.cell 2
        have s3 : (World.setCell _ _ _).cell? _ = some (.slice none 0 0) := hF6.cell 3
        have s4 : (World.setCell _ _ _).cell? _ = some (.int .i64 k) := hF6.cell 4
        have s5 : (World.setCell _ _ _).cell? _ = some (.int .i64 ((k : Int) + 2 + (x.size : Int) + 1)) := hF6.cell 5
        exact bodyPost_ret (v := .tuple #[.agg #[.int .u8 99, .string x, .string ⟨#[]⟩, .slice none 0 0, .int .i64 k, .int .i64 ((k : Int) + 2 + (x.size : Int) + 1)], .bool false]) (by simp [results, Try.f26, go_sem, s0, s1, s2, s3, s4, s5]) rfl ⟨by rw [HV.out]; exact ⟨_, _, _, _, _, _, _, _, rfl⟩, ((((((HB2.out.setCell (p := ⟨w.heap.size, 0, none⟩) (Nat.le_refl _) _).setCell (p := ⟨w.heap.size, 1, none⟩) (Nat.le_refl _) _).setCell (p := ⟨w.heap.size, 2, none⟩) (Nat.le_refl _) _).setCell (p := ⟨w.heap.size, 3, none⟩) (Nat.le_refl _) _).setCell (p := ⟨w.heap.size, 4, none⟩) (Nat.le_refl _) _).setCell (p := ⟨w.heap.size, 5, none⟩) (Nat.le_refl _) _)⟩
      | false =>
        rw [hel] at HIN
        rw [hvd] at HVD
        by_cases h62 : bt s.data.toList k1 = 62
        · have HV : Hid (O = some ⟨99, N, [], [], k, k1 + 1⟩) := by show _ = _; rw [HO2.out, if_pos ⟨hel, hvd, h62⟩]
          have HBE := Lib.hid (fun w => HB2'.out true w (decide_eq_true h62))
          clear hel hvd h62 HB2'
          go_wp2_with fail
          refine HIN.out.mono ?_
          rintro e w3 ⟨rfl, rfl⟩
          go_wp2_with fail
          refine (HVD.out _).mono ?_
          rintro e w3 ⟨rfl, rfl⟩
          go_wp2_with fail
          refine (HBE.out _).mono ?_
          rintro e w3 ⟨rfl, rfl⟩
          go_wp2_with fail
          have hF6 := ((((((HT2.out.set_ 0 (.int .u8 99)).set_ 1 (.string x)).set_ 2 (.string ⟨#[]⟩)).set_ 3 (.slice none 0 0)).set_ 4 (.int .i64 k)).set_ 5 (.int .i64 ((k : Int) + 2 + (x.size : Int) + 1)))
          have s0 : (World.setCell _ _ _).cell? _ = some (.int .u8 99) := hF6.cell 0
          have s1 : (World.setCell _ _ _).cell? _ = some (.string x) := hF6.cell 1
          have s2 : (World.setCell _ _ _).cell? _ = some (.string ⟨#[]⟩) := hF6.cell 2
          have s3 : (World.setCell _ _ _).cell? _ = some (.slice none 0 0) := hF6.cell 3
          have s4 : (World.setCell _ _ _).cell? _ = some (.int .i64 k) := hF6.cell 4
          have s5 : (World.setCell _ _ _).cell? _ = some (.int .i64 ((k : Int) + 2 + (x.size : Int) + 1)) := hF6.cell 5
          exact bodyPost_ret (v := .tuple #[.agg #[.int .u8 99, .string x, .string ⟨#[]⟩, .slice none 0 0, .int .i64 k, .int .i64 ((k : Int) + 2 + (x.size : Int) + 1)], .bool true]) (by simp [results, Try.f26, go_sem, s0, s1, s2, s3, s4, s5]) rfl ⟨by rw [HV.out]; exact ⟨_, [], by rw [← HTO.out, ← HX.out]; rfl, .inl ⟨_, _, rfl, rfl, rfl⟩, rfl⟩, ((((((HB2.out.setCell (p := ⟨w.heap.size, 0, none⟩) (Nat.le_refl _) _).setCell (p := ⟨w.heap.size, 1, none⟩) (Nat.le_refl _) _).setCell (p := ⟨w.heap.size, 2, none⟩) (Nat.le_refl _) _).setCell (p := ⟨w.heap.size, 3, none⟩) (Nat.le_refl _) _).setCell (p := ⟨w.heap.size, 4, none⟩) (Nat.le_refl _) _).setCell (p := ⟨w.heap.size, 5, none⟩) (Nat.le_refl _) _)⟩
        · have HV : Hid (O = none) := by show _ = _; rw [HO2.out, if_neg (fun h => h62 h.2.2)]
          have HBE := Lib.hid (fun w => HB2'.out false w (decide_eq_false h62))
          clear hel hvd h62 HB2'
          go_wp2_with fail
          refine HIN.out.mono ?_
          rintro e w3 ⟨rfl, rfl⟩
          go_wp2_with fail
          refine (HVD.out _).mono ?_
          rintro e w3 ⟨rfl, rfl⟩
          go_wp2_with fail
          refine (HBE.out _).mono ?_
          rintro e w3 ⟨rfl, rfl⟩
          go_wp2_with fail
          have hF6 := ((((((HT2.out.set_ 0 (.int .u8 99)).set_ 1 (.string x)).set_ 2 (.string ⟨#[]⟩)).set_ 3 (.slice none 0 0)).set_ 4 (.int .i64 k)).set_ 5 (.int .i64 ((k : Int) + 2 + (x.size : Int) + 1)))
          have s0 : (World.setCell _ _ _).cell? _ = some (.int .u8 99) := hF6.cell 0
          have s1 : (World.setCell _ _ _).cell? _ = some (.string x) := hF6.cell 1
          have s2 : (World.setCell _ _ _).cell? _ = some (.string ⟨#[]⟩) := hF6.cell 2
          have s3 : (World.setCell _ _ _).cell? _ = some (.slice none 0 0) := hF6.cell 3
          have s4 : (World.setCell _ _ _).cell? _ = some (.int .i64 k) := hF6.cell 4
          have s5 : (World.setCell _ _ _).cell? _ = some (.int .i64 ((k : Int) + 2 + (x.size : Int) + 1)) := hF6.cell 5
          exact bodyPost_ret (v := .tuple #[.agg #[.int .u8 99, .string x, .string ⟨#[]⟩, .slice none 0 0, .int .i64 k, .int .i64 ((k : Int) + 2 + (x.size : Int) + 1)], .bool false]) (by simp [results, Try.f26, go_sem, s0, s1, s2, s3, s4, s5]) rfl ⟨by rw [HV.out]; exact ⟨_, _, _, _, _, _, _, _, rfl⟩, ((((((HB2.out.setCell (p := ⟨w.heap.size, 0, none⟩) (Nat.le_refl _) _).setCell (p := ⟨w.heap.size, 1, none⟩) (Nat.le_refl _) _).setCell (p := ⟨w.heap.size, 2, none⟩) (Nat.le_refl _) _).setCell (p := ⟨w.heap.size, 3, none⟩) (Nat.le_refl _) _).setCell (p := ⟨w.heap.size, 4, none⟩) (Nat.le_refl _) _).setCell (p := ⟨w.heap.size, 5, none⟩) (Nat.le_refl _) _)⟩
  | false =>
    by_cases h60 : bt s.data.toList k = 60
    · have HBG : Hid (∀ w, Calls Try.prog 40 #[.string s, .string ⟨#[60, 47]⟩, .int .i64 k] w fun e w' => e = .returned (.bool false) ∧ w = w') := fun w => begins_at s ⟨#[60, 47]⟩ k false w hs (by decide) hcl
      have HO2 : Hid (O = (if isElem (runT nameB s.data.toList (k + 1)) = true then opnJ s.data.toList (runE nameB s.data.toList (k + 1)) [] else none).map fun p => ⟨111, runT nameB s.data.toList (k + 1), [], p.1, k, p.2⟩) := by
        show _ = _
        rw [HO.out, if_neg (by rw [hcl]; decide), if_pos h60]
        split <;> rfl
      have HOP := Lib.hid (fun w => ropening s k w hk hs)
      rw [h60] at hx
      clear hcl HO HCF h60 y0
      obtain ⟨R, hR⟩ : ∃ R, (if isElem (runT nameB s.data.toList (k + 1)) = true then opnJ s.data.toList (runE nameB s.data.toList (k + 1)) [] else none) = R := ⟨_, rfl⟩
      rw [hR] at HO2
      simp only [hR] at HOP
      clear hR
      obtain ⟨N, hN⟩ : ∃ N, runT nameB s.data.toList (k + 1) = N := ⟨_, rfl⟩
      rw [hN] at HO2
      simp only [hN] at HOP
      clear hN
      obtain ⟨x, hxx⟩ : ∃ x, strOf N = x := ⟨_, rfl⟩
      simp only [hxx] at HOP
      have HX := Lib.hid hxx
      clear hxx
      cases R with
      | none =>
        have HV : Hid (O = none) := HO2.out
        have HOP2 : Hid (∀ w, Calls Try.prog 41 #[.string s, .int .i64 k] w fun e w' => (∃ (q : Int) (n t : ByteArray) (o : Option Addr) (m c : Nat) (f u : Int), e = .returned (.tuple #[.agg #[.int .u8 q, .string n, .string t, .slice o m c, .int .i64 f, .int .i64 u], .bool false])) ∧ Below w.heap.size w w') := HOP.out
        clear HOP
        go_enter Try.func26, Try.ntmps26
        go_upto_region 1 with fail
        generalize w.alloc (.cells #[.int .u8 0, .string ⟨#[]⟩, .string ⟨#[]⟩, .slice none 0 0, .int .i64 0, .int .i64 0] 34) = W0 at *
        go_wp2_with fail
        refine (HBG.out _).mono ?_
        rintro e w1 ⟨rfl, rfl⟩
        go_wp2_with fail
        refine (HOP2.out _).mono ?_
        rintro e w2 ⟨⟨q, n, t, oo, om, oc, f, u, rfl⟩, b2⟩
        have HT2 := Lib.hid (HT0.out.below b2 HT0.out.lt)
        have HB2 := Lib.hid (HB0.out.trans (b2.mono HB0.out.size))
        clear b2
        have r0 := HT2.out.cell 0
        have f0 := HT2.out.frozen 0
        have r1 := HT2.out.cell 1
        have f1 := HT2.out.frozen 1
        have r2 := HT2.out.cell 2
        have f2 := HT2.out.frozen 2
        have r3 := HT2.out.cell 3
        have f3 := HT2.out.frozen 3
        have r4 := HT2.out.cell 4
        have f4 := HT2.out.frozen 4
        have r5 := HT2.out.cell 5
        have f5 := HT2.out.frozen 5
        go_wp2_with fail
        have hF6 := ((((((HT2.out.set_ 0 (.int .u8 q)).set_ 1 (.string n)).set_ 2 (.string t)).set_ 3 (.slice oo om oc)).set_ 4 (.int .i64 f)).set_ 5 (.int .i64 u))
        have s0 : (World.setCell _ _ _).cell? _ = some (.int .u8 q) := hF6.cell 0
        have s1 : (World.setCell _ _ _).cell? _ = some (.string n) := hF6.cell 1
        have s2 : (World.setCell _ _ _).cell? _ = some (.string t) := hF6.cell 2
        have s3 : (World.setCell _ _ _).cell? _ = some (.slice oo om oc) := hF6.cell 3
        have s4 : (World.setCell _ _ _).cell? _ = some (.int .i64 f) := hF6.cell 4
        have s5 : (World.setCell _ _ _).cell? _ = some (.int .i64 u) := hF6.cell 5
        exact bodyPost_ret (v := .tuple #[.agg #[.int .u8 q, .string n, .string t, .slice oo om oc, .int .i64 f, .int .i64 u], .bool false]) (by simp [results, Try.f26, go_sem, s0, s1, s2, s3, s4, s5]) rfl ⟨by rw [HV.out]; exact ⟨_, _, _, _, _, _, _, _, rfl⟩, ((((((HB2.out.setCell (p := ⟨w.heap.size, 0, none⟩) (Nat.le_refl _) _).setCell (p := ⟨w.heap.size, 1, none⟩) (Nat.le_refl _) _).setCell (p := ⟨w.heap.size, 2, none⟩) (Nat.le_refl _) _).setCell (p := ⟨w.heap.size, 3, none⟩) (Nat.le_refl _) _).setCell (p := ⟨w.heap.size, 4, none⟩) (Nat.le_refl _) _).setCell (p := ⟨w.heap.size, 5, none⟩) (Nat.le_refl _) _)⟩
      | some p =>
        obtain ⟨bs, t⟩ := p
        have HV : Hid (O = some ⟨111, N, [], bs, k, t⟩) := HO2.out
        have HOP2 : Hid (∀ w, Calls Try.prog 41 #[.string s, .int .i64 k] w fun e w' => (∃ av cs, e = .returned (.tuple #[.agg #[.int .u8 111, .string x, .string ⟨#[]⟩, av, .int .i64 k, .int .i64 t], .bool true]) ∧ RowG w' (fun b => w.heap.size ≤ b) av bs.length cs ∧ AttsC true bs cs) ∧ Below w.heap.size w w') := HOP.out
        clear HOP
        go_enter Try.func26, Try.ntmps26
        go_upto_region 1 with fail
        generalize w.alloc (.cells #[.int .u8 0, .string ⟨#[]⟩, .string ⟨#[]⟩, .slice none 0 0, .int .i64 0, .int .i64 0] 34) = W0 at *
        go_wp2_with fail
        refine (HBG.out _).mono ?_
        rintro e w1 ⟨rfl, rfl⟩
        go_wp2_with fail
        refine (HOP2.out _).mono ?_
        rintro e w2 ⟨⟨av, ds, rfl, hrw, hac⟩, b2⟩
        obtain ⟨oo, oc, rfl⟩ := rowG_len hrw
        have HRW : Hid (RowG w2 (fun b => w.heap.size + 1 ≤ b) (.slice oo bs.length oc) bs.length ds) := hrw.mono fun b hb hl => ⟨by have := HS0.out; omega, hl, rfl⟩
        have HAC := Lib.hid hac
        obtain ⟨om, hom⟩ : ∃ om, bs.length = om := ⟨_, rfl⟩
        have HOM := Lib.hid hom
        rw [hom] at HRW ⊢
        have HT2 := Lib.hid (HT0.out.below b2 HT0.out.lt)
        have HB2 := Lib.hid (HB0.out.trans (b2.mono HB0.out.size))
        clear b2 hrw hac hom
        have r0 := HT2.out.cell 0
        have f0 := HT2.out.frozen 0
        have r1 := HT2.out.cell 1
        have f1 := HT2.out.frozen 1
        have r2 := HT2.out.cell 2
        have f2 := HT2.out.frozen 2
        have r3 := HT2.out.cell 3
        have f3 := HT2.out.frozen 3
        have r4 := HT2.out.cell 4
        have f4 := HT2.out.frozen 4
        have r5 := HT2.out.cell 5
        have f5 := HT2.out.frozen 5
        go_wp2_with fail
        rw [← HOM.out] at HRW
        have hF7 : ∀ b, b ≠ w.heap.size → ((((((w2.setCell ⟨w.heap.size, 0, none⟩ (.int .u8 111)).setCell ⟨w.heap.size, 1, none⟩ (.string x)).setCell ⟨w.heap.size, 2, none⟩ (.string ⟨#[]⟩)).setCell ⟨w.heap.size, 3, none⟩ (.slice oo om oc)).setCell ⟨w.heap.size, 4, none⟩ (.int .i64 k)).setCell ⟨w.heap.size, 5, none⟩ (.int .i64 t)).heap[b]? = w2.heap[b]? := fun b hb => by
          iterate 6 rw [Below.heap_setCell _ _ _ b hb]
        have hF6 := ((((((HT2.out.set_ 0 (.int .u8 111)).set_ 1 (.string x)).set_ 2 (.string ⟨#[]⟩)).set_ 3 (.slice oo om oc)).set_ 4 (.int .i64 k)).set_ 5 (.int .i64 t))
        have s0 : (World.setCell _ _ _).cell? _ = some (.int .u8 111) := hF6.cell 0
        have s1 : (World.setCell _ _ _).cell? _ = some (.string x) := hF6.cell 1
        have s2 : (World.setCell _ _ _).cell? _ = some (.string ⟨#[]⟩) := hF6.cell 2
        have s3 : (World.setCell _ _ _).cell? _ = some (.slice oo om oc) := hF6.cell 3
        have s4 : (World.setCell _ _ _).cell? _ = some (.int .i64 k) := hF6.cell 4
        have s5 : (World.setCell _ _ _).cell? _ = some (.int .i64 t) := hF6.cell 5
        exact bodyPost_ret (v := .tuple #[.agg #[.int .u8 111, .string x, .string ⟨#[]⟩, .slice oo om oc, .int .i64 k, .int .i64 t], .bool true]) (by simp [results, Try.f26, go_sem, s0, s1, s2, s3, s4, s5]) rfl ⟨by rw [HV.out]; exact ⟨_, ds, by rw [← HX.out, ← HOM.out]; rfl, RowG.mono (ok := fun b => w.heap.size + 1 ≤ b) (fun b hb hl => ⟨by omega, by simp [World.setCell]; exact hl, hF7 b (by omega)⟩) HRW.out, HAC.out⟩, ((((((HB2.out.setCell (p := ⟨w.heap.size, 0, none⟩) (Nat.le_refl _) _).setCell (p := ⟨w.heap.size, 1, none⟩) (Nat.le_refl _) _).setCell (p := ⟨w.heap.size, 2, none⟩) (Nat.le_refl _) _).setCell (p := ⟨w.heap.size, 3, none⟩) (Nat.le_refl _) _).setCell (p := ⟨w.heap.size, 4, none⟩) (Nat.le_refl _) _).setCell (p := ⟨w.heap.size, 5, none⟩) (Nat.le_refl _) _)⟩
    · have hx2 : (((bt s.data.toList k : Nat) : Int) != 60) = true := by simp; omega
      have HSY := Lib.hid (fun w => rsays s k 60 62 w (by omega) hs)
      have HO2 : Hid (O = (sayJ 60 62 (s.data.toList.drop k)).map fun p => ⟨116, [], p.1, [], k, k + p.2⟩) := by show _ = _; rw [HO.out, if_neg (by rw [hcl]; decide), if_neg h60]
      obtain ⟨c, hc⟩ : ∃ c, bt s.data.toList k = c := ⟨_, rfl⟩
      rw [hc] at hx hx2 y0
      clear hcl HO HCF h60 hc
      cases hsj : sayJ 60 62 (s.data.toList.drop k) with
      | none =>
        rw [hsj] at HO2
        simp only [hsj] at HSY
        have HV : Hid (O = none) := HO2.out
        have HSY2 : Hid (∀ w, Calls Try.prog 39 #[.string s, .int .i64 k, .int .u8 60, .int .u8 62] w fun e w' => e = .returned (.tuple #[.string ⟨#[]⟩, .int .i64 0, .bool false]) ∧ Below w.heap.size w w') := HSY.out
        clear HSY hsj
        go_enter Try.func26, Try.ntmps26
        go_upto_region 1 with fail
        generalize w.alloc (.cells #[.int .u8 0, .string ⟨#[]⟩, .string ⟨#[]⟩, .slice none 0 0, .int .i64 0, .int .i64 0] 34) = W0 at *
        go_wp2_with fail
        refine (HSY2.out _).mono ?_
        rintro e w2 ⟨rfl, b2⟩
        have HT2 := Lib.hid (HT0.out.below b2 HT0.out.lt)
        have HB2 := Lib.hid (HB0.out.trans (b2.mono HB0.out.size))
        clear b2
        have r0 := HT2.out.cell 0
        have f0 := HT2.out.frozen 0
        have r1 := HT2.out.cell 1
        have f1 := HT2.out.frozen 1
        have r2 := HT2.out.cell 2
        have f2 := HT2.out.frozen 2
        have r3 := HT2.out.cell 3
        have f3 := HT2.out.frozen 3
        have r4 := HT2.out.cell 4
        have f4 := HT2.out.frozen 4
        have r5 := HT2.out.cell 5
        have f5 := HT2.out.frozen 5
        go_wp2_with fail
        have hF6 := ((((((HT2.out.set_ 0 (.int .u8 116)).set_ 1 (.string ⟨#[]⟩)).set_ 2 (.string ⟨#[]⟩)).set_ 3 (.slice none 0 0)).set_ 4 (.int .i64 k)).set_ 5 (.int .i64 0))
        have s0 : (World.setCell _ _ _).cell? _ = some (.int .u8 116) := hF6.cell 0
        have s1 : (World.setCell _ _ _).cell? _ = some (.string ⟨#[]⟩) := hF6.cell 1
        have s2 : (World.setCell _ _ _).cell? _ = some (.string ⟨#[]⟩) := hF6.cell 2
        have s3 : (World.setCell _ _ _).cell? _ = some (.slice none 0 0) := hF6.cell 3
        have s4 : (World.setCell _ _ _).cell? _ = some (.int .i64 k) := hF6.cell 4
        have s5 : (World.setCell _ _ _).cell? _ = some (.int .i64 0) := hF6.cell 5
        exact bodyPost_ret (v := .tuple #[.agg #[.int .u8 116, .string ⟨#[]⟩, .string ⟨#[]⟩, .slice none 0 0, .int .i64 k, .int .i64 0], .bool false]) (by simp [results, Try.f26, go_sem, s0, s1, s2, s3, s4, s5]) rfl ⟨by rw [HV.out]; exact ⟨_, _, _, _, _, _, _, _, rfl⟩, ((((((HB2.out.setCell (p := ⟨w.heap.size, 0, none⟩) (Nat.le_refl _) _).setCell (p := ⟨w.heap.size, 1, none⟩) (Nat.le_refl _) _).setCell (p := ⟨w.heap.size, 2, none⟩) (Nat.le_refl _) _).setCell (p := ⟨w.heap.size, 3, none⟩) (Nat.le_refl _) _).setCell (p := ⟨w.heap.size, 4, none⟩) (Nat.le_refl _) _).setCell (p := ⟨w.heap.size, 5, none⟩) (Nat.le_refl _) _)⟩
      | some p =>
        obtain ⟨v, m⟩ := p
        rw [hsj] at HO2
        simp only [hsj] at HSY
        have HV : Hid (O = some ⟨116, [], v, [], k, k + m⟩) := HO2.out
        obtain ⟨vv, hvv⟩ : ∃ vv, strOf v = vv := ⟨_, rfl⟩
        have HVV := Lib.hid hvv
        have HSY2 : Hid (∀ w, Calls Try.prog 39 #[.string s, .int .i64 k, .int .u8 60, .int .u8 62] w fun e w' => e = .returned (.tuple #[.string vv, .int .i64 ((k + m : Nat) : Int), .bool true]) ∧ Below w.heap.size w w') := by rw [← hvv]; exact HSY.out
        clear HSY hsj hvv
        obtain ⟨E, hE⟩ : ∃ E : Int, ((k + m : Nat) : Int) = E := ⟨_, rfl⟩
        rw [hE] at HSY2
        have HE := Lib.hid hE
        clear hE
        go_enter Try.func26, Try.ntmps26
        go_upto_region 1 with fail
        generalize w.alloc (.cells #[.int .u8 0, .string ⟨#[]⟩, .string ⟨#[]⟩, .slice none 0 0, .int .i64 0, .int .i64 0] 34) = W0 at *
        go_wp2_with fail
        refine (HSY2.out _).mono ?_
        rintro e w2 ⟨rfl, b2⟩
        have HT2 := Lib.hid (HT0.out.below b2 HT0.out.lt)
        have HB2 := Lib.hid (HB0.out.trans (b2.mono HB0.out.size))
        clear b2
        have r0 := HT2.out.cell 0
        have f0 := HT2.out.frozen 0
        have r1 := HT2.out.cell 1
        have f1 := HT2.out.frozen 1
        have r2 := HT2.out.cell 2
        have f2 := HT2.out.frozen 2
        have r3 := HT2.out.cell 3
        have f3 := HT2.out.frozen 3
        have r4 := HT2.out.cell 4
        have f4 := HT2.out.frozen 4
        have r5 := HT2.out.cell 5
        have f5 := HT2.out.frozen 5
        go_wp2_with fail
        have hF6 := ((((((HT2.out.set_ 0 (.int .u8 116)).set_ 1 (.string ⟨#[]⟩)).set_ 2 (.string vv)).set_ 3 (.slice none 0 0)).set_ 4 (.int .i64 k)).set_ 5 (.int .i64 E))
        have s0 : (World.setCell _ _ _).cell? _ = some (.int .u8 116) := hF6.cell 0
        have s1 : (World.setCell _ _ _).cell? _ = some (.string ⟨#[]⟩) := hF6.cell 1
        have s2 : (World.setCell _ _ _).cell? _ = some (.string vv) := hF6.cell 2
        have s3 : (World.setCell _ _ _).cell? _ = some (.slice none 0 0) := hF6.cell 3
        have s4 : (World.setCell _ _ _).cell? _ = some (.int .i64 k) := hF6.cell 4
        have s5 : (World.setCell _ _ _).cell? _ = some (.int .i64 E) := hF6.cell 5
        exact bodyPost_ret (v := .tuple #[.agg #[.int .u8 116, .string ⟨#[]⟩, .string vv, .slice none 0 0, .int .i64 k, .int .i64 E], .bool true]) (by simp [results, Try.f26, go_sem, s0, s1, s2, s3, s4, s5]) rfl ⟨by rw [HV.out]; exact ⟨_, [], by rw [← HVV.out, ← HE.out]; rfl, .inl ⟨_, _, rfl, rfl, rfl⟩, rfl⟩, ((((((HB2.out.setCell (p := ⟨w.heap.size, 0, none⟩) (Nat.le_refl _) _).setCell (p := ⟨w.heap.size, 1, none⟩) (Nat.le_refl _) _).setCell (p := ⟨w.heap.size, 2, none⟩) (Nat.le_refl _) _).setCell (p := ⟨w.heap.size, 3, none⟩) (Nat.le_refl _) _).setCell (p := ⟨w.heap.size, 4, none⟩) (Nat.le_refl _) _).setCell (p := ⟨w.heap.size, 5, none⟩) (Nat.le_refl _) _)⟩
end Go.Proofs.Ytlogjghbdnaedaa

/- Walks: the document's Tokens (chapter 11). -/
namespace Go.Proofs.Ytlogjghbdnaedaa
open Go.RowKit
set_option linter.unusedVariables false
set_option linter.unusedSimpArgs false
set_option maxRecDepth 100000 in
set_option maxHeartbeats 16000000 in
theorem rtokens11 (s : ByteArray) (w : World) (hs : s.size ≤ 1000000) :
    Calls Try.prog 9 #[.string s] w fun e w' => TokT (tagsJ s.data.toList) w.heap.size e w' ∧ Below w.heap.size w w' := by
  have HL := Lib.hid (sz_len s)
  have HIS := Lib.hid (fun w => ris_any s w (by omega))
  obtain ⟨o, ho⟩ : ∃ o, tagsJ s.data.toList = o := ⟨_, rfl⟩
  rw [ho]
  have HO := Lib.hid ho
  clear ho
  cases hg : good s.data.toList with
  | false =>
    have HV : Hid (o = none) := by show _ = _; rw [← HO.out]; unfold tagsJ; rw [hg, if_neg (by decide)]
    rw [hg] at HIS
    clear hg
    go_enter Try.func9, Try.ntmps9
    go_wp2_with fail
    refine (HIS.out _).mono ?_
    rintro e w2 ⟨rfl, b2⟩
    go_wp2_with fail
    go_ret2
    exact ⟨by rw [HV.out]; rfl, b2⟩
  | true =>
    have HV0 : Hid (o = tgsAt s.data.toList 0) := by show _ = _; rw [← HO.out]; unfold tagsJ; rw [hg, if_pos rfl]
    rw [hg] at HIS
    clear hg HO
    go_enter Try.func9, Try.ntmps9
    go_wp2_with fail
    refine (HIS.out _).mono ?_
    rintro e w2 ⟨rfl, b2⟩
    have HB2 := Lib.hid b2
    clear b2 HIS
    go_wp2_with fail
    go_loopw [4, 5] (fun v z wr => ∃ (j : Nat) (ts : List Tg) (cs : List Value), z = .int .i64 j ∧ j ≤ s.size ∧ ts.length ≤ j ∧ o = (tgsAt s.data.toList j).map (ts ++ ·) ∧ CpT 34 w v true ts cs wr) (fun _ z _ => s.size - (intOf z).toNat)
    case atStart => exact ⟨0, [], [], rfl, Nat.zero_le _, by simp, by rw [HV0.out]; simp, ⟨⟨by simp, .inr ⟨w2.heap.size, 0, #[], rfl, HB2.out.size, World.alloc_heap_new _ _, by simp⟩⟩, rfl, HB2.out.alloc HB2.out.size _⟩⟩
    case round =>
      obtain ⟨wo, rfl⟩ : ∃ wo, wo = wr := ⟨_, rfl⟩
      obtain ⟨j, ts, cs, rfl, hj, htl, ho, hm⟩ := hrel
      have HOJ := Lib.hid ho
      have HM := Lib.hid hm
      obtain ⟨o6, m6, c6, rfl⟩ := own_shapeT hm.ow
      clear ho hm HV0 HB2
      by_cases hlt : j < s.size
      · have HNX := Lib.hid (fun w => rone s j w hlt hs)
        have HST := Lib.hid (tgsAt_step (l := s.data.toList) (k := j) (by rw [← sz_len]; exact hlt))
        cases hone : oneG s.data.toList j with
        | none =>
          rw [hone] at HST
          simp only [hone] at HNX
          have HV : Hid (o = none) := by show _ = _; rw [HOJ.out, HST.out]; rfl
          have HNX2 : Hid (∀ w, Calls Try.prog 26 #[.string s, .int .i64 j] w fun e w' => (∃ (q : Int) (n t : ByteArray) (o : Option Addr) (m c : Nat) (f u : Int), e = .returned (.tuple #[.agg #[.int .u8 q, .string n, .string t, .slice o m c, .int .i64 f, .int .i64 u], .bool false])) ∧ Below w.heap.size w w') := HNX.out
          clear hone HST HNX HOJ
          go_wp2_with fail
          refine (HNX2.out _).mono ?_
          rintro e w4 ⟨⟨qa, qn, qt, qo, qm, qc, qf, qu, rfl⟩, b4⟩
          have HB4 := Lib.hid (HM.out.bel.trans (b4.mono HM.out.bel.size))
          clear b4
          go_wp2_with fail
          go_ret2
          exact ⟨by rw [HV.out]; rfl, HB4.out.alloc HB4.out.size _⟩
        | some t =>
          rw [hone] at HST
          simp only [hone] at HNX
          have hta := oneG_at (by rw [← sz_len]; exact hlt) hone
          have hto := hta.le
          rw [← HL.out] at hto
          have htj := hta.lt
          have HOJ2 : Hid (o = (tgsAt s.data.toList t.to).map (ts ++ [t] ++ ·)) := by
            show _ = _
            rw [HOJ.out, HST.out]
            dsimp only
            cases tgsAt s.data.toList t.to with
            | none => rfl
            | some us => simp
          have HNX2 : Hid (∀ w, Calls Try.prog 26 #[.string s, .int .i64 j] w fun e w' => (∃ av ds, e = .returned (.tuple #[.agg #[.int .u8 t.kind, .string (strOf t.name), .string (strOf t.text), av, .int .i64 t.frm, .int .i64 t.to], .bool true]) ∧ RowG w' (fun b => w.heap.size ≤ b) av t.atts.length ds ∧ AttsC true t.atts ds) ∧ Below w.heap.size w w') := HNX.out
          clear hone HST HNX HOJ hta
          go_wp2_with fail
          refine (HNX2.out _).mono ?_
          rintro e w4 ⟨⟨av, ds, rfl, hrow, hat⟩, b4⟩
          obtain ⟨ro, rc, rfl⟩ := rowG_len hrow
          have hM4 := HM.out.bel_ b4
          have hvl := fun b hb => (HM.out.ow.lt b hb).2
          have hsz := HM.out.bel.size
          have hnew : TgV w4 (fun b => w.heap.size ≤ b ∧ (Value.slice o6 m6 c6).ownBlock ≠ some b) true t (.agg #[.int .u8 t.kind, .string (strOf t.name), .string (strOf t.text), .slice ro t.atts.length rc, .int .i64 t.frm, .int .i64 t.to]) :=
            ⟨_, _, _, ds, rfl, PlG.exact_, RowG.mono (ok := fun b => wo.heap.size ≤ b) (fun b hb hl => ⟨⟨by omega, fun e => by have := hvl b e; omega⟩, hl, rfl⟩) hrow, hat⟩
          obtain ⟨n1, hn1⟩ : ∃ n1, strOf t.name = n1 := ⟨_, rfl⟩
          obtain ⟨n2, hn2⟩ : ∃ n2, strOf t.text = n2 := ⟨_, rfl⟩
          rw [hn1, hn2] at hnew ⊢
          have HM5 := Lib.hid (hM4.bel_ ((Below.refl _ _).alloc (Nat.le_refl _) (.cells #[.int .u8 t.kind, .string n1, .string n2, .slice ro t.atts.length rc, .int .i64 t.frm, .int .i64 t.to] 34)))
          have HNW := Lib.hid (tgV_below hnew ((Below.refl _ _).alloc (Nat.le_refl _) (.cells #[.int .u8 t.kind, .string n1, .string n2, .slice ro t.atts.length rc, .int .i64 t.frm, .int .i64 t.to] 34)))
          have HD5 := Lib.hid (Blk.new w4 34 #[.int .u8 t.kind, .string n1, .string n2, .slice ro t.atts.length rc, .int .i64 t.frm, .int .i64 t.to])
          have HVD : Hid ((Value.slice o6 m6 c6).ownBlock ≠ some w4.heap.size) := fun h => by have := (hM4.ow.lt _ h).2; omega
          clear b4 hrow hat hM4 hnew HM HNX2 hvl hsz hn1 hn2
          go_upto_region 7 with fail
          generalize hW5 : w4.alloc (.cells #[.int .u8 t.kind, .string n1, .string n2, .slice ro t.atts.length rc, .int .i64 t.frm, .int .i64 t.to] 34) = W5 at *
          generalize hD : w4.heap.size = D at *
          clear hW5 hD
          obtain ⟨i0, hi, hz0, hz1, hz2⟩ := info_parts infoGR
          have e3 : ts.length + 1 ≤ maxLen := by unfold maxLen; omega
          have e4 : (ts.length + 1) * 80 ≤ 140737488355328 := by omega
          have e5 : w.heap.size ≤ (W5.alloc (.cells #[.int .u8 t.kind, .string n1, .string n2, .slice ro t.atts.length rc, .int .i64 t.frm, .int .i64 t.to] 34)).heap.size := by have := HM5.out.bel.size; simp; omega
          have hnc := HM5.out.ow.alloc (.cells #[.int .u8 t.kind, .string n1, .string n2, .slice ro t.atts.length rc, .int .i64 t.frm, .int .i64 t.to] 34)
          have d0 := HD5.out.cell 0
          have d1 := HD5.out.cell 1
          have d2 := HD5.out.cell 2
          have d3 := HD5.out.cell 3
          have d4 := HD5.out.cell 4
          have d5 := HD5.out.cell 5
          go_wp2_with (at_builtin; refine wpList_append_lies _ rfl _ _ 27 rfl w.heap.size 34 i0 zeroGT 6 80 Try.underlying27 hi hz0 hz1 hz2 rfl (by decide) (.slice o6 m6 c6) ts.length cs rfl hnc ⟨W5.heap.size, 0, none⟩ 1 1 [.int .u8 t.kind, .string n1, .string n2, .slice ro t.atts.length rc, .int .i64 t.frm, .int .i64 t.to] rfl rfl (cells_newT W5 #[.int .u8 t.kind, .string n1, .string n2, .slice ro t.atts.length rc, .int .i64 t.frm, .int .i64 t.to] _) (by simp [Value.oneCell']) (by omega) e3 e4 e5 (W5.heap.size + 1) (by simp) ?_; intro g3 cap3 w5 hown3 hgrow3 hfr3 hlt3; have hD3 : Blk w5 D 34 #[.int .u8 t.kind, .string n1, .string n2, .slice ro t.atts.length rc, .int .i64 t.frm, .int .i64 t.to] := (hgrow3.block D (by have := HD5.out.lt; simp; omega) (fun h => HVD.out h.symm)).trans (HD5.out.alloc _); have m5 := hD3.cell 5)
          have HM6 := Lib.hid (HM5.out.tok HNW.out hown3 hgrow3 hfr3)
          go_roundw
          case rel => exact ⟨t.to, ts ++ [t], _, rfl, hto, by rw [List.length_append]; simp; omega, HOJ2.out, HM6.out⟩
          case measure => simp [intOf]; omega
      · have HV : Hid (o = some ts) := by
          show _ = _
          rw [HOJ.out, tgsAt_end (by rw [← HL.out]; omega)]; simp
        clear HOJ
        go_wp2_with fail
        go_ret2
        exact ⟨by rw [HV.out]; exact ⟨_, rfl, HM.out.done⟩, HM.out.bel⟩
end Go.Proofs.Ytlogjghbdnaedaa

/- Walks: the law's places, of rows that stand where they are meant (chapter 11). -/
namespace Go.Proofs.Ytlogjghbdnaedaa
open Go.RowKit
set_option linter.unusedVariables false
set_option linter.unusedSimpArgs false
set_option maxRecDepth 100000 in
set_option maxHeartbeats 16000000 in
theorem places_any (ts : List Tg) (ok ok' : Nat → Prop) (v v' : Value) (w : World) (h1 : TgsV w ok true ts v) (h2 : TgsV w ok' true ts v') (la : ts.length ≤ 10000000000000) (lz : ∀ t ∈ ts, t.atts.length ≤ 10000000000000) :
    Calls Try.prog 12 #[v, v'] w fun e w' => e = .returned (.bool true) ∧ Below w.heap.size w w' := by
  obtain ⟨o2, c2, rfl⟩ := tgsV_len h1
  obtain ⟨o4, c4, rfl⟩ := tgsV_len h2
  have HTA := Lib.hid h1
  have HTB := Lib.hid h2
  have HLA := Lib.hid lz
  clear h1 h2 lz
  go_enter Try.func12, Try.ntmps12
  go_wp2_with fail
  go_loopw [5] (fun z wr => ∃ i : Nat, z = .int .i64 i ∧ i ≤ ts.length ∧ Below w.heap.size w wr) (fun z _ => ts.length - (intOf z).toNat)
  case atStart => exact ⟨0, rfl, Nat.zero_le _, Below.refl _ _⟩
  case round =>
    obtain ⟨wo, rfl⟩ : ∃ wo, wo = wr := ⟨_, rfl⟩
    obtain ⟨i, rfl, hi, hb⟩ := hrel
    have HB := Lib.hid hb
    clear hb
    by_cases hlt : i < ts.length
    · obtain ⟨a, hta⟩ : ∃ a, ts[i]? = some a := ⟨_, List.getElem?_eq_getElem hlt⟩
      obtain ⟨ga, oa, _, xd, xe, xf, hv, hga, _, _, _, p3, p4, p5, hpl, rs, hrrow, hrac⟩ := tg_at HTA.out hta HB.out
      simp only [Value.slice.injEq] at hv
      obtain ⟨rfl, _, hcc⟩ := hv
      clear hcc
      obtain ⟨x4, x5, rfl, rfl, hxy⟩ := hpl
      obtain ⟨rfl, rfl⟩ := hxy rfl
      obtain ⟨ra, rc, rfl⟩ := rowG_len hrrow
      obtain ⟨gb, ob, _, xd, xe, xf, hv, hgb, _, _, _, k3, k4, k5, hpl, ss, hsrow, hsac⟩ := tg_at HTB.out hta HB.out
      simp only [Value.slice.injEq] at hv
      obtain ⟨rfl, _, hcc⟩ := hv
      clear hcc
      obtain ⟨u4, u5, rfl, rfl, hxy⟩ := hpl
      obtain ⟨rfl, rfl⟩ := hxy rfl
      obtain ⟨sa, sc, rfl⟩ := rowG_len hsrow
      have hga2 : ga < wo.heap.size := Nat.lt_of_lt_of_le hga HB.out.size
      have hgb2 : gb < wo.heap.size := Nat.lt_of_lt_of_le hgb HB.out.size
      have hla := HLA.out a (mem_get hta)
      have HRA := Lib.hid hrrow
      have HRB := Lib.hid hsrow
      have HCA := Lib.hid hrac
      have HCB := Lib.hid hsac
      generalize a.frm = fr at *
      generalize a.to = tt at *
      have HK : Hid (∀ w', Below wo.heap.size wo w' → w'.cell? ⟨ga, oa + i * 6 + 3, none⟩ = some (.slice ra a.atts.length rc) ∧ w'.cell? ⟨gb, ob + i * 6 + 3, none⟩ = some (.slice sa a.atts.length sc)) := fun w' h => ⟨(h.cell (p := ⟨ga, oa + i * 6 + 3, none⟩) hga2).trans p3, (h.cell (p := ⟨gb, ob + i * 6 + 3, none⟩) hgb2).trans k3⟩
      have HC : Hid (wo.cell? ⟨ga, oa + i * 6 + 4, none⟩ = some (.int .i64 fr) ∧ wo.cell? ⟨ga, oa + i * 6 + 5, none⟩ = some (.int .i64 tt) ∧ wo.cell? ⟨gb, ob + i * 6 + 4, none⟩ = some (.int .i64 fr) ∧ wo.cell? ⟨gb, ob + i * 6 + 5, none⟩ = some (.int .i64 tt)) := ⟨p4, p5, k4, k5⟩
      clear hrrow hsrow hrac hsac p3 p4 p5 k3 k4 k5 hta
      go_upto_region 4 with fail
      go_region_held3 (fun w' => w'.cell? ⟨ga, oa + i * 6 + 4, none⟩ = some (.int .i64 fr) ∧ w'.cell? ⟨ga, oa + i * 6 + 5, none⟩ = some (.int .i64 tt) ∧ w'.cell? ⟨gb, ob + i * 6 + 4, none⟩ = some (.int .i64 fr) ∧ w'.cell? ⟨gb, ob + i * 6 + 5, none⟩ = some (.int .i64 tt)) (exact HC.out) (fail)
      clear HC
      have HBd : Hid (Below wo.heap.size wo wo.drew) := below_drewT (Below.refl _ _)
      obtain ⟨W4, hW4⟩ : ∃ W4, wo.drew = W4 := ⟨_, rfl⟩
      rw [hW4] at HBd ⊢
      clear hW4
      go_wp2_with fail
      go_loopw [6] (fun z wr => ∃ k : Nat, z = .int .i64 k ∧ k ≤ a.atts.length ∧ Below wo.heap.size wo wr) (fun z _ => a.atts.length - (intOf z).toNat)
      case atStart => exact ⟨0, rfl, Nat.zero_le _, HBd.out⟩
      case round =>
        clear HBd
        obtain ⟨wi, rfl⟩ : ∃ wi, wi = wr := ⟨_, rfl⟩
        obtain ⟨k, rfl, hk, hb2⟩ := hrel
        have HB2 := Lib.hid hb2
        obtain ⟨c3, d3⟩ := HK.out wi hb2
        clear hb2
        by_cases hkl : k < a.atts.length
        · obtain ⟨p, hap⟩ : ∃ p, a.atts[k]? = some p := ⟨_, List.getElem?_eq_getElem hkl⟩
          obtain ⟨ha, pa, _, _, _, hva, hgal, _, _, r2, r3, y2, y3, rfl, rfl, hy⟩ := att_at HRA.out HCA.out hap HB2.out
          obtain ⟨rfl, rfl⟩ := hy rfl
          simp only [Value.slice.injEq] at hva
          obtain ⟨rfl, _, hcc⟩ := hva
          clear hcc
          obtain ⟨hb1, pb, _, _, _, hvb, hgbl, _, _, v2, v3, y2, y3, rfl, rfl, hy⟩ := att_at HRB.out HCB.out hap HB2.out
          obtain ⟨rfl, rfl⟩ := hy rfl
          simp only [Value.slice.injEq] at hvb
          obtain ⟨rfl, _, hcc⟩ := hvb
          clear hcc
          generalize p.frm = pf at *
          generalize p.to = pt at *
          have HC : Hid (wi.cell? ⟨ga, oa + i * 6 + 3, none⟩ = some (.slice (some ⟨ha, pa, none⟩) a.atts.length rc) ∧ wi.cell? ⟨gb, ob + i * 6 + 3, none⟩ = some (.slice (some ⟨hb1, pb, none⟩) a.atts.length sc) ∧ wi.cell? ⟨ha, pa + k * 4 + 2, none⟩ = some (.int .i64 pf) ∧ wi.cell? ⟨ha, pa + k * 4 + 3, none⟩ = some (.int .i64 pt) ∧ wi.cell? ⟨hb1, pb + k * 4 + 2, none⟩ = some (.int .i64 pf) ∧ wi.cell? ⟨hb1, pb + k * 4 + 3, none⟩ = some (.int .i64 pt)) := ⟨c3, d3, r2, r3, v2, v3⟩
          clear hap r2 r3 v2 v3
          go_upto_region 9 with fail
          go_region_held3 (fun w' => w'.cell? ⟨ga, oa + i * 6 + 3, none⟩ = some (.slice (some ⟨ha, pa, none⟩) a.atts.length rc) ∧ w'.cell? ⟨gb, ob + i * 6 + 3, none⟩ = some (.slice (some ⟨hb1, pb, none⟩) a.atts.length sc) ∧ w'.cell? ⟨ha, pa + k * 4 + 2, none⟩ = some (.int .i64 pf) ∧ w'.cell? ⟨ha, pa + k * 4 + 3, none⟩ = some (.int .i64 pt) ∧ w'.cell? ⟨hb1, pb + k * 4 + 2, none⟩ = some (.int .i64 pf) ∧ w'.cell? ⟨hb1, pb + k * 4 + 3, none⟩ = some (.int .i64 pt)) (exact HC.out) (fail)
          go_wp2_with fail
          go_roundw
          case rel => exact ⟨k + 1, by go_num, hkl, below_drewT HB2.out⟩
          case measure => simp [intOf]; omega
        · go_wp2_with fail
          go_roundw
          case rel => exact ⟨i + 1, by go_num, hlt, HB.out.trans (HB2.out.mono HB.out.size)⟩
          case measure => simp [intOf]; omega
    · go_wp2_with fail
      go_ret
      exact ⟨rfl, HB.out⟩
end Go.Proofs.Ytlogjghbdnaedaa

/- Walks: what chapter 6 writes; few (chapter 11). -/
namespace Go.Proofs.Ytlogjghbdnaedaa
open Go.RowKit
set_option linter.unusedVariables false
set_option linter.unusedSimpArgs false
theorem escE_cases (attr : Bool) (c : UInt8) : (c = 38 ∧ escE attr c = [38, 97, 109, 112, 59]) ∨ (c = 60 ∧ escE attr c = [38, 108, 116, 59]) ∨ (c = 62 ∧ escE attr c = [38, 103, 116, 59]) ∨ (c = 34 ∧ escE attr c = [38, 113, 117, 111, 116, 59]) ∨ (c = 39 ∧ escE attr c = [38, 35, 51, 57, 59]) ∨ (attr = true ∧ c = 9 ∧ escE attr c = [38, 35, 57, 59]) ∨ (attr = true ∧ c = 10 ∧ escE attr c = [38, 35, 49, 48, 59]) ∨ ((c ≠ 38 ∧ c ≠ 60 ∧ c ≠ 62 ∧ c ≠ 34 ∧ c ≠ 39 ∧ (attr = false ∨ (c ≠ 9 ∧ c ≠ 10))) ∧ escE attr c = [c]) := by
  have key : ∀ c : UInt8, ∀ n : Nat, n < 256 → (c.toNat = n ↔ c = UInt8.ofNat n) := fun c n hn => ⟨fun h => by rw [← h]; simp, fun h => by rw [h]; simp; omega⟩
  unfold escE
  simp only [key c 38 (by omega), key c 60 (by omega), key c 62 (by omega), key c 34 (by omega), key c 39 (by omega), key c 9 (by omega), key c 10 (by omega)]
  by_cases h1 : c = 38
  · subst h1; simp
  by_cases h2 : c = 60
  · subst h2; simp
  by_cases h3 : c = 62
  · subst h3; simp
  by_cases h4 : c = 34
  · subst h4; simp
  by_cases h5 : c = 39
  · subst h5; simp
  by_cases h6 : attr = true ∧ c = 9
  · obtain ⟨rfl, rfl⟩ := h6; simp
  by_cases h7 : attr = true ∧ c = 10
  · obtain ⟨rfl, rfl⟩ := h7; simp
  · simp [h1, h2, h3, h4, h5]
    cases attr with
    | false => simp
    | true => simp at h6 h7; simp [h6, h7]
set_option maxRecDepth 100000 in
set_option maxHeartbeats 8000000 in
theorem rwritten06 (s : ByteArray) (attr : Bool) (w : World) (hs : s.size ≤ 100000) :
    Calls Try.prog 21 #[.string s, .bool attr] w fun e w' => e = .returned (.string (strOf (wrE attr s.data.toList))) ∧ w = w' := by
  have HL := Lib.hid (sz_len s)
  obtain ⟨o, ho⟩ : ∃ o, wrE attr s.data.toList = o := ⟨_, rfl⟩
  rw [ho]
  have HO := Lib.hid ho
  clear ho
  go_enter Try.func21, Try.ntmps21
  go_wp2_with fail
  go_loop [5, 6] (fun x z => ∃ (j : Nat) (a : List UInt8), z = .int .i64 j ∧ x = .string (strOf a) ∧ j ≤ s.size ∧ a.length ≤ 6 * j ∧ o = a ++ wrE attr (s.data.toList.drop j)) (fun _ z => s.size - (intOf z).toNat)
  case atStart => exact ⟨0, [], rfl, rfl, Nat.zero_le _, by simp, by rw [List.drop_zero, List.nil_append]; exact HO.out.symm⟩
  case round =>
    obtain ⟨j, a, rfl, rfl, hj, hal, hr⟩ := hrel
    have HG := Lib.hid hr
    clear hr
    have hz : (strOf a).size ≤ 600000 := by rw [strOf_size]; omega
    obtain ⟨A, hA⟩ : ∃ A, strOf a = A := ⟨_, rfl⟩
    have HA := Lib.hid hA
    rw [hA] at hz ⊢
    clear hA
    by_cases hlt : j < s.size
    · have HEX := Lib.hid (ext_one hlt)
      have hl : j < s.data.toList.length := by rw [← HL.out]; exact hlt
      have hdr : s.data.toList.drop j = UInt8.ofNat (bt s.data.toList j) :: s.data.toList.drop (j + 1) := by rw [List.drop_eq_getElem_cons hl, ← bt_get hl]; simp
      obtain ⟨c, hc⟩ : ∃ c, UInt8.ofNat (bt s.data.toList j) = c := ⟨_, rfl⟩
      rw [hc] at HEX hdr
      have HST : Hid (o = (a ++ escE attr c) ++ wrE attr (s.data.toList.drop (j + 1))) := by
        show _ = _
        rw [HG.out, hdr, wrE_cons, List.append_assoc]
      have hel := (escE_len attr c).2
      have hxl : (s.extract j (j + 1)).toList = [c] := by rw [HEX.out, ByteArray.toList_eq, strOf_list]
      have hxz : (s.extract j (j + 1)).size ≤ 1 := by rw [HEX.out, strOf_size]; simp
      have HXE := Lib.hid HEX.out
      clear hdr hc hl HG HEX
      have HAC := Lib.hid (escE_cases attr c)
      rcases HAC.out with ⟨rfl, he⟩ | ⟨rfl, he⟩ | ⟨rfl, he⟩ | ⟨rfl, he⟩ | ⟨rfl, he⟩ | ⟨rfl, rfl, he⟩ | ⟨rfl, rfl, he⟩ | ⟨⟨n38, n60, n62, n34, n39, n9⟩, he⟩
      · have t38 : ((s.extract j (j + 1)).toList == [38]) = true := by rw [hxl]; rfl
        have t60 : ((s.extract j (j + 1)).toList == [60]) = false := by rw [hxl]; rfl
        have t62 : ((s.extract j (j + 1)).toList == [62]) = false := by rw [hxl]; rfl
        have t34 : ((s.extract j (j + 1)).toList == [34]) = false := by rw [hxl]; rfl
        have t39 : ((s.extract j (j + 1)).toList == [39]) = false := by rw [hxl]; rfl
        have t9 : ((s.extract j (j + 1)).toList == [9]) = false := by rw [hxl]; rfl
        have t10 : ((s.extract j (j + 1)).toList == [10]) = false := by rw [hxl]; rfl
        cases attr
        all_goals
          rw [he] at HST hel
          have HAX : Hid (A ++ (⟨#[38, 97, 109, 112, 59]⟩ : ByteArray) = strOf (a ++ [38, 97, 109, 112, 59])) := by show _ = _; rw [← HA.out]; exact strOf_appT _ _
          have HEL : Hid ((a ++ [38, 97, 109, 112, 59]).length ≤ 6 * (j + 1)) := by show _ ≤ _; rw [List.length_append]; omega
          clear he hel HAC hxl
          go_wp2_with fail
          go_round
          case rel => exact ⟨j + 1, a ++ [38, 97, 109, 112, 59], by go_num, congrArg Value.string HAX.out, hlt, HEL.out, HST.out⟩
          case measure => simp [intOf]; omega
      · have t38 : ((s.extract j (j + 1)).toList == [38]) = false := by rw [hxl]; rfl
        have t60 : ((s.extract j (j + 1)).toList == [60]) = true := by rw [hxl]; rfl
        have t62 : ((s.extract j (j + 1)).toList == [62]) = false := by rw [hxl]; rfl
        have t34 : ((s.extract j (j + 1)).toList == [34]) = false := by rw [hxl]; rfl
        have t39 : ((s.extract j (j + 1)).toList == [39]) = false := by rw [hxl]; rfl
        have t9 : ((s.extract j (j + 1)).toList == [9]) = false := by rw [hxl]; rfl
        have t10 : ((s.extract j (j + 1)).toList == [10]) = false := by rw [hxl]; rfl
        cases attr
        all_goals
          rw [he] at HST hel
          have HAX : Hid (A ++ (⟨#[38, 108, 116, 59]⟩ : ByteArray) = strOf (a ++ [38, 108, 116, 59])) := by show _ = _; rw [← HA.out]; exact strOf_appT _ _
          have HEL : Hid ((a ++ [38, 108, 116, 59]).length ≤ 6 * (j + 1)) := by show _ ≤ _; rw [List.length_append]; omega
          clear he hel HAC hxl
          go_wp2_with fail
          go_round
          case rel => exact ⟨j + 1, a ++ [38, 108, 116, 59], by go_num, congrArg Value.string HAX.out, hlt, HEL.out, HST.out⟩
          case measure => simp [intOf]; omega
      · have t38 : ((s.extract j (j + 1)).toList == [38]) = false := by rw [hxl]; rfl
        have t60 : ((s.extract j (j + 1)).toList == [60]) = false := by rw [hxl]; rfl
        have t62 : ((s.extract j (j + 1)).toList == [62]) = true := by rw [hxl]; rfl
        have t34 : ((s.extract j (j + 1)).toList == [34]) = false := by rw [hxl]; rfl
        have t39 : ((s.extract j (j + 1)).toList == [39]) = false := by rw [hxl]; rfl
        have t9 : ((s.extract j (j + 1)).toList == [9]) = false := by rw [hxl]; rfl
        have t10 : ((s.extract j (j + 1)).toList == [10]) = false := by rw [hxl]; rfl
        cases attr
        all_goals
          rw [he] at HST hel
          have HAX : Hid (A ++ (⟨#[38, 103, 116, 59]⟩ : ByteArray) = strOf (a ++ [38, 103, 116, 59])) := by show _ = _; rw [← HA.out]; exact strOf_appT _ _
          have HEL : Hid ((a ++ [38, 103, 116, 59]).length ≤ 6 * (j + 1)) := by show _ ≤ _; rw [List.length_append]; omega
          clear he hel HAC hxl
          go_wp2_with fail
          go_round
          case rel => exact ⟨j + 1, a ++ [38, 103, 116, 59], by go_num, congrArg Value.string HAX.out, hlt, HEL.out, HST.out⟩
          case measure => simp [intOf]; omega
      · have t38 : ((s.extract j (j + 1)).toList == [38]) = false := by rw [hxl]; rfl
        have t60 : ((s.extract j (j + 1)).toList == [60]) = false := by rw [hxl]; rfl
        have t62 : ((s.extract j (j + 1)).toList == [62]) = false := by rw [hxl]; rfl
        have t34 : ((s.extract j (j + 1)).toList == [34]) = true := by rw [hxl]; rfl
        have t39 : ((s.extract j (j + 1)).toList == [39]) = false := by rw [hxl]; rfl
        have t9 : ((s.extract j (j + 1)).toList == [9]) = false := by rw [hxl]; rfl
        have t10 : ((s.extract j (j + 1)).toList == [10]) = false := by rw [hxl]; rfl
        cases attr
        all_goals
          rw [he] at HST hel
          have HAX : Hid (A ++ (⟨#[38, 113, 117, 111, 116, 59]⟩ : ByteArray) = strOf (a ++ [38, 113, 117, 111, 116, 59])) := by show _ = _; rw [← HA.out]; exact strOf_appT _ _
          have HEL : Hid ((a ++ [38, 113, 117, 111, 116, 59]).length ≤ 6 * (j + 1)) := by show _ ≤ _; rw [List.length_append]; omega
          clear he hel HAC hxl
          go_wp2_with fail
          go_round
          case rel => exact ⟨j + 1, a ++ [38, 113, 117, 111, 116, 59], by go_num, congrArg Value.string HAX.out, hlt, HEL.out, HST.out⟩
          case measure => simp [intOf]; omega
      · have t38 : ((s.extract j (j + 1)).toList == [38]) = false := by rw [hxl]; rfl
        have t60 : ((s.extract j (j + 1)).toList == [60]) = false := by rw [hxl]; rfl
        have t62 : ((s.extract j (j + 1)).toList == [62]) = false := by rw [hxl]; rfl
        have t34 : ((s.extract j (j + 1)).toList == [34]) = false := by rw [hxl]; rfl
        have t39 : ((s.extract j (j + 1)).toList == [39]) = true := by rw [hxl]; rfl
        have t9 : ((s.extract j (j + 1)).toList == [9]) = false := by rw [hxl]; rfl
        have t10 : ((s.extract j (j + 1)).toList == [10]) = false := by rw [hxl]; rfl
        cases attr
        all_goals
          rw [he] at HST hel
          have HAX : Hid (A ++ (⟨#[38, 35, 51, 57, 59]⟩ : ByteArray) = strOf (a ++ [38, 35, 51, 57, 59])) := by show _ = _; rw [← HA.out]; exact strOf_appT _ _
          have HEL : Hid ((a ++ [38, 35, 51, 57, 59]).length ≤ 6 * (j + 1)) := by show _ ≤ _; rw [List.length_append]; omega
          clear he hel HAC hxl
          go_wp2_with fail
          go_round
          case rel => exact ⟨j + 1, a ++ [38, 35, 51, 57, 59], by go_num, congrArg Value.string HAX.out, hlt, HEL.out, HST.out⟩
          case measure => simp [intOf]; omega
      · have t38 : ((s.extract j (j + 1)).toList == [38]) = false := by rw [hxl]; rfl
        have t60 : ((s.extract j (j + 1)).toList == [60]) = false := by rw [hxl]; rfl
        have t62 : ((s.extract j (j + 1)).toList == [62]) = false := by rw [hxl]; rfl
        have t34 : ((s.extract j (j + 1)).toList == [34]) = false := by rw [hxl]; rfl
        have t39 : ((s.extract j (j + 1)).toList == [39]) = false := by rw [hxl]; rfl
        have t9 : ((s.extract j (j + 1)).toList == [9]) = true := by rw [hxl]; rfl
        have t10 : ((s.extract j (j + 1)).toList == [10]) = false := by rw [hxl]; rfl
        rw [he] at HST hel
        have HAX : Hid (A ++ (⟨#[38, 35, 57, 59]⟩ : ByteArray) = strOf (a ++ [38, 35, 57, 59])) := by show _ = _; rw [← HA.out]; exact strOf_appT _ _
        have HEL : Hid ((a ++ [38, 35, 57, 59]).length ≤ 6 * (j + 1)) := by show _ ≤ _; rw [List.length_append]; omega
        clear he hel HAC hxl
        go_wp2_with fail
        go_round
        case rel => exact ⟨j + 1, a ++ [38, 35, 57, 59], by go_num, congrArg Value.string HAX.out, hlt, HEL.out, HST.out⟩
        case measure => simp [intOf]; omega
      · have t38 : ((s.extract j (j + 1)).toList == [38]) = false := by rw [hxl]; rfl
        have t60 : ((s.extract j (j + 1)).toList == [60]) = false := by rw [hxl]; rfl
        have t62 : ((s.extract j (j + 1)).toList == [62]) = false := by rw [hxl]; rfl
        have t34 : ((s.extract j (j + 1)).toList == [34]) = false := by rw [hxl]; rfl
        have t39 : ((s.extract j (j + 1)).toList == [39]) = false := by rw [hxl]; rfl
        have t9 : ((s.extract j (j + 1)).toList == [9]) = false := by rw [hxl]; rfl
        have t10 : ((s.extract j (j + 1)).toList == [10]) = true := by rw [hxl]; rfl
        rw [he] at HST hel
        have HAX : Hid (A ++ (⟨#[38, 35, 49, 48, 59]⟩ : ByteArray) = strOf (a ++ [38, 35, 49, 48, 59])) := by show _ = _; rw [← HA.out]; exact strOf_appT _ _
        have HEL : Hid ((a ++ [38, 35, 49, 48, 59]).length ≤ 6 * (j + 1)) := by show _ ≤ _; rw [List.length_append]; omega
        clear he hel HAC hxl
        go_wp2_with fail
        go_round
        case rel => exact ⟨j + 1, a ++ [38, 35, 49, 48, 59], by go_num, congrArg Value.string HAX.out, hlt, HEL.out, HST.out⟩
        case measure => simp [intOf]; omega
      · have t38 : ((s.extract j (j + 1)).toList == [38]) = false := by rw [hxl]; simpa using n38
        have t60 : ((s.extract j (j + 1)).toList == [60]) = false := by rw [hxl]; simpa using n60
        have t62 : ((s.extract j (j + 1)).toList == [62]) = false := by rw [hxl]; simpa using n62
        have t34 : ((s.extract j (j + 1)).toList == [34]) = false := by rw [hxl]; simpa using n34
        have t39 : ((s.extract j (j + 1)).toList == [39]) = false := by rw [hxl]; simpa using n39
        rw [he] at HST hel
        have HAX : Hid (A ++ s.extract j (j + 1) = strOf (a ++ [c])) := by show _ = _; rw [← HA.out, HXE.out]; exact strOf_appT _ _
        have HEL : Hid ((a ++ [c]).length ≤ 6 * (j + 1)) := by show _ ≤ _; rw [List.length_append]; omega
        clear he hel HAC n38 n60 n62 n34 n39
        rcases n9 with rfl | ⟨n9, n10⟩
        · clear hxl
          go_wp2_with fail
          go_round
          case rel => exact ⟨j + 1, a ++ [c], by go_num, congrArg Value.string HAX.out, hlt, HEL.out, HST.out⟩
          case measure => simp [intOf]; omega
        · have t9 : ((s.extract j (j + 1)).toList == [9]) = false := by rw [hxl]; simpa using n9
          have t10 : ((s.extract j (j + 1)).toList == [10]) = false := by rw [hxl]; simpa using n10
          clear n9 n10 hxl
          cases attr
          all_goals
            go_wp2_with fail
            go_round
            case rel => exact ⟨j + 1, a ++ [c], by go_num, congrArg Value.string HAX.out, hlt, HEL.out, HST.out⟩
            case measure => simp [intOf]; omega
    · have HV : Hid (o = a) := by show _ = _; rw [HG.out, List.drop_eq_nil_of_le (by rw [← HL.out]; omega)]; simp [wrE]
      go_wp2_with fail
      go_ret
      exact ⟨by rw [HV.out, HA.out]; rfl, rfl⟩
def few11 (s : ByteArray) : ByteArray := s.extract 0 (min (s.size : Int) 300).toNat
theorem few11_size (s : ByteArray) : (few11 s).size ≤ 300 := by unfold few11; simp [ByteArray.size_extract]; omega
theorem few11_any (s : ByteArray) (w : World) (hs : s.size ≤ 9223372036854775807) :
    Calls Try.prog 7 #[.string s] w fun e w' => e = .returned (.string (few11 s)) ∧ w = w' := by
  go_enter Try.func7, Try.ntmps7
  go_wp2_with fail
  go_ret
  exact ⟨rfl, rfl⟩
end Go.Proofs.Ytlogjghbdnaedaa

/- Walks: the law TagsTokens (chapter 11), behind what its example shows. -/
namespace Go.Proofs.Ytlogjghbdnaedaa
open Go.RowKit
set_option linter.unusedVariables false
set_option linter.unusedSimpArgs false
theorem tgs_nil (w : World) (ok : Nat → Prop) (pl : Bool) (c : Nat) : TgsV w ok pl [] (.slice none 0 c) := ⟨[], .inl ⟨_, _, rfl, rfl, rfl⟩, rfl⟩
/-- Where a page's tokens stand: the place behind the first i of them. -/
def behind (ts : List Tg) (i p : Nat) : Prop := (i = 0 → p = 0) ∧ ∀ u, i ≠ 0 → ts[i - 1]? = some u → p = u.to
theorem behind_next {ts : List Tg} {i : Nat} {t : Tg} (h : ts[i]? = some t) : behind ts (i + 1) t.to :=
  ⟨fun h => by omega, fun u _ hu => by rw [Nat.add_sub_cancel, h] at hu; cases hu; rfl⟩
theorem behind_at {l : List UInt8} {ts : List Tg} {i p : Nat} {t : Tg} (hc : Chain l 0 ts) (hb : behind ts i p) (h : ts[i]? = some t) : p = t.frm := by
  obtain ⟨_, h1, h2⟩ := Chain.at ts 0 i t hc h
  rcases Nat.eq_zero_or_pos i with h0 | h0
  · rw [hb.1 h0, h1 h0]
  · have hl := (List.getElem?_eq_some_iff.1 h).1
    have hu : ts[i - 1]? = some (ts[i - 1]'(by omega)) := List.getElem?_eq_getElem (by omega)
    rw [hb.2 _ (by omega) hu, h2 _ (by omega) hu]
theorem behind_end {l : List UInt8} {ts : List Tg} {p : Nat} (hc : Chain l 0 ts) (hb : behind ts ts.length p) : p = l.length := by
  cases ts with
  | nil =>
    have := Chain.none hc
    have := hb.1 rfl
    omega
  | cons t us =>
    have hu : (t :: us)[(t :: us).length - 1]? = some ((t :: us)[(t :: us).length - 1]'(by simp)) := List.getElem?_eq_getElem (by simp)
    rw [hb.2 _ (by simp) hu]
    exact Chain.last _ 0 _ hc hu
set_option maxRecDepth 100000 in
set_option maxHeartbeats 16000000 in
theorem lawTokens11 (hAW : ∀ w, Calls Try.prog 13 #[] w fun e w' => e = .returned (.bool true) ∧ Below w.heap.size w w') (s : ByteArray) (w : World) (hs : s.size ≤ 9223372036854775807) :
    Calls Try.prog 3 #[.string s] w fun e w' => e = .returned (.bool true) ∧ Below w.heap.size w w' := by
  have HA := Lib.hid hAW
  have HF := Lib.hid (fun w => few11_any s w hs)
  have hz := few11_size s
  obtain ⟨x, hx⟩ : ∃ x, few11 s = x := ⟨_, rfl⟩
  rw [hx] at HF hz
  clear hx hAW
  have HT := Lib.hid (fun w => ttokens x w (by omega))
  have HR := Lib.hid (fun w => rtokens11 x w (by omega))
  cases ho : tagsJ x.data.toList with
  | none =>
    simp only [ho] at HT HR
    have HT2 : Hid (∀ w, Calls Try.prog 8 #[.string x] w fun e w' => e = .returned (.tuple #[.slice none 0 0, .int .i64 7]) ∧ Below w.heap.size w w') := HT.out
    have HR2 : Hid (∀ w, Calls Try.prog 9 #[.string x] w fun e w' => e = .returned (.tuple #[.slice none 0 0, .int .i64 7]) ∧ Below w.heap.size w w') := HR.out
    have HI : Hid (∀ W, Calls Try.prog 10 #[.slice none 0 0] W fun e w' => (∃ v, e = .returned v ∧ TgsV w' (fun b => W.heap.size ≤ b) true [] v) ∧ Below W.heap.size W w') := fun W => its_any [] (fun _ => True) true _ W (tgs_nil _ _ _ _) (by simp) (by simp)
    clear HT HR ho
    go_enter Try.func3, Try.ntmps3
    go_wp2_with fail
    refine (HF.out _).mono ?_
    rintro e w2 ⟨rfl, rfl⟩
    go_wp2_with fail
    refine (HT2.out _).mono ?_
    rintro e w3 ⟨rfl, b3⟩
    have HB3 := Lib.hid b3
    clear b3
    go_wp2_with fail
    refine (HR2.out _).mono ?_
    rintro e w4 ⟨rfl, b4⟩
    have HB4 := Lib.hid (HB3.out.trans (b4.mono HB3.out.size))
    clear b4 HB3
    go_wp2_with fail
    refine (HI.out _).mono ?_
    rintro e w5 ⟨⟨v, rfl, hv⟩, b5⟩
    obtain ⟨a1, p1, rfl⟩ := tgsV_len hv
    have HB5 := Lib.hid (HB4.out.trans (b5.mono HB4.out.size))
    have HS : Hid (Calls Try.prog 11 #[.slice a1 0 p1, .slice none 0 0] w5 fun e w' => e = .returned (.bool true) ∧ Below w5.heap.size w5 w') := rsame_any [] [] _ (fun _ => True) true true _ _ w5 hv (tgs_nil _ _ _ _) (by simp) (by simp) (by simp) (by simp)
    have HP : Hid (∀ W, Below w5.heap.size w5 W → Calls Try.prog 12 #[.slice a1 0 p1, .slice none 0 0] W fun e w' => e = .returned (.bool true) ∧ Below W.heap.size W w') := fun W hW => places_any [] _ (fun _ => True) _ _ W (tgsV_below hv hW) (tgs_nil _ _ _ _) (by simp) (by simp)
    clear hv b5 HB4
    rw [List.length_nil]
    go_wp2_with fail
    refine HS.out.mono ?_
    rintro e w6 ⟨rfl, b6⟩
    have HB6 := Lib.hid b6
    clear b6
    go_wp2_with fail
    refine (HP.out _ HB6.out).mono ?_
    rintro e w7 ⟨rfl, b7⟩
    have HB7 := Lib.hid (HB5.out.trans ((HB6.out.trans (b7.mono HB6.out.size)).mono HB5.out.size))
    clear b7 HB6 HB5
    go_wp2_with fail
    go_loopw [8, 9] (fun z u wr => z = .int .i64 0 ∧ u = .int .i64 0 ∧ w7 = wr) (fun _ _ _ => 0)
    case atStart => exact ⟨rfl, rfl, rfl⟩
    case round =>
      obtain ⟨rfl, rfl, rfl⟩ := hrel
      go_wp2_with fail
      refine (HA.out _).mono ?_
      rintro e w8 ⟨rfl, b8⟩
      go_wp2_with fail
      go_ret
      exact ⟨rfl, HB7.out.trans (b8.mono HB7.out.size)⟩
  | some ts =>
    have hch : Chain x.data.toList 0 ts := by
      unfold tagsJ at ho
      split at ho
      · exact chain_of _ x.data.toList.length 0 ts (by omega) ho
      · cases ho
    have hxl : x.data.toList.length ≤ 300 := by rw [← sz_len]; exact hz
    have hlen : ts.length ≤ 300 := by have := Chain.len ts 0 hch; omega
    have hat : ∀ t ∈ ts, t.atts.length ≤ 300 := fun t h => by
      obtain ⟨i, hi⟩ := List.getElem?_of_mem h
      have := (Chain.at ts 0 i t hch hi).1.atts
      omega
    simp only [ho] at HT HR
    have HT2 : Hid (∀ w, Calls Try.prog 8 #[.string x] w fun e w' => (∃ v, e = .returned (.tuple #[v, .int .i64 0]) ∧ TgsV w' (fun b => w.heap.size ≤ b) true ts v) ∧ Below w.heap.size w w') := HT.out
    have HR2 : Hid (∀ w, Calls Try.prog 9 #[.string x] w fun e w' => (∃ v, e = .returned (.tuple #[v, .int .i64 0]) ∧ TgsV w' (fun b => w.heap.size ≤ b) true ts v) ∧ Below w.heap.size w w') := HR.out
    have HI : Hid (∀ W ok v, TgsV W ok true ts v → Calls Try.prog 10 #[v] W fun e w' => (∃ v, e = .returned v ∧ TgsV w' (fun b => W.heap.size ≤ b) true ts v) ∧ Below W.heap.size W w') := fun W ok v h => its_any ts ok true v W h (by omega) (fun t ht => by have := hat t ht; omega)
    have HCH := Lib.hid hch
    have HAT := Lib.hid hat
    have HXL := Lib.hid (sz_len x)
    clear HT HR ho hch hat hxl
    go_enter Try.func3, Try.ntmps3
    go_wp2_with fail
    refine (HF.out _).mono ?_
    rintro e w2 ⟨rfl, rfl⟩
    go_wp2_with fail
    refine (HT2.out _).mono ?_
    rintro e w3 ⟨⟨v, rfl, hv⟩, b3⟩
    obtain ⟨a1, p1, rfl⟩ := tgsV_len hv
    have HV1 := Lib.hid hv
    have HB3 := Lib.hid b3
    clear b3 hv HT2
    go_wp2_with fail
    refine (HR2.out _).mono ?_
    rintro e w4 ⟨⟨v, rfl, hv⟩, b4⟩
    obtain ⟨a2, p2, rfl⟩ := tgsV_len hv
    have HV2 := Lib.hid hv
    have HI2 := Lib.hid (HI.out w4 _ _ (tgsV_below HV1.out b4))
    have HB4 := Lib.hid (HB3.out.trans (b4.mono HB3.out.size))
    clear b4 hv HB3 HR2 HI
    go_wp2_with fail
    refine HI2.out.mono ?_
    rintro e w5 ⟨⟨v, rfl, hv⟩, b5⟩
    obtain ⟨a3, p3, rfl⟩ := tgsV_len hv
    have HV3 := Lib.hid hv
    have HV2' := Lib.hid (tgsV_below HV2.out b5)
    have HB5 := Lib.hid (HB4.out.trans (b5.mono HB4.out.size))
    have hal : ∀ t ∈ ts, t.atts.length ≤ 10000000000000 := fun t ht => by have := HAT.out t ht; omega
    have HS := Lib.hid (rsame_any ts ts _ _ true true _ _ w5 HV3.out HV2'.out (by omega) (by omega) hal hal)
    have HP := Lib.hid (fun W hW => places_any ts _ _ _ _ W (tgsV_below HV3.out hW) (tgsV_below HV2'.out hW) (by omega) hal)
    rw [sameGs_self] at HS
    clear hv b5 HB4 HV1 HV2 HI2 hal
    go_wp2_with fail
    refine HS.out.mono ?_
    rintro e w6 ⟨rfl, b6⟩
    have HB6 := Lib.hid b6
    clear b6 HS
    go_wp2_with fail
    refine (HP.out _ HB6.out).mono ?_
    rintro e w7 ⟨rfl, b7⟩
    have HB57 := Lib.hid (HB6.out.trans (b7.mono HB6.out.size))
    have HB7 := Lib.hid (HB5.out.trans (HB57.out.mono HB5.out.size))
    clear b7 HB6 HB5 HP
    go_wp2_with fail
    go_loopw [8, 9] (fun z u wr => ∃ i p : Nat, z = .int .i64 p ∧ u = .int .i64 i ∧ i ≤ ts.length ∧ behind ts i p ∧ w7 = wr) (fun _ u _ => ts.length - (intOf u).toNat)
    case atStart => exact ⟨0, 0, rfl, rfl, Nat.zero_le _, ⟨fun _ => rfl, fun _ h => absurd rfl h⟩, rfl⟩
    case round =>
      obtain ⟨i, p, rfl, rfl, hi, hbh, rfl⟩ := hrel
      have HBH := Lib.hid hbh
      clear hbh
      by_cases hlt : i < ts.length
      · obtain ⟨t, ht⟩ : ∃ t, ts[i]? = some t := ⟨_, List.getElem?_eq_getElem hlt⟩
        have hp := behind_at HCH.out HBH.out ht
        have htl := (Chain.at ts 0 i t HCH.out ht).1.lt
        have hnx := behind_next ht
        obtain ⟨g, o, cap, xd, xe, xf, hv, hgl, k0, k1, k2, k3, k4, k5, hpl, ds, _, _⟩ := tg_at HV3.out ht HB57.out
        obtain ⟨x4, x5, rfl, rfl, hxy⟩ := hpl
        obtain ⟨rfl, rfl⟩ := hxy rfl
        simp only [Value.slice.injEq] at hv
        obtain ⟨rfl, _, hcc⟩ := hv
        have HNX := Lib.hid hnx
        subst hp
        clear hcc hnx k1 k2 k3
        rcases Nat.eq_zero_or_pos i with h0 | h0
        · subst h0
          generalize t.frm = fr at *
          generalize t.to = tt at *
          clear ht
          have q1 : ¬ (tt : Int) ≤ (fr : Int) := by omega
          go_wp2_with fail
          go_roundw
          case rel => exact ⟨1, tt, rfl, by go_num, hlt, HNX.out, by trivial⟩
          case measure => simp [intOf]; omega
        · obtain ⟨r, rfl⟩ : ∃ r, i = r + 1 := ⟨i - 1, by omega⟩
          obtain ⟨u, hu⟩ : ∃ u, ts[r]? = some u := ⟨_, List.getElem?_eq_getElem (by omega)⟩
          have hap := Chain.apart HCH.out (i := r + 1) (by omega) ht (by rw [Nat.add_sub_cancel]; exact hu)
          obtain ⟨g', o', cap', xd, xe, xf, hv', hgl', m0, _, _, _, _, _, _, _, _, _⟩ := tg_at HV3.out hu HB57.out
          simp only [Value.slice.injEq, Option.some.injEq, Addr.mk.injEq] at hv'
          obtain ⟨⟨rfl, rfl, _⟩, _, hcc⟩ := hv'
          clear hcc
          have q2 : (t.kind : Int) == 116 → ((u.kind : Int) == 116) = false := fun h => by
            simp at h ⊢
            exact fun h2 => hap ⟨by omega, by omega⟩
          clear ht hu hap
          generalize t.kind = qk at *
          generalize u.kind = qu at *
          generalize t.frm = fr at *
          generalize t.to = tt at *
          have q1 : ¬ (tt : Int) ≤ (fr : Int) := by omega
          have hs0 : (0 : Int) < (r : Int) + 1 := by omega
          have hs1 : (r : Int) + 1 - 1 = r := by omega
          have hs2 : IntKind.i64.wrap (r : Int) = r := IntWalk.i64_in _ (by omega)
          have hs3 : (0 : Int) ≤ (r : Int) := by omega
          have hs5 : IntKind.i64.wrap ((r : Int) + 1 - 1) = r := by rw [hs1]; exact hs2
          have hs6 : ¬ (r : Int) < 0 := by omega
          have hs7 : r < ts.length := by omega
          cases hk : ((qk : Int) == 116) with
          | true =>
            have q3 := q2 hk
            clear q2
            go_wp2_with fail
            go_roundw
            case rel => exact ⟨r + 1 + 1, tt, rfl, by go_num, hlt, HNX.out, by trivial⟩
            case measure => simp [intOf]; omega
          | false =>
            clear q2
            go_wp2_with fail
            go_roundw
            case rel => exact ⟨r + 1 + 1, tt, rfl, by go_num, hlt, HNX.out, by trivial⟩
            case measure => simp [intOf]; omega
      · have hie : i = ts.length := by omega
        have hpe : p = x.size := by
          have h := HBH.out
          rw [hie] at h
          rw [behind_end HCH.out h, ← HXL.out]
        subst hpe
        go_wp2_with fail
        refine (HA.out _).mono ?_
        rintro e w8 ⟨rfl, b8⟩
        go_wp2_with fail
        go_ret
        exact ⟨rfl, HB7.out.trans (b8.mono HB7.out.size)⟩
end Go.Proofs.Ytlogjghbdnaedaa
