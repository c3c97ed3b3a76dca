/- Walks: the program's tags reader: the next token (chapter 11). -/
import Derived.Test.YtlogjghbdnaedaaTgV
namespace Go.Proofs.Ytlogjghbdnaedaa
open Go.RowKit
set_option linter.unusedVariables false
set_option linter.unusedSimpArgs false
/-- What the program says of a token. -/
def NexR (o : Option Tg) (B g : Nat) (s : ByteArray) (e : Ending) (w : World) : Prop := match o with
  | some t => ∃ av cs, e = .returned (.tuple #[.agg #[.int .u8 t.kind, .string (strOf t.name), .string (strOf t.text), av, .int .i64 t.frm, .int .i64 t.to], .bool true]) ∧ RowG w (fun b => B ≤ b) av t.atts.length cs ∧ AttsC true t.atts cs ∧ Rdr w g s t.to
  | none => ∃ (q : Int) (n t : ByteArray) (o : Option Addr) (m c : Nat) (f u : Int), e = .returned (.tuple #[.agg #[.int .u8 q, .string n, .string t, .slice o m c, .int .i64 f, .int .i64 u], .bool false])
set_option maxRecDepth 100000 in
set_option maxHeartbeats 16000000 in
theorem tnext (g k : Nat) (s : ByteArray) (w : World) (hR : Rdr w g s k) (hk : k < s.size) (hs : s.size ≤ 1000000) :
    Calls Try.prog 25 #[.pointer (some ⟨g, 0, none⟩)] w fun e w' => NexR (oneG s.data.toList k) w.heap.size g s e w' ∧ Only g w w' := by
  have HL := Lib.hid (sz_len s)
  have hgl := hR.lt
  obtain ⟨o, ho⟩ : ∃ o, oneG s.data.toList k = o := ⟨_, rfl⟩
  rw [ho]
  have HOE := Lib.hid ho
  have HT0 := Lib.hid (Blk.new w 45 #[.int .u8 0, .string ⟨#[]⟩, .string ⟨#[]⟩, .slice none 0 0, .int .i64 0, .int .i64 0])
  have HR0 := Lib.hid (hR.alloc (.cells #[.int .u8 0, .string ⟨#[]⟩, .string ⟨#[]⟩, .slice none 0 0, .int .i64 0, .int .i64 0] 45))
  have HO0 := Lib.hid ((Only.refl g w).alloc (.cells #[.int .u8 0, .string ⟨#[]⟩, .string ⟨#[]⟩, .slice none 0 0, .int .i64 0, .int .i64 0] 45))
  have HS0 : Hid (w.heap.size < (w.alloc (.cells #[.int .u8 0, .string ⟨#[]⟩, .string ⟨#[]⟩, .slice none 0 0, .int .i64 0, .int .i64 0] 45)).heap.size) := by show _ < _; simp
  clear hR ho
  go_enter Try.func25, Try.ntmps25
  go_upto_region 1 with fail
  generalize w.alloc (.cells #[.int .u8 0, .string ⟨#[]⟩, .string ⟨#[]⟩, .slice none 0 0, .int .i64 0, .int .i64 0] 45) = W0 at *
  have c1 := HR0.out.c1
  cases h2 : atS s.data.toList sCl k with
  | true =>
    have hk2 : k + 2 ≤ s.size := by
      rcases atS_len h2 with h | h
      · have e : sCl.length = 2 := rfl
        have := HL.out
        omega
      · cases h
    have T2 : Hid (∀ w, Rdr w g s k → Calls Try.prog 33 #[.pointer (some ⟨g, 0, none⟩), .string ⟨#[60, 47]⟩] w fun e w' => e = .returned (.bool true) ∧ Rdr w' g s (k + 2) ∧ Only g w w') := fun w hR => ttake g k s ⟨#[60, 47]⟩ w hR (by omega) hs (by decide) true h2
    have HON : Hid (o = if isElem (runT nameB s.data.toList (k + 2)) = true ∧ isVoid (runT nameB s.data.toList (k + 2)) = false ∧ bt s.data.toList (runE nameB s.data.toList (k + 2)) = 62 then some ⟨99, runT nameB s.data.toList (k + 2), [], [], k, runE nameB s.data.toList (k + 2) + 1⟩ else none) := by
      show _ = _
      rw [← HOE.out]; unfold oneG; rw [if_pos h2]
    have hk3 : runE nameB s.data.toList (k + 2) ≤ s.size := by rw [sz_len]; exact runE_le _ _ _ (by rw [← sz_len]; exact hk2)
    have HW := Lib.hid (fun w hR => twhileL g (k + 2) s w hR hk2 hs)
    have HEL := Lib.hid (fun w => telem (strOf (runT nameB s.data.toList (k + 2))) w)
    have HVD := Lib.hid (fun w => tvoid (strOf (runT nameB s.data.toList (k + 2))) w)
    rw [strOf_list] at HEL HVD
    obtain ⟨N, hN⟩ : ∃ N, runT nameB s.data.toList (k + 2) = N := ⟨_, rfl⟩
    obtain ⟨k3, hk3e⟩ : ∃ k3, runE nameB s.data.toList (k + 2) = k3 := ⟨_, rfl⟩
    rw [hN] at HEL HVD
    rw [hN, hk3e] at HON
    rw [hk3e] at hk3
    simp only [hN, hk3e] at HW
    obtain ⟨x, hx⟩ : ∃ x, strOf N = x := ⟨_, rfl⟩
    have HX := Lib.hid hx
    rw [hx] at HEL HVD
    simp only [hx] at HW
    have ha62 := atS_one s.data.toList 62 k3 (by decide)
    clear h2 hN hk3e hx
    cases he : isElem N with
    | false =>
      have HV : Hid (o = none) := by show _ = _; rw [HON.out, if_neg (fun h => by rw [he] at h; cases h.1)]
      rw [he] at HEL
      clear he HON ha62
      go_wp2_with fail
      refine (T2.out _ HR0.out).mono ?_
      rintro e w2 ⟨rfl, hR2, hO2⟩
      have HT2 := Lib.hid (Blk.only HT0.out hO2 (Nat.ne_of_gt hgl))
      have HO2 := Lib.hid (HO0.out.trans hO2)
      have HR2 := Lib.hid hR2
      clear hR2 hO2 HT0 HR0 HO0 HS0 c1
      go_wp2_with fail
      refine (HW.out _ HR2.out).mono ?_
      rintro e w5 ⟨rfl, hR5, hO5⟩
      have HT5 := Lib.hid (Blk.only HT2.out hO5 (Nat.ne_of_gt hgl))
      have HO5 := Lib.hid (HO2.out.trans hO5)
      have HR5 := Lib.hid hR5
      clear hR5 hO5 HT2 HR2 HO2
      go_wp2_with fail
      refine (HEL.out _).mono ?_
      rintro e w6 ⟨rfl, b6⟩
      have HT6 := Lib.hid (HT5.out.below b6 HT5.out.lt)
      have HR6 := Lib.hid (HR5.out.bel b6)
      have HO6 := Lib.hid (HO5.out.bel b6)
      clear b6 HT5 HR5 HO5
      have hT6 := HT6.out
      have hO6 := HO6.out
      have c1 := HR6.out.c1
      have r0 := hT6.cell 0
      have f0 := hT6.frozen 0
      have r1 := hT6.cell 1
      have f1 := hT6.frozen 1
      have r2 := hT6.cell 2
      have f2 := hT6.frozen 2
      have r3 := hT6.cell 3
      have f3 := hT6.frozen 3
      have r4 := hT6.cell 4
      have f4 := hT6.frozen 4
      have r5 := hT6.cell 5
      have f5 := hT6.frozen 5
      go_wp2_with fail
      have hF := ((((((hT6.set_ 0 (.int .u8 99)).set_ 1 (.string x)).set_ 2 (.string ⟨#[]⟩)).set_ 3 (.slice none 0 0)).set_ 4 (.int .i64 k)).set_ 5 (.int .i64 k3))
      have s0 : (World.setCell _ _ _).cell? _ = some (.int .u8 99) := hF.cell 0
      have s1 : (World.setCell _ _ _).cell? _ = some (.string x) := hF.cell 1
      have s2 : (World.setCell _ _ _).cell? _ = some (.string ⟨#[]⟩) := hF.cell 2
      have s3 : (World.setCell _ _ _).cell? _ = some (.slice none 0 0) := hF.cell 3
      have s4 : (World.setCell _ _ _).cell? _ = some (.int .i64 k) := hF.cell 4
      have s5 : (World.setCell _ _ _).cell? _ = some (.int .i64 k3) := hF.cell 5
      exact bodyPost_ret (v := .tuple #[.agg #[.int .u8 99, .string x, .string ⟨#[]⟩, .slice none 0 0, .int .i64 k, .int .i64 k3], .bool false]) (by simp [results, Try.f25, go_sem, s0, s1, s2, s3, s4, s5]) rfl ⟨by rw [HV.out]; exact ⟨_, _, _, _, _, _, _, _, rfl⟩, ((((((hO6.far (p := ⟨w.heap.size, 0, none⟩) (Nat.le_refl _) _).far (p := ⟨w.heap.size, 1, none⟩) (Nat.le_refl _) _).far (p := ⟨w.heap.size, 2, none⟩) (Nat.le_refl _) _).far (p := ⟨w.heap.size, 3, none⟩) (Nat.le_refl _) _).far (p := ⟨w.heap.size, 4, none⟩) (Nat.le_refl _) _).far (p := ⟨w.heap.size, 5, none⟩) (Nat.le_refl _) _)⟩
    | true =>
      rw [he] at HEL
      cases hv : isVoid N with
      | true =>
        have HV : Hid (o = none) := by show _ = _; rw [HON.out, if_neg (fun h => by rw [hv] at h; cases h.2.1)]
        rw [hv] at HVD
        clear he hv HON ha62
        go_wp2_with fail
        refine (T2.out _ HR0.out).mono ?_
        rintro e w2 ⟨rfl, hR2, hO2⟩
        have HT2 := Lib.hid (Blk.only HT0.out hO2 (Nat.ne_of_gt hgl))
        have HO2 := Lib.hid (HO0.out.trans hO2)
        have HR2 := Lib.hid hR2
        clear hR2 hO2 HT0 HR0 HO0 HS0 c1
        go_wp2_with fail
        refine (HW.out _ HR2.out).mono ?_
        rintro e w5 ⟨rfl, hR5, hO5⟩
        have HT5 := Lib.hid (Blk.only HT2.out hO5 (Nat.ne_of_gt hgl))
        have HO5 := Lib.hid (HO2.out.trans hO5)
        have HR5 := Lib.hid hR5
        clear hR5 hO5 HT2 HR2 HO2
        go_wp2_with fail
        refine (HEL.out _).mono ?_
        rintro e w6 ⟨rfl, b6⟩
        have HT6 := Lib.hid (HT5.out.below b6 HT5.out.lt)
        have HR6 := Lib.hid (HR5.out.bel b6)
        have HO6 := Lib.hid (HO5.out.bel b6)
        clear b6 HT5 HR5 HO5
        go_wp2_with fail
        refine (HVD.out _).mono ?_
        rintro e w6' ⟨rfl, rfl⟩
        have hT6 := HT6.out
        have hO6 := HO6.out
        have c1 := HR6.out.c1
        have r0 := hT6.cell 0
        have f0 := hT6.frozen 0
        have r1 := hT6.cell 1
        have f1 := hT6.frozen 1
        have r2 := hT6.cell 2
        have f2 := hT6.frozen 2
        have r3 := hT6.cell 3
        have f3 := hT6.frozen 3
        have r4 := hT6.cell 4
        have f4 := hT6.frozen 4
        have r5 := hT6.cell 5
        have f5 := hT6.frozen 5
        go_wp2_with fail
        have hF := ((((((hT6.set_ 0 (.int .u8 99)).set_ 1 (.string x)).set_ 2 (.string ⟨#[]⟩)).set_ 3 (.slice none 0 0)).set_ 4 (.int .i64 k)).set_ 5 (.int .i64 k3))
        have s0 : (World.setCell _ _ _).cell? _ = some (.int .u8 99) := hF.cell 0
        have s1 : (World.setCell _ _ _).cell? _ = some (.string x) := hF.cell 1
        have s2 : (World.setCell _ _ _).cell? _ = some (.string ⟨#[]⟩) := hF.cell 2
        have s3 : (World.setCell _ _ _).cell? _ = some (.slice none 0 0) := hF.cell 3
        have s4 : (World.setCell _ _ _).cell? _ = some (.int .i64 k) := hF.cell 4
        have s5 : (World.setCell _ _ _).cell? _ = some (.int .i64 k3) := hF.cell 5
        exact bodyPost_ret (v := .tuple #[.agg #[.int .u8 99, .string x, .string ⟨#[]⟩, .slice none 0 0, .int .i64 k, .int .i64 k3], .bool false]) (by simp [results, Try.f25, go_sem, s0, s1, s2, s3, s4, s5]) rfl ⟨by rw [HV.out]; exact ⟨_, _, _, _, _, _, _, _, rfl⟩, ((((((hO6.far (p := ⟨w.heap.size, 0, none⟩) (Nat.le_refl _) _).far (p := ⟨w.heap.size, 1, none⟩) (Nat.le_refl _) _).far (p := ⟨w.heap.size, 2, none⟩) (Nat.le_refl _) _).far (p := ⟨w.heap.size, 3, none⟩) (Nat.le_refl _) _).far (p := ⟨w.heap.size, 4, none⟩) (Nat.le_refl _) _).far (p := ⟨w.heap.size, 5, none⟩) (Nat.le_refl _) _)⟩
      | false =>
        rw [hv] at HVD
        by_cases h62 : bt s.data.toList k3 = 62
        · have HV : Hid (o = some ⟨99, N, [], [], k, k3 + 1⟩) := by show _ = _; rw [HON.out, if_pos ⟨he, hv, h62⟩]
          have HTK : Hid (∀ w, Rdr w g s k3 → Calls Try.prog 33 #[.pointer (some ⟨g, 0, none⟩), .string ⟨#[62]⟩] w fun e w' => e = .returned (.bool true) ∧ Rdr w' g s (k3 + 1) ∧ Only g w w') := fun w hR => ttake g k3 s ⟨#[62]⟩ w hR hk3 hs (by decide) true (ha62.trans (decide_eq_true h62))
          clear he hv HON ha62 h62
          go_wp2_with fail
          refine (T2.out _ HR0.out).mono ?_
          rintro e w2 ⟨rfl, hR2, hO2⟩
          have HT2 := Lib.hid (Blk.only HT0.out hO2 (Nat.ne_of_gt hgl))
          have HO2 := Lib.hid (HO0.out.trans hO2)
          have HR2 := Lib.hid hR2
          clear hR2 hO2 HT0 HR0 HO0 HS0 c1
          go_wp2_with fail
          refine (HW.out _ HR2.out).mono ?_
          rintro e w5 ⟨rfl, hR5, hO5⟩
          have HT5 := Lib.hid (Blk.only HT2.out hO5 (Nat.ne_of_gt hgl))
          have HO5 := Lib.hid (HO2.out.trans hO5)
          have HR5 := Lib.hid hR5
          clear hR5 hO5 HT2 HR2 HO2
          go_wp2_with fail
          refine (HEL.out _).mono ?_
          rintro e w6 ⟨rfl, b6⟩
          have HT6' := Lib.hid (HT5.out.below b6 HT5.out.lt)
          have HR6' := Lib.hid (HR5.out.bel b6)
          have HO6' := Lib.hid (HO5.out.bel b6)
          clear b6 HT5 HR5 HO5
          go_wp2_with fail
          refine (HVD.out _).mono ?_
          rintro e w6' ⟨rfl, rfl⟩
          go_wp2_with fail
          refine (HTK.out _ HR6'.out).mono ?_
          rintro e w7 ⟨rfl, hR7, hO7⟩
          have HT6 := Lib.hid (Blk.only HT6'.out hO7 (Nat.ne_of_gt hgl))
          have HR6 := Lib.hid hR7
          have HO6 := Lib.hid (HO6'.out.trans hO7)
          clear hR7 hO7 HT6' HR6' HO6'
          have hT6 := HT6.out
          have hO6 := HO6.out
          have c1 : w7.cell? ⟨g, 1, none⟩ = some (.int .i64 ((k3 : Int) + 1)) := HR6.out.c1
          have r0 := hT6.cell 0
          have f0 := hT6.frozen 0
          have r1 := hT6.cell 1
          have f1 := hT6.frozen 1
          have r2 := hT6.cell 2
          have f2 := hT6.frozen 2
          have r3 := hT6.cell 3
          have f3 := hT6.frozen 3
          have r4 := hT6.cell 4
          have f4 := hT6.frozen 4
          have r5 := hT6.cell 5
          have f5 := hT6.frozen 5
          have hR6 := HR6.out
          go_wp2_with fail
          have hF := ((((((hT6.set_ 0 (.int .u8 99)).set_ 1 (.string x)).set_ 2 (.string ⟨#[]⟩)).set_ 3 (.slice none 0 0)).set_ 4 (.int .i64 k)).set_ 5 (.int .i64 ((k3 : Int) + 1)))
          have s0 : (World.setCell _ _ _).cell? _ = some (.int .u8 99) := hF.cell 0
          have s1 : (World.setCell _ _ _).cell? _ = some (.string x) := hF.cell 1
          have s2 : (World.setCell _ _ _).cell? _ = some (.string ⟨#[]⟩) := hF.cell 2
          have s3 : (World.setCell _ _ _).cell? _ = some (.slice none 0 0) := hF.cell 3
          have s4 : (World.setCell _ _ _).cell? _ = some (.int .i64 k) := hF.cell 4
          have s5 : (World.setCell _ _ _).cell? _ = some (.int .i64 ((k3 : Int) + 1)) := hF.cell 5
          exact bodyPost_ret (v := .tuple #[.agg #[.int .u8 99, .string x, .string ⟨#[]⟩, .slice none 0 0, .int .i64 k, .int .i64 ((k3 : Int) + 1)], .bool true]) (by simp [results, Try.f25, go_sem, s0, s1, s2, s3, s4, s5]) rfl ⟨by rw [HV.out]; exact ⟨.slice none 0 0, [], by rw [← HX.out]; rfl, .inl ⟨_, _, rfl, rfl, rfl⟩, rfl, ((((((hR6.far (p := ⟨w.heap.size, 0, none⟩) (Nat.ne_of_lt hgl) _).far (p := ⟨w.heap.size, 1, none⟩) (Nat.ne_of_lt hgl) _).far (p := ⟨w.heap.size, 2, none⟩) (Nat.ne_of_lt hgl) _).far (p := ⟨w.heap.size, 3, none⟩) (Nat.ne_of_lt hgl) _).far (p := ⟨w.heap.size, 4, none⟩) (Nat.ne_of_lt hgl) _).far (p := ⟨w.heap.size, 5, none⟩) (Nat.ne_of_lt hgl) _)⟩, ((((((hO6.far (p := ⟨w.heap.size, 0, none⟩) (Nat.le_refl _) _).far (p := ⟨w.heap.size, 1, none⟩) (Nat.le_refl _) _).far (p := ⟨w.heap.size, 2, none⟩) (Nat.le_refl _) _).far (p := ⟨w.heap.size, 3, none⟩) (Nat.le_refl _) _).far (p := ⟨w.heap.size, 4, none⟩) (Nat.le_refl _) _).far (p := ⟨w.heap.size, 5, none⟩) (Nat.le_refl _) _)⟩
        · have HV : Hid (o = none) := by show _ = _; rw [HON.out, if_neg (fun h => h62 h.2.2)]
          have HTK : Hid (∀ w, Rdr w g s k3 → Calls Try.prog 33 #[.pointer (some ⟨g, 0, none⟩), .string ⟨#[62]⟩] w fun e w' => e = .returned (.bool false) ∧ Rdr w' g s k3 ∧ Only g w w') := fun w hR => ttake g k3 s ⟨#[62]⟩ w hR hk3 hs (by decide) false (ha62.trans (decide_eq_false h62))
          clear he hv HON ha62 h62
          go_wp2_with fail
          refine (T2.out _ HR0.out).mono ?_
          rintro e w2 ⟨rfl, hR2, hO2⟩
          have HT2 := Lib.hid (Blk.only HT0.out hO2 (Nat.ne_of_gt hgl))
          have HO2 := Lib.hid (HO0.out.trans hO2)
          have HR2 := Lib.hid hR2
          clear hR2 hO2 HT0 HR0 HO0 HS0 c1
          go_wp2_with fail
          refine (HW.out _ HR2.out).mono ?_
          rintro e w5 ⟨rfl, hR5, hO5⟩
          have HT5 := Lib.hid (Blk.only HT2.out hO5 (Nat.ne_of_gt hgl))
          have HO5 := Lib.hid (HO2.out.trans hO5)
          have HR5 := Lib.hid hR5
          clear hR5 hO5 HT2 HR2 HO2
          go_wp2_with fail
          refine (HEL.out _).mono ?_
          rintro e w6 ⟨rfl, b6⟩
          have HT6' := Lib.hid (HT5.out.below b6 HT5.out.lt)
          have HR6' := Lib.hid (HR5.out.bel b6)
          have HO6' := Lib.hid (HO5.out.bel b6)
          clear b6 HT5 HR5 HO5
          go_wp2_with fail
          refine (HVD.out _).mono ?_
          rintro e w6' ⟨rfl, rfl⟩
          go_wp2_with fail
          refine (HTK.out _ HR6'.out).mono ?_
          rintro e w7 ⟨rfl, hR7, hO7⟩
          have HT6 := Lib.hid (Blk.only HT6'.out hO7 (Nat.ne_of_gt hgl))
          have HR6 := Lib.hid hR7
          have HO6 := Lib.hid (HO6'.out.trans hO7)
          clear hR7 hO7 HT6' HR6' HO6'
          have hT6 := HT6.out
          have hO6 := HO6.out
          have c1 := HR6.out.c1
          have r0 := hT6.cell 0
          have f0 := hT6.frozen 0
          have r1 := hT6.cell 1
          have f1 := hT6.frozen 1
          have r2 := hT6.cell 2
          have f2 := hT6.frozen 2
          have r3 := hT6.cell 3
          have f3 := hT6.frozen 3
          have r4 := hT6.cell 4
          have f4 := hT6.frozen 4
          have r5 := hT6.cell 5
          have f5 := hT6.frozen 5
          go_wp2_with fail
          have hF := ((((((hT6.set_ 0 (.int .u8 99)).set_ 1 (.string x)).set_ 2 (.string ⟨#[]⟩)).set_ 3 (.slice none 0 0)).set_ 4 (.int .i64 k)).set_ 5 (.int .i64 k3))
          have s0 : (World.setCell _ _ _).cell? _ = some (.int .u8 99) := hF.cell 0
          have s1 : (World.setCell _ _ _).cell? _ = some (.string x) := hF.cell 1
          have s2 : (World.setCell _ _ _).cell? _ = some (.string ⟨#[]⟩) := hF.cell 2
          have s3 : (World.setCell _ _ _).cell? _ = some (.slice none 0 0) := hF.cell 3
          have s4 : (World.setCell _ _ _).cell? _ = some (.int .i64 k) := hF.cell 4
          have s5 : (World.setCell _ _ _).cell? _ = some (.int .i64 k3) := hF.cell 5
          exact bodyPost_ret (v := .tuple #[.agg #[.int .u8 99, .string x, .string ⟨#[]⟩, .slice none 0 0, .int .i64 k, .int .i64 k3], .bool false]) (by simp [results, Try.f25, go_sem, s0, s1, s2, s3, s4, s5]) rfl ⟨by rw [HV.out]; exact ⟨_, _, _, _, _, _, _, _, rfl⟩, ((((((hO6.far (p := ⟨w.heap.size, 0, none⟩) (Nat.le_refl _) _).far (p := ⟨w.heap.size, 1, none⟩) (Nat.le_refl _) _).far (p := ⟨w.heap.size, 2, none⟩) (Nat.le_refl _) _).far (p := ⟨w.heap.size, 3, none⟩) (Nat.le_refl _) _).far (p := ⟨w.heap.size, 4, none⟩) (Nat.le_refl _) _).far (p := ⟨w.heap.size, 5, none⟩) (Nat.le_refl _) _)⟩
  | false =>
    have T2 : Hid (∀ w, Rdr w g s k → Calls Try.prog 33 #[.pointer (some ⟨g, 0, none⟩), .string ⟨#[60, 47]⟩] w fun e w' => e = .returned (.bool false) ∧ Rdr w' g s k ∧ Only g w w') := fun w hR => ttake g k s ⟨#[60, 47]⟩ w hR (by omega) hs (by decide) false h2
    have ha60 := atS_one s.data.toList 60 k (by decide)
    by_cases h60 : bt s.data.toList k = 60
    · have HON : Hid (o = if isElem (runT nameB s.data.toList (k + 1)) = true then (opnJ s.data.toList (runE nameB s.data.toList (k + 1)) []).map fun p => ⟨111, runT nameB s.data.toList (k + 1), [], p.1, k, p.2⟩ else none) := by
        show _ = _
        rw [← HOE.out]; unfold oneG; rw [h2, if_neg (by decide), if_pos h60]
      have T3 : Hid (∀ w, Rdr w g s k → Calls Try.prog 33 #[.pointer (some ⟨g, 0, none⟩), .string ⟨#[60]⟩] w fun e w' => e = .returned (.bool true) ∧ Rdr w' g s (k + 1) ∧ Only g w w') := fun w hR => ttake g k s ⟨#[60]⟩ w hR (by omega) hs (by decide) true (ha60.trans (decide_eq_true h60))
      have HOP := Lib.hid (fun w hR => topen g (k + 1) (k : Int) s w hR hk hs)
      obtain ⟨q, hq⟩ : ∃ q, (if isElem (runT nameB s.data.toList (k + 1)) = true then opnJ s.data.toList (runE nameB s.data.toList (k + 1)) [] else none) = q := ⟨_, rfl⟩
      simp only [hq] at HOP
      have HON2 : Hid (o = q.map fun p => ⟨111, runT nameB s.data.toList (k + 1), [], p.1, k, p.2⟩) := by
        show _ = _
        rw [HON.out, ← hq]
        split <;> rfl
      obtain ⟨N, hN⟩ : ∃ N, runT nameB s.data.toList (k + 1) = N := ⟨_, rfl⟩
      rw [hN] at HON2
      simp only [hN] at HOP
      obtain ⟨x, hx⟩ : ∃ x, strOf N = x := ⟨_, rfl⟩
      have HX := Lib.hid hx
      simp only [hx] at HOP
      clear h2 ha60 h60 HON hq hN hx
      go_wp2_with fail
      refine (T2.out _ HR0.out).mono ?_
      rintro e w2 ⟨rfl, hR2, hO2⟩
      have HT2 := Lib.hid (Blk.only HT0.out hO2 (Nat.ne_of_gt hgl))
      have HO2 := Lib.hid (HO0.out.trans hO2)
      have HR2 := Lib.hid hR2
      clear hR2 hO2 HT0 HR0 HO0 HS0 c1
      go_wp2_with fail
      refine (T3.out _ HR2.out).mono ?_
      rintro e w3 ⟨rfl, hR3, hO3⟩
      have HT3 := Lib.hid (Blk.only HT2.out hO3 (Nat.ne_of_gt hgl))
      have HO3 := Lib.hid (HO2.out.trans hO3)
      have HR3 := Lib.hid hR3
      have HB3 : Hid (w.heap.size ≤ w3.heap.size) := HO3.out.size
      clear hR3 hO3 HT2 HR2 HO2
      cases q with
      | none =>
        have HV : Hid (o = none) := HON2.out
        have HOP2 : Hid (∀ w, Rdr w g s (k + 1) → Calls Try.prog 37 #[.pointer (some ⟨g, 0, none⟩), .int .i64 k] w fun e w' => (∃ (q : Int) (n t : ByteArray) (o : Option Addr) (m c : Nat) (f u : Int), e = .returned (.tuple #[.agg #[.int .u8 q, .string n, .string t, .slice o m c, .int .i64 f, .int .i64 u], .bool false])) ∧ Only g w w') := HOP.out
        clear HOP HON2
        go_wp2_with fail
        refine (HOP2.out _ HR3.out).mono ?_
        rintro e w4 ⟨⟨qa, qn, qt, qo, qm, qc, qf, qu, rfl⟩, hO4⟩
        have hT6 := Blk.only HT3.out hO4 (Nat.ne_of_gt hgl)
        have hO6 := HO3.out.trans hO4
        clear hO4 HT3 HO3 HR3
        have r0 := hT6.cell 0
        have f0 := hT6.frozen 0
        have r1 := hT6.cell 1
        have f1 := hT6.frozen 1
        have r2 := hT6.cell 2
        have f2 := hT6.frozen 2
        have r3 := hT6.cell 3
        have f3 := hT6.frozen 3
        have r4 := hT6.cell 4
        have f4 := hT6.frozen 4
        have r5 := hT6.cell 5
        have f5 := hT6.frozen 5
        go_wp2_with fail
        have hF := ((((((hT6.set_ 0 (.int .u8 qa)).set_ 1 (.string qn)).set_ 2 (.string qt)).set_ 3 (.slice qo qm qc)).set_ 4 (.int .i64 qf)).set_ 5 (.int .i64 qu))
        have s0 : (World.setCell _ _ _).cell? _ = some (.int .u8 qa) := hF.cell 0
        have s1 : (World.setCell _ _ _).cell? _ = some (.string qn) := hF.cell 1
        have s2 : (World.setCell _ _ _).cell? _ = some (.string qt) := hF.cell 2
        have s3 : (World.setCell _ _ _).cell? _ = some (.slice qo qm qc) := hF.cell 3
        have s4 : (World.setCell _ _ _).cell? _ = some (.int .i64 qf) := hF.cell 4
        have s5 : (World.setCell _ _ _).cell? _ = some (.int .i64 qu) := hF.cell 5
        exact bodyPost_ret (v := .tuple #[.agg #[.int .u8 qa, .string qn, .string qt, .slice qo qm qc, .int .i64 qf, .int .i64 qu], .bool false]) (by simp [results, Try.f25, go_sem, s0, s1, s2, s3, s4, s5]) rfl ⟨by rw [HV.out]; exact ⟨_, _, _, _, _, _, _, _, rfl⟩, ((((((hO6.far (p := ⟨w.heap.size, 0, none⟩) (Nat.le_refl _) _).far (p := ⟨w.heap.size, 1, none⟩) (Nat.le_refl _) _).far (p := ⟨w.heap.size, 2, none⟩) (Nat.le_refl _) _).far (p := ⟨w.heap.size, 3, none⟩) (Nat.le_refl _) _).far (p := ⟨w.heap.size, 4, none⟩) (Nat.le_refl _) _).far (p := ⟨w.heap.size, 5, none⟩) (Nat.le_refl _) _)⟩
      | some bt_ =>
        obtain ⟨bs, t2⟩ := bt_
        have HV : Hid (o = some ⟨111, N, [], bs, k, t2⟩) := HON2.out
        have HOP2 : Hid (∀ w, Rdr w g s (k + 1) → Calls Try.prog 37 #[.pointer (some ⟨g, 0, none⟩), .int .i64 k] w fun e w' => (∃ av cs, e = .returned (.tuple #[.agg #[.int .u8 111, .string x, .string ⟨#[]⟩, av, .int .i64 k, .int .i64 t2], .bool true]) ∧ RowG w' (fun b => w.heap.size ≤ b) av bs.length cs ∧ AttsC true bs cs ∧ Rdr w' g s t2) ∧ Only g w w') := HOP.out
        clear HOP HON2
        have HB3' : Hid (w.heap.size < w3.heap.size) := Nat.lt_of_lt_of_le HT3.out.lt (Nat.le_refl _)
        go_wp2_with fail
        refine (HOP2.out _ HR3.out).mono ?_
        rintro e w4 ⟨⟨av, cs, rfl, hrow, hat, hR4⟩, hO4⟩
        have hT6 := Blk.only HT3.out hO4 (Nat.ne_of_gt hgl)
        have hO6 := HO3.out.trans hO4
        have HRow := Lib.hid hrow
        obtain ⟨ro, rc, rfl⟩ := rowG_len hrow
        have HAt := Lib.hid hat
        have HR4 := Lib.hid hR4
        clear hO4 HT3 HO3 HR3 hrow hat hR4
        have r0 := hT6.cell 0
        have f0 := hT6.frozen 0
        have r1 := hT6.cell 1
        have f1 := hT6.frozen 1
        have r2 := hT6.cell 2
        have f2 := hT6.frozen 2
        have r3 := hT6.cell 3
        have f3 := hT6.frozen 3
        have r4 := hT6.cell 4
        have f4 := hT6.frozen 4
        have r5 := hT6.cell 5
        have f5 := hT6.frozen 5
        have hF6 : ∀ b, b ≠ w.heap.size → ((((((w4.setCell ⟨w.heap.size, 0, none⟩ (.int .u8 111)).setCell ⟨w.heap.size, 1, none⟩ (.string x)).setCell ⟨w.heap.size, 2, none⟩ (.string ⟨#[]⟩)).setCell ⟨w.heap.size, 3, none⟩ (.slice ro bs.length rc)).setCell ⟨w.heap.size, 4, none⟩ (.int .i64 k)).setCell ⟨w.heap.size, 5, none⟩ (.int .i64 t2)).heap[b]? = w4.heap[b]? := fun b hb => by
          iterate 6 rw [Below.heap_setCell _ _ _ b hb]
        have hR6 := HR4.out
        go_wp2_with fail
        have hF := ((((((hT6.set_ 0 (.int .u8 111)).set_ 1 (.string x)).set_ 2 (.string ⟨#[]⟩)).set_ 3 (.slice ro bs.length rc)).set_ 4 (.int .i64 k)).set_ 5 (.int .i64 t2))
        have s0 : (World.setCell _ _ _).cell? _ = some (.int .u8 111) := hF.cell 0
        have s1 : (World.setCell _ _ _).cell? _ = some (.string x) := hF.cell 1
        have s2 : (World.setCell _ _ _).cell? _ = some (.string ⟨#[]⟩) := hF.cell 2
        have s3 : (World.setCell _ _ _).cell? _ = some (.slice ro bs.length rc) := hF.cell 3
        have s4 : (World.setCell _ _ _).cell? _ = some (.int .i64 k) := hF.cell 4
        have s5 : (World.setCell _ _ _).cell? _ = some (.int .i64 t2) := hF.cell 5
        exact bodyPost_ret (v := .tuple #[.agg #[.int .u8 111, .string x, .string ⟨#[]⟩, .slice ro bs.length rc, .int .i64 k, .int .i64 t2], .bool true]) (by simp [results, Try.f25, go_sem, s0, s1, s2, s3, s4, s5]) rfl ⟨by rw [HV.out]; exact ⟨_, cs, by rw [← HX.out]; rfl, RowG.mono (ok := fun b => w3.heap.size ≤ b) (fun b hb hl => ⟨by have := HB3'.out; omega, by simp [World.setCell]; exact hl, hF6 b (by have := HB3'.out; omega)⟩) HRow.out, HAt.out, ((((((hR6.far (p := ⟨w.heap.size, 0, none⟩) (Nat.ne_of_lt hgl) _).far (p := ⟨w.heap.size, 1, none⟩) (Nat.ne_of_lt hgl) _).far (p := ⟨w.heap.size, 2, none⟩) (Nat.ne_of_lt hgl) _).far (p := ⟨w.heap.size, 3, none⟩) (Nat.ne_of_lt hgl) _).far (p := ⟨w.heap.size, 4, none⟩) (Nat.ne_of_lt hgl) _).far (p := ⟨w.heap.size, 5, none⟩) (Nat.ne_of_lt hgl) _)⟩, ((((((hO6.far (p := ⟨w.heap.size, 0, none⟩) (Nat.le_refl _) _).far (p := ⟨w.heap.size, 1, none⟩) (Nat.le_refl _) _).far (p := ⟨w.heap.size, 2, none⟩) (Nat.le_refl _) _).far (p := ⟨w.heap.size, 3, none⟩) (Nat.le_refl _) _).far (p := ⟨w.heap.size, 4, none⟩) (Nat.le_refl _) _).far (p := ⟨w.heap.size, 5, none⟩) (Nat.le_refl _) _)⟩
    · have HON : Hid (o = (sayJ 60 62 (s.data.toList.drop k)).map fun p => ⟨116, [], p.1, [], k, k + p.2⟩) := by
        show _ = _
        rw [← HOE.out]; unfold oneG; rw [h2, if_neg (by decide), if_neg h60]
      have T3 : Hid (∀ w, Rdr w g s k → Calls Try.prog 33 #[.pointer (some ⟨g, 0, none⟩), .string ⟨#[60]⟩] w fun e w' => e = .returned (.bool false) ∧ Rdr w' g s k ∧ Only g w w') := fun w hR => ttake g k s ⟨#[60]⟩ w hR (by omega) hs (by decide) false (ha60.trans (decide_eq_false h60))
      have HSY := Lib.hid (fun w hR => tsays g k 60 62 s w hR (by omega) hs ⟨by omega, by omega⟩ (by omega))
      clear h2 ha60 h60
      go_wp2_with fail
      refine (T2.out _ HR0.out).mono ?_
      rintro e w2 ⟨rfl, hR2, hO2⟩
      have HT2 := Lib.hid (Blk.only HT0.out hO2 (Nat.ne_of_gt hgl))
      have HO2 := Lib.hid (HO0.out.trans hO2)
      have HR2 := Lib.hid hR2
      clear hR2 hO2 HT0 HR0 HO0 HS0 c1
      go_wp2_with fail
      refine (T3.out _ HR2.out).mono ?_
      rintro e w3 ⟨rfl, hR3, hO3⟩
      have HT3 := Lib.hid (Blk.only HT2.out hO3 (Nat.ne_of_gt hgl))
      have HO3 := Lib.hid (HO2.out.trans hO3)
      have HR3 := Lib.hid hR3
      clear hR3 hO3 HT2 HR2 HO2
      cases hsj : sayJ 60 62 (s.data.toList.drop k) with
      | none =>
        rw [hsj] at HSY HON
        have HV : Hid (o = none) := HON.out
        have HSY2 : Hid (∀ w, Rdr w g s k → Calls Try.prog 38 #[.pointer (some ⟨g, 0, none⟩), .int .u8 60, .int .u8 62] w fun e w' => (∃ (v : ByteArray) (j : Nat), e = .returned (.tuple #[.string v, .bool false]) ∧ j ≤ s.size ∧ Rdr w' g s j) ∧ Only g w w') := HSY.out
        clear hsj HSY HON
        go_wp2_with fail
        refine (HSY2.out _ HR3.out).mono ?_
        rintro e w4 ⟨⟨y, j, rfl, hj, hR4⟩, hO4⟩
        have hT6 := Blk.only HT3.out hO4 (Nat.ne_of_gt hgl)
        have hO6 := HO3.out.trans hO4
        have c1 := hR4.c1
        clear hO4 HT3 HO3 HR3
        have r0 := hT6.cell 0
        have f0 := hT6.frozen 0
        have r1 := hT6.cell 1
        have f1 := hT6.frozen 1
        have r2 := hT6.cell 2
        have f2 := hT6.frozen 2
        have r3 := hT6.cell 3
        have f3 := hT6.frozen 3
        have r4 := hT6.cell 4
        have f4 := hT6.frozen 4
        have r5 := hT6.cell 5
        have f5 := hT6.frozen 5
        go_wp2_with fail
        have hF := ((((((hT6.set_ 0 (.int .u8 116)).set_ 1 (.string ⟨#[]⟩)).set_ 2 (.string y)).set_ 3 (.slice none 0 0)).set_ 4 (.int .i64 k)).set_ 5 (.int .i64 j))
        have s0 : (World.setCell _ _ _).cell? _ = some (.int .u8 116) := hF.cell 0
        have s1 : (World.setCell _ _ _).cell? _ = some (.string ⟨#[]⟩) := hF.cell 1
        have s2 : (World.setCell _ _ _).cell? _ = some (.string y) := hF.cell 2
        have s3 : (World.setCell _ _ _).cell? _ = some (.slice none 0 0) := hF.cell 3
        have s4 : (World.setCell _ _ _).cell? _ = some (.int .i64 k) := hF.cell 4
        have s5 : (World.setCell _ _ _).cell? _ = some (.int .i64 j) := hF.cell 5
        exact bodyPost_ret (v := .tuple #[.agg #[.int .u8 116, .string ⟨#[]⟩, .string y, .slice none 0 0, .int .i64 k, .int .i64 j], .bool false]) (by simp [results, Try.f25, go_sem, s0, s1, s2, s3, s4, s5]) rfl ⟨by rw [HV.out]; exact ⟨_, _, _, _, _, _, _, _, rfl⟩, ((((((hO6.far (p := ⟨w.heap.size, 0, none⟩) (Nat.le_refl _) _).far (p := ⟨w.heap.size, 1, none⟩) (Nat.le_refl _) _).far (p := ⟨w.heap.size, 2, none⟩) (Nat.le_refl _) _).far (p := ⟨w.heap.size, 3, none⟩) (Nat.le_refl _) _).far (p := ⟨w.heap.size, 4, none⟩) (Nat.le_refl _) _).far (p := ⟨w.heap.size, 5, none⟩) (Nat.le_refl _) _)⟩
      | some vm =>
        obtain ⟨v, m⟩ := vm
        rw [hsj] at HSY HON
        have HV : Hid (o = some ⟨116, [], v, [], k, k + m⟩) := HON.out
        obtain ⟨y, hy⟩ : ∃ y, strOf v = y := ⟨_, rfl⟩
        obtain ⟨j, hj⟩ : ∃ j, k + m = j := ⟨_, rfl⟩
        have HSY2 : Hid (∀ w, Rdr w g s k → Calls Try.prog 38 #[.pointer (some ⟨g, 0, none⟩), .int .u8 60, .int .u8 62] w fun e w' => (e = .returned (.tuple #[.string y, .bool true]) ∧ Rdr w' g s j) ∧ Only g w w') := by rw [← hy, ← hj]; exact HSY.out
        have HY := Lib.hid hy
        rw [hj] at HV
        clear hsj HSY HON hy hj
        go_wp2_with fail
        refine (HSY2.out _ HR3.out).mono ?_
        rintro e w4 ⟨⟨rfl, hR4⟩, hO4⟩
        have hT6 := Blk.only HT3.out hO4 (Nat.ne_of_gt hgl)
        have hO6 := HO3.out.trans hO4
        have c1 := hR4.c1
        clear hO4 HT3 HO3 HR3
        have r0 := hT6.cell 0
        have f0 := hT6.frozen 0
        have r1 := hT6.cell 1
        have f1 := hT6.frozen 1
        have r2 := hT6.cell 2
        have f2 := hT6.frozen 2
        have r3 := hT6.cell 3
        have f3 := hT6.frozen 3
        have r4 := hT6.cell 4
        have f4 := hT6.frozen 4
        have r5 := hT6.cell 5
        have f5 := hT6.frozen 5
        have hR6 := hR4
        go_wp2_with fail
        have hF := ((((((hT6.set_ 0 (.int .u8 116)).set_ 1 (.string ⟨#[]⟩)).set_ 2 (.string y)).set_ 3 (.slice none 0 0)).set_ 4 (.int .i64 k)).set_ 5 (.int .i64 j))
        have s0 : (World.setCell _ _ _).cell? _ = some (.int .u8 116) := hF.cell 0
        have s1 : (World.setCell _ _ _).cell? _ = some (.string ⟨#[]⟩) := hF.cell 1
        have s2 : (World.setCell _ _ _).cell? _ = some (.string y) := hF.cell 2
        have s3 : (World.setCell _ _ _).cell? _ = some (.slice none 0 0) := hF.cell 3
        have s4 : (World.setCell _ _ _).cell? _ = some (.int .i64 k) := hF.cell 4
        have s5 : (World.setCell _ _ _).cell? _ = some (.int .i64 j) := hF.cell 5
        exact bodyPost_ret (v := .tuple #[.agg #[.int .u8 116, .string ⟨#[]⟩, .string y, .slice none 0 0, .int .i64 k, .int .i64 j], .bool true]) (by simp [results, Try.f25, go_sem, s0, s1, s2, s3, s4, s5]) rfl ⟨by rw [HV.out]; exact ⟨.slice none 0 0, [], by rw [← HY.out]; rfl, .inl ⟨_, _, rfl, rfl, rfl⟩, rfl, ((((((hR6.far (p := ⟨w.heap.size, 0, none⟩) (Nat.ne_of_lt hgl) _).far (p := ⟨w.heap.size, 1, none⟩) (Nat.ne_of_lt hgl) _).far (p := ⟨w.heap.size, 2, none⟩) (Nat.ne_of_lt hgl) _).far (p := ⟨w.heap.size, 3, none⟩) (Nat.ne_of_lt hgl) _).far (p := ⟨w.heap.size, 4, none⟩) (Nat.ne_of_lt hgl) _).far (p := ⟨w.heap.size, 5, none⟩) (Nat.ne_of_lt hgl) _)⟩, ((((((hO6.far (p := ⟨w.heap.size, 0, none⟩) (Nat.le_refl _) _).far (p := ⟨w.heap.size, 1, none⟩) (Nat.le_refl _) _).far (p := ⟨w.heap.size, 2, none⟩) (Nat.le_refl _) _).far (p := ⟨w.heap.size, 3, none⟩) (Nat.le_refl _) _).far (p := ⟨w.heap.size, 4, none⟩) (Nat.le_refl _) _).far (p := ⟨w.heap.size, 5, none⟩) (Nat.le_refl _) _)⟩
end Go.Proofs.Ytlogjghbdnaedaa
