/- Walks: the document's references: One (chapter 6, as chapter 11 has it). -/
import Derived.Test.YtlogjghbdnaedaaTgR
import Derived.Test.YtlogjghbdnaedaaTgD
import Derived.Test.YtlogjghbdnaedaaTgB
namespace Go.Proofs.Ytlogjghbdnaedaa
open Go.RowKit
set_option linter.unusedVariables false
set_option linter.unusedSimpArgs false
def nmZ : List ByteArray := [⟨#[38, 97, 109, 112, 59]⟩, ⟨#[38, 108, 116, 59]⟩, ⟨#[38, 103, 116, 59]⟩, ⟨#[38, 113, 117, 111, 116, 59]⟩]
def byZ : List ByteArray := [⟨#[38]⟩, ⟨#[60]⟩, ⟨#[62]⟩, ⟨#[34]⟩]
/-- What One says. -/
def oneV (o : Option (List UInt8 × Nat)) : Value := match o with
  | some (x, n) => .tuple #[.string (strOf x), .int .i64 n, .bool true]
  | none => .tuple #[.string ⟨#[]⟩, .int .i64 0, .bool false]
theorem one_hit {l : List UInt8} {k : Nat} (hk : k ≤ l.length) : ∀ (i : Nat), i < 4 → (∀ j, j < i → atS l (nmZ.getD j .empty).data.toList k = false) → atS l (nmZ.getD i .empty).data.toList k = true →
    refJ (l.drop k) = some ((byZ.getD i .empty).data.toList, (nmZ.getD i .empty).size)
  | 0, _, _, h => by
    have h0 : atS l sAmp k = true := h
    rw [refJ_at l k hk, if_pos h0]; rfl
  | 1, _, hs, h => by
    have h0 : atS l sAmp k = false := hs 0 (by omega)
    have h1 : atS l sLt k = true := h
    rw [refJ_at l k hk, h0, if_neg (by decide), if_pos h1]; rfl
  | 2, _, hs, h => by
    have h0 : atS l sAmp k = false := hs 0 (by omega)
    have h1 : atS l sLt k = false := hs 1 (by omega)
    have h2 : atS l sGt k = true := h
    rw [refJ_at l k hk, h0, if_neg (by decide), h1, if_neg (by decide), if_pos h2]; rfl
  | 3, _, hs, h => by
    have h0 : atS l sAmp k = false := hs 0 (by omega)
    have h1 : atS l sLt k = false := hs 1 (by omega)
    have h2 : atS l sGt k = false := hs 2 (by omega)
    have h3 : atS l sQuot k = true := h
    rw [refJ_at l k hk, h0, if_neg (by decide), h1, if_neg (by decide), h2, if_neg (by decide), if_pos h3]; rfl
  | i + 4, hi, _, _ => by omega
theorem one_miss {l : List UInt8} {k : Nat} (hk : k ≤ l.length) (hs : ∀ j, j < 4 → atS l (nmZ.getD j .empty).data.toList k = false) :
    refJ (l.drop k) = if atS l sHex k then (numR 16 6 (l.drop (k + 3))).map fun p => (enc p.1, 3 + p.2) else if atS l sNum k then (numR 10 7 (l.drop (k + 2))).map fun p => (enc p.1, 2 + p.2) else none := by
  have h0 : atS l sAmp k = false := hs 0 (by omega)
  have h1 : atS l sLt k = false := hs 1 (by omega)
  have h2 : atS l sGt k = false := hs 2 (by omega)
  have h3 : atS l sQuot k = false := hs 3 (by omega)
  rw [refJ_at l k hk, h0, if_neg (by decide), h1, if_neg (by decide), h2, if_neg (by decide), h3, if_neg (by decide)]
theorem begins_at (s p : ByteArray) (k : Nat) (b : Bool) (w : World) (hs : s.size ≤ 1000000) (hp : p.size ≤ 1000000) (hb : atS s.data.toList p.data.toList k = b) :
    Calls Try.prog 40 #[.string s, .string p, .int .i64 k] w fun e w' => e = .returned (.bool b) ∧ w = w' := by
  rw [← hb]
  exact rbegins_any s p k w (by omega) (by omega)
set_option maxRecDepth 100000 in
set_option maxHeartbeats 16000000 in
theorem rone06 (s : ByteArray) (k : Nat) (w : World) (hk : k ≤ s.size) (hs : s.size ≤ 1000000) :
    Calls Try.prog 59 #[.string s, .int .i64 k] w fun e w' => e = .returned (oneV (refJ (s.data.toList.drop k))) ∧ Below w.heap.size w w' := by
  have HL := Lib.hid (sz_len s)
  have hkl : k ≤ s.data.toList.length := by rw [← sz_len]; exact hk
  have HKL := Lib.hid hkl
  clear hkl
  go_enter Try.func59, Try.ntmps59
  go_upto_region 3 with fail
  have hN := (Blk.new w 9 #[.string ⟨#[38, 97, 109, 112, 59]⟩, .string ⟨#[38, 108, 116, 59]⟩, .string ⟨#[38, 103, 116, 59]⟩, .string ⟨#[38, 113, 117, 111, 116, 59]⟩]).alloc (.cells #[.string ⟨#[38]⟩, .string ⟨#[60]⟩, .string ⟨#[62]⟩, .string ⟨#[34]⟩] 9)
  have hB := Blk.new (w.alloc (.cells #[.string ⟨#[38, 97, 109, 112, 59]⟩, .string ⟨#[38, 108, 116, 59]⟩, .string ⟨#[38, 103, 116, 59]⟩, .string ⟨#[38, 113, 117, 111, 116, 59]⟩] 9)) 9 #[.string ⟨#[38]⟩, .string ⟨#[60]⟩, .string ⟨#[62]⟩, .string ⟨#[34]⟩]
  rw [World.size_alloc] at hB
  have HCN : Hid (∀ i, i < 4 → ((w.alloc (.cells #[.string ⟨#[38, 97, 109, 112, 59]⟩, .string ⟨#[38, 108, 116, 59]⟩, .string ⟨#[38, 103, 116, 59]⟩, .string ⟨#[38, 113, 117, 111, 116, 59]⟩] 9)).alloc (.cells #[.string ⟨#[38]⟩, .string ⟨#[60]⟩, .string ⟨#[62]⟩, .string ⟨#[34]⟩] 9)).cell? ⟨w.heap.size, i, none⟩ = some (.string (nmZ.getD i .empty))) := by
    intro i hi
    rw [hN.cell i]
    match i, hi with
    | 0, _ => rfl
    | 1, _ => rfl
    | 2, _ => rfl
    | 3, _ => rfl
  have HCB : Hid (∀ i, i < 4 → ((w.alloc (.cells #[.string ⟨#[38, 97, 109, 112, 59]⟩, .string ⟨#[38, 108, 116, 59]⟩, .string ⟨#[38, 103, 116, 59]⟩, .string ⟨#[38, 113, 117, 111, 116, 59]⟩] 9)).alloc (.cells #[.string ⟨#[38]⟩, .string ⟨#[60]⟩, .string ⟨#[62]⟩, .string ⟨#[34]⟩] 9)).cell? ⟨w.heap.size + 1, i, none⟩ = some (.string (byZ.getD i .empty))) := by
    intro i hi
    rw [hB.cell i]
    match i, hi with
    | 0, _ => rfl
    | 1, _ => rfl
    | 2, _ => rfl
    | 3, _ => rfl
  have HB9 : Hid (Below w.heap.size w ((w.alloc (.cells #[.string ⟨#[38, 97, 109, 112, 59]⟩, .string ⟨#[38, 108, 116, 59]⟩, .string ⟨#[38, 103, 116, 59]⟩, .string ⟨#[38, 113, 117, 111, 116, 59]⟩] 9)).alloc (.cells #[.string ⟨#[38]⟩, .string ⟨#[60]⟩, .string ⟨#[62]⟩, .string ⟨#[34]⟩] 9))) := ((Below.refl _ _).alloc (Nat.le_refl _) _).alloc (by simp) _
  generalize hW : (w.alloc (.cells #[.string ⟨#[38, 97, 109, 112, 59]⟩, .string ⟨#[38, 108, 116, 59]⟩, .string ⟨#[38, 103, 116, 59]⟩, .string ⟨#[38, 113, 117, 111, 116, 59]⟩] 9)).alloc (.cells #[.string ⟨#[38]⟩, .string ⟨#[60]⟩, .string ⟨#[62]⟩, .string ⟨#[34]⟩] 9) = W2 at *
  clear hW hN hB
  go_wp2_with fail
  go_loop [9] (fun z => ∃ i : Nat, z = .int .i64 i ∧ i ≤ 4 ∧ ∀ j, j < i → atS s.data.toList (nmZ.getD j .empty).data.toList k = false) (fun z => 4 - (intOf z).toNat)
  case atStart => exact ⟨0, rfl, by omega, fun j hj => by omega⟩
  case round =>
    obtain ⟨i, rfl, hi, hs4⟩ := hrel
    have HS := Lib.hid hs4
    clear hs4
    by_cases hlt : i < 4
    · have c1 := HCN.out i hlt
      have c2 := HCB.out i hlt
      have hpz : (nmZ.getD i .empty).size ≤ 10 := by
        match i, hlt with
        | 0, _ => decide
        | 1, _ => decide
        | 2, _ => decide
        | 3, _ => decide
      cases hb : atS s.data.toList (nmZ.getD i .empty).data.toList k with
      | true =>
        have HV := Lib.hid (one_hit HKL.out i hlt HS.out hb)
        have HX := Lib.hid (fun w => begins_at s _ k true w hs (by omega) hb)
        obtain ⟨q, hq⟩ : ∃ q, byZ.getD i .empty = q := ⟨_, rfl⟩
        rw [hq] at c2 HV
        generalize nmZ.getD i .empty = p at *
        clear hb hq HS
        go_wp2_with fail
        refine (HX.out _).mono ?_
        rintro e w3 ⟨rfl, rfl⟩
        go_wp2_with fail
        go_region_held3 (fun w' => w'.cell? ⟨w.heap.size, i, none⟩ = some (.string p) ∧ w'.cell? ⟨w.heap.size + 1, i, none⟩ = some (.string q)) (exact ⟨c1, c2⟩) (fail)
        go_wp2_with fail
        go_ret3
        exact ⟨by rw [HV.out]; show _ = Ending.returned (.tuple #[.string (strOf q.data.toList), .int .i64 (p.size : Int), .bool true]); rw [strOf_data]; rfl, HB9.out.drew⟩
      | false =>
        have HX := Lib.hid (fun w => begins_at s _ k false w hs (by omega) hb)
        have HS2 : Hid (∀ j, j < i + 1 → atS s.data.toList (nmZ.getD j .empty).data.toList k = false) := by
          intro j hj
          rcases Nat.lt_or_ge j i with h | h
          · exact HS.out j h
          · obtain rfl : j = i := by omega
            exact hb
        generalize nmZ.getD i .empty = p at *
        clear hb HS c2
        go_wp2_with fail
        refine (HX.out _).mono ?_
        rintro e w3 ⟨rfl, rfl⟩
        go_wp2_with fail
        go_round
        case rel => exact ⟨i + 1, by go_num, hlt, HS2.out⟩
        case measure => simp [intOf]; omega
    · have hi4 : i = 4 := by omega
      have HM0 := Lib.hid (one_miss HKL.out (fun j hj => HS.out j (by omega)))
      clear hi4 HS
      cases hx : atS s.data.toList sHex k with
      | true =>
        have hk3 : k + 3 ≤ s.size := by
          rcases atS_len hx with h | h
          · have e : sHex.length = 3 := rfl
            have := HL.out
            omega
          · cases h
        have HM : Hid (refJ (s.data.toList.drop k) = (numR 16 6 (s.data.toList.drop (k + 3))).map fun p => (enc p.1, 3 + p.2)) := by show _ = _; rw [HM0.out, hx, if_pos rfl]
        have HX : Hid (∀ w, Calls Try.prog 40 #[.string s, .string ⟨#[38, 35, 120]⟩, .int .i64 k] w fun e w' => e = .returned (.bool true) ∧ w = w') := fun w => begins_at s ⟨#[38, 35, 120]⟩ k true w hs (by decide) hx
        clear hx HM0
        have hcv : (numV 16 6 (s.data.toList.drop (k + 3))).2 ≤ 100 := by
          unfold numV
          have := numD_le 16 6 0 (s.data.toList.drop (k + 3))
          split
          · dsimp only; omega
          · decide
        have hcw : (numV 16 6 (s.data.toList.drop (k + 3))).1 ≤ 20000000 := by
          unfold numV
          have h1 := numD_lt 16 (by omega) 6 0 (s.data.toList.drop (k + 3))
          have h3 : (0 + 1) * 16 ^ 6 = 16777216 := rfl
          split
          · dsimp only; omega
          · decide
        have HNR := Lib.hid (numR_V 16 6 (s.data.toList.drop (k + 3)))
        have HNU : Hid (∀ w, Calls Try.prog 70 #[.string (s.extract (k + 3) s.size), .int .i64 16, .int .i64 6] w fun e w' => e = .returned (.tuple #[.int .i64 (numV 16 6 (s.data.toList.drop (k + 3))).1, .int .i64 (numV 16 6 (s.data.toList.drop (k + 3))).2]) ∧ w = w') := by
          intro w
          have h := rnum16 (s.extract (k + 3) s.size) w (by rw [ext_size]; omega)
          rw [Lib.extract_to_end] at h
          exact h
        generalize numV 16 6 (s.data.toList.drop (k + 3)) = vz at *
        obtain ⟨v, z⟩ := vz
        dsimp only at hcv hcw HNR HNU
        by_cases hz : z = 0
        · have HV : Hid (refJ (s.data.toList.drop k) = none) := by show _ = _; rw [HM.out, HNR.out, if_neg (fun h => h.1 hz)]; rfl
          have z1 : ((z : Int) == 0) = true := by simp; omega
          clear hz HNR HM
          go_wp2_with fail
          refine (HX.out _).mono ?_
          rintro e w3 ⟨rfl, rfl⟩
          go_wp2_with fail
          refine (HNU.out _).mono ?_
          rintro e w4 ⟨rfl, rfl⟩
          go_wp2_with fail
          go_ret3
          exact ⟨by rw [HV.out]; rfl, HB9.out⟩
        have z1 : ((z : Int) == 0) = false := by simp; omega
        by_cases hv : v = 0
        · have HV : Hid (refJ (s.data.toList.drop k) = none) := by show _ = _; rw [HM.out, HNR.out, if_neg (fun h => h.2.1 hv)]; rfl
          have z2 : ((v : Int) == 0) = true := by simp; omega
          clear hz hv HNR HM
          go_wp2_with fail
          refine (HX.out _).mono ?_
          rintro e w3 ⟨rfl, rfl⟩
          go_wp2_with fail
          refine (HNU.out _).mono ?_
          rintro e w4 ⟨rfl, rfl⟩
          go_wp2_with fail
          go_ret3
          exact ⟨by rw [HV.out]; rfl, HB9.out⟩
        have z2 : ((v : Int) == 0) = false := by simp; omega
        by_cases hr : isRune (v : Int)
        · have HV : Hid (refJ (s.data.toList.drop k) = some (enc (v : Int), 3 + z)) := by show _ = _; rw [HM.out, HNR.out, if_pos ⟨hz, hv, hr⟩]; rfl
          have HRU := Lib.hid (fun w => rune_any (v : Int) w)
          rw [decide_eq_true hr] at HRU
          have HBY := Lib.hid (fun w => rbytes_any (v : Int) w)
          clear hz hv hr HNR HM
          go_wp2_with fail
          refine (HX.out _).mono ?_
          rintro e w3 ⟨rfl, rfl⟩
          go_wp2_with fail
          refine (HNU.out _).mono ?_
          rintro e w4 ⟨rfl, rfl⟩
          go_wp2_with fail
          refine (HRU.out _).mono ?_
          rintro e w5 ⟨rfl, rfl⟩
          go_wp2_with fail
          refine (HBY.out _).mono ?_
          rintro e w6 ⟨rfl, b6⟩
          go_wp2_with fail
          go_ret3
          exact ⟨by rw [HV.out]; rfl, HB9.out.trans (b6.mono HB9.out.size)⟩
        · have HV : Hid (refJ (s.data.toList.drop k) = none) := by show _ = _; rw [HM.out, HNR.out, if_neg (fun h => hr h.2.2)]; rfl
          have HRU := Lib.hid (fun w => rune_any (v : Int) w)
          rw [decide_eq_false hr] at HRU
          clear hz hv hr HNR HM
          go_wp2_with fail
          refine (HX.out _).mono ?_
          rintro e w3 ⟨rfl, rfl⟩
          go_wp2_with fail
          refine (HNU.out _).mono ?_
          rintro e w4 ⟨rfl, rfl⟩
          go_wp2_with fail
          refine (HRU.out _).mono ?_
          rintro e w5 ⟨rfl, rfl⟩
          go_wp2_with fail
          go_ret3
          exact ⟨by rw [HV.out]; rfl, HB9.out⟩
      | false =>
        have HX : Hid (∀ w, Calls Try.prog 40 #[.string s, .string ⟨#[38, 35, 120]⟩, .int .i64 k] w fun e w' => e = .returned (.bool false) ∧ w = w') := fun w => begins_at s ⟨#[38, 35, 120]⟩ k false w hs (by decide) hx
        cases hd : atS s.data.toList sNum k with
        | true =>
          have hk2 : k + 2 ≤ s.size := by
            rcases atS_len hd with h | h
            · have e : sNum.length = 2 := rfl
              have := HL.out
              omega
            · cases h
          have HM : Hid (refJ (s.data.toList.drop k) = (numR 10 7 (s.data.toList.drop (k + 2))).map fun p => (enc p.1, 2 + p.2)) := by show _ = _; rw [HM0.out, hx, if_neg (by decide), hd, if_pos rfl]
          have HD : Hid (∀ w, Calls Try.prog 40 #[.string s, .string ⟨#[38, 35]⟩, .int .i64 k] w fun e w' => e = .returned (.bool true) ∧ w = w') := fun w => begins_at s ⟨#[38, 35]⟩ k true w hs (by decide) hd
          clear hx hd HM0
          have hcv : (numV 10 7 (s.data.toList.drop (k + 2))).2 ≤ 100 := by
            unfold numV
            have := numD_le 10 7 0 (s.data.toList.drop (k + 2))
            split
            · dsimp only; omega
            · decide
          have hcw : (numV 10 7 (s.data.toList.drop (k + 2))).1 ≤ 20000000 := by
            unfold numV
            have h1 := numD_lt 10 (by omega) 7 0 (s.data.toList.drop (k + 2))
            have h3 : (0 + 1) * 10 ^ 7 = 10000000 := rfl
            split
            · dsimp only; omega
            · decide
          have HNR := Lib.hid (numR_V 10 7 (s.data.toList.drop (k + 2)))
          have HNU : Hid (∀ w, Calls Try.prog 70 #[.string (s.extract (k + 2) s.size), .int .i64 10, .int .i64 7] w fun e w' => e = .returned (.tuple #[.int .i64 (numV 10 7 (s.data.toList.drop (k + 2))).1, .int .i64 (numV 10 7 (s.data.toList.drop (k + 2))).2]) ∧ w = w') := by
            intro w
            have h := rnum10 (s.extract (k + 2) s.size) w (by rw [ext_size]; omega)
            rw [Lib.extract_to_end] at h
            exact h
          generalize numV 10 7 (s.data.toList.drop (k + 2)) = vz at *
          obtain ⟨v, z⟩ := vz
          dsimp only at hcv hcw HNR HNU
          by_cases hz : z = 0
          · have HV : Hid (refJ (s.data.toList.drop k) = none) := by show _ = _; rw [HM.out, HNR.out, if_neg (fun h => h.1 hz)]; rfl
            have z1 : ((z : Int) == 0) = true := by simp; omega
            clear hz HNR HM
            go_wp2_with fail
            refine (HX.out _).mono ?_
            rintro e w3 ⟨rfl, rfl⟩
            go_wp2_with fail
            refine (HD.out _).mono ?_
            rintro e w3 ⟨rfl, rfl⟩
            go_wp2_with fail
            refine (HNU.out _).mono ?_
            rintro e w4 ⟨rfl, rfl⟩
            go_wp2_with fail
            go_ret3
            exact ⟨by rw [HV.out]; rfl, HB9.out⟩
          have z1 : ((z : Int) == 0) = false := by simp; omega
          by_cases hv : v = 0
          · have HV : Hid (refJ (s.data.toList.drop k) = none) := by show _ = _; rw [HM.out, HNR.out, if_neg (fun h => h.2.1 hv)]; rfl
            have z2 : ((v : Int) == 0) = true := by simp; omega
            clear hz hv HNR HM
            go_wp2_with fail
            refine (HX.out _).mono ?_
            rintro e w3 ⟨rfl, rfl⟩
            go_wp2_with fail
            refine (HD.out _).mono ?_
            rintro e w3 ⟨rfl, rfl⟩
            go_wp2_with fail
            refine (HNU.out _).mono ?_
            rintro e w4 ⟨rfl, rfl⟩
            go_wp2_with fail
            go_ret3
            exact ⟨by rw [HV.out]; rfl, HB9.out⟩
          have z2 : ((v : Int) == 0) = false := by simp; omega
          by_cases hr : isRune (v : Int)
          · have HV : Hid (refJ (s.data.toList.drop k) = some (enc (v : Int), 2 + z)) := by show _ = _; rw [HM.out, HNR.out, if_pos ⟨hz, hv, hr⟩]; rfl
            have HRU := Lib.hid (fun w => rune_any (v : Int) w)
            rw [decide_eq_true hr] at HRU
            have HBY := Lib.hid (fun w => rbytes_any (v : Int) w)
            clear hz hv hr HNR HM
            go_wp2_with fail
            refine (HX.out _).mono ?_
            rintro e w3 ⟨rfl, rfl⟩
            go_wp2_with fail
            refine (HD.out _).mono ?_
            rintro e w3 ⟨rfl, rfl⟩
            go_wp2_with fail
            refine (HNU.out _).mono ?_
            rintro e w4 ⟨rfl, rfl⟩
            go_wp2_with fail
            refine (HRU.out _).mono ?_
            rintro e w5 ⟨rfl, rfl⟩
            go_wp2_with fail
            refine (HBY.out _).mono ?_
            rintro e w6 ⟨rfl, b6⟩
            go_wp2_with fail
            go_ret3
            exact ⟨by rw [HV.out]; rfl, HB9.out.trans (b6.mono HB9.out.size)⟩
          · have HV : Hid (refJ (s.data.toList.drop k) = none) := by show _ = _; rw [HM.out, HNR.out, if_neg (fun h => hr h.2.2)]; rfl
            have HRU := Lib.hid (fun w => rune_any (v : Int) w)
            rw [decide_eq_false hr] at HRU
            clear hz hv hr HNR HM
            go_wp2_with fail
            refine (HX.out _).mono ?_
            rintro e w3 ⟨rfl, rfl⟩
            go_wp2_with fail
            refine (HD.out _).mono ?_
            rintro e w3 ⟨rfl, rfl⟩
            go_wp2_with fail
            refine (HNU.out _).mono ?_
            rintro e w4 ⟨rfl, rfl⟩
            go_wp2_with fail
            refine (HRU.out _).mono ?_
            rintro e w5 ⟨rfl, rfl⟩
            go_wp2_with fail
            go_ret3
            exact ⟨by rw [HV.out]; rfl, HB9.out⟩
        | false =>
          have HV : Hid (refJ (s.data.toList.drop k) = none) := by show _ = _; rw [HM0.out, hx, if_neg (by decide), hd, if_neg (by decide)]
          have HD : Hid (∀ w, Calls Try.prog 40 #[.string s, .string ⟨#[38, 35]⟩, .int .i64 k] w fun e w' => e = .returned (.bool false) ∧ w = w') := fun w => begins_at s ⟨#[38, 35]⟩ k false w hs (by decide) hd
          clear hx hd HM0
          go_wp2_with fail
          refine (HX.out _).mono ?_
          rintro e w3 ⟨rfl, rfl⟩
          go_wp2_with fail
          refine (HD.out _).mono ?_
          rintro e w3 ⟨rfl, rfl⟩
          go_wp2_with fail
          go_ret3
          exact ⟨by rw [HV.out]; rfl, HB9.out⟩
end Go.Proofs.Ytlogjghbdnaedaa
