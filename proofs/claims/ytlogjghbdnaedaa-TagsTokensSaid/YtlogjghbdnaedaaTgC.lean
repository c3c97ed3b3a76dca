/- Walks: the program's tags reader: number (chapter 11). -/
import Derived.Test.YtlogjghbdnaedaaTgA
import Derived.Test.YtlogjghbdnaedaaUtfJ
import Derived.Test.YtlogjghbdnaedaaOctA
import Derived.Deep.CutBlock
namespace Go.Proofs.Ytlogjghbdnaedaa
open Go.RowKit
set_option linter.unusedVariables false
set_option linter.unusedSimpArgs false
/-- What a reader takes that says something: its bytes, and how many it took. -/
def SayR (o : Option (List UInt8 × Nat)) (k g : Nat) (s : ByteArray) (e : Ending) (w : World) : Prop := match o with
  | some (x, n) => e = .returned (.tuple #[.string (strOf x), .bool true]) ∧ Rdr w g s (k + n)
  | none => ∃ (v : ByteArray) (j : Nat), e = .returned (.tuple #[.string v, .bool false]) ∧ j ≤ s.size ∧ Rdr w g s j
theorem atS_drop (l p : List UInt8) (k : Nat) (h : k ≤ l.length) : atS (l.drop k) p 0 = atS l p k := by
  unfold atS
  rw [List.drop_zero, decide_eq_true h, decide_eq_true (Nat.zero_le _)]
theorem atS_one (l : List UInt8) (c : UInt8) (k : Nat) (hc : c.toNat ≠ 0) : atS l [c] k = decide (bt l k = c.toNat) := by
  unfold atS
  by_cases h : k < l.length
  · rw [decide_eq_true (by omega : k ≤ l.length), Bool.true_and, List.drop_eq_getElem_cons h, ← bt_get h]
    refine decide_eq_decide.2 ?_
    simp only [List.length_cons, List.length_nil, List.take_succ_cons, List.take_zero, List.cons.injEq, and_true]
    constructor
    · intro h; rw [h]
    · intro h; exact UInt8.toNat_inj.1 h
  · rw [bt_out (by omega), decide_eq_false (fun e : 0 = c.toNat => hc e.symm), List.drop_eq_nil_of_le (by omega)]
    simp
theorem wth_num {c : Nat} (h : 48 ≤ c ∧ c ≤ 57) : wth c + 48 = c := by unfold wth; rw [if_pos h]; omega
theorem wth_letT {c : Nat} (hc : c < 256) (h0 : ¬ (48 ≤ c ∧ c ≤ 57)) (h1 : 97 ≤ or32 c) (h2 : or32 c ≤ 102) : wth c + 87 = or32 c ∧ 10 ≤ wth c ∧ wth c < 16 := by
  have key : ∀ c : Fin 256, ¬ (48 ≤ c.val ∧ c.val ≤ 57) → 97 ≤ or32 c.val → or32 c.val ≤ 102 → wth c.val + 87 = or32 c.val ∧ 10 ≤ wth c.val ∧ wth c.val < 16 := by decide +kernel
  exact key ⟨c, hc⟩ h0 h1 h2
theorem wth_noT {c : Nat} (hc : c < 256) (h0 : ¬ (48 ≤ c ∧ c ≤ 57)) (h1 : ¬ (97 ≤ or32 c ∧ or32 c ≤ 102)) : wth c = 16 := by
  have key : ∀ c : Fin 256, ¬ (48 ≤ c.val ∧ c.val ≤ 57) → ¬ (97 ≤ or32 c.val ∧ or32 c.val ≤ 102) → wth c.val = 16 := by decide +kernel
  exact key ⟨c, hc⟩ h0 h1
theorem numD_at {base f n : Nat} {l : List UInt8} {k : Nat} (h : k < l.length) : numD base (f + 1) n (l.drop k) = if wth (bt l k) < base then ((numD base f (n * base + wth (bt l k)) (l.drop (k + 1))).1, (numD base f (n * base + wth (bt l k)) (l.drop (k + 1))).2 + 1) else (n, 0) := by
  rw [List.drop_eq_getElem_cons h, numD_cons, bt_get h]
/-- While digits are taken. -/
structure NumM (base most k : Nat) (l : List UInt8) (i n : Nat) : Prop where
  le : i ≤ most
  lt : n < base ^ i
  eq : numD base most 0 (l.drop k) = ((numD base (most - i) n (l.drop (k + i))).1, (numD base (most - i) n (l.drop (k + i))).2 + i)
theorem NumM.zero (base most k : Nat) (l : List UInt8) : NumM base most k l 0 0 := ⟨Nat.zero_le _, by simp, by simp⟩
theorem NumM.step {base most k : Nat} {l : List UInt8} {i n : Nat} (h : NumM base most k l i n) (hi : i < most) (hk : k + i < l.length) (hd : wth (bt l (k + i)) < base) : NumM base most k l (i + 1) (n * base + wth (bt l (k + i))) := by
  obtain ⟨h1, h2, h3⟩ := h
  obtain ⟨m, hm⟩ : ∃ m, most - i = m + 1 := ⟨most - i - 1, by omega⟩
  refine ⟨hi, ?_, ?_⟩
  · rw [Nat.pow_succ]
    have : (n + 1) * base ≤ base ^ i * base := Nat.mul_le_mul_right _ h2
    rw [Nat.add_mul, Nat.one_mul] at this
    omega
  · rw [h3, hm, numD_at hk, if_pos hd, show most - (i + 1) = m by omega]
    simp only [Prod.mk.injEq]
    rw [← Nat.add_assoc k i 1]
    exact ⟨rfl, by omega⟩
theorem NumM.out {base most k : Nat} {l : List UInt8} {i n : Nat} (h : NumM base most k l i n) (ho : numD base (most - i) n (l.drop (k + i)) = (n, 0)) : numD base most 0 (l.drop k) = (n, i) := by
  rw [h.eq, ho]; simp
theorem NumM.full {base most k : Nat} {l : List UInt8} {n : Nat} (h : NumM base most k l most n) : numD base most 0 (l.drop k) = (n, most) := h.out (by rw [Nat.sub_self]; rfl)
theorem NumM.over {base most k : Nat} {l : List UInt8} {i n : Nat} (h : NumM base most k l i n) (hk : l.length ≤ k + i) : numD base most 0 (l.drop k) = (n, i) := h.out (by rw [List.drop_eq_nil_of_le hk, numD_nil])
theorem NumM.stop {base most k : Nat} {l : List UInt8} {i n : Nat} (h : NumM base most k l i n) (hi : i < most) (hk : k + i < l.length) (hd : base ≤ wth (bt l (k + i))) : numD base most 0 (l.drop k) = (n, i) := by
  obtain ⟨m, hm⟩ : ∃ m, most - i = m + 1 := ⟨most - i - 1, by omega⟩
  exact h.out (by rw [hm, numD_at hk, if_neg (by omega)])
/-- Behind the digits. -/
def NumE (base most k : Nat) (s : ByteArray) (g : Nat) (w : World) (v : Value) (wx : World) : Prop :=
  v = .int .i64 ((numD base most 0 (s.data.toList.drop k)).1 : Nat) ∧ Rdr wx g s (k + (numD base most 0 (s.data.toList.drop k)).2) ∧ Only g w wx
theorem NumE.mk_ {base most k : Nat} {s : ByteArray} {g : Nat} {w : World} {n i : Nat} {wx : World} (h : numD base most 0 (s.data.toList.drop k) = (n, i)) (hr : Rdr wx g s (k + i)) (ho : Only g w wx) : NumE base most k s g w (.int .i64 n) wx := by
  unfold NumE; rw [h]; exact ⟨rfl, hr, ho⟩
set_option maxRecDepth 100000 in
set_option maxHeartbeats 8000000 in
theorem tnumX (g k : Nat) (s : ByteArray) (w : World) (hR : Rdr w g s k) (hk : k ≤ s.size) (hs : s.size ≤ 1000000) :
    Calls Try.prog 68 #[.pointer (some ⟨g, 0, none⟩), .int .i64 16, .int .i64 6] w fun e w' => SayR ((numR 16 6 (s.data.toList.drop k)).map fun p => (enc p.1, p.2)) k g s e w' ∧ Only g w w' := by
  have hl := Lib.hid (sz_len s)
  have HR0 := Lib.hid hR
  clear hR
  go_enter Try.func68, Try.ntmps68
  go_upto_block 0 with fail
  go_cut [8] (fun v wx => NumE 16 6 k s g w v wx)
  case first =>
    go_wp2_with fail
    go_loopw [8, 9] (fun x y wr => ∃ n i : Nat, x = .int .i64 n ∧ y = .int .i64 i ∧ NumM 16 6 k s.data.toList i n ∧ k + i ≤ s.size ∧ Rdr wr g s (k + i) ∧ Only g w wr) (fun _ y _ => 6 - (intOf y).toNat)
    case atStart => exact ⟨0, 0, rfl, rfl, NumM.zero _ _ _ _, hk, HR0.out, Only.refl g w⟩
    case round =>
      obtain ⟨n, i, rfl, rfl, hm, hki, hR3, hO3⟩ := hrel
      have HM := Lib.hid hm
      have HO := Lib.hid hO3
      have hi := hm.le
      have hnl : n ≤ 16777216 := by
        have h1 := hm.lt
        have h2 : 16 ^ i ≤ 16 ^ 6 := Nat.pow_le_pow_right (by omega) hi
        have h3 : 16 ^ 6 = 16777216 := rfl
        omega
      obtain ⟨j, hj⟩ : ∃ j, k + i = j := ⟨_, rfl⟩
      rw [hj] at hR3 hki
      have HJ := Lib.hid hj
      have HR := Lib.hid hR3
      have c1 := hR3.c1
      clear hm hO3 hR3 hj HR0
      by_cases hlt : j < s.size
      · have HD := Lib.hid (fun w hR => done_no g j s w hR hs hlt)
        by_cases hil : i < 6
        · have hx := bt_byte s j hlt
          have y0 := bt_lt s.data.toList j
          have hor := or_32 _ y0
          have hnum : ¬ (48 ≤ bt s.data.toList j ∧ bt s.data.toList j ≤ 57) → 97 ≤ or32 (bt s.data.toList j) → or32 (bt s.data.toList j) ≤ 102 → (wth (bt s.data.toList j) + 87 = or32 (bt s.data.toList j) ∧ 10 ≤ wth (bt s.data.toList j) ∧ wth (bt s.data.toList j) < 16) := wth_letT y0
          have hnon : ¬ (48 ≤ bt s.data.toList j ∧ bt s.data.toList j ≤ 57) → ¬ (97 ≤ or32 (bt s.data.toList j) ∧ or32 (bt s.data.toList j) ≤ 102) → wth (bt s.data.toList j) = 16 := wth_noT y0
          have hole := or32_lt _ y0
          obtain ⟨c, hc⟩ : ∃ c, bt s.data.toList j = c := ⟨_, rfl⟩
          have HC := Lib.hid hc
          rw [hc] at hx y0 hor hnum hnon hole
          clear hc
          generalize or32 c = d at *
          have HNM := Lib.hid hnum
          have HNN := Lib.hid hnon
          clear hnum hnon
          by_cases h1 : 48 ≤ c ∧ c ≤ 57
          · obtain ⟨h1, h2⟩ := h1
            clear HNM HNN
            go_wp2_with fail
            refine (HD.out _ HR.out).mono ?_
            rintro e w5 ⟨rfl, b5⟩
            have HR5 := Lib.hid (HR.out.bel b5)
            have HO5 := Lib.hid (HO.out.bel b5)
            clear b5 c1
            go_wp2_with fail
            go_region_held3 (fun w' => w'.cell? ⟨g, 0, none⟩ = some (.string s) ∧ w'.cell? ⟨g, 1, none⟩ = some (.int .i64 j)) (exact HR5.out.both) (fail)
            have HR6 : Hid (Rdr w5.drew g s j) := HR5.out
            have HO6 : Hid (Only g w w5.drew) := HO5.out.drew
            clear HR5 HO5
            generalize w5.drew = w6 at *
            have hw := wth_num ⟨h1, h2⟩
            have b1 : ¬ (16 : Int) ≤ (c : Int) - 48 := by omega
            have HM2 := Lib.hid (HM.out.step hil (by rw [HJ.out, ← hl.out]; exact hlt) (by rw [HJ.out, HC.out]; omega))
            rw [HJ.out, HC.out] at HM2
            have HV2 : Hid ((((n : Int) * 16 + ((c : Int) - 48)) : Int) = ((n * 16 + wth c : Nat) : Int)) := by show _ = _; omega
            have c1 := HR6.out.c1
            have f1 := HR6.out.f1
            clear hw
            go_wp2_with fail
            go_roundw
            case rel => exact ⟨n * 16 + wth c, i + 1, congrArg (Value.int .i64) HV2.out, by go_num, HM2.out, by have := HJ.out; omega, by rw [show k + (i + 1) = j + 1 by have := HJ.out; omega]; exact HR6.out.set (j + 1), HO6.out.set 1 _⟩
            case measure => simp [intOf]; omega
          · by_cases h2 : 97 ≤ d ∧ d ≤ 102
            · obtain ⟨h2, h3⟩ := h2
              have hwl := HNM.out h1 h2 h3
              have h4 : c < 48 ∨ 57 < c := by omega
              clear HNM HNN h1
              rcases h4 with h4 | h4
              all_goals
                go_wp2_with fail
                refine (HD.out _ HR.out).mono ?_
                rintro e w5 ⟨rfl, b5⟩
                have HR5 := Lib.hid (HR.out.bel b5)
                have HO5 := Lib.hid (HO.out.bel b5)
                clear b5 c1
                go_wp2_with fail
                go_region_held3 (fun w' => w'.cell? ⟨g, 0, none⟩ = some (.string s) ∧ w'.cell? ⟨g, 1, none⟩ = some (.int .i64 j)) (exact HR5.out.both) (fail)
                have HR6 : Hid (Rdr w5.drew g s j) := HR5.out
                have HO6 : Hid (Only g w w5.drew) := HO5.out.drew
                clear HR5 HO5
                generalize w5.drew = w6 at *
                obtain ⟨hw, hw2, hw3⟩ := hwl
                have b1 : ¬ (16 : Int) ≤ (d : Int) - 97 + 10 := by omega
                have HM2 := Lib.hid (HM.out.step hil (by rw [HJ.out, ← hl.out]; exact hlt) (by rw [HJ.out, HC.out]; omega))
                rw [HJ.out, HC.out] at HM2
                have HV2 : Hid ((((n : Int) * 16 + ((d : Int) - 97 + 10)) : Int) = ((n * 16 + wth c : Nat) : Int)) := by show _ = _; omega
                have c1 := HR6.out.c1
                have f1 := HR6.out.f1
                clear hw
                go_wp2_with fail
                go_roundw
                case rel => exact ⟨n * 16 + wth c, i + 1, congrArg (Value.int .i64) HV2.out, by go_num, HM2.out, by have := HJ.out; omega, by rw [show k + (i + 1) = j + 1 by have := HJ.out; omega]; exact HR6.out.set (j + 1), HO6.out.set 1 _⟩
                case measure => simp [intOf]; omega
            · have hwn := HNN.out h1 h2
              have h4 : c < 48 ∨ (57 < c ∧ 48 ≤ c) := by omega
              have h5 : d < 97 ∨ (102 < d ∧ 97 ≤ d) := by omega
              clear HNM HNN h1 h2
              rcases h4 with h4 | ⟨h4, h6⟩ <;> rcases h5 with h5 | ⟨h5, h7⟩
              all_goals
                go_wp2_with fail
                refine (HD.out _ HR.out).mono ?_
                rintro e w5 ⟨rfl, b5⟩
                have HR5 := Lib.hid (HR.out.bel b5)
                have HO5 := Lib.hid (HO.out.bel b5)
                clear b5 c1
                go_wp2_with fail
                go_region_held3 (fun w' => w'.cell? ⟨g, 0, none⟩ = some (.string s) ∧ w'.cell? ⟨g, 1, none⟩ = some (.int .i64 j)) (exact HR5.out.both) (fail)
                have HR6 : Hid (Rdr w5.drew g s j) := HR5.out
                have HO6 : Hid (Only g w w5.drew) := HO5.out.drew
                clear HR5 HO5
                generalize w5.drew = w6 at *
                have hw := hwn
                have HS := Lib.hid (HM.out.stop hil (by rw [HJ.out, ← hl.out]; exact hlt) (by rw [HJ.out, HC.out]; omega))
                clear hw
                go_wp2_with fail
                go_meet
                exact NumE.mk_ HS.out (by rw [HJ.out]; exact HR6.out) HO6.out
        · obtain rfl : i = 6 := by omega
          have HS := Lib.hid HM.out.full
          go_wp2_with fail
          refine (HD.out _ HR.out).mono ?_
          rintro e w5 ⟨rfl, b5⟩
          have HR5 := Lib.hid (HR.out.bel b5)
          have HO5 := Lib.hid (HO.out.bel b5)
          clear b5 c1
          go_wp2_with fail
          go_meet
          exact NumE.mk_ HS.out (by rw [HJ.out]; exact HR5.out) HO5.out
      · have HS := Lib.hid (HM.out.over (by rw [HJ.out, ← hl.out]; omega))
        have HD := Lib.hid (fun w hR => done_yes g j s w hR (by omega) hs (by omega))
        go_wp2_with fail
        refine (HD.out _ HR.out).mono ?_
        rintro e w5 ⟨rfl, b5⟩
        have HR5 := Lib.hid (HR.out.bel b5)
        have HO5 := Lib.hid (HO.out.bel b5)
        clear b5 c1
        go_wp2_with fail
        go_meet
        exact NumE.mk_ HS.out (by rw [HJ.out]; exact HR5.out) HO5.out
  case rest =>
  unfold NumE at hcut
  have hb1 := numD_lt 16 (by omega) 6 0 (s.data.toList.drop k)
  have hb2 := numD_le 16 6 0 (s.data.toList.drop k)
  have HNR : Hid (numR 16 6 (s.data.toList.drop k) = if 0 < (numD 16 6 0 (s.data.toList.drop k)).1 ∧ isRune ((numD 16 6 0 (s.data.toList.drop k)).1 : Int) ∧ bt (s.data.toList.drop k) (numD 16 6 0 (s.data.toList.drop k)).2 = 59 then some ((numD 16 6 0 (s.data.toList.drop k)).1, (numD 16 6 0 (s.data.toList.drop k)).2 + 1) else none) := rfl
  rw [bt_drop] at HNR
  generalize numD 16 6 0 (s.data.toList.drop k) = vm at *
  obtain ⟨v, m⟩ := vm
  dsimp only at hcut hb1 hb2 HNR
  have hv : v ≤ 16777216 := by
    have h3 : (0 + 1) * 16 ^ 6 = 16777216 := rfl
    omega
  have hkm : k + m ≤ s.size := by
    rw [List.length_drop, ← hl.out] at hb2
    omega
  clear hb1 hb2
  obtain ⟨rfl, hR5, hO5⟩ := hcut
  have HR5 := Lib.hid hR5
  have HO5 := Lib.hid hO5
  have HPB := Lib.hid (fun w => pbytes_any (v : Int) w)
  have HN : Hid (∀ w, Calls Try.prog 48 #[.string (strOf (enc (v : Int))), .int .i64 0] w fun e w' => e = .returned (.tuple #[.int .i32 (rune (v : Int) : Nat), .int .i64 ((enc (v : Int)).length : Nat)]) ∧ w = w') := by
    intro w
    have h := next_enc (v : Int) []
    rw [List.append_nil] at h
    have hel := (enc_length (v : Int)).1
    exact next_to (strOf (enc (v : Int))) 0 _ _ w (by rw [strOf_size]; omega) (by rw [strOf_list, List.drop_zero]; exact h)
  have hrc : (isRune (v : Int) ∧ rune (v : Int) = v) ∨ (¬ isRune (v : Int) ∧ rune (v : Int) ≠ v) := by
    by_cases h : isRune (v : Int)
    · left; exact ⟨h, by have := rune_self h; omega⟩
    · right
      refine ⟨h, fun e => h ?_⟩
      have := rune_is (v : Int)
      rw [e] at this; exact this
  have hrt : rune (v : Int) ≤ 1114111 := by have := rune_is (v : Int); unfold isRune at this; omega
  obtain ⟨B, hB⟩ : ∃ B, strOf (enc (v : Int)) = B := ⟨_, rfl⟩
  have HB := Lib.hid hB
  rw [hB] at HPB HN
  generalize rune (v : Int) = r at *
  generalize (enc (v : Int)).length = L at *
  clear hB hR5 hO5 HR0
  by_cases h0 : v = 0
  · have HV : Hid (numR 16 6 (s.data.toList.drop k) = none) := by show _ = _; rw [HNR.out, if_neg (fun h => by omega)]
    have z0 : ((v : Int) == 0) = true := by simp; omega
    clear hrc h0 HNR
    go_wp2_with fail
    refine (HPB.out _).mono ?_
    rintro e w7 ⟨rfl, b7⟩
    have HO7 := Lib.hid (HO5.out.bel b7)
    have HR7 := Lib.hid (HR5.out.bel b7)
    clear b7
    go_wp2_with fail
    refine (HN.out _).mono ?_
    rintro e w8 ⟨rfl, rfl⟩
    go_wp2_with fail
    go_ret2
    exact ⟨by rw [HV.out]; exact ⟨_, k + m, rfl, hkm, HR7.out⟩, HO7.out⟩
  have z0 : ((v : Int) == 0) = false := by simp; omega
  rcases hrc with ⟨hru, hre⟩ | ⟨hru, hre⟩
  · have z1 : ((r : Int) != (v : Int)) = false := by simp; omega
    have ha := atS_one s.data.toList 59 (k + m) (by decide)
    have HT := Lib.hid (fun w hR b hb => ttake g (k + m) s ⟨#[59]⟩ w hR hkm hs (by decide) b hb)
    have hv0 : 0 < v := by omega
    by_cases h59 : bt s.data.toList (k + m) = 59
    · have HV : Hid (numR 16 6 (s.data.toList.drop k) = some (v, m + 1)) := by show _ = _; rw [HNR.out, if_pos ⟨hv0, hru, h59⟩]
      have HT2 : Hid (∀ w, Rdr w g s (k + m) → Calls Try.prog 33 #[.pointer (some ⟨g, 0, none⟩), .string ⟨#[59]⟩] w fun e w' => e = .returned (.bool true) ∧ Rdr w' g s (k + m + 1) ∧ Only g w w') := fun w hR => HT.out w hR true (ha.trans (decide_eq_true h59))
      clear hru hre h0 HNR h59 ha HT hv0
      go_wp2_with fail
      refine (HPB.out _).mono ?_
      rintro e w7 ⟨rfl, b7⟩
      have HO7 := Lib.hid (HO5.out.bel b7)
      have HR7 := Lib.hid (HR5.out.bel b7)
      clear b7
      go_wp2_with fail
      refine (HN.out _).mono ?_
      rintro e w8 ⟨rfl, rfl⟩
      go_wp2_with fail
      refine (HT2.out _ HR7.out).mono ?_
      rintro e w9 ⟨rfl, hR9, hO9⟩
      have HR9 := Lib.hid hR9
      have HO9 := Lib.hid (HO7.out.trans hO9)
      clear hR9 hO9
      go_wp2_with fail
      go_ret2
      exact ⟨by rw [HV.out]; exact ⟨by rw [← HB.out]; rfl, by rw [← Nat.add_assoc]; exact HR9.out⟩, HO9.out⟩
    · have HV : Hid (numR 16 6 (s.data.toList.drop k) = none) := by show _ = _; rw [HNR.out, if_neg (fun h => h59 h.2.2)]
      have HT2 : Hid (∀ w, Rdr w g s (k + m) → Calls Try.prog 33 #[.pointer (some ⟨g, 0, none⟩), .string ⟨#[59]⟩] w fun e w' => e = .returned (.bool false) ∧ Rdr w' g s (k + m) ∧ Only g w w') := fun w hR => HT.out w hR false (ha.trans (decide_eq_false h59))
      clear hru hre h0 HNR h59 ha HT hv0
      go_wp2_with fail
      refine (HPB.out _).mono ?_
      rintro e w7 ⟨rfl, b7⟩
      have HO7 := Lib.hid (HO5.out.bel b7)
      have HR7 := Lib.hid (HR5.out.bel b7)
      clear b7
      go_wp2_with fail
      refine (HN.out _).mono ?_
      rintro e w8 ⟨rfl, rfl⟩
      go_wp2_with fail
      refine (HT2.out _ HR7.out).mono ?_
      rintro e w9 ⟨rfl, hR9, hO9⟩
      have HR9 := Lib.hid hR9
      have HO9 := Lib.hid (HO7.out.trans hO9)
      clear hR9 hO9
      go_wp2_with fail
      go_ret2
      exact ⟨by rw [HV.out]; exact ⟨_, k + m, rfl, hkm, HR9.out⟩, HO9.out⟩
  · have HV : Hid (numR 16 6 (s.data.toList.drop k) = none) := by show _ = _; rw [HNR.out, if_neg (fun h => hru h.2.1)]
    have z1 : ((r : Int) != (v : Int)) = true := by simp; omega
    clear hru hre h0 HNR
    go_wp2_with fail
    refine (HPB.out _).mono ?_
    rintro e w7 ⟨rfl, b7⟩
    have HO7 := Lib.hid (HO5.out.bel b7)
    have HR7 := Lib.hid (HR5.out.bel b7)
    clear b7
    go_wp2_with fail
    refine (HN.out _).mono ?_
    rintro e w8 ⟨rfl, rfl⟩
    go_wp2_with fail
    go_ret2
    exact ⟨by rw [HV.out]; exact ⟨_, k + m, rfl, hkm, HR7.out⟩, HO7.out⟩
set_option maxRecDepth 100000 in
set_option maxHeartbeats 8000000 in
theorem tnumD (g k : Nat) (s : ByteArray) (w : World) (hR : Rdr w g s k) (hk : k ≤ s.size) (hs : s.size ≤ 1000000) :
    Calls Try.prog 68 #[.pointer (some ⟨g, 0, none⟩), .int .i64 10, .int .i64 7] w fun e w' => SayR ((numR 10 7 (s.data.toList.drop k)).map fun p => (enc p.1, p.2)) k g s e w' ∧ Only g w w' := by
  have hl := Lib.hid (sz_len s)
  have HR0 := Lib.hid hR
  clear hR
  go_enter Try.func68, Try.ntmps68
  go_upto_block 0 with fail
  go_cut [8] (fun v wx => NumE 10 7 k s g w v wx)
  case first =>
    go_wp2_with fail
    go_loopw [8, 9] (fun x y wr => ∃ n i : Nat, x = .int .i64 n ∧ y = .int .i64 i ∧ NumM 10 7 k s.data.toList i n ∧ k + i ≤ s.size ∧ Rdr wr g s (k + i) ∧ Only g w wr) (fun _ y _ => 7 - (intOf y).toNat)
    case atStart => exact ⟨0, 0, rfl, rfl, NumM.zero _ _ _ _, hk, HR0.out, Only.refl g w⟩
    case round =>
      obtain ⟨n, i, rfl, rfl, hm, hki, hR3, hO3⟩ := hrel
      have HM := Lib.hid hm
      have HO := Lib.hid hO3
      have hi := hm.le
      have hnl : n ≤ 10000000 := by
        have h1 := hm.lt
        have h2 : 10 ^ i ≤ 10 ^ 7 := Nat.pow_le_pow_right (by omega) hi
        have h3 : 10 ^ 7 = 10000000 := rfl
        omega
      obtain ⟨j, hj⟩ : ∃ j, k + i = j := ⟨_, rfl⟩
      rw [hj] at hR3 hki
      have HJ := Lib.hid hj
      have HR := Lib.hid hR3
      have c1 := hR3.c1
      clear hm hO3 hR3 hj HR0
      by_cases hlt : j < s.size
      · have HD := Lib.hid (fun w hR => done_no g j s w hR hs hlt)
        by_cases hil : i < 7
        · have hx := bt_byte s j hlt
          have y0 := bt_lt s.data.toList j
          have hor := or_32 _ y0
          have hnum : ¬ (48 ≤ bt s.data.toList j ∧ bt s.data.toList j ≤ 57) → 97 ≤ or32 (bt s.data.toList j) → or32 (bt s.data.toList j) ≤ 102 → (wth (bt s.data.toList j) + 87 = or32 (bt s.data.toList j) ∧ 10 ≤ wth (bt s.data.toList j) ∧ wth (bt s.data.toList j) < 16) := wth_letT y0
          have hnon : ¬ (48 ≤ bt s.data.toList j ∧ bt s.data.toList j ≤ 57) → ¬ (97 ≤ or32 (bt s.data.toList j) ∧ or32 (bt s.data.toList j) ≤ 102) → wth (bt s.data.toList j) = 16 := wth_noT y0
          have hole := or32_lt _ y0
          obtain ⟨c, hc⟩ : ∃ c, bt s.data.toList j = c := ⟨_, rfl⟩
          have HC := Lib.hid hc
          rw [hc] at hx y0 hor hnum hnon hole
          clear hc
          generalize or32 c = d at *
          have HNM := Lib.hid hnum
          have HNN := Lib.hid hnon
          clear hnum hnon
          by_cases h1 : 48 ≤ c ∧ c ≤ 57
          · obtain ⟨h1, h2⟩ := h1
            clear HNM HNN
            go_wp2_with fail
            refine (HD.out _ HR.out).mono ?_
            rintro e w5 ⟨rfl, b5⟩
            have HR5 := Lib.hid (HR.out.bel b5)
            have HO5 := Lib.hid (HO.out.bel b5)
            clear b5 c1
            go_wp2_with fail
            go_region_held3 (fun w' => w'.cell? ⟨g, 0, none⟩ = some (.string s) ∧ w'.cell? ⟨g, 1, none⟩ = some (.int .i64 j)) (exact HR5.out.both) (fail)
            have HR6 : Hid (Rdr w5.drew g s j) := HR5.out
            have HO6 : Hid (Only g w w5.drew) := HO5.out.drew
            clear HR5 HO5
            generalize w5.drew = w6 at *
            have hw := wth_num ⟨h1, h2⟩
            have b1 : ¬ (10 : Int) ≤ (c : Int) - 48 := by omega
            have HM2 := Lib.hid (HM.out.step hil (by rw [HJ.out, ← hl.out]; exact hlt) (by rw [HJ.out, HC.out]; omega))
            rw [HJ.out, HC.out] at HM2
            have HV2 : Hid ((((n : Int) * 10 + ((c : Int) - 48)) : Int) = ((n * 10 + wth c : Nat) : Int)) := by show _ = _; omega
            have c1 := HR6.out.c1
            have f1 := HR6.out.f1
            clear hw
            go_wp2_with fail
            go_roundw
            case rel => exact ⟨n * 10 + wth c, i + 1, congrArg (Value.int .i64) HV2.out, by go_num, HM2.out, by have := HJ.out; omega, by rw [show k + (i + 1) = j + 1 by have := HJ.out; omega]; exact HR6.out.set (j + 1), HO6.out.set 1 _⟩
            case measure => simp [intOf]; omega
          · by_cases h2 : 97 ≤ d ∧ d ≤ 102
            · obtain ⟨h2, h3⟩ := h2
              have hwl := HNM.out h1 h2 h3
              have h4 : c < 48 ∨ 57 < c := by omega
              clear HNM HNN h1
              rcases h4 with h4 | h4
              all_goals
                go_wp2_with fail
                refine (HD.out _ HR.out).mono ?_
                rintro e w5 ⟨rfl, b5⟩
                have HR5 := Lib.hid (HR.out.bel b5)
                have HO5 := Lib.hid (HO.out.bel b5)
                clear b5 c1
                go_wp2_with fail
                go_region_held3 (fun w' => w'.cell? ⟨g, 0, none⟩ = some (.string s) ∧ w'.cell? ⟨g, 1, none⟩ = some (.int .i64 j)) (exact HR5.out.both) (fail)
                have HR6 : Hid (Rdr w5.drew g s j) := HR5.out
                have HO6 : Hid (Only g w w5.drew) := HO5.out.drew
                clear HR5 HO5
                generalize w5.drew = w6 at *
                obtain ⟨hw, hw2, hw3⟩ := hwl
                have b1 : (10 : Int) ≤ (d : Int) - 97 + 10 := by omega
                have HS := Lib.hid (HM.out.stop hil (by rw [HJ.out, ← hl.out]; exact hlt) (by rw [HJ.out, HC.out]; omega))
                clear hw
                go_wp2_with fail
                go_meet
                exact NumE.mk_ HS.out (by rw [HJ.out]; exact HR6.out) HO6.out
            · have hwn := HNN.out h1 h2
              have h4 : c < 48 ∨ (57 < c ∧ 48 ≤ c) := by omega
              have h5 : d < 97 ∨ (102 < d ∧ 97 ≤ d) := by omega
              clear HNM HNN h1 h2
              rcases h4 with h4 | ⟨h4, h6⟩ <;> rcases h5 with h5 | ⟨h5, h7⟩
              all_goals
                go_wp2_with fail
                refine (HD.out _ HR.out).mono ?_
                rintro e w5 ⟨rfl, b5⟩
                have HR5 := Lib.hid (HR.out.bel b5)
                have HO5 := Lib.hid (HO.out.bel b5)
                clear b5 c1
                go_wp2_with fail
                go_region_held3 (fun w' => w'.cell? ⟨g, 0, none⟩ = some (.string s) ∧ w'.cell? ⟨g, 1, none⟩ = some (.int .i64 j)) (exact HR5.out.both) (fail)
                have HR6 : Hid (Rdr w5.drew g s j) := HR5.out
                have HO6 : Hid (Only g w w5.drew) := HO5.out.drew
                clear HR5 HO5
                generalize w5.drew = w6 at *
                have hw := hwn
                have HS := Lib.hid (HM.out.stop hil (by rw [HJ.out, ← hl.out]; exact hlt) (by rw [HJ.out, HC.out]; omega))
                clear hw
                go_wp2_with fail
                go_meet
                exact NumE.mk_ HS.out (by rw [HJ.out]; exact HR6.out) HO6.out
        · obtain rfl : i = 7 := by omega
          have HS := Lib.hid HM.out.full
          go_wp2_with fail
          refine (HD.out _ HR.out).mono ?_
          rintro e w5 ⟨rfl, b5⟩
          have HR5 := Lib.hid (HR.out.bel b5)
          have HO5 := Lib.hid (HO.out.bel b5)
          clear b5 c1
          go_wp2_with fail
          go_meet
          exact NumE.mk_ HS.out (by rw [HJ.out]; exact HR5.out) HO5.out
      · have HS := Lib.hid (HM.out.over (by rw [HJ.out, ← hl.out]; omega))
        have HD := Lib.hid (fun w hR => done_yes g j s w hR (by omega) hs (by omega))
        go_wp2_with fail
        refine (HD.out _ HR.out).mono ?_
        rintro e w5 ⟨rfl, b5⟩
        have HR5 := Lib.hid (HR.out.bel b5)
        have HO5 := Lib.hid (HO.out.bel b5)
        clear b5 c1
        go_wp2_with fail
        go_meet
        exact NumE.mk_ HS.out (by rw [HJ.out]; exact HR5.out) HO5.out
  case rest =>
  unfold NumE at hcut
  have hb1 := numD_lt 10 (by omega) 7 0 (s.data.toList.drop k)
  have hb2 := numD_le 10 7 0 (s.data.toList.drop k)
  have HNR : Hid (numR 10 7 (s.data.toList.drop k) = if 0 < (numD 10 7 0 (s.data.toList.drop k)).1 ∧ isRune ((numD 10 7 0 (s.data.toList.drop k)).1 : Int) ∧ bt (s.data.toList.drop k) (numD 10 7 0 (s.data.toList.drop k)).2 = 59 then some ((numD 10 7 0 (s.data.toList.drop k)).1, (numD 10 7 0 (s.data.toList.drop k)).2 + 1) else none) := rfl
  rw [bt_drop] at HNR
  generalize numD 10 7 0 (s.data.toList.drop k) = vm at *
  obtain ⟨v, m⟩ := vm
  dsimp only at hcut hb1 hb2 HNR
  have hv : v ≤ 10000000 := by
    have h3 : (0 + 1) * 10 ^ 7 = 10000000 := rfl
    omega
  have hkm : k + m ≤ s.size := by
    rw [List.length_drop, ← hl.out] at hb2
    omega
  clear hb1 hb2
  obtain ⟨rfl, hR5, hO5⟩ := hcut
  have HR5 := Lib.hid hR5
  have HO5 := Lib.hid hO5
  have HPB := Lib.hid (fun w => pbytes_any (v : Int) w)
  have HN : Hid (∀ w, Calls Try.prog 48 #[.string (strOf (enc (v : Int))), .int .i64 0] w fun e w' => e = .returned (.tuple #[.int .i32 (rune (v : Int) : Nat), .int .i64 ((enc (v : Int)).length : Nat)]) ∧ w = w') := by
    intro w
    have h := next_enc (v : Int) []
    rw [List.append_nil] at h
    have hel := (enc_length (v : Int)).1
    exact next_to (strOf (enc (v : Int))) 0 _ _ w (by rw [strOf_size]; omega) (by rw [strOf_list, List.drop_zero]; exact h)
  have hrc : (isRune (v : Int) ∧ rune (v : Int) = v) ∨ (¬ isRune (v : Int) ∧ rune (v : Int) ≠ v) := by
    by_cases h : isRune (v : Int)
    · left; exact ⟨h, by have := rune_self h; omega⟩
    · right
      refine ⟨h, fun e => h ?_⟩
      have := rune_is (v : Int)
      rw [e] at this; exact this
  have hrt : rune (v : Int) ≤ 1114111 := by have := rune_is (v : Int); unfold isRune at this; omega
  obtain ⟨B, hB⟩ : ∃ B, strOf (enc (v : Int)) = B := ⟨_, rfl⟩
  have HB := Lib.hid hB
  rw [hB] at HPB HN
  generalize rune (v : Int) = r at *
  generalize (enc (v : Int)).length = L at *
  clear hB hR5 hO5 HR0
  by_cases h0 : v = 0
  · have HV : Hid (numR 10 7 (s.data.toList.drop k) = none) := by show _ = _; rw [HNR.out, if_neg (fun h => by omega)]
    have z0 : ((v : Int) == 0) = true := by simp; omega
    clear hrc h0 HNR
    go_wp2_with fail
    refine (HPB.out _).mono ?_
    rintro e w7 ⟨rfl, b7⟩
    have HO7 := Lib.hid (HO5.out.bel b7)
    have HR7 := Lib.hid (HR5.out.bel b7)
    clear b7
    go_wp2_with fail
    refine (HN.out _).mono ?_
    rintro e w8 ⟨rfl, rfl⟩
    go_wp2_with fail
    go_ret2
    exact ⟨by rw [HV.out]; exact ⟨_, k + m, rfl, hkm, HR7.out⟩, HO7.out⟩
  have z0 : ((v : Int) == 0) = false := by simp; omega
  rcases hrc with ⟨hru, hre⟩ | ⟨hru, hre⟩
  · have z1 : ((r : Int) != (v : Int)) = false := by simp; omega
    have ha := atS_one s.data.toList 59 (k + m) (by decide)
    have HT := Lib.hid (fun w hR b hb => ttake g (k + m) s ⟨#[59]⟩ w hR hkm hs (by decide) b hb)
    have hv0 : 0 < v := by omega
    by_cases h59 : bt s.data.toList (k + m) = 59
    · have HV : Hid (numR 10 7 (s.data.toList.drop k) = some (v, m + 1)) := by show _ = _; rw [HNR.out, if_pos ⟨hv0, hru, h59⟩]
      have HT2 : Hid (∀ w, Rdr w g s (k + m) → Calls Try.prog 33 #[.pointer (some ⟨g, 0, none⟩), .string ⟨#[59]⟩] w fun e w' => e = .returned (.bool true) ∧ Rdr w' g s (k + m + 1) ∧ Only g w w') := fun w hR => HT.out w hR true (ha.trans (decide_eq_true h59))
      clear hru hre h0 HNR h59 ha HT hv0
      go_wp2_with fail
      refine (HPB.out _).mono ?_
      rintro e w7 ⟨rfl, b7⟩
      have HO7 := Lib.hid (HO5.out.bel b7)
      have HR7 := Lib.hid (HR5.out.bel b7)
      clear b7
      go_wp2_with fail
      refine (HN.out _).mono ?_
      rintro e w8 ⟨rfl, rfl⟩
      go_wp2_with fail
      refine (HT2.out _ HR7.out).mono ?_
      rintro e w9 ⟨rfl, hR9, hO9⟩
      have HR9 := Lib.hid hR9
      have HO9 := Lib.hid (HO7.out.trans hO9)
      clear hR9 hO9
      go_wp2_with fail
      go_ret2
      exact ⟨by rw [HV.out]; exact ⟨by rw [← HB.out]; rfl, by rw [← Nat.add_assoc]; exact HR9.out⟩, HO9.out⟩
    · have HV : Hid (numR 10 7 (s.data.toList.drop k) = none) := by show _ = _; rw [HNR.out, if_neg (fun h => h59 h.2.2)]
      have HT2 : Hid (∀ w, Rdr w g s (k + m) → Calls Try.prog 33 #[.pointer (some ⟨g, 0, none⟩), .string ⟨#[59]⟩] w fun e w' => e = .returned (.bool false) ∧ Rdr w' g s (k + m) ∧ Only g w w') := fun w hR => HT.out w hR false (ha.trans (decide_eq_false h59))
      clear hru hre h0 HNR h59 ha HT hv0
      go_wp2_with fail
      refine (HPB.out _).mono ?_
      rintro e w7 ⟨rfl, b7⟩
      have HO7 := Lib.hid (HO5.out.bel b7)
      have HR7 := Lib.hid (HR5.out.bel b7)
      clear b7
      go_wp2_with fail
      refine (HN.out _).mono ?_
      rintro e w8 ⟨rfl, rfl⟩
      go_wp2_with fail
      refine (HT2.out _ HR7.out).mono ?_
      rintro e w9 ⟨rfl, hR9, hO9⟩
      have HR9 := Lib.hid hR9
      have HO9 := Lib.hid (HO7.out.trans hO9)
      clear hR9 hO9
      go_wp2_with fail
      go_ret2
      exact ⟨by rw [HV.out]; exact ⟨_, k + m, rfl, hkm, HR9.out⟩, HO9.out⟩
  · have HV : Hid (numR 10 7 (s.data.toList.drop k) = none) := by show _ = _; rw [HNR.out, if_neg (fun h => hru h.2.1)]
    have z1 : ((r : Int) != (v : Int)) = true := by simp; omega
    clear hru hre h0 HNR
    go_wp2_with fail
    refine (HPB.out _).mono ?_
    rintro e w7 ⟨rfl, b7⟩
    have HO7 := Lib.hid (HO5.out.bel b7)
    have HR7 := Lib.hid (HR5.out.bel b7)
    clear b7
    go_wp2_with fail
    refine (HN.out _).mono ?_
    rintro e w8 ⟨rfl, rfl⟩
    go_wp2_with fail
    go_ret2
    exact ⟨by rw [HV.out]; exact ⟨_, k + m, rfl, hkm, HR7.out⟩, HO7.out⟩
end Go.Proofs.Ytlogjghbdnaedaa
