/- Walks: the law MemberDeep. -/
import Derived.Test.YtmfldffbafamnaaDeepP
namespace Go.Proofs.Ytmfldffbafamnaa
open Go.RowKit
set_option linter.unusedVariables false
set_option linter.unusedSimpArgs false
theorem txt_len (l : List Bool) : (txt l).length ≤ 5 * l.length := by
  induction l with
  | nil => exact Nat.le_refl _
  | cons b t ih =>
    show (txt t ++ opn b).length ≤ 5 * (t.length + 1)
    rw [List.length_append]
    have : (opn b).length ≤ 5 := by cases b <;> decide
    omega
theorem run_to (l : List UInt8) (m : Nat) (o p : List UInt8) (b : Bool) (w : World) (hl : l.length ≤ 900) (h : runS q0 l = (⟨m, o, p⟩, b)) :
    Calls Try.prog 10 #[.agg #[.int .i64 0, .string ⟨#[]⟩, .string ⟨#[]⟩], .string (strOf l)] w fun x w' => x = .returned (.tuple #[.agg #[.int .i64 m, .string (strOf o), .string (strOf p)], .bool b]) ∧ Below w.heap.size w w' := by
  have := run0 l w hl
  rw [h] at this
  exact this
theorem run_ok (l : List UInt8) (b : Bool) (h : (runS q0 l).2 = b) :
    ∃ m o p, runS q0 l = (⟨m, o, p⟩, b) := by
  generalize runS q0 l = r at *
  obtain ⟨⟨m, o, p⟩, c⟩ := r
  exact ⟨m, o, p, by rw [← h]⟩
theorem goods {k : Nat} {q : Q} (h : q.good k) (l : List UInt8) : (runS q l).1.good (k + l.length) := by
  induction l generalizing q k with
  | nil => exact h
  | cons c t ih =>
    rw [dsteps]
    by_cases e : (nextS q c).2 = true
    · rw [if_pos e]
      have := ih (nextS_good h c)
      rw [List.length_cons, show k + (t.length + 1) = k + 1 + t.length by omega]
      exact this
    · rw [if_neg e]
      exact ⟨h.m, by have := h.o; simp; omega, by have := h.p; simp; omega, h.n⟩
theorem runS_fit (l : List UInt8) (h : l.length ≤ 900) : (runS q0 l).1.fit := (goods q0_good l).fit (by omega)
set_option maxRecDepth 100000 in
set_option maxHeartbeats 4000000 in
theorem law_deep (N : Nat) (how : Int) (leaf : Bool) (w : World) (hN : N < 256) (hhow : 0 ≤ how ∧ how ≤ 18446744073709551615) :
    Calls Try.prog 7 #[.int .u8 N, .int .u64 how, .bool leaf] w fun e w' => e = .returned (.bool true) ∧ Below w.heap.size w w' := by
  obtain ⟨k, hk⟩ : ∃ k, k = N % 40 := ⟨_, rfl⟩
  have hk40 : k < 40 := by omega
  have hmod : ((N : Nat) : Int) % 40 = (k : Int) := by omega
  have htmod : Int.tmod ((N : Nat) : Int) 40 = (k : Int) := by rw [Int.tmod_eq_emod_of_nonneg (by omega)]; exact hmod
  have hz := strOf_size
  have hn0 : ({ data := #[] } : ByteArray) = strOf [] := rfl
  have h91 : ∀ a, strOf a ++ ({ data := #[91] } : ByteArray) = strOf (a ++ opn false) := fun a => strOf_append a [91]
  have hmp : ∀ a, strOf a ++ ({ data := #[123, 34, 97, 34, 58] } : ByteArray) = strOf (a ++ opn true) := fun a => strOf_append a [123, 34, 97, 34, 58]
  have h49 : ∀ a, strOf a ++ ({ data := #[49] } : ByteArray) = strOf (a ++ [49]) := fun a => strOf_append a [49]
  have h123 : ∀ a, strOf a ++ ({ data := #[123] } : ByteArray) = strOf (a ++ [123]) := fun a => strOf_append a [123]
  have hnm : ∀ a, strOf a ++ ({ data := #[123, 34] } : ByteArray) = strOf (a ++ [123, 34]) := fun a => strOf_append a [123, 34]
  have HK := Lib.hid hk
  clear hk
  go_enter Try.func7, Try.ntmps7
  rw [hn0]
  clear hn0
  go_wp2_with fail
  go_loopw [7, 8, 10, 11] (fun s h la z wr => ∃ bs : List Bool, z = .int .i64 bs.length ∧ bs.length ≤ k ∧ s = .string (strOf (txt bs)) ∧ h = .string (strOf (txt bs.tail)) ∧ la = .bool (bs.headD false) ∧ wr = w) (fun _ _ _ z _ => k - (intOf z).toNat)
  case atStart => exact ⟨[], rfl, Nat.zero_le _, rfl, rfl, rfl, rfl⟩
  case round =>
    obtain ⟨bs, rfl, hbk, rfl, rfl, rfl, rfl⟩ := hrel
    have hlen := txt_len bs
    by_cases hlt : bs.length < k
    · go_upto_region 8 with fail
      go_cut [10] (fun v wx => ∃ b, v = .bool b ∧ wx = wr)
      case first =>
        go_wp2_with fail
        go_meet
        exact ⟨_, rfl, rfl⟩
      case rest =>
      obtain ⟨b, rfl, rfl⟩ := hcut
      cases b
      · go_wp2_with fail
        go_roundw
        case rel => exact ⟨false :: bs, by go_num, hlt, rfl, rfl, rfl, by trivial⟩
        case measure => simp [intOf]; omega
      · go_wp2_with fail
        go_roundw
        case rel => exact ⟨true :: bs, by go_num, hlt, rfl, rfl, rfl, by trivial⟩
        case measure => simp [intOf]; omega
    · have hbl : bs.length = k := by omega
      have hlen2 := txt_len bs.tail
      have htl : bs.tail.length = k - 1 := by rw [List.length_tail, hbl]
      have E1 := deep_opens bs.tail
      have E2 := deep_names bs.tail
      rw [htl] at E1 E2
      cases leaf
      · obtain ⟨D1, D2⟩ := deep_leaf bs false
        simp only [Bool.false_eq_true, if_false, List.append_nil, Bool.not_false, Bool.and_true] at D1 D2
        rw [hbl] at D1
        have hbs := bs.headD false
        by_cases k0 : k = 0
        · subst k0
          obtain ⟨m, o, p, R1⟩ := run_ok (txt bs) true (by rw [D1]; simp)
          have D2' := D2
          rw [R1] at D2'
          obtain ⟨m2, o2, p2, R2⟩ := run_ok (txt bs.tail ++ [123]) true (by rw [E1]; simp)
          obtain ⟨m3, o3, p3, R3⟩ := run_ok (txt bs.tail ++ [123, 34]) true (by rw [E2]; simp)
          have HR1 := Lib.hid (fun w => run_to (txt bs) m o p true w (by first | omega | (simp; omega)) R1)
          have HR2 := Lib.hid (fun w => run_to (txt bs.tail ++ [123]) m2 o2 p2 true w (by first | omega | (simp; omega)) R2)
          have HR3 := Lib.hid (fun w => run_to (txt bs.tail ++ [123, 34]) m3 o3 p3 true w (by first | omega | (simp; omega)) R3)
          have gd := runS_fit (txt bs) (by omega)
          rw [R1] at gd
          have HD := Lib.hid (fun w => deep_any ⟨m, o, p⟩ w gd)
          have hol := Lib.hid D2'
          clear D1 D2 D2' E1 E2 R1 R2 R3 gd
          generalize txt bs.tail = tt at *
          generalize txt bs = tb at *
          unfold Q.v sv at HD
          dsimp only at HD
          go_wp2_with fail
          refine (HR1.out _).mono ?_
          rintro x w2 ⟨rfl, b2⟩
          have hX : StAt (w2.alloc (.cells #[.int .i64 m, .string (strOf o), .string (strOf p)] 25)) w2.heap.size ⟨m, o, p⟩ := Blk.new w2 _ _
          have b3 := b2.alloc b2.size (.cells #[.int .i64 m, .string (strOf o), .string (strOf p)] 25)
          go_upto_region 15 with fail
          generalize w2.alloc _ = w3 at *
          generalize w2.heap.size = g at *
          go_wp2_with fail
          refine (HR2.out _).mono ?_
          rintro x w4 ⟨rfl, b⟩
          have hX4 := Blk.alloc (hX.below' b) (.cells #[.int .i64 m2, .string (strOf o2), .string (strOf p2)] 25)
          have b4 := (b3.trans (b.mono b3.size)).alloc (b3.trans (b.mono b3.size)).size (.cells #[.int .i64 m2, .string (strOf o2), .string (strOf p2)] 25)
          clear b
          go_upto_region 16 with fail
          generalize w4.alloc _ = w5 at *
          go_wp2_with fail
          refine (HR3.out _).mono ?_
          rintro x w6 ⟨rfl, b⟩
          have hX6 := Blk.alloc (StAt.below' hX4 b) (.cells #[.int .i64 m3, .string (strOf o3), .string (strOf p3)] 25)
          have b6 := (b4.trans (b.mono b4.size)).alloc (b4.trans (b.mono b4.size)).size (.cells #[.int .i64 m3, .string (strOf o3), .string (strOf p3)] 25)
          clear b
          go_upto_region 17 with fail
          generalize w6.alloc _ = w7 at *
          obtain ⟨c0, c1, c2, _, _, _⟩ := StAt.facts hX6
          dsimp only at c0 c1 c2
          rw [hol.out (by first | rfl | trivial), hbl] at HD
          go_wp2_with fail
          refine (HD.out _).mono ?_
          rintro x w8 ⟨rfl, b⟩
          have b8 := b6.trans (b.mono b6.size)
          go_wp2_with fail
          refine (awake_any _).mono ?_
          rintro x w9 ⟨rfl, b⟩
          have b9 := b8.trans (b.mono b8.size)
          go_wp2_with fail
          go_ret
          exact ⟨rfl, b9⟩
        have kp : 0 < k := by omega
        by_cases k1 : k < 32
        · have i1 : ((k : Nat) : Int) < 32 := by omega
          have i2 : ((k : Int) == 32) = false := by simp only [beq_eq_false_iff_ne]; omega
          have i3 : decide (((k : Nat) : Int) < 32) = true := decide_eq_true i1
          have i4 : decide (((k : Nat) : Int) ≤ 32) = true := decide_eq_true (by omega)
          have i5 : (0 : Int) < (k : Nat) := by omega
          obtain ⟨m, o, p, R1⟩ := run_ok (txt bs) true (by rw [D1]; simp [k1])
          have D2' := D2
          rw [R1] at D2'
          obtain ⟨m2, o2, p2, R2⟩ := run_ok (txt bs.tail ++ [123]) true (by rw [E1]; exact decide_eq_true (by omega))
          obtain ⟨m3, o3, p3, R3⟩ := run_ok (txt bs.tail ++ [123, 34]) true (by rw [E2]; exact decide_eq_true (by omega))
          have HR1 := Lib.hid (fun w => run_to (txt bs) m o p true w (by first | omega | (simp; omega)) R1)
          have HR2 := Lib.hid (fun w => run_to (txt bs.tail ++ [123]) m2 o2 p2 true w (by first | omega | (simp; omega)) R2)
          have HR3 := Lib.hid (fun w => run_to (txt bs.tail ++ [123, 34]) m3 o3 p3 true w (by first | omega | (simp; omega)) R3)
          have gd := runS_fit (txt bs) (by omega)
          rw [R1] at gd
          have HD := Lib.hid (fun w => deep_any ⟨m, o, p⟩ w gd)
          have hol := Lib.hid D2'
          clear D1 D2 D2' E1 E2 R1 R2 R3 gd
          generalize txt bs.tail = tt at *
          generalize txt bs = tb at *
          unfold Q.v sv at HD
          dsimp only at HD
          go_wp2_with fail
          refine (HR1.out _).mono ?_
          rintro x w2 ⟨rfl, b2⟩
          have hX : StAt (w2.alloc (.cells #[.int .i64 m, .string (strOf o), .string (strOf p)] 25)) w2.heap.size ⟨m, o, p⟩ := Blk.new w2 _ _
          have b3 := b2.alloc b2.size (.cells #[.int .i64 m, .string (strOf o), .string (strOf p)] 25)
          go_upto_region 15 with fail
          generalize w2.alloc _ = w3 at *
          generalize w2.heap.size = g at *
          go_wp2_with fail
          refine (HR2.out _).mono ?_
          rintro x w4 ⟨rfl, b⟩
          have hX4 := Blk.alloc (hX.below' b) (.cells #[.int .i64 m2, .string (strOf o2), .string (strOf p2)] 25)
          have b4 := (b3.trans (b.mono b3.size)).alloc (b3.trans (b.mono b3.size)).size (.cells #[.int .i64 m2, .string (strOf o2), .string (strOf p2)] 25)
          clear b
          go_upto_region 16 with fail
          generalize w4.alloc _ = w5 at *
          go_wp2_with fail
          refine (HR3.out _).mono ?_
          rintro x w6 ⟨rfl, b⟩
          have hX6 := Blk.alloc (StAt.below' hX4 b) (.cells #[.int .i64 m3, .string (strOf o3), .string (strOf p3)] 25)
          have b6 := (b4.trans (b.mono b4.size)).alloc (b4.trans (b.mono b4.size)).size (.cells #[.int .i64 m3, .string (strOf o3), .string (strOf p3)] 25)
          clear b
          go_upto_region 17 with fail
          generalize w6.alloc _ = w7 at *
          obtain ⟨c0, c1, c2, _, _, _⟩ := StAt.facts hX6
          dsimp only at c0 c1 c2
          rw [hol.out (by first | rfl | trivial), hbl] at HD
          go_wp2_with fail
          refine (HD.out _).mono ?_
          rintro x w8 ⟨rfl, b⟩
          have b8 := b6.trans (b.mono b6.size)
          go_wp2_with fail
          refine (awake_any _).mono ?_
          rintro x w9 ⟨rfl, b⟩
          have b9 := b8.trans (b.mono b8.size)
          go_wp2_with fail
          go_ret
          exact ⟨rfl, b9⟩
        by_cases k2 : k = 32
        · subst k2
          have hdd : bs.head?.getD false = bs.headD false := by simp
          cases hla : bs.headD false
          · rw [hla] at hdd
            obtain ⟨m, o, p, R1⟩ := run_ok (txt bs) true (by rw [D1]; rw [hla]; decide)
            have D2' := D2
            rw [R1] at D2'
            obtain ⟨m2, o2, p2, R2⟩ := run_ok (txt bs.tail ++ [123]) true (by rw [E1]; decide)
            obtain ⟨m3, o3, p3, R3⟩ := run_ok (txt bs.tail ++ [123, 34]) false (by rw [E2]; decide)
            have HR1 := Lib.hid (fun w => run_to (txt bs) m o p true w (by first | omega | (simp; omega)) R1)
            have HR2 := Lib.hid (fun w => run_to (txt bs.tail ++ [123]) m2 o2 p2 true w (by first | omega | (simp; omega)) R2)
            have HR3 := Lib.hid (fun w => run_to (txt bs.tail ++ [123, 34]) m3 o3 p3 false w (by first | omega | (simp; omega)) R3)
            have gd := runS_fit (txt bs) (by omega)
            rw [R1] at gd
            have HD := Lib.hid (fun w => deep_any ⟨m, o, p⟩ w gd)
            have hol := Lib.hid D2'
            clear D1 D2 D2' E1 E2 R1 R2 R3 gd
            generalize txt bs.tail = tt at *
            generalize txt bs = tb at *
            unfold Q.v sv at HD
            dsimp only at HD
            go_wp2_with fail
            refine (HR1.out _).mono ?_
            rintro x w2 ⟨rfl, b2⟩
            have hX : StAt (w2.alloc (.cells #[.int .i64 m, .string (strOf o), .string (strOf p)] 25)) w2.heap.size ⟨m, o, p⟩ := Blk.new w2 _ _
            have b3 := b2.alloc b2.size (.cells #[.int .i64 m, .string (strOf o), .string (strOf p)] 25)
            go_upto_region 15 with fail
            generalize w2.alloc _ = w3 at *
            generalize w2.heap.size = g at *
            go_wp2_with fail
            refine (HR2.out _).mono ?_
            rintro x w4 ⟨rfl, b⟩
            have hX4 := Blk.alloc (hX.below' b) (.cells #[.int .i64 m2, .string (strOf o2), .string (strOf p2)] 25)
            have b4 := (b3.trans (b.mono b3.size)).alloc (b3.trans (b.mono b3.size)).size (.cells #[.int .i64 m2, .string (strOf o2), .string (strOf p2)] 25)
            clear b
            go_upto_region 16 with fail
            generalize w4.alloc _ = w5 at *
            go_wp2_with fail
            refine (HR3.out _).mono ?_
            rintro x w6 ⟨rfl, b⟩
            have hX6 := Blk.alloc (StAt.below' hX4 b) (.cells #[.int .i64 m3, .string (strOf o3), .string (strOf p3)] 25)
            have b6 := (b4.trans (b.mono b4.size)).alloc (b4.trans (b.mono b4.size)).size (.cells #[.int .i64 m3, .string (strOf o3), .string (strOf p3)] 25)
            clear b
            go_upto_region 17 with fail
            generalize w6.alloc _ = w7 at *
            obtain ⟨c0, c1, c2, _, _, _⟩ := StAt.facts hX6
            dsimp only at c0 c1 c2
            rw [hol.out (by first | rfl | trivial), hbl] at HD
            go_wp2_with fail
            refine (HD.out _).mono ?_
            rintro x w8 ⟨rfl, b⟩
            have b8 := b6.trans (b.mono b6.size)
            go_wp2_with fail
            refine (awake_any _).mono ?_
            rintro x w9 ⟨rfl, b⟩
            have b9 := b8.trans (b.mono b8.size)
            go_wp2_with fail
            go_ret
            exact ⟨rfl, b9⟩
          · rw [hla] at hdd
            obtain ⟨m, o, p, R1⟩ := run_ok (txt bs) false (by rw [D1]; rw [hla]; decide)
            have D2' := D2
            rw [R1] at D2'
            obtain ⟨m2, o2, p2, R2⟩ := run_ok (txt bs.tail ++ [123]) true (by rw [E1]; decide)
            obtain ⟨m3, o3, p3, R3⟩ := run_ok (txt bs.tail ++ [123, 34]) false (by rw [E2]; decide)
            have HR1 := Lib.hid (fun w => run_to (txt bs) m o p false w (by first | omega | (simp; omega)) R1)
            have HR2 := Lib.hid (fun w => run_to (txt bs.tail ++ [123]) m2 o2 p2 true w (by first | omega | (simp; omega)) R2)
            have HR3 := Lib.hid (fun w => run_to (txt bs.tail ++ [123, 34]) m3 o3 p3 false w (by first | omega | (simp; omega)) R3)
            have gd := runS_fit (txt bs) (by omega)
            rw [R1] at gd
            have HD := Lib.hid (fun w => deep_any ⟨m, o, p⟩ w gd)
            have hol := Lib.hid D2'
            clear D1 D2 D2' E1 E2 R1 R2 R3 gd
            generalize txt bs.tail = tt at *
            generalize txt bs = tb at *
            unfold Q.v sv at HD
            dsimp only at HD
            go_wp2_with fail
            refine (HR1.out _).mono ?_
            rintro x w2 ⟨rfl, b2⟩
            have hX : StAt (w2.alloc (.cells #[.int .i64 m, .string (strOf o), .string (strOf p)] 25)) w2.heap.size ⟨m, o, p⟩ := Blk.new w2 _ _
            have b3 := b2.alloc b2.size (.cells #[.int .i64 m, .string (strOf o), .string (strOf p)] 25)
            go_upto_region 15 with fail
            generalize w2.alloc _ = w3 at *
            generalize w2.heap.size = g at *
            go_wp2_with fail
            refine (HR2.out _).mono ?_
            rintro x w4 ⟨rfl, b⟩
            have hX4 := Blk.alloc (hX.below' b) (.cells #[.int .i64 m2, .string (strOf o2), .string (strOf p2)] 25)
            have b4 := (b3.trans (b.mono b3.size)).alloc (b3.trans (b.mono b3.size)).size (.cells #[.int .i64 m2, .string (strOf o2), .string (strOf p2)] 25)
            clear b
            go_upto_region 16 with fail
            generalize w4.alloc _ = w5 at *
            go_wp2_with fail
            refine (HR3.out _).mono ?_
            rintro x w6 ⟨rfl, b⟩
            have hX6 := Blk.alloc (StAt.below' hX4 b) (.cells #[.int .i64 m3, .string (strOf o3), .string (strOf p3)] 25)
            have b6 := (b4.trans (b.mono b4.size)).alloc (b4.trans (b.mono b4.size)).size (.cells #[.int .i64 m3, .string (strOf o3), .string (strOf p3)] 25)
            clear b
            go_upto_region 17 with fail
            generalize w6.alloc _ = w7 at *
            go_wp2_with fail
            refine (awake_any _).mono ?_
            rintro x w9 ⟨rfl, b⟩
            have b9 := b6.trans (b.mono b6.size)
            go_wp2_with fail
            go_ret
            exact ⟨rfl, b9⟩
        have k3 : 32 < k := by omega
        have i1 : ¬ ((k : Nat) : Int) < 32 := by omega
        have i2 : ((k : Int) == 32) = false := by simp only [beq_eq_false_iff_ne]; omega
        have i3 : decide (((k : Nat) : Int) < 32) = false := decide_eq_false i1
        have i4 : decide (((k : Nat) : Int) ≤ 32) = false := decide_eq_false (by omega)
        obtain ⟨m, o, p, R1⟩ := run_ok (txt bs) false (by rw [D1]; rw [decide_eq_false k1, decide_eq_false k2]; rfl)
        have D2' := D2
        rw [R1] at D2'
        obtain ⟨m2, o2, p2, R2⟩ := run_ok (txt bs.tail ++ [123]) false (by rw [E1]; exact decide_eq_false (by omega))
        obtain ⟨m3, o3, p3, R3⟩ := run_ok (txt bs.tail ++ [123, 34]) false (by rw [E2]; exact decide_eq_false (by omega))
        have HR1 := Lib.hid (fun w => run_to (txt bs) m o p false w (by first | omega | (simp; omega)) R1)
        have HR2 := Lib.hid (fun w => run_to (txt bs.tail ++ [123]) m2 o2 p2 false w (by first | omega | (simp; omega)) R2)
        have HR3 := Lib.hid (fun w => run_to (txt bs.tail ++ [123, 34]) m3 o3 p3 false w (by first | omega | (simp; omega)) R3)
        have gd := runS_fit (txt bs) (by omega)
        rw [R1] at gd
        have HD := Lib.hid (fun w => deep_any ⟨m, o, p⟩ w gd)
        have hol := Lib.hid D2'
        clear D1 D2 D2' E1 E2 R1 R2 R3 gd
        generalize txt bs.tail = tt at *
        generalize txt bs = tb at *
        unfold Q.v sv at HD
        dsimp only at HD
        go_wp2_with fail
        refine (HR1.out _).mono ?_
        rintro x w2 ⟨rfl, b2⟩
        have hX : StAt (w2.alloc (.cells #[.int .i64 m, .string (strOf o), .string (strOf p)] 25)) w2.heap.size ⟨m, o, p⟩ := Blk.new w2 _ _
        have b3 := b2.alloc b2.size (.cells #[.int .i64 m, .string (strOf o), .string (strOf p)] 25)
        go_upto_region 15 with fail
        generalize w2.alloc _ = w3 at *
        generalize w2.heap.size = g at *
        go_wp2_with fail
        refine (HR2.out _).mono ?_
        rintro x w4 ⟨rfl, b⟩
        have hX4 := Blk.alloc (hX.below' b) (.cells #[.int .i64 m2, .string (strOf o2), .string (strOf p2)] 25)
        have b4 := (b3.trans (b.mono b3.size)).alloc (b3.trans (b.mono b3.size)).size (.cells #[.int .i64 m2, .string (strOf o2), .string (strOf p2)] 25)
        clear b
        go_upto_region 16 with fail
        generalize w4.alloc _ = w5 at *
        go_wp2_with fail
        refine (HR3.out _).mono ?_
        rintro x w6 ⟨rfl, b⟩
        have hX6 := Blk.alloc (StAt.below' hX4 b) (.cells #[.int .i64 m3, .string (strOf o3), .string (strOf p3)] 25)
        have b6 := (b4.trans (b.mono b4.size)).alloc (b4.trans (b.mono b4.size)).size (.cells #[.int .i64 m3, .string (strOf o3), .string (strOf p3)] 25)
        clear b
        go_upto_region 17 with fail
        generalize w6.alloc _ = w7 at *
        go_wp2_with fail
        refine (awake_any _).mono ?_
        rintro x w9 ⟨rfl, b⟩
        have b9 := b6.trans (b.mono b6.size)
        go_wp2_with fail
        go_ret
        exact ⟨rfl, b9⟩
      · obtain ⟨D1, D2⟩ := deep_leaf bs true
        simp only [if_true, Bool.not_true, Bool.and_false, Bool.false_and, Bool.or_false] at D1 D2
        rw [hbl] at D1
        have hbs := bs.headD false
        by_cases k0 : k = 0
        · subst k0
          obtain ⟨m, o, p, R1⟩ := run_ok (txt bs ++ [49]) true (by rw [D1]; simp)
          have D2' := D2
          rw [R1] at D2'
          obtain ⟨m2, o2, p2, R2⟩ := run_ok (txt bs.tail ++ [123]) true (by rw [E1]; simp)
          obtain ⟨m3, o3, p3, R3⟩ := run_ok (txt bs.tail ++ [123, 34]) true (by rw [E2]; simp)
          have HR1 := Lib.hid (fun w => run_to (txt bs ++ [49]) m o p true w (by first | omega | (simp; omega)) R1)
          have HR2 := Lib.hid (fun w => run_to (txt bs.tail ++ [123]) m2 o2 p2 true w (by first | omega | (simp; omega)) R2)
          have HR3 := Lib.hid (fun w => run_to (txt bs.tail ++ [123, 34]) m3 o3 p3 true w (by first | omega | (simp; omega)) R3)
          have gd := runS_fit (txt bs ++ [49]) (by simp; omega)
          rw [R1] at gd
          have HD := Lib.hid (fun w => deep_any ⟨m, o, p⟩ w gd)
          have hol := Lib.hid D2'
          clear D1 D2 D2' E1 E2 R1 R2 R3 gd
          generalize txt bs.tail = tt at *
          generalize txt bs = tb at *
          unfold Q.v sv at HD
          dsimp only at HD
          go_wp2_with fail
          refine (HR1.out _).mono ?_
          rintro x w2 ⟨rfl, b2⟩
          have hX : StAt (w2.alloc (.cells #[.int .i64 m, .string (strOf o), .string (strOf p)] 25)) w2.heap.size ⟨m, o, p⟩ := Blk.new w2 _ _
          have b3 := b2.alloc b2.size (.cells #[.int .i64 m, .string (strOf o), .string (strOf p)] 25)
          go_upto_region 15 with fail
          generalize w2.alloc _ = w3 at *
          generalize w2.heap.size = g at *
          go_wp2_with fail
          refine (HR2.out _).mono ?_
          rintro x w4 ⟨rfl, b⟩
          have hX4 := Blk.alloc (hX.below' b) (.cells #[.int .i64 m2, .string (strOf o2), .string (strOf p2)] 25)
          have b4 := (b3.trans (b.mono b3.size)).alloc (b3.trans (b.mono b3.size)).size (.cells #[.int .i64 m2, .string (strOf o2), .string (strOf p2)] 25)
          clear b
          go_upto_region 16 with fail
          generalize w4.alloc _ = w5 at *
          go_wp2_with fail
          refine (HR3.out _).mono ?_
          rintro x w6 ⟨rfl, b⟩
          have hX6 := Blk.alloc (StAt.below' hX4 b) (.cells #[.int .i64 m3, .string (strOf o3), .string (strOf p3)] 25)
          have b6 := (b4.trans (b.mono b4.size)).alloc (b4.trans (b.mono b4.size)).size (.cells #[.int .i64 m3, .string (strOf o3), .string (strOf p3)] 25)
          clear b
          go_upto_region 17 with fail
          generalize w6.alloc _ = w7 at *
          obtain ⟨c0, c1, c2, _, _, _⟩ := StAt.facts hX6
          dsimp only at c0 c1 c2
          rw [hol.out (by first | rfl | trivial), hbl] at HD
          go_wp2_with fail
          refine (HD.out _).mono ?_
          rintro x w8 ⟨rfl, b⟩
          have b8 := b6.trans (b.mono b6.size)
          go_wp2_with fail
          refine (awake_any _).mono ?_
          rintro x w9 ⟨rfl, b⟩
          have b9 := b8.trans (b.mono b8.size)
          go_wp2_with fail
          go_ret
          exact ⟨rfl, b9⟩
        have kp : 0 < k := by omega
        by_cases k1 : k < 32
        · have i1 : ((k : Nat) : Int) < 32 := by omega
          have i2 : ((k : Int) == 32) = false := by simp only [beq_eq_false_iff_ne]; omega
          have i3 : decide (((k : Nat) : Int) < 32) = true := decide_eq_true i1
          have i4 : decide (((k : Nat) : Int) ≤ 32) = true := decide_eq_true (by omega)
          have i5 : (0 : Int) < (k : Nat) := by omega
          obtain ⟨m, o, p, R1⟩ := run_ok (txt bs ++ [49]) true (by rw [D1]; simp [k1])
          have D2' := D2
          rw [R1] at D2'
          obtain ⟨m2, o2, p2, R2⟩ := run_ok (txt bs.tail ++ [123]) true (by rw [E1]; exact decide_eq_true (by omega))
          obtain ⟨m3, o3, p3, R3⟩ := run_ok (txt bs.tail ++ [123, 34]) true (by rw [E2]; exact decide_eq_true (by omega))
          have HR1 := Lib.hid (fun w => run_to (txt bs ++ [49]) m o p true w (by first | omega | (simp; omega)) R1)
          have HR2 := Lib.hid (fun w => run_to (txt bs.tail ++ [123]) m2 o2 p2 true w (by first | omega | (simp; omega)) R2)
          have HR3 := Lib.hid (fun w => run_to (txt bs.tail ++ [123, 34]) m3 o3 p3 true w (by first | omega | (simp; omega)) R3)
          have gd := runS_fit (txt bs ++ [49]) (by simp; omega)
          rw [R1] at gd
          have HD := Lib.hid (fun w => deep_any ⟨m, o, p⟩ w gd)
          have hol := Lib.hid D2'
          clear D1 D2 D2' E1 E2 R1 R2 R3 gd
          generalize txt bs.tail = tt at *
          generalize txt bs = tb at *
          unfold Q.v sv at HD
          dsimp only at HD
          go_wp2_with fail
          refine (HR1.out _).mono ?_
          rintro x w2 ⟨rfl, b2⟩
          have hX : StAt (w2.alloc (.cells #[.int .i64 m, .string (strOf o), .string (strOf p)] 25)) w2.heap.size ⟨m, o, p⟩ := Blk.new w2 _ _
          have b3 := b2.alloc b2.size (.cells #[.int .i64 m, .string (strOf o), .string (strOf p)] 25)
          go_upto_region 15 with fail
          generalize w2.alloc _ = w3 at *
          generalize w2.heap.size = g at *
          go_wp2_with fail
          refine (HR2.out _).mono ?_
          rintro x w4 ⟨rfl, b⟩
          have hX4 := Blk.alloc (hX.below' b) (.cells #[.int .i64 m2, .string (strOf o2), .string (strOf p2)] 25)
          have b4 := (b3.trans (b.mono b3.size)).alloc (b3.trans (b.mono b3.size)).size (.cells #[.int .i64 m2, .string (strOf o2), .string (strOf p2)] 25)
          clear b
          go_upto_region 16 with fail
          generalize w4.alloc _ = w5 at *
          go_wp2_with fail
          refine (HR3.out _).mono ?_
          rintro x w6 ⟨rfl, b⟩
          have hX6 := Blk.alloc (StAt.below' hX4 b) (.cells #[.int .i64 m3, .string (strOf o3), .string (strOf p3)] 25)
          have b6 := (b4.trans (b.mono b4.size)).alloc (b4.trans (b.mono b4.size)).size (.cells #[.int .i64 m3, .string (strOf o3), .string (strOf p3)] 25)
          clear b
          go_upto_region 17 with fail
          generalize w6.alloc _ = w7 at *
          obtain ⟨c0, c1, c2, _, _, _⟩ := StAt.facts hX6
          dsimp only at c0 c1 c2
          rw [hol.out (by first | rfl | trivial), hbl] at HD
          go_wp2_with fail
          refine (HD.out _).mono ?_
          rintro x w8 ⟨rfl, b⟩
          have b8 := b6.trans (b.mono b6.size)
          go_wp2_with fail
          refine (awake_any _).mono ?_
          rintro x w9 ⟨rfl, b⟩
          have b9 := b8.trans (b.mono b8.size)
          go_wp2_with fail
          go_ret
          exact ⟨rfl, b9⟩
        by_cases k2 : k = 32
        · subst k2
          have hdd : bs.head?.getD false = bs.headD false := by simp
          cases hla : bs.headD false
          · rw [hla] at hdd
            obtain ⟨m, o, p, R1⟩ := run_ok (txt bs ++ [49]) false (by rw [D1]; decide)
            have D2' := D2
            rw [R1] at D2'
            obtain ⟨m2, o2, p2, R2⟩ := run_ok (txt bs.tail ++ [123]) true (by rw [E1]; decide)
            obtain ⟨m3, o3, p3, R3⟩ := run_ok (txt bs.tail ++ [123, 34]) false (by rw [E2]; decide)
            have HR1 := Lib.hid (fun w => run_to (txt bs ++ [49]) m o p false w (by first | omega | (simp; omega)) R1)
            have HR2 := Lib.hid (fun w => run_to (txt bs.tail ++ [123]) m2 o2 p2 true w (by first | omega | (simp; omega)) R2)
            have HR3 := Lib.hid (fun w => run_to (txt bs.tail ++ [123, 34]) m3 o3 p3 false w (by first | omega | (simp; omega)) R3)
            have gd := runS_fit (txt bs ++ [49]) (by simp; omega)
            rw [R1] at gd
            have HD := Lib.hid (fun w => deep_any ⟨m, o, p⟩ w gd)
            have hol := Lib.hid D2'
            clear D1 D2 D2' E1 E2 R1 R2 R3 gd
            generalize txt bs.tail = tt at *
            generalize txt bs = tb at *
            unfold Q.v sv at HD
            dsimp only at HD
            go_wp2_with fail
            refine (HR1.out _).mono ?_
            rintro x w2 ⟨rfl, b2⟩
            have hX : StAt (w2.alloc (.cells #[.int .i64 m, .string (strOf o), .string (strOf p)] 25)) w2.heap.size ⟨m, o, p⟩ := Blk.new w2 _ _
            have b3 := b2.alloc b2.size (.cells #[.int .i64 m, .string (strOf o), .string (strOf p)] 25)
            go_upto_region 15 with fail
            generalize w2.alloc _ = w3 at *
            generalize w2.heap.size = g at *
            go_wp2_with fail
            refine (HR2.out _).mono ?_
            rintro x w4 ⟨rfl, b⟩
            have hX4 := Blk.alloc (hX.below' b) (.cells #[.int .i64 m2, .string (strOf o2), .string (strOf p2)] 25)
            have b4 := (b3.trans (b.mono b3.size)).alloc (b3.trans (b.mono b3.size)).size (.cells #[.int .i64 m2, .string (strOf o2), .string (strOf p2)] 25)
            clear b
            go_upto_region 16 with fail
            generalize w4.alloc _ = w5 at *
            go_wp2_with fail
            refine (HR3.out _).mono ?_
            rintro x w6 ⟨rfl, b⟩
            have hX6 := Blk.alloc (StAt.below' hX4 b) (.cells #[.int .i64 m3, .string (strOf o3), .string (strOf p3)] 25)
            have b6 := (b4.trans (b.mono b4.size)).alloc (b4.trans (b.mono b4.size)).size (.cells #[.int .i64 m3, .string (strOf o3), .string (strOf p3)] 25)
            clear b
            go_upto_region 17 with fail
            generalize w6.alloc _ = w7 at *
            go_wp2_with fail
            refine (awake_any _).mono ?_
            rintro x w9 ⟨rfl, b⟩
            have b9 := b6.trans (b.mono b6.size)
            go_wp2_with fail
            go_ret
            exact ⟨rfl, b9⟩
          · rw [hla] at hdd
            obtain ⟨m, o, p, R1⟩ := run_ok (txt bs ++ [49]) false (by rw [D1]; decide)
            have D2' := D2
            rw [R1] at D2'
            obtain ⟨m2, o2, p2, R2⟩ := run_ok (txt bs.tail ++ [123]) true (by rw [E1]; decide)
            obtain ⟨m3, o3, p3, R3⟩ := run_ok (txt bs.tail ++ [123, 34]) false (by rw [E2]; decide)
            have HR1 := Lib.hid (fun w => run_to (txt bs ++ [49]) m o p false w (by first | omega | (simp; omega)) R1)
            have HR2 := Lib.hid (fun w => run_to (txt bs.tail ++ [123]) m2 o2 p2 true w (by first | omega | (simp; omega)) R2)
            have HR3 := Lib.hid (fun w => run_to (txt bs.tail ++ [123, 34]) m3 o3 p3 false w (by first | omega | (simp; omega)) R3)
            have gd := runS_fit (txt bs ++ [49]) (by simp; omega)
            rw [R1] at gd
            have HD := Lib.hid (fun w => deep_any ⟨m, o, p⟩ w gd)
            have hol := Lib.hid D2'
            clear D1 D2 D2' E1 E2 R1 R2 R3 gd
            generalize txt bs.tail = tt at *
            generalize txt bs = tb at *
            unfold Q.v sv at HD
            dsimp only at HD
            go_wp2_with fail
            refine (HR1.out _).mono ?_
            rintro x w2 ⟨rfl, b2⟩
            have hX : StAt (w2.alloc (.cells #[.int .i64 m, .string (strOf o), .string (strOf p)] 25)) w2.heap.size ⟨m, o, p⟩ := Blk.new w2 _ _
            have b3 := b2.alloc b2.size (.cells #[.int .i64 m, .string (strOf o), .string (strOf p)] 25)
            go_upto_region 15 with fail
            generalize w2.alloc _ = w3 at *
            generalize w2.heap.size = g at *
            go_wp2_with fail
            refine (HR2.out _).mono ?_
            rintro x w4 ⟨rfl, b⟩
            have hX4 := Blk.alloc (hX.below' b) (.cells #[.int .i64 m2, .string (strOf o2), .string (strOf p2)] 25)
            have b4 := (b3.trans (b.mono b3.size)).alloc (b3.trans (b.mono b3.size)).size (.cells #[.int .i64 m2, .string (strOf o2), .string (strOf p2)] 25)
            clear b
            go_upto_region 16 with fail
            generalize w4.alloc _ = w5 at *
            go_wp2_with fail
            refine (HR3.out _).mono ?_
            rintro x w6 ⟨rfl, b⟩
            have hX6 := Blk.alloc (StAt.below' hX4 b) (.cells #[.int .i64 m3, .string (strOf o3), .string (strOf p3)] 25)
            have b6 := (b4.trans (b.mono b4.size)).alloc (b4.trans (b.mono b4.size)).size (.cells #[.int .i64 m3, .string (strOf o3), .string (strOf p3)] 25)
            clear b
            go_upto_region 17 with fail
            generalize w6.alloc _ = w7 at *
            go_wp2_with fail
            refine (awake_any _).mono ?_
            rintro x w9 ⟨rfl, b⟩
            have b9 := b6.trans (b.mono b6.size)
            go_wp2_with fail
            go_ret
            exact ⟨rfl, b9⟩
        have k3 : 32 < k := by omega
        have i1 : ¬ ((k : Nat) : Int) < 32 := by omega
        have i2 : ((k : Int) == 32) = false := by simp only [beq_eq_false_iff_ne]; omega
        have i3 : decide (((k : Nat) : Int) < 32) = false := decide_eq_false i1
        have i4 : decide (((k : Nat) : Int) ≤ 32) = false := decide_eq_false (by omega)
        obtain ⟨m, o, p, R1⟩ := run_ok (txt bs ++ [49]) false (by rw [D1]; exact decide_eq_false k1)
        have D2' := D2
        rw [R1] at D2'
        obtain ⟨m2, o2, p2, R2⟩ := run_ok (txt bs.tail ++ [123]) false (by rw [E1]; exact decide_eq_false (by omega))
        obtain ⟨m3, o3, p3, R3⟩ := run_ok (txt bs.tail ++ [123, 34]) false (by rw [E2]; exact decide_eq_false (by omega))
        have HR1 := Lib.hid (fun w => run_to (txt bs ++ [49]) m o p false w (by first | omega | (simp; omega)) R1)
        have HR2 := Lib.hid (fun w => run_to (txt bs.tail ++ [123]) m2 o2 p2 false w (by first | omega | (simp; omega)) R2)
        have HR3 := Lib.hid (fun w => run_to (txt bs.tail ++ [123, 34]) m3 o3 p3 false w (by first | omega | (simp; omega)) R3)
        have gd := runS_fit (txt bs ++ [49]) (by simp; omega)
        rw [R1] at gd
        have HD := Lib.hid (fun w => deep_any ⟨m, o, p⟩ w gd)
        have hol := Lib.hid D2'
        clear D1 D2 D2' E1 E2 R1 R2 R3 gd
        generalize txt bs.tail = tt at *
        generalize txt bs = tb at *
        unfold Q.v sv at HD
        dsimp only at HD
        go_wp2_with fail
        refine (HR1.out _).mono ?_
        rintro x w2 ⟨rfl, b2⟩
        have hX : StAt (w2.alloc (.cells #[.int .i64 m, .string (strOf o), .string (strOf p)] 25)) w2.heap.size ⟨m, o, p⟩ := Blk.new w2 _ _
        have b3 := b2.alloc b2.size (.cells #[.int .i64 m, .string (strOf o), .string (strOf p)] 25)
        go_upto_region 15 with fail
        generalize w2.alloc _ = w3 at *
        generalize w2.heap.size = g at *
        go_wp2_with fail
        refine (HR2.out _).mono ?_
        rintro x w4 ⟨rfl, b⟩
        have hX4 := Blk.alloc (hX.below' b) (.cells #[.int .i64 m2, .string (strOf o2), .string (strOf p2)] 25)
        have b4 := (b3.trans (b.mono b3.size)).alloc (b3.trans (b.mono b3.size)).size (.cells #[.int .i64 m2, .string (strOf o2), .string (strOf p2)] 25)
        clear b
        go_upto_region 16 with fail
        generalize w4.alloc _ = w5 at *
        go_wp2_with fail
        refine (HR3.out _).mono ?_
        rintro x w6 ⟨rfl, b⟩
        have hX6 := Blk.alloc (StAt.below' hX4 b) (.cells #[.int .i64 m3, .string (strOf o3), .string (strOf p3)] 25)
        have b6 := (b4.trans (b.mono b4.size)).alloc (b4.trans (b.mono b4.size)).size (.cells #[.int .i64 m3, .string (strOf o3), .string (strOf p3)] 25)
        clear b
        go_upto_region 17 with fail
        generalize w6.alloc _ = w7 at *
        go_wp2_with fail
        refine (awake_any _).mono ?_
        rintro x w9 ⟨rfl, b⟩
        have b9 := b6.trans (b.mono b6.size)
        go_wp2_with fail
        go_ret
        exact ⟨rfl, b9⟩
end Go.Proofs.Ytmfldffbafamnaa
