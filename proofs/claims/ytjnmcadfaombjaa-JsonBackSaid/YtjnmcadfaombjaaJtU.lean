/- Walks: the program's json reader: four digits of base 16 (chapter 10). -/
import Derived.Test.YtjnmcadfaombjaaJtW
import Derived.Test.YtjnmcadfaombjaaOctA
namespace Go.Proofs.Ytjnmcadfaombjaa
open Go.RowKit
set_option linter.unusedVariables false
set_option linter.unusedSimpArgs false
/-- The number of so many digits at a place. -/
def hexV (l : List UInt8) (p : Nat) : Nat → Nat
  | 0 => 0
  | i + 1 => hexV l p i * 16 + wth (bt l (p + i))
theorem hexV_lt {l : List UInt8} {p : Nat} : ∀ i, (∀ j, j < i → wth (bt l (p + j)) < 16) → hexV l p i < 16 ^ i
  | 0, _ => by simp [hexV]
  | i + 1, h => by
    have h1 := hexV_lt i (fun j hj => h j (by omega))
    have h2 := h i (by omega)
    rw [hexV, Nat.pow_succ]; omega
def pre92 (l : List UInt8) (k : Nat) : Bool := atL l [92, 117] k
theorem pre92_iff (l : List UInt8) (k : Nat) : pre92 l k = true ↔ bt l k = 92 ∧ bt l (k + 1) = 117 := by
  have e0 : bt l k = bt (l.drop k) 0 := by rw [bt_drop]; rfl
  have e1 : bt l (k + 1) = bt (l.drop k) 1 := by rw [bt_drop]
  unfold pre92 atL
  rw [Bool.and_eq_true, decide_eq_true_iff, decide_eq_true_iff]
  have e2 : bt l k = 92 → k ≤ l.length := fun h => Nat.le_of_lt (bt_pos_lt (by rw [h]; decide))
  rw [e0] at e2 ⊢
  rw [e1]
  generalize l.drop k = x at *
  constructor
  · rintro ⟨_, h⟩
    match x, h with
    | a :: b :: t, h =>
      simp only [List.length_cons, List.length_nil, Nat.zero_add, Nat.reduceAdd, List.take_succ_cons, List.take_zero, List.cons.injEq, and_true] at h
      obtain ⟨rfl, rfl⟩ := h
      exact ⟨rfl, rfl⟩
  · rintro ⟨h1, h2⟩
    refine ⟨e2 h1, ?_⟩
    match x, h1, h2 with
    | [], h1, _ => exact absurd h1 (by decide)
    | [a], _, h2 => exact absurd h2 (by simp [bt])
    | a :: b :: t, h1, h2 =>
      have h1 : a.toNat = 92 := h1
      have h2 : b.toNat = 117 := h2
      have e3 : a = 92 := UInt8.toNat_inj.1 h1
      have e4 : b = 117 := UInt8.toNat_inj.1 h2
      rw [e3, e4]; rfl
theorem or_16 (a b : Nat) (ha : a < 65536) (hb : b < 16) : bits .or .i32 ((a : Int) * 16) (b : Int) = ((a * 16 + b : Nat) : Int) := by
  have h := Nat.two_pow_add_eq_or_of_lt (i := 4) (b := b) (by simpa using hb) a
  have e : (2 : Nat) ^ 4 = 16 := rfl
  rw [e] at h
  have h2 := i32_or_nat (a * 16) b (by omega) (by omega)
  rw [show (a * 16 ||| b) = a * 16 + b by rw [Nat.mul_comm a 16]; exact h.symm] at h2
  rw [show ((a * 16 : Nat) : Int) = (a : Int) * 16 by omega] at h2
  exact h2
theorem byte_bad {l : List UInt8} {k : Nat} (h : ¬ (wth (bt l k) < 16 ∧ wth (bt l (k + 1)) < 16)) : byteAt l k = none := by
  unfold byteAt; rw [if_neg (fun x => h x.2)]
theorem unit_none1 {l : List UInt8} {k : Nat} (h : byteAt l (k + 2) = none) : unitAt l k = none := by
  unfold unitAt; rw [h]; split <;> rfl
theorem unit_none2 {l : List UInt8} {k : Nat} (h : byteAt l (k + 4) = none) : unitAt l k = none := by
  unfold unitAt; rw [h]
  split
  · cases byteAt l (k + 2) <;> rfl
  · rfl
theorem unit_bad {l : List UInt8} {k i : Nat} (hi : i < 4) (h : ¬ wth (bt l (k + 2 + i)) < 16) : unitAt l k = none := by
  have : i = 0 ∨ i = 1 ∨ i = 2 ∨ i = 3 := by omega
  rcases this with rfl | rfl | rfl | rfl
  · exact unit_none1 (byte_bad fun x => h x.1)
  · exact unit_none1 (byte_bad fun x => h x.2)
  · exact unit_none2 (byte_bad fun x => h x.1)
  · exact unit_none2 (byte_bad fun x => h x.2)
theorem unit_full {l : List UInt8} {k : Nat} (h0 : bt l k = 92 ∧ bt l (k + 1) = 117) (hk : k + 6 ≤ l.length) (h : ∀ j, j < 4 → wth (bt l (k + 2 + j)) < 16) : unitAt l k = some (hexV l (k + 2) 4) := by
  have a0 := h 0 (by omega)
  have a1 := h 1 (by omega)
  have a2 := h 2 (by omega)
  have a3 := h 3 (by omega)
  have b1 : byteAt l (k + 2) = some (16 * wth (bt l (k + 2)) + wth (bt l (k + 2 + 1))) := by
    unfold byteAt; rw [if_pos ⟨by omega, a0, a1⟩]
  have b2 : byteAt l (k + 4) = some (16 * wth (bt l (k + 4)) + wth (bt l (k + 4 + 1))) := by
    unfold byteAt; rw [if_pos ⟨by omega, a2, a3⟩]
  unfold unitAt
  rw [if_pos h0, b1, b2]
  simp only [hexV, Option.some.injEq, Nat.add_zero]
  rw [show k + 2 + 2 = k + 4 by omega, show k + 2 + 3 = k + 4 + 1 by omega]
  omega
theorem wth_dig {c : Nat} (h1 : 48 ≤ c) (h2 : c ≤ 57) : (c : Int) - 48 = (wth c : Nat) ∧ wth c < 16 := by
  unfold wth; rw [if_pos ⟨h1, h2⟩]; omega
theorem wth_let {c : Nat} (hc : c < 256) (h0 : ¬ (48 ≤ c ∧ c ≤ 57)) (h1 : 97 ≤ or32 c) (h2 : or32 c ≤ 102) : (or32 c : Int) - 97 + 10 = (wth c : Nat) ∧ wth c < 16 := by
  have key : ∀ c : Fin 256, ¬ (48 ≤ c.val ∧ c.val ≤ 57) → 97 ≤ or32 c.val → or32 c.val ≤ 102 → wth c.val + 87 = or32 c.val ∧ wth c.val < 16 := by decide +kernel
  have := key ⟨c, hc⟩ h0 h1 h2
  dsimp only at this
  omega
theorem wth_no {c : Nat} (hc : c < 256) (h0 : ¬ (48 ≤ c ∧ c ≤ 57)) (h1 : ¬ (97 ≤ or32 c ∧ or32 c ≤ 102)) : ¬ wth c < 16 := by
  have key : ∀ c : Fin 256, ¬ (48 ≤ c.val ∧ c.val ≤ 57) → ¬ (97 ≤ or32 c.val ∧ or32 c.val ≤ 102) → ¬ wth c.val < 16 := by decide +kernel
  exact key ⟨c, hc⟩ h0 h1
/-- What is told of four digits. -/
def unitT (l : List UInt8) (k : Nat) (g : Nat) (s : ByteArray) (e : Ending) (w' : World) : Prop := match unitAt l k with
  | some n => e = .returned (.tuple #[.int .i32 n, .bool true]) ∧ Rdr w' g s (k + 6)
  | none => e = .returned (.tuple #[.int .i32 0, .bool false]) ∧ Rdr w' g s k
set_option maxRecDepth 100000 in
set_option maxHeartbeats 4000000 in
theorem junit (g k : Nat) (s : ByteArray) (w : World) (hR : Rdr w g s k) (hk : k ≤ s.size) (hs : s.size ≤ 1000000) :
    Calls Try.prog 73 #[.pointer (some ⟨g, 0, none⟩)] w fun e w' => unitT s.data.toList k g s e w' ∧ Only g w w' := by
  have HL := Lib.hid (sz_len s)
  cases hp : pre92 s.data.toList k
  · have HV : Hid (unitAt s.data.toList k = none) := by
      show _ = _; unfold unitAt; rw [if_neg (fun h => by rw [(pre92_iff _ _).2 h] at hp; cases hp)]
    have HP := Lib.hid (fun w => jprefix s ⟨#[92, 117]⟩ k false hk hp w)
    have hd : decide (s.size ≤ k) = decide (s.size ≤ k) := rfl
    clear hp
    go_enter Try.func73, Try.ntmps73
    go_wp2_with fail
    refine wp_region_held_drew (S := (fun w' => w'.cell? ⟨g, 0, none⟩ = some (.string s) ∧ w'.cell? ⟨g, 1, none⟩ = some (.int .i64 k))) (by kernel_rfl) (by exact hR.both) (fun hHeld => ?_)
    refine wpAnyH_take (i := 0) (v := ?_) rfl (by kernel_rfl) (by kernel_rfl) (by kernel_rfl) (fun _ _ _ h => h) (Or.inl ⟨by rfl, ?_⟩) (by assumption) ?_
    rotate_left
    · intro w hSw
      go_simp
      try rfl
    simp only [Act.put, List.setIfInBounds_toArray, List.set_cons_zero, List.set_cons_succ, List.getElem_toArray, List.getElem_cons_succ, List.getElem_cons_zero]
    refine wpAnyH_take (i := 1) (v := ?_) rfl (by kernel_rfl) (by kernel_rfl) (by kernel_rfl) (fun _ _ _ h => h) (Or.inl ⟨by rfl, ?_⟩) (by assumption) ?_
    rotate_left
    · intro w hSw
      go_simp
      try rfl
    simp only [Act.put, List.setIfInBounds_toArray, List.set_cons_zero, List.set_cons_succ, List.getElem_toArray, List.getElem_cons_succ, List.getElem_cons_zero]
    refine wpAnyH_take (i := 2) (v := ?_) rfl (by kernel_rfl) (by kernel_rfl) (by kernel_rfl) (fun _ _ _ h => h) (Or.inl ⟨by rfl, ?_⟩) (by assumption) ?_
    rotate_left
    · intro w hSw
      go_simp
      try rfl
    simp only [Act.put, List.setIfInBounds_toArray, List.set_cons_zero, List.set_cons_succ, List.getElem_toArray, List.getElem_cons_succ, List.getElem_cons_zero]
    refine wpAnyH_take (i := 3) (v := ?_) rfl (by kernel_rfl) (by kernel_rfl) (by kernel_rfl) (fun _ _ _ h => h) (Or.inl ⟨by rfl, ?_⟩) (by assumption) ?_
    rotate_left
    · intro w hSw
      go_simp
      try rfl
    simp only [Act.put, List.setIfInBounds_toArray, List.set_cons_zero, List.set_cons_succ, List.getElem_toArray, List.getElem_cons_succ, List.getElem_cons_zero]
    refine wpAnyH_take (i := 4) (v := ?_) rfl (by kernel_rfl) (by kernel_rfl) (by kernel_rfl) (fun _ _ _ h => h) (Or.inl ⟨by rfl, ?_⟩) (by assumption) ?_
    rotate_left
    · intro w hSw
      go_simp
      try rfl
    simp only [Act.put, List.setIfInBounds_toArray, List.set_cons_zero, List.set_cons_succ, List.getElem_toArray, List.getElem_cons_succ, List.getElem_cons_zero]
    refine wpAnyH_take (i := 5) (v := ?_) rfl (by kernel_rfl) (by kernel_rfl) (by kernel_rfl) (fun _ _ _ h => h) (Or.inl ⟨by rfl, ?_⟩) (by assumption) ?_
    rotate_left
    · intro w hSw
      go_simp
      try rfl
    simp only [Act.put, List.setIfInBounds_toArray, List.set_cons_zero, List.set_cons_succ, List.getElem_toArray, List.getElem_cons_succ, List.getElem_cons_zero]
    refine wpAnyH_take (i := 6) (v := ?_) rfl (by kernel_rfl) (by kernel_rfl) (by kernel_rfl) (fun _ _ _ h => h) (Or.inl ⟨by rfl, ?_⟩) (by assumption) ?_
    rotate_left
    · intro w hSw
      go_simp
      try rfl
    simp only [Act.put, List.setIfInBounds_toArray, List.set_cons_zero, List.set_cons_succ, List.getElem_toArray, List.getElem_cons_succ, List.getElem_cons_zero]
    refine wpAnyH_take (i := 7) (v := ?_) rfl (by kernel_rfl) (by kernel_rfl) (by kernel_rfl) (fun _ _ _ h => h) (Or.inl ⟨by rfl, ?_⟩) (by assumption) ?_
    rotate_left
    · intro w hSw
      go_simp
      try rfl
    simp only [Act.put, List.setIfInBounds_toArray, List.set_cons_zero, List.set_cons_succ, List.getElem_toArray, List.getElem_cons_succ, List.getElem_cons_zero]
    refine wpAnyH_take (i := 8) (v := ?_) rfl (by kernel_rfl) (by kernel_rfl) (by kernel_rfl) (fun _ _ _ h => h) (Or.inl ⟨by rfl, ?_⟩) (by assumption) ?_
    rotate_left
    · intro w hSw
      go_simp
      try rfl
    simp only [Act.put, List.setIfInBounds_toArray, List.set_cons_zero, List.set_cons_succ, List.getElem_toArray, List.getElem_cons_succ, List.getElem_cons_zero]
    refine wpAnyH_ready (rs := [9]) (by kernel_rfl) (by simp) ?_
    refine AllReadyH.cons rfl (fun K9 hK => ?_) AllReadyH.nil
    go_simp
    (go_at_call 61; refine (HP.out _).mono ?_; rintro e w' ⟨rfl, rfl⟩)
    try go_wp2_with fail
    refine hK.out _ _ (by exact hR.both) (fun hHeld => ?_)
    clear hK K9
    try simp only [Act.put, List.setIfInBounds_toArray, List.set_cons_zero, List.set_cons_succ, List.getElem_toArray, List.getElem_cons_succ, List.getElem_cons_zero]
    refine wpAnyH_take (i := 10) (v := ?_) rfl (by kernel_rfl) (by kernel_rfl) (by kernel_rfl) (fun _ _ _ h => h) (Or.inl ⟨by rfl, ?_⟩) (by assumption) ?_
    rotate_left
    · intro w hSw
      go_simp
      try rfl
    simp only [Act.put, List.setIfInBounds_toArray, List.set_cons_zero, List.set_cons_succ, List.getElem_toArray, List.getElem_cons_succ, List.getElem_cons_zero]
    refine wpAnyH_take (i := 11) (v := ?_) rfl (by kernel_rfl) (by kernel_rfl) (by kernel_rfl) (fun _ _ _ h => h) (Or.inl ⟨by rfl, ?_⟩) (by assumption) ?_
    rotate_left
    · intro w hSw
      go_simp
      try rfl
    simp only [Act.put, List.setIfInBounds_toArray, List.set_cons_zero, List.set_cons_succ, List.getElem_toArray, List.getElem_cons_succ, List.getElem_cons_zero]
    refine wpAnyH_take (i := 12) (v := undef) rfl (by kernel_rfl) (by kernel_rfl) (by kernel_rfl) (fun _ _ _ h => h) (Or.inr ⟨by rfl, rfl⟩) (by assumption) ?_
    simp only [Act.put, List.setIfInBounds_toArray, List.set_cons_zero, List.set_cons_succ, List.getElem_toArray, List.getElem_cons_succ, List.getElem_cons_zero]
    refine wpAnyH_take (i := 13) (v := undef) rfl (by kernel_rfl) (by kernel_rfl) (by kernel_rfl) (fun _ _ _ h => h) (Or.inr ⟨by rfl, rfl⟩) (by assumption) ?_
    simp only [Act.put, List.setIfInBounds_toArray, List.set_cons_zero, List.set_cons_succ, List.getElem_toArray, List.getElem_cons_succ, List.getElem_cons_zero]
    refine wpAnyH_take (i := 14) (v := undef) rfl (by kernel_rfl) (by kernel_rfl) (by kernel_rfl) (fun _ _ _ h => h) (Or.inr ⟨by rfl, rfl⟩) (by assumption) ?_
    simp only [Act.put, List.setIfInBounds_toArray, List.set_cons_zero, List.set_cons_succ, List.getElem_toArray, List.getElem_cons_succ, List.getElem_cons_zero]
    refine wpAnyH_take (i := 15) (v := undef) rfl (by kernel_rfl) (by kernel_rfl) (by kernel_rfl) (fun _ _ _ h => h) (Or.inr ⟨by rfl, rfl⟩) (by assumption) ?_
    simp only [Act.put, List.setIfInBounds_toArray, List.set_cons_zero, List.set_cons_succ, List.getElem_toArray, List.getElem_cons_succ, List.getElem_cons_zero]
    refine wpAnyH_take (i := 16) (v := undef) rfl (by kernel_rfl) (by kernel_rfl) (by kernel_rfl) (fun _ _ _ h => h) (Or.inr ⟨by rfl, rfl⟩) (by assumption) ?_
    simp only [Act.put, List.setIfInBounds_toArray, List.set_cons_zero, List.set_cons_succ, List.getElem_toArray, List.getElem_cons_succ, List.getElem_cons_zero]
    refine wpAnyH_take (i := 17) (v := undef) rfl (by kernel_rfl) (by kernel_rfl) (by kernel_rfl) (fun _ _ _ h => h) (Or.inr ⟨by rfl, rfl⟩) (by assumption) ?_
    simp only [Act.put, List.setIfInBounds_toArray, List.set_cons_zero, List.set_cons_succ, List.getElem_toArray, List.getElem_cons_succ, List.getElem_cons_zero]
    refine wpAnyH_take (i := 18) (v := undef) rfl (by kernel_rfl) (by kernel_rfl) (by kernel_rfl) (fun _ _ _ h => h) (Or.inr ⟨by rfl, rfl⟩) (by assumption) ?_
    simp only [Act.put, List.setIfInBounds_toArray, List.set_cons_zero, List.set_cons_succ, List.getElem_toArray, List.getElem_cons_succ, List.getElem_cons_zero]
    refine wpAnyH_take (i := 19) (v := undef) rfl (by kernel_rfl) (by kernel_rfl) (by kernel_rfl) (fun _ _ _ h => h) (Or.inr ⟨by rfl, rfl⟩) (by assumption) ?_
    simp only [Act.put, List.setIfInBounds_toArray, List.set_cons_zero, List.set_cons_succ, List.getElem_toArray, List.getElem_cons_succ, List.getElem_cons_zero]
    refine wpAnyH_take (i := 20) (v := undef) rfl (by kernel_rfl) (by kernel_rfl) (by kernel_rfl) (fun _ _ _ h => h) (Or.inr ⟨by rfl, rfl⟩) (by assumption) ?_
    simp only [Act.put, List.setIfInBounds_toArray, List.set_cons_zero, List.set_cons_succ, List.getElem_toArray, List.getElem_cons_succ, List.getElem_cons_zero]
    refine wpAnyH_take (i := 21) (v := undef) rfl (by kernel_rfl) (by kernel_rfl) (by kernel_rfl) (fun _ _ _ h => h) (Or.inr ⟨by rfl, rfl⟩) (by assumption) ?_
    simp only [Act.put, List.setIfInBounds_toArray, List.set_cons_zero, List.set_cons_succ, List.getElem_toArray, List.getElem_cons_succ, List.getElem_cons_zero]
    refine wpAnyH_take (i := 22) (v := undef) rfl (by kernel_rfl) (by kernel_rfl) (by kernel_rfl) (fun _ _ _ h => h) (Or.inr ⟨by rfl, rfl⟩) (by assumption) ?_
    simp only [Act.put, List.setIfInBounds_toArray, List.set_cons_zero, List.set_cons_succ, List.getElem_toArray, List.getElem_cons_succ, List.getElem_cons_zero]
    refine wpAnyH_take (i := 23) (v := ?_) rfl (by kernel_rfl) (by kernel_rfl) (by kernel_rfl) (fun _ _ _ h => h) (Or.inl ⟨by rfl, ?_⟩) (by assumption) ?_
    rotate_left
    · intro w hSw
      go_simp
      try rfl
    simp only [Act.put, List.setIfInBounds_toArray, List.set_cons_zero, List.set_cons_succ, List.getElem_toArray, List.getElem_cons_succ, List.getElem_cons_zero]
    refine wpAnyH_done (by kernel_rfl) ?_ _
    clear hHeld
    go_wp2_with fail
    go_ret2
    exact ⟨by unfold unitT; rw [HV.out]; exact ⟨rfl, hR⟩, (Only.refl g w).drew⟩
  · have HP := Lib.hid (fun w => jprefix s ⟨#[92, 117]⟩ k true hk hp w)
    have hp2 := (pre92_iff _ _).1 hp
    have hw0 : IntKind.i64.wrap ((s.size : Int) - (k : Int)) = (s.size : Int) - (k : Int) := IntWalk.i64_in _ (by omega)
    by_cases h6 : (s.size : Int) - (k : Int) < 6
    · have HV : Hid (unitAt s.data.toList k = none) := by
        exact unit_none2 (by unfold byteAt; rw [if_neg (fun h => by have := h.1; have := HL.out; omega)])
      clear hp hp2
      go_enter Try.func73, Try.ntmps73
      go_wp2_with fail
      go_region_held3 (fun w' => w'.cell? ⟨g, 0, none⟩ = some (.string s) ∧ w'.cell? ⟨g, 1, none⟩ = some (.int .i64 k)) (exact hR.both) ((go_at_call 61; refine (HP.out _).mono ?_; rintro e w' ⟨rfl, rfl⟩))
      go_wp2_with fail
      go_ret2
      exact ⟨by unfold unitT; rw [HV.out]; exact ⟨rfl, hR⟩, (Only.refl g w).drew⟩
    · have HP2 := Lib.hid hp2
      clear hp hp2
      go_enter Try.func73, Try.ntmps73
      go_wp2_with fail
      go_region_held3 (fun w' => w'.cell? ⟨g, 0, none⟩ = some (.string s) ∧ w'.cell? ⟨g, 1, none⟩ = some (.int .i64 k)) (exact hR.both) ((go_at_call 61; refine (HP.out _).mono ?_; rintro e w' ⟨rfl, rfl⟩))
      go_wp2_with fail
      go_loopw [4, 31] (fun n z wr => ∃ (i : Nat), i ≤ 4 ∧ z = .int .i64 i ∧ n = .int .i32 (hexV s.data.toList (k + 2) i) ∧ (∀ j, j < i → wth (bt s.data.toList (k + 2 + j)) < 16) ∧ Rdr wr g s k ∧ Only g w wr) (fun n z _ => 4 - (intOf z).toNat)
      case atStart => exact ⟨0, by omega, rfl, rfl, fun j hj => by omega, hR, (Only.refl g w).drew⟩
      case round =>
        obtain ⟨i, hi, rfl, rfl, hd, hR2, hO2⟩ := hrel
        have HO2 := Lib.hid hO2
        have HD := Lib.hid hd
        have hlt := hexV_lt i hd
        clear hd hO2 HP
        by_cases h4 : i < 4
        · have hlt2 : hexV s.data.toList (k + 2) i < 4096 := Nat.lt_of_lt_of_le hlt (Nat.pow_le_pow_right (by omega) (by omega : i ≤ 3))
          obtain ⟨p, hp⟩ : ∃ p, k + 2 + i = p := ⟨_, rfl⟩
          have hps : p < s.size := by omega
          have hx := bt_byte s p hps
          have y0 := bt_lt s.data.toList p
          have hw1 : IntKind.i64.wrap ((k : Int) + 2) = (k : Int) + 2 := IntWalk.i64_in _ (by omega)
          have hw2 : IntKind.i64.wrap ((k : Int) + 2 + (i : Int)) = (p : Int) := by rw [IntWalk.i64_in _ (by omega)]; omega
          have HX : Hid (hexV s.data.toList (k + 2) (i + 1) = hexV s.data.toList (k + 2) i * 16 + wth (bt s.data.toList p)) := by show _ = _; rw [hexV, hp]
          have HW : Hid (wth (bt s.data.toList p) < 16 → ∀ j, j < i + 1 → wth (bt s.data.toList (k + 2 + j)) < 16) := fun h j hj => by
            rcases Nat.lt_or_ge j i with h2 | h2
            · exact HD.out j h2
            · obtain rfl : j = i := by omega
              rw [hp]; exact h
          have HB : Hid (¬ wth (bt s.data.toList p) < 16 → unitAt s.data.toList k = none) := fun h => unit_bad h4 (by rw [hp]; exact h)
          have HWd := Lib.hid (@wth_dig (bt s.data.toList p))
          have HWl := Lib.hid (@wth_let (bt s.data.toList p) y0)
          have HWn := Lib.hid (@wth_no (bt s.data.toList p) y0)
          have ho := or_32 _ y0
          have hl := or32_lt _ y0
          have K1 : wr.drew.cell? ⟨g, 0, none⟩ = some (.string s) ∧ wr.drew.cell? ⟨g, 1, none⟩ = some (.int .i64 k) := hR2.both
          generalize hexV s.data.toList (k + 2) i = N at *
          generalize bt s.data.toList p = c at *
          generalize or32 c = d at *
          by_cases h1 : 48 ≤ c ∧ c ≤ 57
          · obtain ⟨h1a, h1b⟩ := h1
            go_wp2_with fail
            go_region_held3 (fun w' => w'.cell? ⟨g, 0, none⟩ = some (.string s) ∧ w'.cell? ⟨g, 1, none⟩ = some (.int .i64 k)) (with_reducible exact K1) (fail)
            go_wp2_with fail
            go_roundw
            case rel =>
              obtain ⟨e1, e2⟩ := HWd.out h1a h1b
              exact ⟨i + 1, by omega, by go_num, by rw [e1, or_16 _ _ (by omega) e2, HX.out], HW.out e2, hR2, HO2.out.drew⟩
            case measure => simp [intOf]; omega
          · have HN := Lib.hid h1
            by_cases h2 : 97 ≤ d ∧ d ≤ 102
            · obtain ⟨h2a, h2b⟩ := h2
              have h3 : c < 48 ∨ 58 ≤ c := by omega
              clear h1
              rcases h3 with h3 | h3
              all_goals
                go_wp2_with fail
                go_region_held3 (fun w' => w'.cell? ⟨g, 0, none⟩ = some (.string s) ∧ w'.cell? ⟨g, 1, none⟩ = some (.int .i64 k)) (with_reducible exact K1) (fail)
                go_wp2_with fail
                go_roundw
                case rel =>
                  obtain ⟨e1, e2⟩ := HWl.out HN.out h2a h2b
                  exact ⟨i + 1, by omega, by go_num, by rw [e1, or_16 _ _ (by omega) e2, HX.out], HW.out e2, hR2, HO2.out.drew⟩
                case measure => simp [intOf]; omega
            · have h3 : c < 48 ∨ 58 ≤ c := by omega
              have h4' : d < 97 ∨ 103 ≤ d := by omega
              have HV := Lib.hid (HB.out (HWn.out HN.out h2))
              clear h1 h2 HN HB HWn HWl HWd
              rcases h3 with h3 | h3
              all_goals
                rcases h4' with h4' | h4'
                all_goals
                  go_wp2_with fail
                  go_region_held3 (fun w' => w'.cell? ⟨g, 0, none⟩ = some (.string s) ∧ w'.cell? ⟨g, 1, none⟩ = some (.int .i64 k)) (with_reducible exact K1) (fail)
                  go_wp2_with fail
                  go_ret2
                  exact ⟨by unfold unitT; rw [HV.out]; exact ⟨rfl, hR2⟩, HO2.out.drew⟩
        · obtain rfl : i = 4 := by omega
          have HV := Lib.hid (unit_full HP2.out (by have := HL.out; omega) HD.out)
          have c1 := hR2.c1
          have f1 := hR2.f1
          generalize hexV s.data.toList (k + 2) 4 = N at *
          go_wp2_with fail
          go_ret2
          exact ⟨by unfold unitT; rw [HV.out]; exact ⟨rfl, Rdr.set hR2 (k + 6)⟩, HO2.out.set 1 _⟩
end Go.Proofs.Ytjnmcadfaombjaa
