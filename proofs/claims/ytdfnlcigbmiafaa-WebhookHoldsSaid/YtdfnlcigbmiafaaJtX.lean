/- Walks: the program's json reader: an escape (chapter 10). -/
import Derived.Test.YtdfnlcigbmiafaaJtU
namespace Go.Proofs.Ytdfnlcigbmiafaa
open Go.RowKit
set_option linter.unusedVariables false
set_option linter.unusedSimpArgs false
def letterS : ByteArray := ⟨#[34, 92, 47, 98, 102, 110, 114, 116]⟩
theorem letter_key : ∀ c : Fin 256, (Lib.indexByte letterS.data.toList (UInt8.ofNat c.val) < 0 ∧ letR c.val = 0) ∨ (∃ j : Fin 8, Lib.indexByte letterS.data.toList (UInt8.ofNat c.val) = (j.val : Int) ∧ letR c.val = [34, 92, 47, 8, 12, 10, 13, 9].getD j.val 0) := by decide +kernel
theorem letter_at (c : Nat) (hc : c < 256) : ∃ r : Int, (∀ w, Calls Try.prog 59 #[.string ⟨#[34, 92, 47, 98, 102, 110, 114, 116]⟩, .int .u8 c] w fun e w' => e = .returned (.int .i64 r) ∧ w = w') ∧
    ((r < 0 ∧ letR c = 0) ∨ (r = 0 ∧ letR c = 34) ∨ (r = 1 ∧ letR c = 92) ∨ (r = 2 ∧ letR c = 47) ∨ (r = 3 ∧ letR c = 8) ∨ (r = 4 ∧ letR c = 12) ∨ (r = 5 ∧ letR c = 10) ∨ (r = 6 ∧ letR c = 13) ∨ (r = 7 ∧ letR c = 9)) := by
  refine ⟨Lib.indexByte letterS.data.toList (UInt8.ofNat c), fun w => (Try.strings_IndexByte letterS c w).mono fun e w' ⟨a, b⟩ => ⟨by rw [a]; congr, b.symm⟩, ?_⟩
  rcases letter_key ⟨c, hc⟩ with h | ⟨j, h1, h2⟩
  · exact .inl h
  · right
    dsimp only at h1 h2
    rw [h1]
    obtain ⟨j, hj⟩ := j
    have : j = 0 ∨ j = 1 ∨ j = 2 ∨ j = 3 ∨ j = 4 ∨ j = 5 ∨ j = 6 ∨ j = 7 := by omega
    rcases this with rfl | rfl | rfl | rfl | rfl | rfl | rfl | rfl
    · exact .inl ⟨rfl, h2⟩
    · exact .inr (.inl ⟨rfl, h2⟩)
    · exact .inr (.inr (.inl ⟨rfl, h2⟩))
    · exact .inr (.inr (.inr (.inl ⟨rfl, h2⟩)))
    · exact .inr (.inr (.inr (.inr (.inl ⟨rfl, h2⟩))))
    · exact .inr (.inr (.inr (.inr (.inr (.inl ⟨rfl, h2⟩)))))
    · exact .inr (.inr (.inr (.inr (.inr (.inr (.inl ⟨rfl, h2⟩))))))
    · exact .inr (.inr (.inr (.inr (.inr (.inr (.inr ⟨rfl, h2⟩))))))
def EscR (o : Option (Nat × Nat)) (g k : Nat) (s : ByteArray) (e : Ending) (w' : World) : Prop := match o with
  | some (r, n) => e = .returned (.tuple #[.int .i32 r, .bool true]) ∧ Rdr w' g s (k + n)
  | none => ∃ v : Int, e = .returned (.tuple #[.int .i32 v, .bool false])
/-- What an escape at a place is. -/
def escAt (l : List UInt8) (k : Nat) : Option (Nat × Nat) :=
  if letR (bt l (k + 1)) ≠ 0 then some (letR (bt l (k + 1)), 2) else
  match unitAt l k with
  | none => none
  | some a =>
    if 56320 ≤ a ∧ a < 57344 then none
    else if 55296 ≤ a ∧ a < 56320 then
      match unitAt l (k + 6) with
      | none => none
      | some b => if 56320 ≤ b ∧ b < 57344 then some (65536 + (a - 55296) * 1024 + (b - 56320), 12) else none
    else some (a, 6)
theorem escAt_eq (l : List UInt8) (k : Nat) : escJ (l.drop k) = escAt l k := by
  unfold escJ escAt
  rw [bt_drop, unitAt_drop, unitAt_drop]; rfl
theorem esc_val (v : Int) (m : Nat) (h : v = (m : Int)) : Ending.returned (.tuple #[.int .i32 v, .bool true]) = Ending.returned (.tuple #[.int .i32 (m : Int), .bool true]) := by rw [h]
set_option maxRecDepth 100000 in
set_option maxHeartbeats 4000000 in
theorem jescape (g k : Nat) (s : ByteArray) (w : World) (hR : Rdr w g s k) (hk : k < s.size) (hs : s.size ≤ 1000000) :
    Calls Try.prog 89 #[.pointer (some ⟨g, 0, none⟩)] w fun e w' => EscR (escAt s.data.toList k) g k s e w' ∧ Only g w w' := by
  have HL := Lib.hid (sz_len s)
  have HU := Lib.hid (fun k w hR hk => junit g k s w hR hk hs)
  obtain ⟨p, hp⟩ : ∃ p, k + 1 = p := ⟨_, rfl⟩
  have hw1 : IntKind.i64.wrap ((k : Int) + 1) = (p : Int) := by rw [IntWalk.i64_in _ (by omega)]; omega
  have HE : Hid (letR (bt s.data.toList p) = 0 → escAt s.data.toList k = match unitAt s.data.toList k with
    | none => none
    | some a =>
      if 56320 ≤ a ∧ a < 57344 then none
      else if 55296 ≤ a ∧ a < 56320 then
        match unitAt s.data.toList (k + 6) with
        | none => none
        | some b => if 56320 ≤ b ∧ b < 57344 then some (65536 + (a - 55296) * 1024 + (b - 56320), 12) else none
      else some (a, 6)) := fun h => by unfold escAt; rw [hp, if_neg (by simpa using h)]
  by_cases hlt : p < s.size
  · have hx := bt_byte s p hlt
    have y0 := bt_lt s.data.toList p
    obtain ⟨r, hi, hr⟩ := letter_at _ y0
    have HI := Lib.hid hi
    have HR := Lib.hid hr
    have HE1 : Hid (letR (bt s.data.toList p) ≠ 0 → escAt s.data.toList k = some (letR (bt s.data.toList p), 2)) := fun h => by unfold escAt; rw [hp, if_pos h]
    clear hi hr
    generalize bt s.data.toList p = c at *
    have hd : decide (p < s.size) = true := decide_eq_true hlt
    rcases HR.out with ⟨hr, hl⟩ | hr
    · have HV := Lib.hid (HE.out hl)
      clear HE1 HE hl HR
      go_enter Try.func89, Try.ntmps89
      go_wp2_with fail
      go_region_held3 (fun w' => w'.cell? ⟨g, 0, none⟩ = some (.string s) ∧ w'.cell? ⟨g, 1, none⟩ = some (.int .i64 k)) (exact hR.both) (fail)
      go_wp2_with fail
      go_region_held3 (fun w' => w'.cell? ⟨g, 0, none⟩ = some (.string s) ∧ w'.cell? ⟨g, 1, none⟩ = some (.int .i64 k)) (exact hR.both) ((go_at_call 59; refine (HI.out _).mono ?_; rintro e w' ⟨rfl, rfl⟩))
      go_wp2_with fail
      have hRd : Rdr w.drew.drew g s k := hR
      have hOd : Only g w w.drew.drew := (Only.refl g w).drew.drew
      generalize w.drew.drew = W1 at *
      refine (HU.out k _ hRd (by omega)).mono ?_
      rintro e w3 ⟨hu, hO3⟩
      have hO3' := hOd.trans hO3
      cases hu1 : unitAt s.data.toList k with
      | none =>
        rw [hu1] at HV
        unfold unitT at hu
        rw [hu1] at hu
        obtain ⟨rfl, hR3⟩ := hu
        clear HU hu1 hRd hOd hO3 HL
        go_wp2_with fail
        go_ret2
        exact ⟨by unfold EscR; rw [HV.out]; exact ⟨_, rfl⟩, hO3'⟩
      | some n =>
        rw [hu1] at HV
        unfold unitT at hu
        rw [hu1] at hu
        obtain ⟨rfl, hR3⟩ := hu
        have hn6 := unitAt_len hu1
        have hnl := unitAt_lt hu1
        rw [← HL.out] at hn6
        dsimp only at HV
        clear hu1 hRd hOd hO3
        by_cases h1 : n < 55296 ∨ 57344 ≤ n
        · rw [if_neg (by omega), if_neg (by omega)] at HV
          clear HU
          rcases h1 with h1 | h1
          all_goals
            go_wp2_with fail
            go_ret2
            exact ⟨by unfold EscR; rw [HV.out]; exact ⟨rfl, hR3⟩, hO3'⟩
        · have h1a : 55296 ≤ n := by omega
          have h1b : n < 57344 := by omega
          clear h1
          go_wp2_with fail
          refine (HU.out (k + 6) _ hR3 (by omega)).mono ?_
          rintro e w4 ⟨hu, hO4⟩
          have hO4' := hO3'.trans hO4
          clear HU hR3 hO4 hO3'
          cases hu1 : unitAt s.data.toList (k + 6) with
          | none =>
            have HV2 : Hid (escAt s.data.toList k = none) := by
              show _ = _; rw [HV.out, hu1]
              split
              · rfl
              · split
                · rfl
                · omega
            unfold unitT at hu
            rw [hu1] at hu
            obtain ⟨rfl, hR4⟩ := hu
            clear HV hu1 HL
            go_wp2_with fail
            go_ret2
            exact ⟨by unfold EscR; rw [HV2.out]; exact ⟨_, rfl⟩, hO4'⟩
          | some b =>
            rw [hu1] at HV
            unfold unitT at hu
            rw [hu1] at hu
            obtain ⟨rfl, hR4⟩ := hu
            have hbl := unitAt_lt hu1
            dsimp only at HV
            clear hu1 HL
            by_cases h2 : n < 56320
            · rw [if_neg (by omega), if_pos (by omega)] at HV
              by_cases h3 : 56320 ≤ b ∧ b < 57344
              · rw [if_pos h3] at HV
                obtain ⟨h3a, h3b⟩ := h3
                have HKey : Hid (∀ v : Int, v = ((65536 + (n - 55296) * 1024 + (b - 56320) : Nat) : Int) → Ending.returned (.tuple #[.int .i32 v, .bool true]) = Ending.returned (.tuple #[.int .i32 ((65536 + (n - 55296) * 1024 + (b - 56320) : Nat) : Int), .bool true])) := fun v h => by rw [h]
                go_wp2_with fail
                go_ret2
                exact ⟨by unfold EscR; rw [HV.out]; exact ⟨HKey.out _ (by omega), hR4⟩, hO4'⟩
              · rw [if_neg h3] at HV
                have h3' : b < 56320 ∨ 57344 ≤ b := by omega
                clear h3
                rcases h3' with h3 | h3
                all_goals
                  go_wp2_with fail
                  go_ret2
                  exact ⟨by unfold EscR; rw [HV.out]; exact ⟨_, rfl⟩, hO4'⟩
            · rw [if_pos (by omega)] at HV
              go_wp2_with fail
              go_ret2
              exact ⟨by unfold EscR; rw [HV.out]; exact ⟨_, rfl⟩, hO4'⟩
    · clear HE
      rcases hr with ⟨rfl, hl⟩ | ⟨rfl, hl⟩ | ⟨rfl, hl⟩ | ⟨rfl, hl⟩ | ⟨rfl, hl⟩ | ⟨rfl, hl⟩ | ⟨rfl, hl⟩ | ⟨rfl, hl⟩
      all_goals
        have HV := Lib.hid (HE1.out (by rw [hl]; decide))
        have HQ := Lib.hid hl
        clear HE1 hl HR
        go_enter Try.func89, Try.ntmps89
        go_wp2_with fail
        go_region_held3 (fun w' => w'.cell? ⟨g, 0, none⟩ = some (.string s) ∧ w'.cell? ⟨g, 1, none⟩ = some (.int .i64 k)) (exact hR.both) (fail)
        go_wp2_with fail
        go_region_held3 (fun w' => w'.cell? ⟨g, 0, none⟩ = some (.string s) ∧ w'.cell? ⟨g, 1, none⟩ = some (.int .i64 k)) (exact hR.both) ((go_at_call 59; refine (HI.out _).mono ?_; rintro e w' ⟨rfl, rfl⟩))
        have c1 : w.drew.drew.cell? ⟨g, 1, none⟩ = some (.int .i64 k) := hR.c1
        have f1 : w.drew.drew.frozen? ⟨g, 1, none⟩ = false := hR.f1
        go_wp2_with fail
        go_ret2
        exact ⟨by unfold EscR; rw [HV.out, HQ.out]; exact ⟨esc_val _ _ (by first | kernel_rfl | decide +kernel), Rdr.set hR (k + 2)⟩, (Only.refl g w).drew.drew.set 1 _⟩
  · have hz : bt s.data.toList p = 0 := bt_out (by have := HL.out; omega)
    have HV := Lib.hid (HE.out (by rw [hz]; rfl))
    have hd : decide (p < s.size) = false := decide_eq_false hlt
    clear HE hz
    go_enter Try.func89, Try.ntmps89
    go_wp2_with fail
    go_region_held3 (fun w' => w'.cell? ⟨g, 0, none⟩ = some (.string s) ∧ w'.cell? ⟨g, 1, none⟩ = some (.int .i64 k)) (exact hR.both) (fail)
    go_wp2_with fail
    have hRd : Rdr w.drew g s k := hR
    have hOd : Only g w w.drew := (Only.refl g w).drew
    generalize w.drew = W1 at *
    refine (HU.out k _ hRd (by omega)).mono ?_
    rintro e w3 ⟨hu, hO3⟩
    have hO3' := hOd.trans hO3
    cases hu1 : unitAt s.data.toList k with
    | none =>
      rw [hu1] at HV
      unfold unitT at hu
      rw [hu1] at hu
      obtain ⟨rfl, hR3⟩ := hu
      clear HU hu1 hRd hOd hO3 HL
      go_wp2_with fail
      go_ret2
      exact ⟨by unfold EscR; rw [HV.out]; exact ⟨_, rfl⟩, hO3'⟩
    | some n =>
      rw [hu1] at HV
      unfold unitT at hu
      rw [hu1] at hu
      obtain ⟨rfl, hR3⟩ := hu
      have hn6 := unitAt_len hu1
      have hnl := unitAt_lt hu1
      rw [← HL.out] at hn6
      exact absurd hn6 (by omega)
end Go.Proofs.Ytdfnlcigbmiafaa
