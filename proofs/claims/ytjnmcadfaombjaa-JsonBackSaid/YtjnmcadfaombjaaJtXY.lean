/- Walks: the program's json reader: an escape (chapter 10). -/
import Derived.Test.YtjnmcadfaombjaaJtU
import Derived.Test.YtjnmcadfaombjaaJsB
import Derived.Test.YtjnmcadfaombjaaBuildK
import Derived.WalkMore
namespace Go.Proofs.Ytjnmcadfaombjaa
open Go.RowKit
set_option linter.unusedVariables false
set_option linter.unusedSimpArgs false
def letterS : ByteArray := ⟨#[34, 92, 47, 98, 102, 110, 114, 116]⟩
theorem letter_key : ∀ c : Fin 256, (Lib.indexByte letterS.data.toList (UInt8.ofNat c.val) < 0 ∧ letR c.val = 0) ∨ (∃ j : Fin 8, Lib.indexByte letterS.data.toList (UInt8.ofNat c.val) = (j.val : Int) ∧ letR c.val = [34, 92, 47, 8, 12, 10, 13, 9].getD j.val 0) := by decide +kernel
theorem letter_at (c : Nat) (hc : c < 256) : ∃ r : Int, (∀ w, Calls Try.prog 24 #[.string ⟨#[34, 92, 47, 98, 102, 110, 114, 116]⟩, .int .u8 c] w fun e w' => e = .returned (.int .i64 r) ∧ w = w') ∧
    ((r < 0 ∧ letR c = 0) ∨ (r = 0 ∧ letR c = 34) ∨ (r = 1 ∧ letR c = 92) ∨ (r = 2 ∧ letR c = 47) ∨ (r = 3 ∧ letR c = 8) ∨ (r = 4 ∧ letR c = 12) ∨ (r = 5 ∧ letR c = 10) ∨ (r = 6 ∧ letR c = 13) ∨ (r = 7 ∧ letR c = 9)) := by
  refine ⟨Lib.indexByte letterS.data.toList (UInt8.ofNat c), fun w => (Try.strings_IndexByte letterS c w).mono fun e w' ⟨a, b⟩ => ⟨by rw [a]; congr, b.symm⟩, ?_⟩
  rcases letter_key ⟨c, hc⟩ with h | ⟨j, h1, h2⟩
  · exact .inl h
  · right
    dsimp only at h1 h2
    rw [h1]
    obtain ⟨j, hj⟩ := j
    have : j = 0 ∨ j = 1 ∨ j = 2 ∨ j = 3 ∨ j = 4 ∨ j = 5 ∨ j = 6 ∨ j = 7 := by omega
    rcases this with rfl | rfl | rfl | rfl | rfl | rfl | rfl | rfl
    · exact .inl ⟨rfl, h2⟩
    · exact .inr (.inl ⟨rfl, h2⟩)
    · exact .inr (.inr (.inl ⟨rfl, h2⟩))
    · exact .inr (.inr (.inr (.inl ⟨rfl, h2⟩)))
    · exact .inr (.inr (.inr (.inr (.inl ⟨rfl, h2⟩))))
    · exact .inr (.inr (.inr (.inr (.inr (.inl ⟨rfl, h2⟩)))))
    · exact .inr (.inr (.inr (.inr (.inr (.inr (.inl ⟨rfl, h2⟩))))))
    · exact .inr (.inr (.inr (.inr (.inr (.inr (.inr ⟨rfl, h2⟩))))))
def EscR (o : Option (Nat × Nat)) (g k : Nat) (s : ByteArray) (e : Ending) (w' : World) : Prop := match o with
  | some (r, n) => e = .returned (.tuple #[.int .i32 r, .bool true]) ∧ Rdr w' g s (k + n)
  | none => ∃ v : Int, e = .returned (.tuple #[.int .i32 v, .bool false])
/-- What an escape at a place is. -/
def escAt (l : List UInt8) (k : Nat) : Option (Nat × Nat) :=
  if letR (bt l (k + 1)) ≠ 0 then some (letR (bt l (k + 1)), 2) else
  match unitAt l k with
  | none => none
  | some a =>
    if 56320 ≤ a ∧ a < 57344 then none
    else if 55296 ≤ a ∧ a < 56320 then
      match unitAt l (k + 6) with
      | none => none
      | some b => if 56320 ≤ b ∧ b < 57344 then some (65536 + (a - 55296) * 1024 + (b - 56320), 12) else none
    else some (a, 6)
theorem escAt_eq (l : List UInt8) (k : Nat) : escJ (l.drop k) = escAt l k := by
  unfold escJ escAt
  rw [bt_drop, unitAt_drop, unitAt_drop]; rfl
theorem esc_val (v : Int) (m : Nat) (h : v = (m : Int)) : Ending.returned (.tuple #[.int .i32 v, .bool true]) = Ending.returned (.tuple #[.int .i32 (m : Int), .bool true]) := by rw [h]
set_option maxRecDepth 100000 in
set_option maxHeartbeats 4000000 in
theorem jescape (g k : Nat) (s : ByteArray) (w : World) (hR : Rdr w g s k) (hk : k < s.size) (hs : s.size ≤ 1000000) :
    Calls Try.prog 56 #[.pointer (some ⟨g, 0, none⟩)] w fun e w' => EscR (escAt s.data.toList k) g k s e w' ∧ Only g w w' := by
  have HL := Lib.hid (sz_len s)
  have HU := Lib.hid (fun k w hR hk => junit g k s w hR hk hs)
  obtain ⟨p, hp⟩ : ∃ p, k + 1 = p := ⟨_, rfl⟩
  have hw1 : IntKind.i64.wrap ((k : Int) + 1) = (p : Int) := by rw [IntWalk.i64_in _ (by omega)]; omega
  have HE : Hid (letR (bt s.data.toList p) = 0 → escAt s.data.toList k = match unitAt s.data.toList k with
    | none => none
    | some a =>
      if 56320 ≤ a ∧ a < 57344 then none
      else if 55296 ≤ a ∧ a < 56320 then
        match unitAt s.data.toList (k + 6) with
        | none => none
        | some b => if 56320 ≤ b ∧ b < 57344 then some (65536 + (a - 55296) * 1024 + (b - 56320), 12) else none
      else some (a, 6)) := fun h => by unfold escAt; rw [hp, if_neg (by simpa using h)]
  by_cases hlt : p < s.size
  · have hx := bt_byte s p hlt
    have y0 := bt_lt s.data.toList p
    obtain ⟨r, hi, hr⟩ := letter_at _ y0
    have HI := Lib.hid hi
    have HR := Lib.hid hr
    have HE1 : Hid (letR (bt s.data.toList p) ≠ 0 → escAt s.data.toList k = some (letR (bt s.data.toList p), 2)) := fun h => by unfold escAt; rw [hp, if_pos h]
    clear hi hr
    generalize bt s.data.toList p = c at *
    have hd : decide (p < s.size) = true := decide_eq_true hlt
    rcases HR.out with ⟨hr, hl⟩ | hr
    · have HV := Lib.hid (HE.out hl)
      clear HE1 HE hl HR
      go_enter Try.func56, Try.ntmps56
      go_wp2_with fail
      go_region_held3 (fun w' => w'.cell? ⟨g, 0, none⟩ = some (.string s) ∧ w'.cell? ⟨g, 1, none⟩ = some (.int .i64 k)) (exact hR.both) (fail)
      go_wp2_with fail
      go_region_held3 (fun w' => w'.cell? ⟨g, 0, none⟩ = some (.string s) ∧ w'.cell? ⟨g, 1, none⟩ = some (.int .i64 k)) (exact hR.both) ((go_at_call 24; refine (HI.out _).mono ?_; rintro e w' ⟨rfl, rfl⟩))
      go_wp2_with fail
      have hRd : Rdr w.drew.drew g s k := hR
      have hOd : Only g w w.drew.drew := (Only.refl g w).drew.drew
      generalize w.drew.drew = W1 at *
      refine (HU.out k _ hRd (by omega)).mono ?_
      rintro e w3 ⟨hu, hO3⟩
      have hO3' := hOd.trans hO3
      cases hu1 : unitAt s.data.toList k with
      | none =>
        rw [hu1] at HV
        unfold unitT at hu
        rw [hu1] at hu
        obtain ⟨rfl, hR3⟩ := hu
        clear HU hu1 hRd hOd hO3 HL
        go_wp2_with fail
        go_ret2
        exact ⟨by unfold EscR; rw [HV.out]; exact ⟨_, rfl⟩, hO3'⟩
      | some n =>
        rw [hu1] at HV
        unfold unitT at hu
        rw [hu1] at hu
        obtain ⟨rfl, hR3⟩ := hu
        have hn6 := unitAt_len hu1
        have hnl := unitAt_lt hu1
        rw [← HL.out] at hn6
        dsimp only at HV
        clear hu1 hRd hOd hO3
        by_cases h1 : n < 55296 ∨ 57344 ≤ n
        · rw [if_neg (by omega), if_neg (by omega)] at HV
          clear HU
          rcases h1 with h1 | h1
          all_goals
            go_wp2_with fail
            go_ret2
            exact ⟨by unfold EscR; rw [HV.out]; exact ⟨rfl, hR3⟩, hO3'⟩
        · have h1a : 55296 ≤ n := by omega
          have h1b : n < 57344 := by omega
          clear h1
          go_wp2_with fail
          refine (HU.out (k + 6) _ hR3 (by omega)).mono ?_
          rintro e w4 ⟨hu, hO4⟩
          have hO4' := hO3'.trans hO4
          clear HU hR3 hO4 hO3'
          cases hu1 : unitAt s.data.toList (k + 6) with
          | none =>
            have HV2 : Hid (escAt s.data.toList k = none) := by
              show _ = _; rw [HV.out, hu1]
              split
              · rfl
              · split
                · rfl
                · omega
            unfold unitT at hu
            rw [hu1] at hu
            obtain ⟨rfl, hR4⟩ := hu
            clear HV hu1 HL
            go_wp2_with fail
            go_ret2
            exact ⟨by unfold EscR; rw [HV2.out]; exact ⟨_, rfl⟩, hO4'⟩
          | some b =>
            rw [hu1] at HV
            unfold unitT at hu
            rw [hu1] at hu
            obtain ⟨rfl, hR4⟩ := hu
            have hbl := unitAt_lt hu1
            dsimp only at HV
            clear hu1 HL
            by_cases h2 : n < 56320
            · rw [if_neg (by omega), if_pos (by omega)] at HV
              by_cases h3 : 56320 ≤ b ∧ b < 57344
              · rw [if_pos h3] at HV
                obtain ⟨h3a, h3b⟩ := h3
                have HKey : Hid (∀ v : Int, v = ((65536 + (n - 55296) * 1024 + (b - 56320) : Nat) : Int) → Ending.returned (.tuple #[.int .i32 v, .bool true]) = Ending.returned (.tuple #[.int .i32 ((65536 + (n - 55296) * 1024 + (b - 56320) : Nat) : Int), .bool true])) := fun v h => by rw [h]
                go_wp2_with fail
                go_ret2
                exact ⟨by unfold EscR; rw [HV.out]; exact ⟨HKey.out _ (by omega), hR4⟩, hO4'⟩
              · rw [if_neg h3] at HV
                have h3' : b < 56320 ∨ 57344 ≤ b := by omega
                clear h3
                rcases h3' with h3 | h3
                all_goals
                  go_wp2_with fail
                  go_ret2
                  exact ⟨by unfold EscR; rw [HV.out]; exact ⟨_, rfl⟩, hO4'⟩
            · rw [if_pos (by omega)] at HV
              go_wp2_with fail
              go_ret2
              exact ⟨by unfold EscR; rw [HV.out]; exact ⟨_, rfl⟩, hO4'⟩
    · clear HE
      rcases hr with ⟨rfl, hl⟩ | ⟨rfl, hl⟩ | ⟨rfl, hl⟩ | ⟨rfl, hl⟩ | ⟨rfl, hl⟩ | ⟨rfl, hl⟩ | ⟨rfl, hl⟩ | ⟨rfl, hl⟩
      all_goals
        have HV := Lib.hid (HE1.out (by rw [hl]; decide))
        have HQ := Lib.hid hl
        clear HE1 hl HR
        go_enter Try.func56, Try.ntmps56
        go_wp2_with fail
        go_region_held3 (fun w' => w'.cell? ⟨g, 0, none⟩ = some (.string s) ∧ w'.cell? ⟨g, 1, none⟩ = some (.int .i64 k)) (exact hR.both) (fail)
        go_wp2_with fail
        go_region_held3 (fun w' => w'.cell? ⟨g, 0, none⟩ = some (.string s) ∧ w'.cell? ⟨g, 1, none⟩ = some (.int .i64 k)) (exact hR.both) ((go_at_call 24; refine (HI.out _).mono ?_; rintro e w' ⟨rfl, rfl⟩))
        have c1 : w.drew.drew.cell? ⟨g, 1, none⟩ = some (.int .i64 k) := hR.c1
        have f1 : w.drew.drew.frozen? ⟨g, 1, none⟩ = false := hR.f1
        go_wp2_with fail
        go_ret2
        exact ⟨by unfold EscR; rw [HV.out, HQ.out]; exact ⟨esc_val _ _ (by first | kernel_rfl | decide +kernel), Rdr.set hR (k + 2)⟩, (Only.refl g w).drew.drew.set 1 _⟩
  · have hz : bt s.data.toList p = 0 := bt_out (by have := HL.out; omega)
    have HV := Lib.hid (HE.out (by rw [hz]; rfl))
    have hd : decide (p < s.size) = false := decide_eq_false hlt
    clear HE hz
    go_enter Try.func56, Try.ntmps56
    go_wp2_with fail
    go_region_held3 (fun w' => w'.cell? ⟨g, 0, none⟩ = some (.string s) ∧ w'.cell? ⟨g, 1, none⟩ = some (.int .i64 k)) (exact hR.both) (fail)
    go_wp2_with fail
    have hRd : Rdr w.drew g s k := hR
    have hOd : Only g w w.drew := (Only.refl g w).drew
    generalize w.drew = W1 at *
    refine (HU.out k _ hRd (by omega)).mono ?_
    rintro e w3 ⟨hu, hO3⟩
    have hO3' := hOd.trans hO3
    cases hu1 : unitAt s.data.toList k with
    | none =>
      rw [hu1] at HV
      unfold unitT at hu
      rw [hu1] at hu
      obtain ⟨rfl, hR3⟩ := hu
      clear HU hu1 hRd hOd hO3 HL
      go_wp2_with fail
      go_ret2
      exact ⟨by unfold EscR; rw [HV.out]; exact ⟨_, rfl⟩, hO3'⟩
    | some n =>
      rw [hu1] at HV
      unfold unitT at hu
      rw [hu1] at hu
      obtain ⟨rfl, hR3⟩ := hu
      have hn6 := unitAt_len hu1
      have hnl := unitAt_lt hu1
      rw [← HL.out] at hn6
      exact absurd hn6 (by omega)
end Go.Proofs.Ytjnmcadfaombjaa

/- Walks: the program's json reader: a string (chapter 10). -/
namespace Go.Proofs.Ytjnmcadfaombjaa
open Go.RowKit
set_option linter.unusedVariables false
set_option linter.unusedSimpArgs false
def quotTok (l : List UInt8) (k : Nat) : Option Tok := match strJ (l.drop (k + 1)) with
  | none => none
  | some (t, n) => some ⟨34, t, k, k + 1 + n⟩
theorem next_high {l : List UInt8} (h : l ≠ []) (h1 : 128 ≤ bt l 0) : 128 ≤ (next l).1 := by
  rcases next_cases h with h2 | ⟨h2, h3⟩
  · rw [h2]; decide
  · have hr := next_rune_ h
    have hh := enc_head hr (l.drop (next l).2)
    have e : enc ((next l).1 : Int) ++ l.drop (next l).2 = l := by rw [h2, List.take_append_drop]
    rw [e] at hh
    omega
theorem drop_neJ {s : ByteArray} {j : Nat} (h : j < s.size) : s.data.toList.drop j ≠ [] := by
  intro e
  have := congrArg List.length e
  rw [List.length_drop, List.length_nil, ← sz_len] at this; omega
theorem bt_drop0 (l : List UInt8) (j : Nat) : bt (l.drop j) 0 = bt l j := by rw [bt_drop]; rfl
theorem one_lowJ {s : ByteArray} {j : Nat} (h : j < s.size) (h1 : bt s.data.toList j < 32) : oneJ (s.data.toList.drop j) = none := by
  have hn := next_one (drop_neJ h) (by rw [bt_drop0]; omega)
  unfold oneJ
  rw [if_neg (drop_neJ h), bt_drop0, if_neg (by omega), hn, if_pos (.inl (by rw [bt_drop0]; exact h1))]
theorem one_escJ {s : ByteArray} {j : Nat} (h : j < s.size) (h1 : bt s.data.toList j = 92) : oneJ (s.data.toList.drop j) = escAt s.data.toList j := by
  unfold oneJ
  rw [if_neg (drop_neJ h), bt_drop0, if_pos h1, escAt_eq]
theorem one_midJ {s : ByteArray} {j r n : Nat} (h : j < s.size) (h1 : 32 ≤ bt s.data.toList j) (h2 : bt s.data.toList j ≠ 34) (h3 : bt s.data.toList j ≠ 92) (hn : next (s.data.toList.drop j) = (r, n)) :
    oneJ (s.data.toList.drop j) = (if r = 65533 ∧ n = 1 then none else some (r, n)) ∧ (¬ (r = 65533 ∧ n = 1) → enc (r : Int) = (s.data.toList.drop j).take n) := by
  have hr : 32 ≤ r ∧ r ≠ 34 := by
    by_cases h4 : bt s.data.toList j < 128
    · have := next_one (drop_neJ h) (by rw [bt_drop0]; exact h4)
      rw [hn, bt_drop0] at this
      cases this; exact ⟨h1, h2⟩
    · have := next_high (drop_neJ h) (by rw [bt_drop0]; omega)
      rw [hn] at this
      dsimp only at this; omega
  constructor
  · unfold oneJ
    rw [if_neg (drop_neJ h), bt_drop0, if_neg h3, hn]
    dsimp only
    by_cases h5 : r = 65533 ∧ n = 1
    · rw [if_pos (.inr (.inr h5)), if_pos h5]
    · rw [if_neg (fun x => by rcases x with x | x | x; omega; exact hr.2 x; exact h5 x), if_neg h5]
  · intro h5
    rcases next_cases (drop_neJ h) with h6 | ⟨h6, _⟩
    · rw [hn] at h6; cases h6; exact absurd ⟨rfl, rfl⟩ h5
    · rw [hn] at h6; exact h6
theorem Build.only {n b g : Nat} {l : List UInt8} {w w' : World} (h : Build n b l w) (ho : Only g w w') (hg : g < n) (hgb : g ≠ b) : Build n b l w' := by
  have key : ∀ p, BuildAt n b p l w → BuildAt n b p l w' := by
    rintro p ⟨hb, v, hk, hw⟩
    refine ⟨hb, v, Blk.only hk ho (Ne.symm hgb), hw.1, ?_⟩
    rcases hw.2 with h | ⟨q, cap, cur, hv, hq, hh, r⟩
    · exact .inl h
    · exact .inr ⟨q, cap, cur, hv, hq, (ho.block q (Array.getElem?_eq_some_iff.1 hh).1 (by omega)).trans hh, r⟩
  rcases h with h | h
  · exact .inl (key _ h)
  · exact .inr (key _ h)
theorem Only.bnd {g n b : Nat} {a w w' : World} (h : Only g a w) (hb : Bnd n b w w') (h1 : a.heap.size ≤ n) (h2 : a.heap.size ≤ b) : Only g a w' :=
  ⟨hb.os.trans h.os, hb.tape.trans h.tape, hb.output.trans h.output, Nat.le_trans h.size hb.size, fun k hk hn => (hb.block k (by omega) (by omega)).trans (h.block k hk hn)⟩
theorem Only.low {g B : Nat} {a w w' : World} (h : Only g a w) (hb : Below B w w') (h1 : a.heap.size ≤ B) : Only g a w' :=
  ⟨hb.os.trans h.os, hb.tape.trans h.tape, hb.output.trans h.output, Nat.le_trans h.size hb.size, fun k hk hn => (hb.block k (by omega)).trans (h.block k hk hn)⟩
/-- While a string is read. -/
structure QS (w : World) (g : Nat) (s : ByteArray) (b j : Nat) (a : List UInt8) (wr : World) : Prop where
  lg : g < w.heap.size
  lb : w.heap.size < b
  r : Rdr wr g s j
  t : Blk wr w.heap.size 31 #[.int .u8 0, .string ⟨#[]⟩, .int .i64 0, .int .i64 0]
  bd : Build (b + 1) b a wr
  o : Only g w wr
  n : b + 1 ≤ wr.heap.size
section
variable {w wr w' : World} {g b j j' : Nat} {s : ByteArray} {a a' : List UInt8}
theorem QS.drew (h : QS w g s b j a wr) : QS w g s b j a wr.drew := ⟨h.lg, h.lb, h.r, h.t, h.bd, h.o.drew, h.n⟩
theorem QS.only (h : QS w g s b j a wr) (ho : Only g wr w') (hr : Rdr w' g s j') : QS w g s b j' a w' :=
  ⟨h.lg, h.lb, hr, Blk.only h.t ho (by have := h.lg; omega), h.bd.only ho (by have := h.lg; have := h.lb; omega) (by have := h.lg; have := h.lb; omega), h.o.trans ho, Nat.le_trans h.n ho.size⟩
theorem QS.set (h : QS w g s b j a wr) (j' : Nat) : QS w g s b j' a (wr.setCell ⟨g, 1, none⟩ (.int .i64 j')) :=
  h.only ((Only.refl g wr).set 1 _) (h.r.set j')
theorem QS.bel (h : QS w g s b j a wr) (hb : Below wr.heap.size wr w') : QS w g s b j a w' := h.only (Only.of_below hb) (h.r.bel hb)
theorem QS.write (h : QS w g s b j a wr) (hB : Build (b + 1) b a' w') (hb : Bnd (b + 1) b wr w') : QS w g s b j a' w' :=
  ⟨h.lg, h.lb, Blk.bnd h.r hb (by have := h.lg; have := h.lb; omega) (by have := h.lg; have := h.lb; omega), Blk.bnd h.t hb (by have := h.lb; omega) (by have := h.lb; omega), hB, h.o.bnd hb (by have := h.lb; omega) (by have := h.lb; omega), Nat.le_trans h.n hb.size⟩
end
set_option maxRecDepth 100000 in
set_option maxHeartbeats 8000000 in
theorem jquoted (g k : Nat) (s : ByteArray) (w : World) (hR : Rdr w g s k) (hk : k < s.size) (hs : s.size ≤ 1000000) :
    Calls Try.prog 39 #[.pointer (some ⟨g, 0, none⟩)] w fun e w' => TakR (quotTok s.data.toList k) g s e w' ∧ Only g w w' := by
  have HL := Lib.hid (sz_len s)
  have hgl := hR.lt
  have HE := Lib.hid (fun k w hR hk => jescape g k s w hR hk hs)
  have HT0 := Lib.hid (Blk.new w 31 #[.int .u8 0, .string ⟨#[]⟩, .int .i64 0, .int .i64 0])
  have HR0 := Lib.hid (hR.alloc (.cells #[.int .u8 0, .string ⟨#[]⟩, .int .i64 0, .int .i64 0] 31))
  have HO0 := Lib.hid ((Only.refl g w).alloc (.cells #[.int .u8 0, .string ⟨#[]⟩, .int .i64 0, .int .i64 0] 31))
  have HS0 : Hid (w.heap.size < (w.alloc (.cells #[.int .u8 0, .string ⟨#[]⟩, .int .i64 0, .int .i64 0] 31)).heap.size) := by show _ < _; simp
  clear hR
  go_enter Try.func39, Try.ntmps39
  go_wp2_with fail
  go_step3
  generalize w.alloc (.cells #[.int .u8 0, .string ⟨#[]⟩, .int .i64 0, .int .i64 0] 31) = W0 at *
  go_upto_region 2 with fail
  have HQ1 : Hid (QS w g s W0.heap.size k [] (W0.alloc (.cells #[.pointer none, .slice none 0 0] 95))) := ⟨hgl, HS0.out, HR0.out.alloc _, HT0.out.alloc _, build_new W0 _ (by omega), HO0.out.alloc _, by simp⟩
  clear HT0 HR0 HO0 HS0
  generalize W0.alloc (.cells #[.pointer none, .slice none 0 0] 95) = W1 at *
  generalize W0.heap.size = b at *
  have c1 := HQ1.out.r.c1
  have f1 := HQ1.out.r.f1
  go_wp2_with fail
  have HQ2 : Hid (QS w g s b (k + 1) [] (W1.setCell ⟨g, 1, none⟩ (.int .i64 ((k : Int) + 1)))) := HQ1.out.set (k + 1)
  clear HQ1 c1 f1
  generalize W1.setCell ⟨g, 1, none⟩ (.int .i64 ((k : Int) + 1)) = W2 at *
  go_step3
  go_wp2_with fail
  go_loopw [6] (fun z wr => ∃ (j : Nat) (a : List UInt8), k + 1 ≤ j ∧ j ≤ s.size ∧ a.length ≤ 4 * j ∧ strJ (s.data.toList.drop (k + 1)) = (strJ (s.data.toList.drop j)).map (fun p => (a ++ p.1, j - (k + 1) + p.2)) ∧ QS w g s b j a wr) (fun z wr => s.size - atOf wr g)
  case atStart => exact ⟨k + 1, [], Nat.le_refl _, hk, by simp, by simp, HQ2.out⟩
  case round =>
    obtain ⟨j, a, hkj, hj, hal, hr, hq⟩ := hrel
    have HG := Lib.hid hr
    have HQ := Lib.hid hq
    have HQW := Lib.hid hq
    clear hr hq HQ2
    by_cases hlt : j < s.size
    · have hx := bt_byte s j hlt
      have y0 := bt_lt s.data.toList j
      have hst := strJ_at hlt
      have hd1 : decide (j < s.size) = true := decide_eq_true hlt
      by_cases h34 : bt s.data.toList j = 34
      · rw [if_pos h34] at hst
        have HV : Hid (strJ (s.data.toList.drop (k + 1)) = some (a, j - (k + 1) + 1)) := by show _ = _; rw [HG.out, hst]; simp
        rw [h34] at hx
        clear hst h34 y0 HE HG
        have hqe : ((j : Int) == (s.size : Int)) = false := by simp; omega
        have HV2 : Hid (quotTok s.data.toList k = some ⟨34, a, k, j + 1⟩) := by
          show _ = _; unfold quotTok; rw [HV.out]; dsimp only; rw [show k + 1 + (j - (k + 1) + 1) = j + 1 by omega]
        have HBS : Hid (∀ w', Build (b + 1) b a w' → b ≤ w'.heap.size → Calls Try.prog 60 #[.pointer (some ⟨b, 0, none⟩)] w' fun e w'' => e = .returned (.string (strOf a)) ∧ Below b w' w'') := fun w' h1 h2 => builder_String _ _ _ _ h1 h2
        clear HV
        go_wp2_with fail
        go_region_held3 (fun w' => w'.cell? ⟨g, 0, none⟩ = some (.string s) ∧ w'.cell? ⟨g, 1, none⟩ = some (.int .i64 j)) (exact HQ.out.r.both) (fail)
        go_wp2_with fail
        go_region_held3 (fun w' => w'.cell? ⟨g, 0, none⟩ = some (.string s) ∧ w'.cell? ⟨g, 1, none⟩ = some (.int .i64 j)) (exact HQ.out.r.both) (fail)
        have HQ3 := Lib.hid HQ.out.drew.drew
        generalize wr.drew.drew = W3 at *
        clear HQ
        go_wp2_with fail
        go_region_held3 (fun w' => w'.cell? ⟨g, 0, none⟩ = some (.string s) ∧ w'.cell? ⟨g, 1, none⟩ = some (.int .i64 j)) (exact HQ3.out.r.both) (fail)
        have HQ4 := Lib.hid HQ3.out.drew
        generalize W3.drew = W4 at *
        clear HQ3
        have c1 := HQ4.out.r.c1
        have f1 := HQ4.out.r.f1
        go_upto_region 22 with fail
        have HQ5 : Hid (QS w g s b (j + 1) a (W4.setCell ⟨g, 1, none⟩ (.int .i64 ((j : Int) + 1)))) := HQ4.out.set (j + 1)
        clear HQ4 c1 f1
        generalize W4.setCell ⟨g, 1, none⟩ (.int .i64 ((j : Int) + 1)) = W5 at *
        have hgb : g < b := by have := HQ5.out.lb; omega
        have hwb := HQ5.out.lb
        have K1 : W5.drew.cell? ⟨g, 0, none⟩ = some (.string s) ∧ W5.drew.cell? ⟨g, 1, none⟩ = some (.int .i64 ((j : Int) + 1)) := HQ5.out.r.both
        have HZ : Hid (∃ z, z = strOf a) := ⟨_, rfl⟩
        generalize hz : strOf a = z at *
        have HZZ := Lib.hid hz
        clear hz
        go_region_held3 (fun w' => w'.cell? ⟨g, 0, none⟩ = some (.string s) ∧ w'.cell? ⟨g, 1, none⟩ = some (.int .i64 ((j : Int) + 1))) (first | (with_reducible exact K1) | (with_reducible exact K2) | (with_reducible exact K3)) ((go_at_call 60; refine (HBS.out W5.drew HQ5.out.bd (by have := HQ5.out.n; show b ≤ W5.heap.size; omega)).mono ?_; rintro e w6 ⟨rfl, b6⟩; have hr6 : Rdr w6 g s (j + 1) := Rdr.below (w := W5.drew) HQ5.out.r b6 hgb; have ht6 : Blk w6 w.heap.size 31 #[.int .u8 0, .string ⟨#[]⟩, .int .i64 0, .int .i64 0] := Blk.below (w := W5.drew) HQ5.out.t b6 hwb; have ho6 := HQ5.out.drew.o.low b6 (Nat.le_of_lt hwb); have K2 : w6.cell? ⟨g, 0, none⟩ = some (.string s) ∧ w6.cell? ⟨g, 1, none⟩ = some (.int .i64 ((j : Int) + 1)) := hr6.both; have K3 : ((((w6.setCell ⟨w.heap.size, 0, none⟩ (.int .u8 34)).setCell ⟨w.heap.size, 1, none⟩ (.string z)).setCell ⟨w.heap.size, 2, none⟩ (.int .i64 k)).setCell ⟨w.heap.size, 3, none⟩ (.int .i64 ((j : Int) + 1))).cell? ⟨g, 0, none⟩ = some (.string s) ∧ ((((w6.setCell ⟨w.heap.size, 0, none⟩ (.int .u8 34)).setCell ⟨w.heap.size, 1, none⟩ (.string z)).setCell ⟨w.heap.size, 2, none⟩ (.int .i64 k)).setCell ⟨w.heap.size, 3, none⟩ (.int .i64 ((j : Int) + 1))).cell? ⟨g, 1, none⟩ = some (.int .i64 ((j : Int) + 1)) := Rdr.both ((((hr6.far (p := ⟨w.heap.size, 0, none⟩) (Nat.ne_of_lt hgl) _).far (p := ⟨w.heap.size, 1, none⟩) (Nat.ne_of_lt hgl) _).far (p := ⟨w.heap.size, 2, none⟩) (Nat.ne_of_lt hgl) _).far (p := ⟨w.heap.size, 3, none⟩) (Nat.ne_of_lt hgl) _); have p0 : w6.cell? ⟨w.heap.size, 0, none⟩ = some (.int .u8 0) := ht6.cell 0; have g0 : w6.frozen? ⟨w.heap.size, 0, none⟩ = false := ht6.frozen 0; have p1 : w6.cell? ⟨w.heap.size, 1, none⟩ = some (.string ⟨#[]⟩) := ht6.cell 1; have g1 : w6.frozen? ⟨w.heap.size, 1, none⟩ = false := ht6.frozen 1; have p2 : w6.cell? ⟨w.heap.size, 2, none⟩ = some (.int .i64 0) := ht6.cell 2; have g2 : w6.frozen? ⟨w.heap.size, 2, none⟩ = false := ht6.frozen 2; have p3 : w6.cell? ⟨w.heap.size, 3, none⟩ = some (.int .i64 0) := ht6.cell 3; have g3 : w6.frozen? ⟨w.heap.size, 3, none⟩ = false := ht6.frozen 3))
        go_wp2_with fail
        have hF := (((ht6.set_ 0 (.int .u8 34)).set_ 1 (.string z)).set_ 2 (.int .i64 k)).set_ 3 (.int .i64 ((j : Int) + 1))
        have s0 : (World.setCell _ _ _).cell? _ = some (.int .u8 34) := hF.cell 0
        have s1 : (World.setCell _ _ _).cell? _ = some (.string z) := hF.cell 1
        have s2 : (World.setCell _ _ _).cell? _ = some (.int .i64 k) := hF.cell 2
        have s3 : (World.setCell _ _ _).cell? _ = some (.int .i64 ((j : Int) + 1)) := hF.cell 3
        try rw [Exit.noGoto_ret]
        exact bodyPost_ret (v := .tuple #[.agg #[.int .u8 34, .string z, .int .i64 k, .int .i64 ((j : Int) + 1)], .bool true]) (by simp [results, Try.f39, go_sem, s0, s1, s2, s3]) rfl ⟨by rw [HV2.out]; exact ⟨by rw [← HZZ.out]; rfl, (((hr6.far (p := ⟨w.heap.size, 0, none⟩) (Nat.ne_of_lt hgl) _).far (p := ⟨w.heap.size, 1, none⟩) (Nat.ne_of_lt hgl) _).far (p := ⟨w.heap.size, 2, none⟩) (Nat.ne_of_lt hgl) _).far (p := ⟨w.heap.size, 3, none⟩) (Nat.ne_of_lt hgl) _⟩, (((ho6.far (p := ⟨w.heap.size, 0, none⟩) (Nat.le_refl _) _).far (p := ⟨w.heap.size, 1, none⟩) (Nat.le_refl _) _).far (p := ⟨w.heap.size, 2, none⟩) (Nat.le_refl _) _).far (p := ⟨w.heap.size, 3, none⟩) (Nat.le_refl _) _⟩
      · rw [if_neg h34] at hst
        have hq34 : ((bt s.data.toList j : Int) == 34) = false := by simp; omega
        by_cases h92 : bt s.data.toList j = 92
        · have HB92 : Hid (∀ q, escAt s.data.toList j = some q → oneJ (s.data.toList.drop j) = some q) := fun q h => by rw [one_escJ hlt h92, h]
          rw [one_escJ hlt h92] at hst
          have HEj := Lib.hid (fun w hR => HE.out j w hR hlt)
          rw [h92] at hx hq34
          clear h34 h92 y0
          cases ho : escAt s.data.toList j with
          | none =>
            rw [ho] at hst
            have HV : Hid (strJ (s.data.toList.drop (k + 1)) = none) := by show _ = _; rw [HG.out, hst]; rfl
            rw [ho] at HEj
            clear hst ho HE HG
            go_wp2_with fail
            go_region_held3 (fun w' => w'.cell? ⟨g, 0, none⟩ = some (.string s) ∧ w'.cell? ⟨g, 1, none⟩ = some (.int .i64 j)) (exact HQ.out.r.both) (fail)
            go_wp2_with fail
            go_region_held3 (fun w' => w'.cell? ⟨g, 0, none⟩ = some (.string s) ∧ w'.cell? ⟨g, 1, none⟩ = some (.int .i64 j)) (exact HQ.out.r.both) (fail)
            have HQ3 := Lib.hid HQ.out.drew.drew
            generalize wr.drew.drew = W3 at *
            clear HQ
            go_wp2_with fail
            refine (HEj.out _ HQ3.out.r).mono ?_
            rintro e w4 ⟨⟨v, rfl⟩, hO4⟩
            have hT9 : Blk w4 w.heap.size 31 #[.int .u8 0, .string ⟨#[]⟩, .int .i64 0, .int .i64 0] := Blk.only HQ3.out.t hO4 (Nat.ne_of_gt hgl)
            have hO9 := HQ3.out.o.trans hO4
            have r0 := hT9.cell 0
            have f0 := hT9.frozen 0
            have r1 := hT9.cell 1
            have f1 := hT9.frozen 1
            have r2 := hT9.cell 2
            have f2 := hT9.frozen 2
            have r3 := hT9.cell 3
            have f3 := hT9.frozen 3
            go_wp2_with fail
            have hF := (((hT9.set_ 0 (.int .u8 0)).set_ 1 (.string ⟨#[]⟩)).set_ 2 (.int .i64 0)).set_ 3 (.int .i64 0)
            have s0 : (World.setCell _ _ _).cell? _ = some (.int .u8 0) := hF.cell 0
            have s1 : (World.setCell _ _ _).cell? _ = some (.string ⟨#[]⟩) := hF.cell 1
            have s2 : (World.setCell _ _ _).cell? _ = some (.int .i64 0) := hF.cell 2
            have s3 : (World.setCell _ _ _).cell? _ = some (.int .i64 0) := hF.cell 3
            try rw [Exit.noGoto_ret]
            exact bodyPost_ret (v := .tuple #[.agg #[.int .u8 0, .string ⟨#[]⟩, .int .i64 0, .int .i64 0], .bool false]) (by simp [results, Try.f39, go_sem, s0, s1, s2, s3]) rfl ⟨by unfold quotTok; rw [HV.out]; exact ⟨_, _, _, _, rfl⟩, (((hO9.far (p := ⟨w.heap.size, 0, none⟩) (Nat.le_refl _) _).far (p := ⟨w.heap.size, 1, none⟩) (Nat.le_refl _) _).far (p := ⟨w.heap.size, 2, none⟩) (Nat.le_refl _) _).far (p := ⟨w.heap.size, 3, none⟩) (Nat.le_refl _) _⟩
          | some rn =>
            obtain ⟨r, n⟩ := rn
            rw [ho] at hst HEj
            have hbd := oneJ_bound (HB92.out _ ho)
            clear ho HB92
            go_wp2_with fail
            go_region_held3 (fun w' => w'.cell? ⟨g, 0, none⟩ = some (.string s) ∧ w'.cell? ⟨g, 1, none⟩ = some (.int .i64 j)) (exact HQ.out.r.both) (fail)
            go_wp2_with fail
            go_region_held3 (fun w' => w'.cell? ⟨g, 0, none⟩ = some (.string s) ∧ w'.cell? ⟨g, 1, none⟩ = some (.int .i64 j)) (exact HQ.out.r.both) (fail)
            have HQ3 := Lib.hid HQ.out.drew.drew
            generalize wr.drew.drew = W3 at *
            clear HQ
            go_wp2_with fail
            refine (HEj.out _ HQ3.out.r).mono ?_
            rintro e w4 ⟨⟨rfl, hR4⟩, hO4⟩
            have HQ4 := Lib.hid (HQ3.out.only hO4 hR4)
            have HST := Lib.hid hst
            clear HQ3 hO4 hR4 hst HEj HE
            go_wp2_with fail
            refine (pbytes_any _ _).mono ?_
            rintro e w5 ⟨rfl, b5⟩
            have HQ5 := Lib.hid (HQ4.out.bel b5)
            clear HQ4 b5
            have he4 := (enc_length (r : Int)).1
            have hsz := strOf_size (enc (r : Int))
            have HWr := Lib.hid (writeString_any (b + 1) b a (strOf (enc (r : Int))) w5 HQ5.out.bd HQ5.out.n (by omega))
            have HLs := Lib.hid (strOf_list (enc (r : Int)))
            generalize strOf (enc (r : Int)) = z at *
            go_wp2_with fail
            refine HWr.out.mono ?_
            rintro e w6 ⟨rfl, hB6, hb6⟩
            rw [HLs.out] at hB6
            have HQ6 := Lib.hid (HQ5.out.write hB6 hb6)
            clear HQ5 hB6 hb6 HWr
            go_wp2_with fail
            go_roundw
            case rel => exact ⟨j + n, a ++ enc (r : Int), by omega, by have := hbd.2.2.2; rw [List.length_drop] at this; have := HL.out; omega, by rw [List.length_append]; omega, by
              rw [HG.out, HST.out]
              cases strJ (s.data.toList.drop (j + n)) with
              | none => rfl
              | some p => simp only [Option.map_some, List.append_assoc, Option.some.injEq, Prod.mk.injEq, true_and]; omega, HQ6.out⟩
            case measure =>
              have h1 := HQW.out.r.at_
              have h2 := HQ6.out.r.at_
              have := hbd.2.1
              omega
        · have hq92 : ((bt s.data.toList j : Int) == 92) = false := by simp; omega
          by_cases hlow : bt s.data.toList j < 32
          · rw [one_lowJ hlt hlow] at hst
            have HV : Hid (strJ (s.data.toList.drop (k + 1)) = none) := by show _ = _; rw [HG.out, hst]; rfl
            generalize bt s.data.toList j = c at *
            clear hst HE HG h34 h92
            go_wp2_with fail
            go_region_held3 (fun w' => w'.cell? ⟨g, 0, none⟩ = some (.string s) ∧ w'.cell? ⟨g, 1, none⟩ = some (.int .i64 j)) (exact HQ.out.r.both) (fail)
            go_wp2_with fail
            go_region_held3 (fun w' => w'.cell? ⟨g, 0, none⟩ = some (.string s) ∧ w'.cell? ⟨g, 1, none⟩ = some (.int .i64 j)) (exact HQ.out.r.both) (fail)
            have HQ3 := Lib.hid HQ.out.drew.drew
            generalize wr.drew.drew = W3 at *
            clear HQ
            have hT9 := HQ3.out.t
            have hO9 := HQ3.out.o
            have r0 := hT9.cell 0
            have f0 := hT9.frozen 0
            have r1 := hT9.cell 1
            have f1 := hT9.frozen 1
            have r2 := hT9.cell 2
            have f2 := hT9.frozen 2
            have r3 := hT9.cell 3
            have f3 := hT9.frozen 3
            go_wp2_with fail
            have hF := (((hT9.set_ 0 (.int .u8 0)).set_ 1 (.string ⟨#[]⟩)).set_ 2 (.int .i64 0)).set_ 3 (.int .i64 0)
            have s0 : (World.setCell _ _ _).cell? _ = some (.int .u8 0) := hF.cell 0
            have s1 : (World.setCell _ _ _).cell? _ = some (.string ⟨#[]⟩) := hF.cell 1
            have s2 : (World.setCell _ _ _).cell? _ = some (.int .i64 0) := hF.cell 2
            have s3 : (World.setCell _ _ _).cell? _ = some (.int .i64 0) := hF.cell 3
            try rw [Exit.noGoto_ret]
            exact bodyPost_ret (v := .tuple #[.agg #[.int .u8 0, .string ⟨#[]⟩, .int .i64 0, .int .i64 0], .bool false]) (by simp [results, Try.f39, go_sem, s0, s1, s2, s3]) rfl ⟨by unfold quotTok; rw [HV.out]; exact ⟨_, _, _, _, rfl⟩, (((hO9.far (p := ⟨w.heap.size, 0, none⟩) (Nat.le_refl _) _).far (p := ⟨w.heap.size, 1, none⟩) (Nat.le_refl _) _).far (p := ⟨w.heap.size, 2, none⟩) (Nat.le_refl _) _).far (p := ⟨w.heap.size, 3, none⟩) (Nat.le_refl _) _⟩
          · obtain ⟨r, n, hn, hr, hn1, hn4, hkn, hne, hdd⟩ := next_at hlt
            obtain ⟨ho, he⟩ := one_midJ hlt (by omega) h34 h92 hn
            rw [ho] at hst
            have HN := Lib.hid (fun w => next_to s j r n w (by omega) hn)
            have hlow2 : 32 ≤ bt s.data.toList j := by omega
            generalize bt s.data.toList j = c at *
            clear hn hne hdd h34 h92 hlow ho HE
            by_cases hz : r = 65533 ∧ n = 1
            · rw [if_pos hz] at hst
              have HV : Hid (strJ (s.data.toList.drop (k + 1)) = none) := by show _ = _; rw [HG.out, hst]; rfl
              have z1 : ((r : Int) == 65533) = true := by simp; omega
              have z2 : ((n : Int) == 1) = true := by simp; omega
              clear hz he hst HG hr
              go_wp2_with fail
              go_region_held3 (fun w' => w'.cell? ⟨g, 0, none⟩ = some (.string s) ∧ w'.cell? ⟨g, 1, none⟩ = some (.int .i64 j)) (exact HQ.out.r.both) (fail)
              go_wp2_with fail
              go_region_held3 (fun w' => w'.cell? ⟨g, 0, none⟩ = some (.string s) ∧ w'.cell? ⟨g, 1, none⟩ = some (.int .i64 j)) (exact HQ.out.r.both) (fail)
              have HQ3 := Lib.hid HQ.out.drew.drew
              generalize wr.drew.drew = W3 at *
              clear HQ
              go_wp2_with fail
              go_region_held3 (fun w' => w'.cell? ⟨g, 0, none⟩ = some (.string s) ∧ w'.cell? ⟨g, 1, none⟩ = some (.int .i64 j)) (exact HQ3.out.r.both) ((go_at_call 59; refine (HN.out _).mono ?_; rintro e w' ⟨rfl, rfl⟩))
              have HQ4 := Lib.hid HQ3.out.drew
              generalize W3.drew = W4 at *
              clear HQ3 HN
              have hT9 := HQ4.out.t
              have hO9 := HQ4.out.o
              have r0 := hT9.cell 0
              have f0 := hT9.frozen 0
              have r1 := hT9.cell 1
              have f1 := hT9.frozen 1
              have r2 := hT9.cell 2
              have f2 := hT9.frozen 2
              have r3 := hT9.cell 3
              have f3 := hT9.frozen 3
              go_wp2_with fail
              have hF := (((hT9.set_ 0 (.int .u8 0)).set_ 1 (.string ⟨#[]⟩)).set_ 2 (.int .i64 0)).set_ 3 (.int .i64 0)
              have s0 : (World.setCell _ _ _).cell? _ = some (.int .u8 0) := hF.cell 0
              have s1 : (World.setCell _ _ _).cell? _ = some (.string ⟨#[]⟩) := hF.cell 1
              have s2 : (World.setCell _ _ _).cell? _ = some (.int .i64 0) := hF.cell 2
              have s3 : (World.setCell _ _ _).cell? _ = some (.int .i64 0) := hF.cell 3
              try rw [Exit.noGoto_ret]
              exact bodyPost_ret (v := .tuple #[.agg #[.int .u8 0, .string ⟨#[]⟩, .int .i64 0, .int .i64 0], .bool false]) (by simp [results, Try.f39, go_sem, s0, s1, s2, s3]) rfl ⟨by unfold quotTok; rw [HV.out]; exact ⟨_, _, _, _, rfl⟩, (((hO9.far (p := ⟨w.heap.size, 0, none⟩) (Nat.le_refl _) _).far (p := ⟨w.heap.size, 1, none⟩) (Nat.le_refl _) _).far (p := ⟨w.heap.size, 2, none⟩) (Nat.le_refl _) _).far (p := ⟨w.heap.size, 3, none⟩) (Nat.le_refl _) _⟩
            · rw [if_neg hz] at hst
              have HEn := Lib.hid (he hz)
              have z1 : ((r : Int) == 65533) = false ∨ (((r : Int) == 65533) = true ∧ ((n : Int) == 1) = false) := by
                by_cases h : r = 65533
                · exact .inr ⟨by simp; omega, by simp; omega⟩
                · exact .inl (by simp; omega)
              have HST := Lib.hid hst
              clear hz he hst hr
              rcases z1 with z1 | ⟨z1, z2⟩
              all_goals
                go_wp2_with fail
                go_region_held3 (fun w' => w'.cell? ⟨g, 0, none⟩ = some (.string s) ∧ w'.cell? ⟨g, 1, none⟩ = some (.int .i64 j)) (exact HQ.out.r.both) (fail)
                go_wp2_with fail
                go_region_held3 (fun w' => w'.cell? ⟨g, 0, none⟩ = some (.string s) ∧ w'.cell? ⟨g, 1, none⟩ = some (.int .i64 j)) (exact HQ.out.r.both) (fail)
                have HQ3 := Lib.hid HQ.out.drew.drew
                generalize wr.drew.drew = W3 at *
                clear HQ
                go_wp2_with fail
                go_region_held3 (fun w' => w'.cell? ⟨g, 0, none⟩ = some (.string s) ∧ w'.cell? ⟨g, 1, none⟩ = some (.int .i64 j)) (exact HQ3.out.r.both) ((go_at_call 59; refine (HN.out _).mono ?_; rintro e w' ⟨rfl, rfl⟩))
                have HQ4 := Lib.hid HQ3.out.drew
                generalize W3.drew = W4 at *
                clear HQ3 HN
                go_wp2_with fail
                obtain ⟨p, hp⟩ : ∃ p, j + n = p := ⟨_, rfl⟩
                have hw : IntKind.i64.wrap ((j : Int) + (n : Int)) = (p : Int) := by rw [IntWalk.i64_in _ (by omega)]; omega
                have hjp : j ≤ p := by omega
                have hps : p ≤ s.size := by omega
                have he4 := (enc_length (r : Int)).1
                have HXe : Hid ((s.extract j p).data.toList = enc (r : Int)) := by show _ = _; rw [cut_str, strOf_list, HEn.out, ← hp, Nat.add_sub_cancel_left]
                have hxs : (s.extract j p).size = (enc (r : Int)).length := by rw [sz_len, HXe.out]
                have HWr := Lib.hid (writeString_any (b + 1) b a (s.extract j p) W4.drew HQ4.out.drew.bd HQ4.out.drew.n (by omega))
                have K1 : W4.drew.cell? ⟨g, 0, none⟩ = some (.string s) ∧ W4.drew.cell? ⟨g, 1, none⟩ = some (.int .i64 j) := HQ4.out.r.both
                clear hxs
                go_region_held3 (fun w' => w'.cell? ⟨g, 0, none⟩ = some (.string s) ∧ w'.cell? ⟨g, 1, none⟩ = some (.int .i64 j)) (first | (with_reducible exact K1) | (with_reducible exact K2)) ((go_at_call 57; refine HWr.out.mono ?_; rintro e w6 ⟨rfl, hB6, hb6⟩; have hQ6 := HQ4.out.drew.write hB6 hb6; have K2 := hQ6.r.both))
                rw [HXe.out] at hQ6
                have HQ6 := Lib.hid hQ6
                have c1 := hQ6.r.c1
                have f1 := hQ6.r.f1
                clear HQ4 hB6 hb6 hQ6 HWr K1 K2
                have HP := Lib.hid hp
                have HQ7 : Hid (QS w g s b p (a ++ enc (r : Int)) (w6.setCell ⟨g, 1, none⟩ (.int .i64 (p : Int)))) := HQ6.out.set p
                go_wp2_with fail
                go_roundw
                case rel => exact ⟨p, a ++ enc (r : Int), by omega, hps, by rw [List.length_append]; omega, by
                  rw [HG.out, HST.out, HP.out]
                  cases strJ (s.data.toList.drop p) with
                  | none => rfl
                  | some q => simp only [Option.map_some, List.append_assoc, Option.some.injEq, Prod.mk.injEq, true_and]; have := HP.out; omega, HQ7.out⟩
                case measure =>
                  have h1 := HQW.out.r.at_
                  have h2 := HQ7.out.r.at_
                  have := HP.out
                  omega
    · obtain rfl : j = s.size := by omega
      have HV : Hid (strJ (s.data.toList.drop (k + 1)) = none) := by show _ = _; rw [HG.out, List.drop_eq_nil_of_le (by rw [← HL.out]; exact Nat.le_refl _)]; rfl
      have hqe : ((s.size : Int) == (s.size : Int)) = true := by simp
      have hd1 : decide (s.size < s.size) = false := decide_eq_false (Nat.lt_irrefl _)
      clear HE HG
      go_wp2_with fail
      go_region_held3 (fun w' => w'.cell? ⟨g, 0, none⟩ = some (.string s) ∧ w'.cell? ⟨g, 1, none⟩ = some (.int .i64 s.size)) (exact HQ.out.r.both) (fail)
      go_wp2_with fail
      go_region_held3 (fun w' => w'.cell? ⟨g, 0, none⟩ = some (.string s) ∧ w'.cell? ⟨g, 1, none⟩ = some (.int .i64 s.size)) (exact HQ.out.drew.r.both) (fail)
      have HQ3 := Lib.hid HQ.out.drew.drew
      generalize wr.drew.drew = W3 at *
      clear HQ
      have hT9 := HQ3.out.t
      have hO9 := HQ3.out.o
      have r0 := hT9.cell 0
      have f0 := hT9.frozen 0
      have r1 := hT9.cell 1
      have f1 := hT9.frozen 1
      have r2 := hT9.cell 2
      have f2 := hT9.frozen 2
      have r3 := hT9.cell 3
      have f3 := hT9.frozen 3
      go_wp2_with fail
      have hF := (((hT9.set_ 0 (.int .u8 0)).set_ 1 (.string ⟨#[]⟩)).set_ 2 (.int .i64 0)).set_ 3 (.int .i64 0)
      have s0 : (World.setCell _ _ _).cell? _ = some (.int .u8 0) := hF.cell 0
      have s1 : (World.setCell _ _ _).cell? _ = some (.string ⟨#[]⟩) := hF.cell 1
      have s2 : (World.setCell _ _ _).cell? _ = some (.int .i64 0) := hF.cell 2
      have s3 : (World.setCell _ _ _).cell? _ = some (.int .i64 0) := hF.cell 3
      try rw [Exit.noGoto_ret]
      exact bodyPost_ret (v := .tuple #[.agg #[.int .u8 0, .string ⟨#[]⟩, .int .i64 0, .int .i64 0], .bool false]) (by simp [results, Try.f39, go_sem, s0, s1, s2, s3]) rfl ⟨by unfold quotTok; rw [HV.out]; exact ⟨_, _, _, _, rfl⟩, (((hO9.far (p := ⟨w.heap.size, 0, none⟩) (Nat.le_refl _) _).far (p := ⟨w.heap.size, 1, none⟩) (Nat.le_refl _) _).far (p := ⟨w.heap.size, 2, none⟩) (Nat.le_refl _) _).far (p := ⟨w.heap.size, 3, none⟩) (Nat.le_refl _) _⟩
end Go.Proofs.Ytjnmcadfaombjaa
