/- Walks: the program's tags reader: says (chapter 11). -/
import Derived.Test.YtlogjghbdnaedaaTgD
import Derived.Test.YtlogjghbdnaedaaBuildB
import Derived.WalkMore
namespace Go.Proofs.Ytlogjghbdnaedaa
open Go.RowKit
set_option linter.unusedVariables false
set_option linter.unusedSimpArgs false
theorem Build.only {n b g : Nat} {l : List UInt8} {w w' : World} (h : Build n b l w) (ho : Only g w w') (hg : g < n) (hgb : g ≠ b) : Build n b l w' := by
  have key : ∀ p, BuildAt n b p l w → BuildAt n b p l w' := by
    rintro p ⟨hb, v, hk, hw⟩
    refine ⟨hb, v, Blk.only hk ho (Ne.symm hgb), hw.1, ?_⟩
    rcases hw.2 with h | ⟨q, cap, cur, hv, hq, hh, r⟩
    · exact .inl h
    · exact .inr ⟨q, cap, cur, hv, hq, (ho.block q (Array.getElem?_eq_some_iff.1 hh).1 (by omega)).trans hh, r⟩
  rcases h with h | h
  · exact .inl (key _ h)
  · exact .inr (key _ h)
theorem Only.bnd {g n b : Nat} {a w w' : World} (h : Only g a w) (hb : Bnd n b w w') (h1 : a.heap.size ≤ n) (h2 : a.heap.size ≤ b) : Only g a w' :=
  ⟨hb.os.trans h.os, hb.tape.trans h.tape, hb.output.trans h.output, Nat.le_trans h.size hb.size, fun k hk hn => (hb.block k (by omega) (by omega)).trans (h.block k hk hn)⟩
theorem Only.low {g B : Nat} {a w w' : World} (h : Only g a w) (hb : Below B w w') (h1 : a.heap.size ≤ B) : Only g a w' :=
  ⟨hb.os.trans h.os, hb.tape.trans h.tape, hb.output.trans h.output, Nat.le_trans h.size hb.size, fun k hk hn => (hb.block k (by omega)).trans (h.block k hk hn)⟩
/-- While bytes are taken. -/
structure QT (w : World) (g : Nat) (s : ByteArray) (b j : Nat) (a : List UInt8) (wr : World) : Prop where
  lg : g < w.heap.size
  lb : w.heap.size ≤ b
  r : Rdr wr g s j
  bd : Build (b + 1) b a wr
  o : Only g w wr
  n : b + 1 ≤ wr.heap.size
section
variable {w wr w' : World} {g b j j' : Nat} {s : ByteArray} {a a' : List UInt8}
theorem QT.drew (h : QT w g s b j a wr) : QT w g s b j a wr.drew := ⟨h.lg, h.lb, h.r, h.bd, h.o.drew, h.n⟩
theorem QT.only (h : QT w g s b j a wr) (ho : Only g wr w') (hr : Rdr w' g s j') : QT w g s b j' a w' :=
  ⟨h.lg, h.lb, hr, h.bd.only ho (by have := h.lg; have := h.lb; omega) (by have := h.lg; have := h.lb; omega), h.o.trans ho, Nat.le_trans h.n ho.size⟩
theorem QT.set (h : QT w g s b j a wr) (j' : Nat) : QT w g s b j' a (wr.setCell ⟨g, 1, none⟩ (.int .i64 j')) :=
  h.only ((Only.refl g wr).set 1 _) (h.r.set j')
theorem QT.bel (h : QT w g s b j a wr) (hb : Below wr.heap.size wr w') : QT w g s b j a w' := h.only (Only.of_below hb) (h.r.bel hb)
theorem QT.write (h : QT w g s b j a wr) (hB : Build (b + 1) b a' w') (hb : Bnd (b + 1) b wr w') : QT w g s b j a' w' :=
  ⟨h.lg, h.lb, Blk.bnd h.r hb (by have := h.lg; have := h.lb; omega) (by have := h.lg; have := h.lb; omega), hB, h.o.bnd hb (by have := h.lb; omega) (by have := h.lb; omega), Nat.le_trans h.n hb.size⟩
end
theorem sayJ_at {e d : Nat} {s : ByteArray} {j : Nat} (hj : j < s.size) : sayJ e d (s.data.toList.drop j) = if bt s.data.toList j = e then some ([], 0) else if bt s.data.toList j = d then none else if bt s.data.toList j = 38 then
    match refJ (s.data.toList.drop j) with
    | none => none
    | some (x, n) => (sayJ e d (s.data.toList.drop (j + n))).map fun p => (x ++ p.1, n + p.2)
    else (sayJ e d (s.data.toList.drop (j + 1))).map fun p => (UInt8.ofNat (bt s.data.toList j) :: p.1, 1 + p.2) := by
  have hl : j < s.data.toList.length := by rw [← sz_len]; exact hj
  have e1 : s.data.toList.drop j = s.data.toList[j] :: s.data.toList.drop (j + 1) := List.drop_eq_getElem_cons hl
  have e2 : UInt8.ofNat (bt s.data.toList j) = s.data.toList[j] := by rw [← bt_get hl]; simp
  have e3 : ∀ n, (s.data.toList.drop j).drop n = s.data.toList.drop (j + n) := fun n => List.drop_drop
  rw [e2]
  have h := sayJ_cons e d s.data.toList[j] (s.data.toList.drop (j + 1))
  rw [← e1, bt_get hl] at h
  rw [h]
  simp only [e3]
  rfl
theorem sayJ_end {e d : Nat} {s : ByteArray} {j : Nat} (hj : s.size ≤ j) : sayJ e d (s.data.toList.drop j) = some ([], 0) := by
  rw [List.drop_eq_nil_of_le (by rw [← sz_len]; exact hj)]; rfl
set_option maxRecDepth 100000 in
set_option maxHeartbeats 16000000 in
theorem tsays (g k e d : Nat) (s : ByteArray) (w : World) (hR : Rdr w g s k) (hk : k ≤ s.size) (hs : s.size ≤ 1000000) (he : e < 256 ∧ e ≠ 38) (hd : d < 256) :
    Calls Try.prog 38 #[.pointer (some ⟨g, 0, none⟩), .int .u8 e, .int .u8 d] w fun x w' => SayR (sayJ e d (s.data.toList.drop k)) k g s x w' ∧ Only g w w' := by
  have HL := Lib.hid (sz_len s)
  have hgl := hR.lt
  have HR0 := Lib.hid hR
  clear hR
  go_enter Try.func38, Try.ntmps38
  go_upto_region 2 with fail
  have HQ0 : Hid (QT w g s w.heap.size k [] (w.alloc (.cells #[.pointer none, .slice none 0 0] 95))) := ⟨hgl, Nat.le_refl _, HR0.out.alloc _, build_new w _ (by omega), (Only.refl g w).alloc _, by simp⟩
  clear HR0
  obtain ⟨b, hb⟩ : ∃ b, w.heap.size = b := ⟨_, rfl⟩
  have HBw := Lib.hid hb
  have hQ0 := HQ0.out
  generalize hW : w.alloc (.cells #[.pointer none, .slice none 0 0] 95) = W1 at *
  rw [hb] at hQ0 ⊢
  have HQ1 := Lib.hid hQ0
  clear hW hb hQ0 HQ0 hgl
  go_loopw [12] (fun z wr => ∃ (j : Nat) (a : List UInt8), k ≤ j ∧ j ≤ s.size ∧ a.length ≤ 4 * j ∧ sayJ e d (s.data.toList.drop k) = (sayJ e d (s.data.toList.drop j)).map (fun p => (a ++ p.1, j - k + p.2)) ∧ QT w g s b j a wr) (fun z wr => s.size - atOf wr g)
  case atStart => exact ⟨k, [], Nat.le_refl _, hk, by simp, by simp, HQ1.out⟩
  case round =>
    obtain ⟨j, a, hkj, hj, hal, hr, hq⟩ := hrel
    have HG := Lib.hid hr
    have HQ := Lib.hid hq
    have HQW := Lib.hid hq
    clear hr hq HQ1
    have HBS : Hid (∀ w', Build (b + 1) b a w' → b ≤ w'.heap.size → Calls Try.prog 58 #[.pointer (some ⟨b, 0, none⟩)] w' fun e w'' => e = .returned (.string (strOf a)) ∧ Below b w' w'') := fun w' h1 h2 => builder_String _ _ _ _ h1 h2
    have hR4 : Rdr wr.drew g s j := HQ.out.r
    have K1 := hR4.both
    by_cases hlt : j < s.size
    · have HD := Lib.hid (fun w hR => done_no g j s w hR hs hlt)
      have hx := bt_byte s j hlt
      have y0 := bt_lt s.data.toList j
      have hst := sayJ_at (e := e) (d := d) hlt
      have HREF := Lib.hid (fun w hR => treference g j s w hR hj hs)
      have hrb : ∀ x n, refJ (s.data.toList.drop j) = some (x, n) → 1 ≤ n ∧ j + n ≤ s.size ∧ x.length ≤ 4 := by
        intro x n h
        have h1 := refJ_bd h
        rw [List.length_drop, ← HL.out] at h1
        omega
      have HRB := Lib.hid hrb
      clear hrb
      obtain ⟨c, hc⟩ : ∃ c, bt s.data.toList j = c := ⟨_, rfl⟩
      rw [hc] at hx y0 hst
      clear hc
      by_cases hce : c = e
      · have HV : Hid (sayJ e d (s.data.toList.drop k) = some (a, j - k)) := by show _ = _; rw [HG.out, hst, if_pos hce]; simp
        have q1 : ((c : Int) != (e : Int)) = false := by simp; omega
        clear hst hce HREF HRB HG
        go_wp2_with fail
        go_region_held3 (fun w' => w'.cell? ⟨g, 0, none⟩ = some (.string s) ∧ w'.cell? ⟨g, 1, none⟩ = some (.int .i64 j)) (first | (with_reducible exact K1) | (with_reducible exact K2)) ((go_at_call 24; refine (HD.out _ hR4).mono ?_; rintro x w5 ⟨rfl, b5⟩; have K2 := (hR4.bel b5).both))
        have HQ5 := Lib.hid (HQ.out.drew.bel b5)
        clear HQ b5 K1 K2 hR4 HD
        go_wp2_with fail
        refine (HBS.out _ HQ5.out.bd (by have := HQ5.out.n; omega)).mono ?_
        rintro x w6 ⟨rfl, b6⟩
        have HR6 : Hid (Rdr w6 g s j) := HQ5.out.r.below b6 (by have := HQ5.out.lg; have := HQ5.out.lb; omega)
        have HO6 := Lib.hid (HQ5.out.o.low b6 HQ5.out.lb)
        clear b6
        go_wp2_with fail
        go_ret2
        exact ⟨by rw [HV.out]; exact ⟨rfl, by rw [show k + (j - k) = j by omega]; exact HR6.out⟩, HO6.out⟩
      · rw [if_neg hce] at hst
        have q1 : ((c : Int) != (e : Int)) = true := by simp; omega
        clear hce
        by_cases hcd : c = d
        · have HV : Hid (sayJ e d (s.data.toList.drop k) = none) := by show _ = _; rw [HG.out, hst, if_pos hcd]; rfl
          have q2 : ((c : Int) == (d : Int)) = true := by simp; omega
          clear hst hcd HREF HRB HG HBS
          go_wp2_with fail
          go_region_held3 (fun w' => w'.cell? ⟨g, 0, none⟩ = some (.string s) ∧ w'.cell? ⟨g, 1, none⟩ = some (.int .i64 j)) (first | (with_reducible exact K1) | (with_reducible exact K2)) ((go_at_call 24; refine (HD.out _ hR4).mono ?_; rintro x w5 ⟨rfl, b5⟩; have K2 := (hR4.bel b5).both))
          have HQ5 := Lib.hid (HQ.out.drew.bel b5)
          clear HQ b5 K1 K2 hR4 HD
          go_wp2_with fail
          go_region_held3 (fun w' => w'.cell? ⟨g, 0, none⟩ = some (.string s) ∧ w'.cell? ⟨g, 1, none⟩ = some (.int .i64 j)) (exact HQ5.out.r.both) (fail)
          have HQ6 := Lib.hid HQ5.out.drew
          clear HQ5
          generalize w5.drew = w6 at *
          go_wp2_with fail
          go_ret2
          exact ⟨by rw [HV.out]; exact ⟨_, j, rfl, hj, HQ6.out.r⟩, HQ6.out.o⟩
        · rw [if_neg hcd] at hst
          have q2 : ((c : Int) == (d : Int)) = false := by simp; omega
          clear hcd
          by_cases h38 : c = 38
          · rw [if_pos h38] at hst
            have q3 : ((c : Int) == 38) = true := by simp; omega
            clear h38
            cases ho : refJ (s.data.toList.drop j) with
            | none =>
              rw [ho] at hst HREF
              have HV : Hid (sayJ e d (s.data.toList.drop k) = none) := by show _ = _; rw [HG.out, hst]; rfl
              clear hst ho HRB HG HBS
              go_wp2_with fail
              go_region_held3 (fun w' => w'.cell? ⟨g, 0, none⟩ = some (.string s) ∧ w'.cell? ⟨g, 1, none⟩ = some (.int .i64 j)) (first | (with_reducible exact K1) | (with_reducible exact K2)) ((go_at_call 24; refine (HD.out _ hR4).mono ?_; rintro x w5 ⟨rfl, b5⟩; have K2 := (hR4.bel b5).both))
              have HQ5 := Lib.hid (HQ.out.drew.bel b5)
              clear HQ b5 K1 K2 hR4 HD
              go_wp2_with fail
              go_region_held3 (fun w' => w'.cell? ⟨g, 0, none⟩ = some (.string s) ∧ w'.cell? ⟨g, 1, none⟩ = some (.int .i64 j)) (exact HQ5.out.r.both) (fail)
              have HQ6 := Lib.hid HQ5.out.drew
              clear HQ5
              generalize w5.drew = w6 at *
              go_wp2_with fail
              refine (HREF.out _ HQ6.out.r).mono ?_
              rintro x w7 ⟨⟨v, j7, rfl, hj7, hR7⟩, hO7⟩
              have HO7 := Lib.hid (HQ6.out.o.trans hO7)
              have HR7 := Lib.hid hR7
              clear hO7 hR7
              go_wp2_with fail
              go_ret2
              exact ⟨by rw [HV.out]; exact ⟨_, j7, rfl, hj7, HR7.out⟩, HO7.out⟩
            | some p =>
              obtain ⟨x, n⟩ := p
              rw [ho] at hst HREF
              dsimp only at hst
              obtain ⟨hn1, hjn, hx4⟩ := HRB.out _ _ ho
              have HST := Lib.hid hst
              have hxz : (strOf x).size = x.length := strOf_size x
              have HXL := Lib.hid (strOf_list x)
              obtain ⟨y, hy⟩ : ∃ y, strOf x = y := ⟨_, rfl⟩
              have HREF2 : Hid (∀ w, Rdr w g s j → Calls Try.prog 55 #[.pointer (some ⟨g, 0, none⟩)] w fun e w' => (e = .returned (.tuple #[.string y, .bool true]) ∧ Rdr w' g s (j + n)) ∧ Only g w w') := by rw [← hy]; exact HREF.out
              rw [hy] at HXL hxz
              clear hst ho HRB HBS hy HREF
              go_wp2_with fail
              go_region_held3 (fun w' => w'.cell? ⟨g, 0, none⟩ = some (.string s) ∧ w'.cell? ⟨g, 1, none⟩ = some (.int .i64 j)) (first | (with_reducible exact K1) | (with_reducible exact K2)) ((go_at_call 24; refine (HD.out _ hR4).mono ?_; rintro x w5 ⟨rfl, b5⟩; have K2 := (hR4.bel b5).both))
              have HQ5 := Lib.hid (HQ.out.drew.bel b5)
              clear HQ b5 K1 K2 hR4 HD
              go_wp2_with fail
              go_region_held3 (fun w' => w'.cell? ⟨g, 0, none⟩ = some (.string s) ∧ w'.cell? ⟨g, 1, none⟩ = some (.int .i64 j)) (exact HQ5.out.r.both) (fail)
              have HQ6 := Lib.hid HQ5.out.drew
              clear HQ5
              generalize w5.drew = w6 at *
              go_wp2_with fail
              refine (HREF2.out _ HQ6.out.r).mono ?_
              rintro z w7 ⟨⟨rfl, hR7⟩, hO7⟩
              have HQ7 := Lib.hid (HQ6.out.only hO7 hR7)
              clear hO7 hR7 HQ6
              have HWr := Lib.hid (writeString_any (b + 1) b a y w7 HQ7.out.bd HQ7.out.n (by omega))
              go_wp2_with fail
              refine HWr.out.mono ?_
              rintro z w8 ⟨rfl, hB8, hb8⟩
              rw [HXL.out] at hB8
              have HQ8 := Lib.hid (HQ7.out.write hB8 hb8)
              clear HQ7 hB8 hb8 HWr
              go_wp2_with fail
              go_roundw
              case rel => exact ⟨j + n, a ++ x, by omega, hjn, by rw [List.length_append]; omega, by
                rw [HG.out, HST.out]
                cases sayJ e d (s.data.toList.drop (j + n)) with
                | none => rfl
                | some p => simp only [Option.map_some, List.append_assoc, Option.some.injEq, Prod.mk.injEq, true_and]; omega, HQ8.out⟩
              case measure =>
                have h1 := HQW.out.r.at_
                have h2 := HQ8.out.r.at_
                omega
          · rw [if_neg h38] at hst
            have q3 : ((c : Int) == 38) = false := by simp; omega
            have HST := Lib.hid hst
            clear h38 hst HREF HRB HBS
            go_wp2_with fail
            go_region_held3 (fun w' => w'.cell? ⟨g, 0, none⟩ = some (.string s) ∧ w'.cell? ⟨g, 1, none⟩ = some (.int .i64 j)) (first | (with_reducible exact K1) | (with_reducible exact K2)) ((go_at_call 24; refine (HD.out _ hR4).mono ?_; rintro x w5 ⟨rfl, b5⟩; have K2 := (hR4.bel b5).both))
            have HQ5 := Lib.hid (HQ.out.drew.bel b5)
            clear HQ b5 K1 K2 hR4 HD
            go_wp2_with fail
            go_region_held3 (fun w' => w'.cell? ⟨g, 0, none⟩ = some (.string s) ∧ w'.cell? ⟨g, 1, none⟩ = some (.int .i64 j)) (exact HQ5.out.r.both) (fail)
            have HQ6 := Lib.hid HQ5.out.drew
            clear HQ5
            generalize w5.drew = w6 at *
            have HWr := Lib.hid (writeByte_any (b + 1) b a c w6 HQ6.out.bd HQ6.out.n (by omega) y0)
            go_wp2_with fail
            refine HWr.out.mono ?_
            rintro z w8 ⟨rfl, hB8, hb8⟩
            have HQ8 := Lib.hid (HQ6.out.write hB8 hb8)
            have c1 := HQ8.out.r.c1
            have f1 := HQ8.out.r.f1
            clear HQ6 hB8 hb8 HWr
            have HQ9 : Hid (QT w g s b (j + 1) (a ++ [UInt8.ofNat c]) (w8.setCell ⟨g, 1, none⟩ (.int .i64 ((j : Int) + 1)))) := HQ8.out.set (j + 1)
            go_wp2_with fail
            go_roundw
            case rel => exact ⟨j + 1, a ++ [UInt8.ofNat c], by omega, by omega, by rw [List.length_append]; simp; omega, by
              rw [HG.out, HST.out]
              cases sayJ e d (s.data.toList.drop (j + 1)) with
              | none => rfl
              | some p => simp only [Option.map_some, List.append_assoc, List.singleton_append, Option.some.injEq, Prod.mk.injEq, true_and]; omega, HQ9.out⟩
            case measure =>
              have h1 := HQW.out.r.at_
              have h2 := HQ9.out.r.at_
              omega
    · obtain rfl : j = s.size := by omega
      have HD := Lib.hid (fun w hR => done_yes g s.size s w hR (by omega) hs (Nat.le_refl _))
      have HV : Hid (sayJ e d (s.data.toList.drop k) = some (a, s.size - k)) := by show _ = _; rw [HG.out, sayJ_end (Nat.le_refl _)]; simp
      clear HG
      go_wp2_with fail
      refine wp_region_held_drew (S := (fun w' => w'.cell? ⟨g, 0, none⟩ = some (.string s) ∧ w'.cell? ⟨g, 1, none⟩ = some (.int .i64 s.size))) (by kernel_rfl) (by exact K1) (fun hHeld => ?_)
      refine wpAnyH_take (i := 0) (v := ?_) rfl (by kernel_rfl) (by kernel_rfl) (by kernel_rfl) (fun _ _ _ h => h) (Or.inl ⟨by rfl, ?_⟩) (by assumption) ?_
      rotate_left
      · intro w hSw
        go_simp
        try rfl
      simp only [Act.put, List.setIfInBounds_toArray, List.set_cons_zero, List.set_cons_succ, List.getElem_toArray, List.getElem_cons_succ, List.getElem_cons_zero]
      refine wpAnyH_take (i := 1) (v := ?_) rfl (by kernel_rfl) (by kernel_rfl) (by kernel_rfl) (fun _ _ _ h => h) (Or.inl ⟨by rfl, ?_⟩) (by assumption) ?_
      rotate_left
      · intro w hSw
        go_simp
        try rfl
      simp only [Act.put, List.setIfInBounds_toArray, List.set_cons_zero, List.set_cons_succ, List.getElem_toArray, List.getElem_cons_succ, List.getElem_cons_zero]
      refine wpAnyH_take (i := 2) (v := ?_) rfl (by kernel_rfl) (by kernel_rfl) (by kernel_rfl) (fun _ _ _ h => h) (Or.inl ⟨by rfl, ?_⟩) (by assumption) ?_
      rotate_left
      · intro w hSw
        go_simp
        try rfl
      simp only [Act.put, List.setIfInBounds_toArray, List.set_cons_zero, List.set_cons_succ, List.getElem_toArray, List.getElem_cons_succ, List.getElem_cons_zero]
      refine wpAnyH_ready (rs := [3]) (by kernel_rfl) (by simp) ?_
      refine AllReadyH.cons rfl (fun K9 hK => ?_) AllReadyH.nil
      go_simp
      go_at_call 24
      refine (HD.out _ hR4).mono ?_
      rintro x w5 ⟨rfl, b5⟩
      have K2 := (hR4.bel b5).both

      try go_wp2_with fail
      refine hK.out _ _ (by exact K2) (fun hHeld => ?_)
      clear hK K9
      try simp only [Act.put, List.setIfInBounds_toArray, List.set_cons_zero, List.set_cons_succ, List.getElem_toArray, List.getElem_cons_succ, List.getElem_cons_zero]
      refine wpAnyH_take (i := 4) (v := ?_) rfl (by kernel_rfl) (by kernel_rfl) (by kernel_rfl) (fun _ _ _ h => h) (Or.inl ⟨by rfl, ?_⟩) (by assumption) ?_
      rotate_left
      · intro w hSw
        go_simp
        try rfl
      simp only [Act.put, List.setIfInBounds_toArray, List.set_cons_zero, List.set_cons_succ, List.getElem_toArray, List.getElem_cons_succ, List.getElem_cons_zero]
      refine wpAnyH_take (i := 5) (v := ?_) rfl (by kernel_rfl) (by kernel_rfl) (by kernel_rfl) (fun _ _ _ h => h) (Or.inl ⟨by rfl, ?_⟩) (by assumption) ?_
      rotate_left
      · intro w hSw
        go_simp
        try rfl
      simp only [Act.put, List.setIfInBounds_toArray, List.set_cons_zero, List.set_cons_succ, List.getElem_toArray, List.getElem_cons_succ, List.getElem_cons_zero]
      refine wpAnyH_take (i := 6) (v := undef) rfl (by kernel_rfl) (by kernel_rfl) (by kernel_rfl) (fun _ _ _ h => h) (Or.inr ⟨by rfl, rfl⟩) (by assumption) ?_
      simp only [Act.put, List.setIfInBounds_toArray, List.set_cons_zero, List.set_cons_succ, List.getElem_toArray, List.getElem_cons_succ, List.getElem_cons_zero]
      refine wpAnyH_take (i := 7) (v := undef) rfl (by kernel_rfl) (by kernel_rfl) (by kernel_rfl) (fun _ _ _ h => h) (Or.inr ⟨by rfl, rfl⟩) (by assumption) ?_
      simp only [Act.put, List.setIfInBounds_toArray, List.set_cons_zero, List.set_cons_succ, List.getElem_toArray, List.getElem_cons_succ, List.getElem_cons_zero]
      refine wpAnyH_take (i := 8) (v := undef) rfl (by kernel_rfl) (by kernel_rfl) (by kernel_rfl) (fun _ _ _ h => h) (Or.inr ⟨by rfl, rfl⟩) (by assumption) ?_
      simp only [Act.put, List.setIfInBounds_toArray, List.set_cons_zero, List.set_cons_succ, List.getElem_toArray, List.getElem_cons_succ, List.getElem_cons_zero]
      refine wpAnyH_take (i := 9) (v := undef) rfl (by kernel_rfl) (by kernel_rfl) (by kernel_rfl) (fun _ _ _ h => h) (Or.inr ⟨by rfl, rfl⟩) (by assumption) ?_
      simp only [Act.put, List.setIfInBounds_toArray, List.set_cons_zero, List.set_cons_succ, List.getElem_toArray, List.getElem_cons_succ, List.getElem_cons_zero]
      refine wpAnyH_take (i := 10) (v := undef) rfl (by kernel_rfl) (by kernel_rfl) (by kernel_rfl) (fun _ _ _ h => h) (Or.inr ⟨by rfl, rfl⟩) (by assumption) ?_
      simp only [Act.put, List.setIfInBounds_toArray, List.set_cons_zero, List.set_cons_succ, List.getElem_toArray, List.getElem_cons_succ, List.getElem_cons_zero]
      refine wpAnyH_take (i := 11) (v := undef) rfl (by kernel_rfl) (by kernel_rfl) (by kernel_rfl) (fun _ _ _ h => h) (Or.inr ⟨by rfl, rfl⟩) (by assumption) ?_
      simp only [Act.put, List.setIfInBounds_toArray, List.set_cons_zero, List.set_cons_succ, List.getElem_toArray, List.getElem_cons_succ, List.getElem_cons_zero]
      refine wpAnyH_take (i := 12) (v := undef) rfl (by kernel_rfl) (by kernel_rfl) (by kernel_rfl) (fun _ _ _ h => h) (Or.inr ⟨by rfl, rfl⟩) (by assumption) ?_
      simp only [Act.put, List.setIfInBounds_toArray, List.set_cons_zero, List.set_cons_succ, List.getElem_toArray, List.getElem_cons_succ, List.getElem_cons_zero]
      refine wpAnyH_take (i := 13) (v := undef) rfl (by kernel_rfl) (by kernel_rfl) (by kernel_rfl) (fun _ _ _ h => h) (Or.inr ⟨by rfl, rfl⟩) (by assumption) ?_
      simp only [Act.put, List.setIfInBounds_toArray, List.set_cons_zero, List.set_cons_succ, List.getElem_toArray, List.getElem_cons_succ, List.getElem_cons_zero]
      refine wpAnyH_take (i := 14) (v := undef) rfl (by kernel_rfl) (by kernel_rfl) (by kernel_rfl) (fun _ _ _ h => h) (Or.inr ⟨by rfl, rfl⟩) (by assumption) ?_
      simp only [Act.put, List.setIfInBounds_toArray, List.set_cons_zero, List.set_cons_succ, List.getElem_toArray, List.getElem_cons_succ, List.getElem_cons_zero]
      refine wpAnyH_take (i := 15) (v := undef) rfl (by kernel_rfl) (by kernel_rfl) (by kernel_rfl) (fun _ _ _ h => h) (Or.inr ⟨by rfl, rfl⟩) (by assumption) ?_
      simp only [Act.put, List.setIfInBounds_toArray, List.set_cons_zero, List.set_cons_succ, List.getElem_toArray, List.getElem_cons_succ, List.getElem_cons_zero]
      refine wpAnyH_take (i := 16) (v := undef) rfl (by kernel_rfl) (by kernel_rfl) (by kernel_rfl) (fun _ _ _ h => h) (Or.inr ⟨by rfl, rfl⟩) (by assumption) ?_
      simp only [Act.put, List.setIfInBounds_toArray, List.set_cons_zero, List.set_cons_succ, List.getElem_toArray, List.getElem_cons_succ, List.getElem_cons_zero]
      refine wpAnyH_take (i := 17) (v := undef) rfl (by kernel_rfl) (by kernel_rfl) (by kernel_rfl) (fun _ _ _ h => h) (Or.inr ⟨by rfl, rfl⟩) (by assumption) ?_
      simp only [Act.put, List.setIfInBounds_toArray, List.set_cons_zero, List.set_cons_succ, List.getElem_toArray, List.getElem_cons_succ, List.getElem_cons_zero]
      refine wpAnyH_take (i := 18) (v := undef) rfl (by kernel_rfl) (by kernel_rfl) (by kernel_rfl) (fun _ _ _ h => h) (Or.inr ⟨by rfl, rfl⟩) (by assumption) ?_
      simp only [Act.put, List.setIfInBounds_toArray, List.set_cons_zero, List.set_cons_succ, List.getElem_toArray, List.getElem_cons_succ, List.getElem_cons_zero]
      refine wpAnyH_take (i := 19) (v := ?_) rfl (by kernel_rfl) (by kernel_rfl) (by kernel_rfl) (fun _ _ _ h => h) (Or.inl ⟨by rfl, ?_⟩) (by assumption) ?_
      rotate_left
      · intro w hSw
        go_simp
        try rfl
      simp only [Act.put, List.setIfInBounds_toArray, List.set_cons_zero, List.set_cons_succ, List.getElem_toArray, List.getElem_cons_succ, List.getElem_cons_zero]
      refine wpAnyH_done (by kernel_rfl) ?_ _
      clear hHeld
      have HQ5 := Lib.hid (HQ.out.drew.bel b5)
      clear HQ b5 K1 K2 hR4 HD
      go_wp2_with fail
      refine (HBS.out _ HQ5.out.bd (by have := HQ5.out.n; omega)).mono ?_
      rintro x w6 ⟨rfl, b6⟩
      have HR6 : Hid (Rdr w6 g s s.size) := HQ5.out.r.below b6 (by have := HQ5.out.lg; have := HQ5.out.lb; omega)
      have HO6 := Lib.hid (HQ5.out.o.low b6 HQ5.out.lb)
      clear b6
      go_wp2_with fail
      go_ret2
      exact ⟨by rw [HV.out]; exact ⟨rfl, by rw [show k + (s.size - k) = s.size by omega]; exact HR6.out⟩, HO6.out⟩
end Go.Proofs.Ytlogjghbdnaedaa
