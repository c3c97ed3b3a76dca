/- Walks: the program's Nested (chapter 11). -/
import Derived.Test.YtlogjghbdnaedaaTgN
import Derived.Test.YtlogjghbdnaedaaTgX
import Derived.Outline
namespace Go.Proofs.Ytlogjghbdnaedaa
open Go.RowKit
set_option linter.unusedVariables false
set_option linter.unusedSimpArgs false
def strG (op : List (List UInt8)) : List Value := op.map fun x => .string (strOf x)
theorem strG_len (op : List (List UInt8)) : (strG op).length = op.length := by simp [strG]
theorem strG_app (op : List (List UInt8)) (x : List UInt8) : strG (op ++ [x]) = strG op ++ [.string (strOf x)] := by simp [strG]
theorem infoST : (Try.prog.info? 9).map (fun i => (i.zero, i.size, i.bytes)) = some (some (.string ⟨#[]⟩), 1, 16) := by kernel_rfl
/-- A row's last cell, and the row without it. -/
theorem row_topT {w : World} {base : Nat} {v : Value} {x : List UInt8} {r : List (List UInt8)} (h : w.ownsRow base 9 1 v (r ++ [x]).length (strG (r ++ [x]))) :
    ∃ g cap, v = .slice (some ⟨g, 0, none⟩) (r.length + 1) cap ∧ g < w.heap.size ∧ w.cell? ⟨g, r.length, none⟩ = some (.string (strOf x)) ∧ r.length + 1 ≤ cap ∧ w.ownsRow base 9 1 (.slice (some ⟨g, 0, none⟩) r.length cap) r.length (strG r) := by
  have hl : (r ++ [x]).length = r.length + 1 := by simp
  rcases h.2 with ⟨_, h0⟩ | ⟨g, cap, cur, hv, hb, hh, r1, r2, r3, r4⟩
  · simp at h0
  · subst hv
    have htop : (strG (r ++ [x]))[r.length]? = some (.string (strOf x)) := by rw [strG_app, List.getElem?_append_right (by rw [strG_len]; exact Nat.le_refl _), strG_len, Nat.sub_self]; rfl
    refine ⟨g, cap, by rw [hl], (Array.getElem?_eq_some_iff.1 hh).1, (h.cellAt r.length (by simp)).trans htop, by omega, by rw [strG_len]; simp, .inr ⟨g, cap, cur, rfl, hb, hh, by omega, r2, r3, ?_⟩⟩
    rw [strG_app] at r4
    have h4 := congrArg (List.take r.length) r4
    have h5 : List.take r.length (strG r ++ [Value.string (strOf x)]) = strG r := by
      have := List.take_left (l₁ := strG r) (l₂ := [Value.string (strOf x)])
      rwa [strG_len] at this
    rw [List.take_take, Nat.min_eq_left (by simp), h5] at h4
    rw [Nat.mul_one]; exact h4
theorem take_step {α : Type} {l : List α} {k : Nat} {t : α} (h : l[k]? = some t) : l.drop k = t :: l.drop (k + 1) := by
  obtain ⟨h1, h2⟩ := List.getElem?_eq_some_iff.1 h
  rw [List.drop_eq_getElem_cons h1, h2]
theorem top_or (op : List (List UInt8)) : op = [] ∨ ∃ r x, op = r ++ [x] := by
  rcases List.eq_nil_or_concat op with h | ⟨r, x, h⟩
  · exact .inl h
  · exact .inr ⟨r, x, by rw [h]; simp⟩
set_option maxRecDepth 100000 in
set_option maxHeartbeats 16000000 in
theorem tnested (ts : List Tg) (ok : Nat → Prop) (pl : Bool) (v0 : Value) (w : World) (ht : TgsV w ok pl ts v0) (hl : ts.length ≤ 1000000) :
    Calls Try.prog 15 #[v0] w fun e w' => e = .returned (.bool (nestB ts)) ∧ Below w.heap.size w w' := by
  obtain ⟨a0, p0, rfl⟩ := tgsV_len ht
  have HT := Lib.hid ht
  clear ht
  obtain ⟨R, hR⟩ : ∃ R, nestB ts = R := ⟨_, rfl⟩
  rw [hR]
  have HR := Lib.hid hR
  clear hR
  go_enter Try.func15, Try.ntmps15
  go_wp2_with fail
  go_loopw [3, 9] (fun v z wr => ∃ (k : Nat) (op : List (List UInt8)), z = .int .i64 k ∧ k ≤ ts.length ∧ op.length ≤ 32 ∧ wr.ownsRow w.heap.size 9 1 v op.length (strG op) ∧ R = nestF op (ts.drop k) ∧ Below w.heap.size w wr) (fun _ z _ => ts.length - (intOf z).toNat)
  case atStart => exact ⟨0, [], rfl, Nat.zero_le _, by simp, World.ownsRow_nil _ _ _ _, by rw [← HR.out]; rfl, Below.refl _ _⟩
  case round =>
    obtain ⟨k, op, rfl, hk, ho32, how, hr, hb⟩ := hrel
    have HOW := Lib.hid how
    have HV0 := Lib.hid hr
    have HB := Lib.hid hb
    obtain ⟨o6, m6, c6, rfl⟩ := own_shapeT how
    have hmm : m6 = op.length := by
      rcases how.2 with ⟨h1, h2⟩ | ⟨g1, cap1, cur1, h1, _⟩
      · simp only [Value.slice.injEq] at h1; omega
      · simp only [Value.slice.injEq] at h1; omega
    subst hmm
    by_cases hlt : k < ts.length
    · obtain ⟨t, htk⟩ : ∃ t, ts[k]? = some t := ⟨_, List.getElem?_eq_getElem hlt⟩
      obtain ⟨g, o, cap, d, e, f, hv, hgl, p0', p1, p2, p3, p4, p5, hpl, cs, hrow, hac⟩ := tg_at HT.out htk hb
      simp only [Value.slice.injEq] at hv
      obtain ⟨rfl, _, rfl⟩ := hv
      obtain ⟨x4, x5, rfl, rfl, _⟩ := hpl
      obtain ⟨ra, rc, rfl⟩ := rowG_len hrow
      have HST : Hid (R = nestF op (t :: ts.drop (k + 1))) := by show _ = _; rw [HV0.out, take_step htk]
      have HVD := Lib.hid (fun w => tvoid (strOf t.name) w)
      rw [strOf_list] at HVD
      obtain ⟨n, hn⟩ : ∃ n, strOf t.name = n := ⟨_, rfl⟩
      obtain ⟨n2, hn2⟩ : ∃ n, strOf t.text = n := ⟨_, rfl⟩
      have HN := Lib.hid hn
      rw [hn] at p1 HVD
      rw [hn2] at p2
      have HW1 := Lib.hid (how.alloc (.cells #[.int .u8 t.kind, .string n, .string n2, .slice ra t.atts.length rc, .int .i64 x4, .int .i64 x5] 45))
      have HB1 := Lib.hid (hb.alloc hb.size (.cells #[.int .u8 t.kind, .string n, .string n2, .slice ra t.atts.length rc, .int .i64 x4, .int .i64 x5] 45))
      have HD1 := Lib.hid (Blk.new wr 45 #[.int .u8 t.kind, .string n, .string n2, .slice ra t.atts.length rc, .int .i64 x4, .int .i64 x5])
      clear how hr hb htk hrow hac hn hn2 HV0
      go_upto_region 5 with fail
      generalize hW : wr.alloc (.cells #[.int .u8 t.kind, .string n, .string n2, .slice ra t.atts.length rc, .int .i64 x4, .int .i64 x5] 45) = W1 at *
      generalize wr.heap.size = D at *
      clear hW p0' p1 p2 p3 p4 p5
      have d0 := HD1.out.cell 0
      have d1 := HD1.out.cell 1
      obtain ⟨q, hq⟩ : ∃ q, t.kind = q := ⟨_, rfl⟩
      have HQ := Lib.hid hq
      rw [hq] at d0
      clear hq
      by_cases h111 : q = 111
      · have z1 : ((q : Int) == 111) = true := by simp; omega
        have z2 : ((q : Int) == 99) = false := by simp; omega
        cases hvd : isVoid t.name with
        | true =>
          have HS : Hid (R = nestF op (ts.drop (k + 1))) := by show _ = _; rw [HST.out, nestF_pass (fun h => by rw [hvd] at h; cases h.2) (by rw [HQ.out]; omega)]
          rw [hvd] at HVD
          clear hvd HST
          go_wp2_with fail
          refine (HVD.out _).mono ?_
          rintro y w5 ⟨rfl, rfl⟩
          go_wp2_with fail
          go_roundw
          case rel => exact ⟨k + 1, op, by go_num, hlt, ho32, HW1.out, HS.out, HB1.out⟩
          case measure => simp [intOf]; omega
        | false =>
          have HS : Hid (R = if 32 ≤ op.length then false else nestF (op ++ [t.name]) (ts.drop (k + 1))) := by show _ = _; rw [HST.out, nestF_open ⟨by rw [HQ.out]; omega, hvd⟩]
          rw [hvd] at HVD
          clear hvd HST
          obtain ⟨i0, hi, hz0, hz1, hz2⟩ := info_parts infoST
          have e3 : op.length + 1 ≤ maxLen := by unfold maxLen; omega
          have e4 : (op.length + 1) * 16 ≤ 140737488355328 := by omega
          have e5 : w.heap.size ≤ (W1.alloc (.cells #[.string n] 9)).heap.size := by have := HB1.out.size; simp; omega
          have hnc := HW1.out.alloc (.cells #[.string n] 9)
          by_cases h32 : 32 ≤ op.length
          · have HV : Hid (R = false) := by show _ = _; rw [HS.out, if_pos h32]
            have h33 : (32 : Int) < (op.length : Int) + 1 := by omega
            go_wp2_with fail
            refine (HVD.out _).mono ?_
            rintro y w5 ⟨rfl, rfl⟩
            go_wp2_with (at_builtin; refine wpList_append_lies _ rfl _ _ 59 rfl w.heap.size 9 i0 (.string ⟨#[]⟩) 1 16 Try.underlying59 hi hz0 hz1 hz2 rfl (by decide) (.slice o6 op.length c6) op.length (strG op) rfl hnc ⟨W1.heap.size, 0, none⟩ 1 1 [.string n] rfl rfl (cells_newT W1 #[.string n] _) (by simp [Value.oneCell']) (by omega) e3 e4 e5 (W1.heap.size + 1) (by simp) ?_; intro g3 cap3 w3 hown3 hgrow3 hfr3 hlt3)
            go_ret
            exact ⟨by rw [HV.out]; rfl, below_grown HB1.out HB1.out.size HW1.out hgrow3⟩
          · have HV : Hid (R = nestF (op ++ [t.name]) (ts.drop (k + 1))) := by show _ = _; rw [HS.out, if_neg h32]
            have h33 : ¬ (32 : Int) < (op.length : Int) + 1 := by omega
            go_wp2_with fail
            refine (HVD.out _).mono ?_
            rintro y w5 ⟨rfl, rfl⟩
            go_wp2_with (at_builtin; refine wpList_append_lies _ rfl _ _ 59 rfl w.heap.size 9 i0 (.string ⟨#[]⟩) 1 16 Try.underlying59 hi hz0 hz1 hz2 rfl (by decide) (.slice o6 op.length c6) op.length (strG op) rfl hnc ⟨W1.heap.size, 0, none⟩ 1 1 [.string n] rfl rfl (cells_newT W1 #[.string n] _) (by simp [Value.oneCell']) (by omega) e3 e4 e5 (W1.heap.size + 1) (by simp) ?_; intro g3 cap3 w3 hown3 hgrow3 hfr3 hlt3)
            have hown4 : w3.ownsRow w.heap.size 9 1 (.slice (some ⟨g3, 0, none⟩) (op.length + 1) cap3) (op ++ [t.name]).length (strG (op ++ [t.name])) := by
              rw [strG_app, List.length_append, HN.out]; exact hown3
            have HOW4 := Lib.hid hown4
            go_roundw
            case rel => exact ⟨k + 1, op ++ [t.name], by go_num, hlt, by rw [List.length_append]; simp; omega, HOW4.out, HV.out, below_grown HB1.out HB1.out.size HW1.out hgrow3⟩
            case measure => simp [intOf]; omega
      · have z1 : ((q : Int) == 111) = false := by simp; omega
        by_cases h99 : q = 99
        · have z2 : ((q : Int) == 99) = true := by simp; omega
          have HS : Hid (R = if op ≠ [] ∧ op.getD (op.length - 1) [] = t.name then nestF (op.take (op.length - 1)) (ts.drop (k + 1)) else false) := by show _ = _; rw [HST.out, nestF_close (by rw [HQ.out]; omega)]
          rcases top_or op with rfl | ⟨r, x, rfl⟩
          · have HV : Hid (R = false) := by show _ = _; rw [HS.out, if_neg (fun h => h.1 rfl)]
            clear HST HS h111 h99
            go_wp2_with fail
            refine wp_region_held_drew (S := (fun _ => True)) (by kernel_rfl) (by trivial) (fun hHeld => ?_)
            refine wpAnyH_take (i := 0) (v := ?_) rfl (by kernel_rfl) (by kernel_rfl) (by kernel_rfl) (fun _ _ _ h => h) (Or.inl ⟨by rfl, ?_⟩) (by assumption) ?_
            rotate_left
            · intro w hSw
              go_simp
              try rfl
            simp only [Act.put, List.setIfInBounds_toArray, List.set_cons_zero, List.set_cons_succ, List.getElem_toArray, List.getElem_cons_succ, List.getElem_cons_zero]
            refine wpAnyH_take (i := 1) (v := ?_) rfl (by kernel_rfl) (by kernel_rfl) (by kernel_rfl) (fun _ _ _ h => h) (Or.inl ⟨by rfl, ?_⟩) (by assumption) ?_
            rotate_left
            · intro w hSw
              go_simp
              try rfl
            simp only [Act.put, List.setIfInBounds_toArray, List.set_cons_zero, List.set_cons_succ, List.getElem_toArray, List.getElem_cons_succ, List.getElem_cons_zero]
            refine wpAnyH_take (i := 2) (v := ?_) rfl (by kernel_rfl) (by kernel_rfl) (by kernel_rfl) (fun _ _ _ h => h) (Or.inl ⟨by rfl, ?_⟩) (by assumption) ?_
            rotate_left
            · intro w hSw
              go_simp
              try rfl
            simp only [Act.put, List.setIfInBounds_toArray, List.set_cons_zero, List.set_cons_succ, List.getElem_toArray, List.getElem_cons_succ, List.getElem_cons_zero]
            refine wpAnyH_take (i := 3) (v := undef) rfl (by kernel_rfl) (by kernel_rfl) (by kernel_rfl) (fun _ _ _ h => h) (Or.inr ⟨by rfl, rfl⟩) (by assumption) ?_
            simp only [Act.put, List.setIfInBounds_toArray, List.set_cons_zero, List.set_cons_succ, List.getElem_toArray, List.getElem_cons_succ, List.getElem_cons_zero]
            refine wpAnyH_take (i := 4) (v := undef) rfl (by kernel_rfl) (by kernel_rfl) (by kernel_rfl) (fun _ _ _ h => h) (Or.inr ⟨by rfl, rfl⟩) (by assumption) ?_
            simp only [Act.put, List.setIfInBounds_toArray, List.set_cons_zero, List.set_cons_succ, List.getElem_toArray, List.getElem_cons_succ, List.getElem_cons_zero]
            refine wpAnyH_take (i := 5) (v := undef) rfl (by kernel_rfl) (by kernel_rfl) (by kernel_rfl) (fun _ _ _ h => h) (Or.inr ⟨by rfl, rfl⟩) (by assumption) ?_
            simp only [Act.put, List.setIfInBounds_toArray, List.set_cons_zero, List.set_cons_succ, List.getElem_toArray, List.getElem_cons_succ, List.getElem_cons_zero]
            refine wpAnyH_take (i := 6) (v := undef) rfl (by kernel_rfl) (by kernel_rfl) (by kernel_rfl) (fun _ _ _ h => h) (Or.inr ⟨by rfl, rfl⟩) (by assumption) ?_
            simp only [Act.put, List.setIfInBounds_toArray, List.set_cons_zero, List.set_cons_succ, List.getElem_toArray, List.getElem_cons_succ, List.getElem_cons_zero]
            refine wpAnyH_take (i := 7) (v := undef) rfl (by kernel_rfl) (by kernel_rfl) (by kernel_rfl) (fun _ _ _ h => h) (Or.inr ⟨by rfl, rfl⟩) (by assumption) ?_
            simp only [Act.put, List.setIfInBounds_toArray, List.set_cons_zero, List.set_cons_succ, List.getElem_toArray, List.getElem_cons_succ, List.getElem_cons_zero]
            refine wpAnyH_take (i := 8) (v := undef) rfl (by kernel_rfl) (by kernel_rfl) (by kernel_rfl) (fun _ _ _ h => h) (Or.inr ⟨by rfl, rfl⟩) (by assumption) ?_
            simp only [Act.put, List.setIfInBounds_toArray, List.set_cons_zero, List.set_cons_succ, List.getElem_toArray, List.getElem_cons_succ, List.getElem_cons_zero]
            refine wpAnyH_take (i := 9) (v := undef) rfl (by kernel_rfl) (by kernel_rfl) (by kernel_rfl) (fun _ _ _ h => h) (Or.inr ⟨by rfl, rfl⟩) (by assumption) ?_
            simp only [Act.put, List.setIfInBounds_toArray, List.set_cons_zero, List.set_cons_succ, List.getElem_toArray, List.getElem_cons_succ, List.getElem_cons_zero]
            refine wpAnyH_take (i := 10) (v := ?_) rfl (by kernel_rfl) (by kernel_rfl) (by kernel_rfl) (fun _ _ _ h => h) (Or.inl ⟨by rfl, ?_⟩) (by assumption) ?_
            rotate_left
            · intro w hSw
              go_simp
              try rfl
            simp only [Act.put, List.setIfInBounds_toArray, List.set_cons_zero, List.set_cons_succ, List.getElem_toArray, List.getElem_cons_succ, List.getElem_cons_zero]
            refine wpAnyH_done (by kernel_rfl) ?_ _
            clear hHeld
            go_wp2_with fail
            go_ret
            exact ⟨by rw [HV.out]; rfl, HB1.out.drew⟩
          · have hlen : (r ++ [x]).length = r.length + 1 := by simp
            obtain ⟨g1, cap1, hv1, hg1, c1, hc1, hown1⟩ := row_topT HW1.out
            simp only [Value.slice.injEq] at hv1
            obtain ⟨rfl, _, rfl⟩ := hv1
            have HOWN := Lib.hid hown1
            have hrl : r.length ≤ 32 := by omega
            have HS2 : Hid (R = if x = t.name then nestF r (ts.drop (k + 1)) else false) := by
              show _ = _
              rw [HS.out, hlen, Nat.add_sub_cancel, List.take_left]
              have e : (r ++ [x]).getD r.length [] = x := by simp [List.getD_eq_getElem?_getD]
              rw [e]
              by_cases h : x = t.name
              · rw [if_pos ⟨by simp, h⟩, if_pos h]
              · rw [if_neg (fun h2 => h h2.2), if_neg h]
            have hse := str_eqT x t.name
            rw [HN.out] at hse
            have K1 : W1.drew.cell? ⟨g1, r.length, none⟩ = some (.string (strOf x)) ∧ W1.drew.cell? ⟨D, 1, none⟩ = some (.string n) := ⟨c1, d1⟩
            obtain ⟨b, hb2⟩ : ∃ b, decide (x = t.name) = b := ⟨_, rfl⟩
            rw [hb2] at hse
            have HBX := Lib.hid hb2
            have hs1 : (r.length : Int) + 1 - 1 = r.length := by omega
            have hs2 : IntKind.i64.wrap (r.length : Int) = r.length := IntWalk.i64_in _ (by omega)
            have hs3 : (0 : Int) ≤ (r.length : Int) := by omega
            have hs4 : (r.length : Int) < (r.length : Int) + 1 := by omega
            have hs5 : IntKind.i64.wrap ((r.length : Int) + 1 - 1) = r.length := by rw [hs1]; exact hs2
            have hs6 : ¬ (r.length : Int) < 0 := by omega
            have hs7 : r.length < r.length + 1 := by omega
            rw [hlen]
            clear HST HS h111 h99 hown1 hb2 hlen HOW HW1 c1
            generalize strOf x = xx at *
            cases b
            · have HV : Hid (R = false) := by show _ = _; rw [HS2.out, if_neg (of_decide_eq_false HBX.out)]
              go_wp2_with fail
              go_region_held3 (fun w' => w'.cell? ⟨g1, r.length, none⟩ = some (.string xx) ∧ w'.cell? ⟨D, 1, none⟩ = some (.string n)) (exact K1) (fail)
              go_wp2_with fail
              go_ret
              exact ⟨by rw [HV.out]; rfl, HB1.out.drew⟩
            · have HV : Hid (R = nestF r (ts.drop (k + 1))) := by show _ = _; rw [HS2.out, if_pos (of_decide_eq_true HBX.out)]
              go_wp2_with fail
              go_region_held3 (fun w' => w'.cell? ⟨g1, r.length, none⟩ = some (.string xx) ∧ w'.cell? ⟨D, 1, none⟩ = some (.string n)) (exact K1) (fail)
              go_wp2_with fail
              go_roundw
              case rel => exact ⟨k + 1, r, by go_num, hlt, hrl, HOWN.out, HV.out, HB1.out.drew⟩
              case measure => simp [intOf]; omega
        · have z2 : ((q : Int) == 99) = false := by simp; omega
          have HS : Hid (R = nestF op (ts.drop (k + 1))) := by show _ = _; rw [HST.out, nestF_pass (fun h => by rw [HQ.out] at h; exact h111 h.1) (by rw [HQ.out]; exact h99)]
          clear HST h111 h99
          go_wp2_with fail
          go_roundw
          case rel => exact ⟨k + 1, op, by go_num, hlt, ho32, HW1.out, HS.out, HB1.out⟩
          case measure => simp [intOf]; omega
    · have HV : Hid (R = decide (op = [])) := by show _ = _; rw [HV0.out, List.drop_eq_nil_of_le (by omega)]; rfl
      clear hb hr how HV0
      cases op with
      | nil =>
        go_wp2_with fail
        go_ret
        exact ⟨by rw [HV.out]; rfl, HB.out⟩
      | cons a as_ =>
        have z1 : (((a :: as_).length : Int) == 0) = false := by simp; omega
        go_wp2_with fail
        go_ret
        exact ⟨by rw [HV.out]; rfl, HB.out⟩
end Go.Proofs.Ytlogjghbdnaedaa

/- Walks: the page's examples (chapter 11). -/
namespace Go.Proofs.Ytlogjghbdnaedaa
open Go.RowKit
set_option linter.unusedVariables false
set_option linter.unusedSimpArgs false
def exA : List UInt8 := [60, 112, 32, 99, 108, 97, 115, 115, 61, 34, 120, 34, 62, 97, 38, 108, 116, 59, 60, 47, 112, 62]
def exT : List Tg := [⟨111, [112], [], [⟨[99, 108, 97, 115, 115], [120], 10, 11⟩], 0, 13⟩, ⟨116, [], [97, 60], [], 13, 18⟩, ⟨99, [112], [], [], 18, 22⟩]
theorem exA_tags : tagsJ exA = some exT := by rfl
theorem exT_nest : nestB exT = true := by rfl
def exB : List UInt8 := [60, 115, 99, 114, 105, 112, 116, 62]
theorem exB_tags : tagsJ exB = none := by rfl
def exC : List UInt8 := [60, 112, 32, 111, 110, 99, 108, 105, 99, 107, 61, 34, 120, 34, 62]
theorem exC_tags : tagsJ exC = none := by rfl
def exD : List UInt8 := [97, 62, 98]
theorem exD_tags : tagsJ exD = none := by rfl
theorem tok_const (l : List UInt8) (o : Option (List Tg)) (w : World) (hl : l.length ≤ 100000) (h : tagsJ l = o) :
    Calls Try.prog 8 #[.string (strOf l)] w fun e w' => TokT o w.heap.size e w' ∧ Below w.heap.size w w' := by
  have h2 := ttokens (strOf l) w (by rw [strOf_size]; omega)
  rw [strOf_list, h] at h2
  exact h2
set_option maxRecDepth 100000 in
set_option maxHeartbeats 16000000 in
theorem awake11_any (w : World) :
    Calls Try.prog 13 #[] w fun e w' => e = .returned (.bool true) ∧ Below w.heap.size w w' := by
  have HA : Hid (∀ w, Calls Try.prog 8 #[.string ⟨#[60, 112, 32, 99, 108, 97, 115, 115, 61, 34, 120, 34, 62, 97, 38, 108, 116, 59, 60, 47, 112, 62]⟩] w fun e w' => (∃ v, e = .returned (.tuple #[v, .int .i64 0]) ∧ TgsV w' (fun b => w.heap.size ≤ b) true exT v) ∧ Below w.heap.size w w') := fun w => tok_const exA _ w (by decide) exA_tags
  have HBb : Hid (∀ w, Calls Try.prog 8 #[.string ⟨#[60, 115, 99, 114, 105, 112, 116, 62]⟩] w fun e w' => e = .returned (.tuple #[.slice none 0 0, .int .i64 7]) ∧ Below w.heap.size w w') := fun w => tok_const exB _ w (by decide) exB_tags
  have HC : Hid (∀ w, Calls Try.prog 8 #[.string ⟨#[60, 112, 32, 111, 110, 99, 108, 105, 99, 107, 61, 34, 120, 34, 62]⟩] w fun e w' => e = .returned (.tuple #[.slice none 0 0, .int .i64 7]) ∧ Below w.heap.size w w') := fun w => tok_const exC _ w (by decide) exC_tags
  have HD : Hid (∀ w, Calls Try.prog 8 #[.string ⟨#[97, 62, 98]⟩] w fun e w' => e = .returned (.tuple #[.slice none 0 0, .int .i64 7]) ∧ Below w.heap.size w w') := fun w => tok_const exD _ w (by decide) exD_tags
  go_enter Try.func13, Try.ntmps13
  go_wp2_with fail
  refine (HA.out _).mono ?_
  rintro e w2 ⟨⟨v, rfl, hv⟩, b2⟩
  obtain ⟨a0, p0, rfl⟩ := tgsV_len hv
  have HV := Lib.hid hv
  have HB2 := Lib.hid b2
  clear hv b2 HA
  go_wp2_with fail
  refine (HBb.out _).mono ?_
  rintro e w3 ⟨rfl, b3⟩
  have HB3 := Lib.hid b3
  clear b3
  go_wp2_with fail
  refine (HC.out _).mono ?_
  rintro e w4 ⟨rfl, b4⟩
  have HB4 := Lib.hid (HB3.out.trans (b4.mono HB3.out.size))
  clear b4 HB3
  go_wp2_with fail
  refine (HD.out _).mono ?_
  rintro e w5 ⟨rfl, b5⟩
  have HB5 := Lib.hid (HB4.out.trans (b5.mono HB4.out.size))
  clear b5 HB4 HBb HC HD
  have HNS := Lib.hid (fun wr (hb : Below w2.heap.size w2 wr) => tnested exT _ true _ wr (tgsV_below HV.out hb) (by decide))
  rw [exT_nest] at HNS
  obtain ⟨g, o, cap, d, e', f', hv0, hgl, c0, c1, c2, c3, c4, c5, _, cs, hrow, hac⟩ := tg_at (j := 0) (t := ⟨111, [112], [], [⟨[99, 108, 97, 115, 115], [120], 10, 11⟩], 0, 13⟩) HV.out rfl HB5.out
  obtain ⟨g', o', cap', d', e'', f'', hv1, _, k0, k1, k2, k3, _, _, _, _⟩ := tg_at (j := 1) (t := ⟨116, [], [97, 60], [], 13, 18⟩) HV.out rfl HB5.out
  simp only [Value.slice.injEq] at hv0
  obtain ⟨rfl, _, rfl⟩ := hv0
  simp only [Value.slice.injEq, Option.some.injEq, Addr.mk.injEq] at hv1
  obtain ⟨⟨rfl, rfl, _⟩, _, rfl⟩ := hv1
  obtain ⟨ga, oa, capa, ea, fa, hva, hgal, a0c, a1c, _, _, _⟩ := att_at (j := 0) (a := ⟨[99, 108, 97, 115, 115], [120], 10, 11⟩) hrow hac rfl (Below.refl _ _)
  subst hva
  have q1 : w5.cell? ⟨g, o + 1, none⟩ = some (.string ⟨#[112]⟩) := c1
  have q3 : w5.cell? ⟨g, o + 3, none⟩ = some (.slice (some ⟨ga, oa, none⟩) 1 capa) := c3
  have q2 : w5.cell? ⟨g, o + 6 + 2, none⟩ = some (.string ⟨#[97, 60]⟩) := k2
  have q4 : w5.cell? ⟨ga, oa + 1, none⟩ = some (.string ⟨#[120]⟩) := a1c
  have hlen : exT.length = 3 := rfl
  rw [hlen] at HNS ⊢
  clear c0 c1 c2 c3 c4 c5 k0 k1 k2 k3 a0c a1c hrow hac HV hlen
  go_wp2_with fail
  refine (HNS.out _ HB5.out).mono ?_
  rintro e w6 ⟨rfl, b6⟩
  go_wp2_with fail
  go_ret
  exact ⟨rfl, HB2.out.trans ((HB5.out.trans (b6.mono HB5.out.size)).mono HB2.out.size)⟩
end Go.Proofs.Ytlogjghbdnaedaa
