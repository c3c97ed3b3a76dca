/- Walks: the program's shape: tokens held against the grammar (chapter 10). -/
import Derived.Test.YtjnmcadfaombjaaJsF3
import Derived.Test.YtjnmcadfaombjaaRow
import Derived.Deep.DeepCutAuto
namespace Go.Proofs.Ytjnmcadfaombjaa
open Go.RowKit
set_option linter.unusedVariables false
set_option linter.unusedSimpArgs false
/-- What is open, the last first; how deep it was; what may come. -/
structure Sh where
  op : List Nat
  deep : Nat
  want : Nat
def mapB (op : List Nat) : Bool := match op with | [] => false | t :: _ => decide (t = 123)
def endB (op : List Nat) (c : Nat) : Bool := match op with | [] => false | t :: _ => if t = 123 then decide (c = 125) else decide (c = 93)
def stepSh (st : Sh) (c : Nat) : Option Sh :=
  if (st.want = 1 ∨ st.want = 3 ∨ st.want = 5) ∧ endB st.op c = true then some ⟨st.op.tail, st.deep, 5⟩
  else if (st.want = 0 ∨ st.want = 1) ∧ (c = 91 ∨ c = 123) then some ⟨c :: st.op, max st.deep (st.op.length + 1), if c = 123 then 3 else 1⟩
  else if (st.want = 0 ∨ st.want = 1) ∧ (c = 34 ∨ c = 48 ∨ c = 97) then some ⟨st.op, max st.deep (st.op.length + 1), 5⟩
  else if (st.want = 2 ∨ st.want = 3) ∧ c = 34 then some ⟨st.op, st.deep, 4⟩
  else if st.want = 4 ∧ c = 58 then some ⟨st.op, st.deep, 0⟩
  else if (st.want = 5 ∧ c = 44) ∧ st.op ≠ [] then some ⟨st.op, st.deep, if mapB st.op then 2 else 0⟩
  else none
def shS : Sh → List Tok → Option Sh
  | st, [] => some st
  | st, t :: ts => match stepSh st t.kind with
    | none => none
    | some st' => shS st' ts
def shapeN (ts : List Tok) : Nat := match shS ⟨[], 0, 0⟩ ts with
  | none => 0
  | some st => if st.op = [] ∧ st.want = 5 then st.deep else 0
structure Sh.ok (st : Sh) (k : Nat) : Prop where
  op : ∀ c ∈ st.op, c = 91 ∨ c = 123
  len : st.op.length ≤ k
  deep : st.deep ≤ k
  want : st.want ≤ 5
theorem Sh.ok.step {st st' : Sh} {k c : Nat} (h : st.ok k) (hs : stepSh st c = some st') : st'.ok (k + 1) := by
  have h1 := h.len
  have h2 := h.deep
  unfold stepSh at hs
  split at hs
  · cases hs
    exact ⟨fun x hx => h.op x (List.mem_of_mem_tail hx), by simp only [List.length_tail]; omega, by show st.deep ≤ _; omega, by show (5 : Nat) ≤ 5; omega⟩
  split at hs
  · rename_i _ hc
    cases hs
    refine ⟨fun x hx => ?_, by simp only [List.length_cons]; omega, by show max _ _ ≤ _; omega, by show (if c = 123 then 3 else 1) ≤ 5; split <;> omega⟩
    rcases List.mem_cons.1 hx with rfl | hx
    · exact hc.2
    · exact h.op x hx
  split at hs
  · cases hs; exact ⟨h.op, by show st.op.length ≤ k + 1; omega, by show max _ _ ≤ _; omega, by show (5 : Nat) ≤ 5; omega⟩
  split at hs
  · cases hs; exact ⟨h.op, by show st.op.length ≤ k + 1; omega, by show st.deep ≤ _; omega, by show (4 : Nat) ≤ 5; omega⟩
  split at hs
  · cases hs; exact ⟨h.op, by show st.op.length ≤ k + 1; omega, by show st.deep ≤ _; omega, by show (0 : Nat) ≤ 5; omega⟩
  split at hs
  · cases hs; exact ⟨h.op, by show st.op.length ≤ k + 1; omega, by show st.deep ≤ _; omega, by show (if _ then 2 else 0) ≤ 5; split <;> omega⟩
  · cases hs
def opC (op : List Nat) : List Value := op.reverse.map fun c : Nat => Value.int .u8 c
theorem opC_length (op : List Nat) : (opC op).length = op.length := by simp [opC]
theorem opC_top (t : Nat) (r : List Nat) : (opC (t :: r))[r.length]? = some (.int .u8 t) := by simp [opC]
theorem opC_cons (t : Nat) (r : List Nat) : opC (t :: r) = opC r ++ [.int .u8 t] := by simp [opC]
theorem tok_facts4 {w : World} {B : Nat} {ao : Option Addr} {ts : List Tok} {j : Nat} {t : Tok} (h : TokAt w B ao ts) (ht : ts[j]? = some t) :
    ∃ g, ao = some ⟨g, 0, none⟩ ∧ g < B ∧ w.cell? ⟨g, j * 4, none⟩ = some (.int .u8 t.kind) ∧ w.cell? ⟨g, j * 4 + 1, none⟩ = some (.string (strOf t.text)) ∧ w.cell? ⟨g, j * 4 + 2, none⟩ = some (.int .i64 t.frm) ∧ w.cell? ⟨g, j * 4 + 3, none⟩ = some (.int .i64 t.to) := by
  rcases h with h | ⟨g, hg, hl, hc⟩
  · subst h; simp at ht
  · exact ⟨g, hg, hl, hc _ _ (tokCs_at ts j 0 t ht (by omega)), hc _ _ (tokCs_at ts j 1 t ht (by omega)), hc _ _ (tokCs_at ts j 2 t ht (by omega)), hc _ _ (tokCs_at ts j 3 t ht (by omega))⟩
/-- A row's last cell, and the row without it. -/
theorem row_top {w : World} {base : Nat} {v : Value} {t : Nat} {r : List Nat} (h : w.ownsRow base 5 1 v (t :: r).length (opC (t :: r))) :
    ∃ g cap, v = .slice (some ⟨g, 0, none⟩) (r.length + 1) cap ∧ g < w.heap.size ∧ w.cell? ⟨g, r.length, none⟩ = some (.int .u8 t) ∧ r.length + 1 ≤ cap ∧ w.ownsRow base 5 1 (.slice (some ⟨g, 0, none⟩) r.length cap) r.length (opC r) := by
  rcases h.2 with ⟨_, h0⟩ | ⟨g, cap, cur, hv, hb, hh, r1, r2, r3, r4⟩
  · simp at h0
  · subst hv
    refine ⟨g, cap, rfl, (Array.getElem?_eq_some_iff.1 hh).1, (h.cellAt r.length (by simp)).trans (opC_top t r), r1, by simp [opC_length], .inr ⟨g, cap, cur, rfl, hb, hh, by simp at r1; omega, r2, r3, ?_⟩⟩
    rw [opC_cons] at r4
    have h4 := congrArg (List.take r.length) r4
    have h5 : List.take r.length (opC r ++ [Value.int .u8 t]) = opC r := by
      have := List.take_left (l₁ := opC r) (l₂ := [Value.int .u8 t])
      rwa [opC_length] at this
    rw [List.take_take, Nat.min_eq_left (by simp), h5] at h4
    rw [Nat.mul_one]; exact h4
theorem row_none {w : World} {base : Nat} {v : Value} {n : Nat} {xs : List Value} {e : TypeId} (h : w.ownsRow base e 1 v n xs) : ∃ ao cap, v = .slice ao n cap := by
  rcases h.2 with ⟨hv, h0⟩ | ⟨g, cap, cur, hv, _⟩
  · exact ⟨_, _, by rw [hv, h0]⟩
  · exact ⟨_, _, hv⟩
theorem infoU8 : (Try.prog.info? 5).map (fun i => (i.zero, i.size, i.bytes)) = some (some (.int .u8 0), 1, 1) := by kernel_rfl
def B1 (wt : Nat) (en : Bool) : Bool := decide (wt = 1 ∨ wt = 3 ∨ wt = 5) && en
def B2 (wt c : Nat) : Bool := decide (wt = 0 ∨ wt = 1) && decide (c = 91 ∨ c = 123)
def B3 (wt c : Nat) : Bool := decide (wt = 0 ∨ wt = 1) && decide (c = 34 ∨ c = 48 ∨ c = 97)
def B4 (wt c : Nat) : Bool := decide (wt = 2 ∨ wt = 3) && decide (c = 34)
def B5 (wt c : Nat) : Bool := decide (wt = 4) && decide (c = 58)
def B6 (wt c : Nat) (op : List Nat) : Bool := decide (wt = 5) && decide (c = 44) && decide (op ≠ [])
theorem step_1 {op : List Nat} {d wt c : Nat} (h : B1 wt (endB op c) = true) : stepSh ⟨op, d, wt⟩ c = some ⟨op.tail, d, 5⟩ := by
  unfold B1 at h; simp only [Bool.and_eq_true, decide_eq_true_eq] at h
  unfold stepSh; dsimp only; rw [if_pos h]
theorem no_1 {op : List Nat} {wt c : Nat} (h : B1 wt (endB op c) = false) : ¬ ((wt = 1 ∨ wt = 3 ∨ wt = 5) ∧ endB op c = true) := fun x => by
  unfold B1 at h; rw [decide_eq_true x.1, x.2] at h; cases h
theorem no_2 {wt c : Nat} (h : B2 wt c = false) : ¬ ((wt = 0 ∨ wt = 1) ∧ (c = 91 ∨ c = 123)) := fun x => by
  unfold B2 at h; rw [decide_eq_true x.1, decide_eq_true x.2] at h; cases h
theorem no_3 {wt c : Nat} (h : B3 wt c = false) : ¬ ((wt = 0 ∨ wt = 1) ∧ (c = 34 ∨ c = 48 ∨ c = 97)) := fun x => by
  unfold B3 at h; rw [decide_eq_true x.1, decide_eq_true x.2] at h; cases h
theorem no_4 {wt c : Nat} (h : B4 wt c = false) : ¬ ((wt = 2 ∨ wt = 3) ∧ c = 34) := fun x => by
  unfold B4 at h; rw [decide_eq_true x.1, decide_eq_true x.2] at h; cases h
theorem no_5 {wt c : Nat} (h : B5 wt c = false) : ¬ (wt = 4 ∧ c = 58) := fun x => by
  unfold B5 at h; rw [decide_eq_true x.1, decide_eq_true x.2] at h; cases h
theorem no_6 {op : List Nat} {wt c : Nat} (h : B6 wt c op = false) : ¬ ((wt = 5 ∧ c = 44) ∧ op ≠ []) := fun x => by
  unfold B6 at h; rw [decide_eq_true x.1.1, decide_eq_true x.1.2, decide_eq_true x.2] at h; cases h
theorem step_2 {op : List Nat} {d wt c : Nat} (h1 : B1 wt (endB op c) = false) (h : B2 wt c = true) : stepSh ⟨op, d, wt⟩ c = some ⟨c :: op, max d (op.length + 1), if c = 123 then 3 else 1⟩ := by
  unfold B2 at h; simp only [Bool.and_eq_true, decide_eq_true_eq] at h
  unfold stepSh; dsimp only; rw [if_neg (no_1 h1), if_pos h]
theorem step_3 {op : List Nat} {d wt c : Nat} (h1 : B1 wt (endB op c) = false) (h2 : B2 wt c = false) (h : B3 wt c = true) : stepSh ⟨op, d, wt⟩ c = some ⟨op, max d (op.length + 1), 5⟩ := by
  unfold B3 at h; simp only [Bool.and_eq_true, decide_eq_true_eq] at h
  unfold stepSh; dsimp only; rw [if_neg (no_1 h1), if_neg (no_2 h2), if_pos h]
theorem step_4 {op : List Nat} {d wt c : Nat} (h1 : B1 wt (endB op c) = false) (h2 : B2 wt c = false) (h3 : B3 wt c = false) (h : B4 wt c = true) : stepSh ⟨op, d, wt⟩ c = some ⟨op, d, 4⟩ := by
  unfold B4 at h; simp only [Bool.and_eq_true, decide_eq_true_eq] at h
  unfold stepSh; dsimp only; rw [if_neg (no_1 h1), if_neg (no_2 h2), if_neg (no_3 h3), if_pos h]
theorem step_5 {op : List Nat} {d wt c : Nat} (h1 : B1 wt (endB op c) = false) (h2 : B2 wt c = false) (h3 : B3 wt c = false) (h4 : B4 wt c = false) (h : B5 wt c = true) : stepSh ⟨op, d, wt⟩ c = some ⟨op, d, 0⟩ := by
  unfold B5 at h; simp only [Bool.and_eq_true, decide_eq_true_eq] at h
  unfold stepSh; dsimp only; rw [if_neg (no_1 h1), if_neg (no_2 h2), if_neg (no_3 h3), if_neg (no_4 h4), if_pos h]
theorem step_6 {op : List Nat} {d wt c : Nat} (h1 : B1 wt (endB op c) = false) (h2 : B2 wt c = false) (h3 : B3 wt c = false) (h4 : B4 wt c = false) (h5 : B5 wt c = false) (h : B6 wt c op = true) : stepSh ⟨op, d, wt⟩ c = some ⟨op, d, if mapB op then 2 else 0⟩ := by
  unfold B6 at h; simp only [Bool.and_eq_true, decide_eq_true_eq] at h
  unfold stepSh; dsimp only; rw [if_neg (no_1 h1), if_neg (no_2 h2), if_neg (no_3 h3), if_neg (no_4 h4), if_neg (no_5 h5), if_pos h]
theorem step_7 {op : List Nat} {d wt c : Nat} (h1 : B1 wt (endB op c) = false) (h2 : B2 wt c = false) (h3 : B3 wt c = false) (h4 : B4 wt c = false) (h5 : B5 wt c = false) (h6 : B6 wt c op = false) : stepSh ⟨op, d, wt⟩ c = none := by
  unfold stepSh; dsimp only; rw [if_neg (no_1 h1), if_neg (no_2 h2), if_neg (no_3 h3), if_neg (no_4 h4), if_neg (no_5 h5), if_neg (no_6 h6)]
set_option maxRecDepth 100000 in
set_option maxHeartbeats 8000000 in
theorem jshape (ts : List Tok) (ao : Option Addr) (cap B : Nat) (w : World) (hT : TokAt w B ao ts) (hB : B ≤ w.heap.size) (hl : ts.length ≤ 100000) (hk : ∀ t ∈ ts, t.kind < 256) :
    Calls Try.prog 27 #[.slice ao ts.length cap] w fun e w' => e = .returned (.int .i64 (shapeN ts)) ∧ Below w.heap.size w w' := by
  have HT := Lib.hid hT
  have HK := Lib.hid hk
  have HB0 := Lib.hid hB
  clear hT hk hB
  go_enter Try.func27, Try.ntmps27
  go_wp2_with fail
  go_loopw [3, 4, 5, 13] (fun o d wt z wr => ∃ (k : Nat) (st : Sh), z = .int .i64 k ∧ k ≤ ts.length ∧ d = .int .i64 st.deep ∧ wt = .int .i64 st.want ∧ wr.ownsRow w.heap.size 5 1 o st.op.length (opC st.op) ∧ shS ⟨[], 0, 0⟩ ts = shS st (ts.drop k) ∧ st.ok k ∧ Below w.heap.size w wr) (fun _ _ _ z _ => ts.length - (intOf z).toNat)
  case atStart => exact ⟨0, ⟨[], 0, 0⟩, rfl, Nat.zero_le _, rfl, rfl, ⟨by simp [opC], .inl ⟨rfl, rfl⟩⟩, rfl, ⟨fun c h => (by cases h), Nat.le_refl _, Nat.le_refl _, by show (0 : Nat) ≤ 5; omega⟩, Below.refl _ _⟩
  case round =>
    obtain ⟨k, st, rfl, hkl, rfl, rfl, ho, hs, hok, hb⟩ := hrel
    have HS := Lib.hid hs
    have HOK := Lib.hid hok
    clear hs hok
    by_cases hlt : k < ts.length
    · obtain ⟨t, ht⟩ : ∃ t, ts[k]? = some t := ⟨_, List.getElem?_eq_getElem hlt⟩
      obtain ⟨g, rfl, hg, c0, c1, c2, c3⟩ := tok_facts4 (HT.out.below hb HB0.out) ht
      have hkd := HK.out t (List.mem_of_getElem? ht)
      have HD : Hid (shS st (ts.drop k) = match stepSh st t.kind with | none => none | some st' => shS st' (ts.drop (k + 1))) := by
        show _ = _
        rw [List.drop_eq_getElem_cons hlt, show ts[k] = t by rw [List.getElem?_eq_getElem hlt] at ht; exact Option.some.inj ht]; rfl
      have HM := Lib.hid (And.intro ho hb)
      obtain ⟨op, dp, wt⟩ := st
      dsimp only at *
      generalize t.kind = c at *
      generalize strOf t.text = tx at *
      clear ht
      obtain ⟨ao2, cap2, rfl⟩ := row_none ho
      have HW : Hid (wt = 0 ∨ wt = 1 ∨ wt = 2 ∨ wt = 3 ∨ wt = 4 ∨ wt = 5) := by have := HOK.out.want; show _ ∨ _; dsimp only at this; omega
      have hol : op.length ≤ 100000 := by have := HOK.out.len; dsimp only at this; omega
      have hdl : dp ≤ 100000 := by have := HOK.out.deep; dsimp only at this; omega
      have HO1 := Lib.hid (ho.alloc (.cells #[.int .u8 c, .string tx, .int .i64 t.frm, .int .i64 t.to] 31))
      have HB1 := Lib.hid (hb.alloc hb.size (.cells #[.int .u8 c, .string tx, .int .i64 t.frm, .int .i64 t.to] 31))
      clear ho hb
      go_upto_region 7 with fail
      clear c0 c1 c2 c3 HM HT hg
      generalize wr.alloc (.cells #[.int .u8 c, .string tx, .int .i64 t.frm, .int .i64 t.to] 31) = W1 at *
      go_cut [9] (fun v wx => v = .bool (mapB op) ∧ W1 = wx)
      case first =>
        as_aux_lemma =>
          cases op with
          | nil =>
            go_wp2_with fail
            go_meet
            exact ⟨rfl, rfl⟩
          | cons t0 r0 =>
            obtain ⟨q, cap3, he, hq, d0, hcap, ho'⟩ := row_top HO1.out
            simp only [Value.slice.injEq] at he
            obtain ⟨rfl, _, rfl⟩ := he
            have h0 : r0.length + 1 ≤ 100000 := hol
            by_cases h1 : t0 = 123
            · have hq1 : ((t0 : Int) == 123) = true := by simp; omega
              have HZ := Lib.hid h1
              clear h1
              go_wp2_with fail
              go_meet
              exact ⟨by simp [mapB, HZ.out], rfl⟩
            · have hq1 : ((t0 : Int) == 123) = false := by simp; omega
              have HZ := Lib.hid h1
              clear h1
              go_wp2_with fail
              go_meet
              exact ⟨by have := HZ.out; simp [mapB, this], rfl⟩
      case rest =>
      obtain ⟨rfl, rfl⟩ := hcut
      obtain ⟨im, him⟩ : ∃ b, mapB op = b := ⟨_, rfl⟩
      rw [him]
      have Him := Lib.hid him
      clear him
      go_upto_region 8 with fail
      go_cut [10] (fun v wx => v = .bool (endB op c) ∧ W1 = wx)
      case first =>
        as_aux_lemma =>
          cases op with
          | nil =>
            go_wp2_with fail
            go_meet
            exact ⟨rfl, rfl⟩
          | cons t0 r0 =>
            obtain ⟨q, cap3, he, hq, d0, hcap, ho'⟩ := row_top HO1.out
            simp only [Value.slice.injEq] at he
            obtain ⟨rfl, _, rfl⟩ := he
            have h0 : r0.length + 1 ≤ 100000 := hol
            cases im
            · by_cases h1 : c = 93
              · have hq1 : ((c : Int) == 93) = true := by simp; omega
                have HZ := Lib.hid h1
                clear h1
                go_wp2_with fail
                go_meet
                exact ⟨by have := HZ.out; have h2 : decide (t0 = 123) = false := Him.out; simp at h2; simp [endB, this, h2], rfl⟩
              · have hq1 : ((c : Int) == 93) = false := by simp; omega
                have HZ := Lib.hid h1
                clear h1
                go_wp2_with fail
                go_meet
                exact ⟨by have := HZ.out; have h2 : decide (t0 = 123) = false := Him.out; simp at h2; simp [endB, this, h2], rfl⟩
            · by_cases h1 : c = 125
              · have hq1 : ((c : Int) == 125) = true := by simp; omega
                have HZ := Lib.hid h1
                clear h1
                go_wp2_with fail
                go_meet
                exact ⟨by have := HZ.out; have h2 : decide (t0 = 123) = true := Him.out; simp at h2; simp [endB, this, h2], rfl⟩
              · have hq1 : ((c : Int) == 125) = false := by simp; omega
                have HZ := Lib.hid h1
                clear h1
                go_wp2_with fail
                go_meet
                exact ⟨by have := HZ.out; have h2 : decide (t0 = 123) = true := Him.out; simp at h2; simp [endB, this, h2], rfl⟩
      case rest =>
      obtain ⟨rfl, rfl⟩ := hcut
      obtain ⟨en, hen⟩ : ∃ b, endB op c = b := ⟨_, rfl⟩
      rw [hen]
      have Hen := Lib.hid hen
      clear hen
      go_upto_region 10 with fail
      go_cut [49] (fun v wx => v = .bool (B1 wt en) ∧ W1 = wx)
      case first =>
        as_aux_lemma =>
          by_cases gwt1 : wt = 1
          · subst gwt1
            go_wp2_with fail
            go_meet
            exact ⟨by simp [B1, *], rfl⟩
          · have gqwt1 : ((wt : Int) == 1) = false := by simp; omega
            have Gwt1 := Lib.hid gwt1
            clear gwt1
            by_cases gwt3 : wt = 3
            · subst gwt3
              go_wp2_with fail
              go_meet
              exact ⟨by have := Gwt1.out; simp [B1, *], rfl⟩
            · have gqwt3 : ((wt : Int) == 3) = false := by simp; omega
              have Gwt3 := Lib.hid gwt3
              clear gwt3
              by_cases gwt5 : wt = 5
              · subst gwt5
                go_wp2_with fail
                go_meet
                exact ⟨by have := Gwt1.out; have := Gwt3.out; simp [B1, *], rfl⟩
              · have gqwt5 : ((wt : Int) == 5) = false := by simp; omega
                have Gwt5 := Lib.hid gwt5
                clear gwt5
                go_wp2_with fail
                go_meet
                exact ⟨by have := Gwt1.out; have := Gwt3.out; have := Gwt5.out; simp [B1, *], rfl⟩
      case rest =>
      obtain ⟨rfl, rfl⟩ := hcut
      obtain ⟨x1, hx1⟩ : ∃ b, B1 wt en = b := ⟨_, rfl⟩
      rw [hx1]
      have Hx1 := Lib.hid hx1
      clear hx1
      cases x1
      case true =>
        as_aux_lemma =>
          cases op with
          | nil =>
            exfalso
            have h1 := Hx1.out
            have h2 := Hen.out
            unfold B1 at h1
            simp only [Bool.and_eq_true] at h1
            rw [h1.2] at h2
            cases h2
          | cons t0 r0 =>
            obtain ⟨q, cap3, he, hq, d0, hcap, ho'⟩ := row_top HO1.out
            simp only [Value.slice.injEq] at he
            obtain ⟨rfl, _, rfl⟩ := he
            have h0 : r0.length + 1 ≤ 100000 := hol
            have HO2 := Lib.hid ho'
            have HST : Hid (stepSh ⟨t0 :: r0, dp, wt⟩ c = some ⟨r0, dp, 5⟩) := step_1 (by rw [Hen.out]; exact Hx1.out)
            go_wp2_with fail
            go_roundw
            case rel => exact ⟨k + 1, ⟨r0, dp, 5⟩, by go_num, hlt, by go_num, by go_num, HO2.out, by rw [HS.out, HD.out]; rw [HST.out] <;> rfl, HOK.out.step HST.out, HB1.out⟩
            case measure => simp [intOf]; omega
      case false =>
      go_upto_region 13 with fail
      go_cut [68] (fun v wx => v = .bool (B2 wt c) ∧ W1 = wx)
      case first =>
        as_aux_lemma =>
          by_cases gwt0 : wt = 0
          · subst gwt0
            by_cases gc91 : c = 91
            · subst gc91
              go_wp2_with fail
              go_meet
              exact ⟨by simp [B2, *], rfl⟩
            · have gqc91 : ((c : Int) == 91) = false := by simp; omega
              have Gc91 := Lib.hid gc91
              clear gc91
              by_cases gc123 : c = 123
              · subst gc123
                go_wp2_with fail
                go_meet
                exact ⟨by have := Gc91.out; simp [B2, *], rfl⟩
              · have gqc123 : ((c : Int) == 123) = false := by simp; omega
                have Gc123 := Lib.hid gc123
                clear gc123
                go_wp2_with fail
                go_meet
                exact ⟨by have := Gc91.out; have := Gc123.out; simp [B2, *], rfl⟩
          · have gqwt0 : ((wt : Int) == 0) = false := by simp; omega
            have Gwt0 := Lib.hid gwt0
            clear gwt0
            by_cases gwt1 : wt = 1
            · subst gwt1
              by_cases gc91 : c = 91
              · subst gc91
                go_wp2_with fail
                go_meet
                exact ⟨by simp [B2, *], rfl⟩
              · have gqc91 : ((c : Int) == 91) = false := by simp; omega
                have Gc91 := Lib.hid gc91
                clear gc91
                by_cases gc123 : c = 123
                · subst gc123
                  go_wp2_with fail
                  go_meet
                  exact ⟨by have := Gc91.out; simp [B2, *], rfl⟩
                · have gqc123 : ((c : Int) == 123) = false := by simp; omega
                  have Gc123 := Lib.hid gc123
                  clear gc123
                  go_wp2_with fail
                  go_meet
                  exact ⟨by have := Gc91.out; have := Gc123.out; simp [B2, *], rfl⟩
            · have gqwt1 : ((wt : Int) == 1) = false := by simp; omega
              have Gwt1 := Lib.hid gwt1
              clear gwt1
              go_wp2_with fail
              go_meet
              exact ⟨by have := Gwt0.out; have := Gwt1.out; simp [B2, *], rfl⟩
      case rest =>
      obtain ⟨rfl, rfl⟩ := hcut
      obtain ⟨x2, hx2⟩ : ∃ b, B2 wt c = b := ⟨_, rfl⟩
      rw [hx2]
      have Hx2 := Lib.hid hx2
      clear hx2
      cases x2
      case true =>
        as_aux_lemma =>
          have HST0 := Lib.hid (step_2 (d := dp) (by rw [Hen.out]; exact Hx1.out) Hx2.out)
          obtain ⟨i0, hi, hz0, hz1, hz2⟩ := info_parts infoU8
          have e3 : op.length + 1 ≤ maxLen := by unfold maxLen; omega
          have e4 : (op.length + 1) * 1 ≤ 140737488355328 := by omega
          have hc2 : c = 91 ∨ c = 123 := by have := Hx2.out; unfold B2 at this; simp only [Bool.and_eq_true, decide_eq_true_eq] at this; exact this.2
          rcases hc2 with rfl | rfl
          · have HST : Hid (stepSh ⟨op, dp, wt⟩ 91 = some ⟨91 :: op, max dp (op.length + 1), 1⟩) := HST0.out
            clear HST0
            have e5 : w.heap.size ≤ (W1.alloc (.cells #[.int .u8 91] 5)).heap.size := by have := HB1.out.size; simp; omega
            go_wp2_with (at_builtin; refine wpList_append_own _ rfl _ _ 80 rfl w.heap.size 5 i0 (.int .u8 0) 1 1 Try.underlying80 hi hz0 hz1 hz2 rfl (by decide) _ _ _ rfl (HO1.out.alloc _) ⟨W1.heap.size, 0, none⟩ 1 1 [.int .u8 91] rfl rfl (cells_new W1 #[.int .u8 91] _) (by simp [Value.oneCell']) e3 e4 e5 ?_; intro v' w4 hown' hgrow _; obtain ⟨ao4, cap4, rfl⟩ := row_none hown')
            have hown2 : w4.ownsRow w.heap.size 5 1 (.slice ao4 (op.length + 1) cap4) (91 :: op).length (opC (91 :: op)) := by rw [opC_cons]; exact hown'
            have hb4 := (HB1.out.alloc HB1.out.size (.cells #[.int .u8 91] 5)).grown hgrow (by have := HB1.out.size; simp; omega) (fun j hj => (HO1.out.lt j hj).1)
            go_roundw
            case rel => exact ⟨k + 1, ⟨91 :: op, max dp (op.length + 1), 1⟩, by go_num, hlt, by go_num, by go_num, hown2, by rw [HS.out, HD.out]; rw [HST.out] <;> rfl, HOK.out.step HST.out, hb4⟩
            case measure => simp [intOf]; omega
          · have HST : Hid (stepSh ⟨op, dp, wt⟩ 123 = some ⟨123 :: op, max dp (op.length + 1), 3⟩) := HST0.out
            clear HST0
            have e5 : w.heap.size ≤ (W1.alloc (.cells #[.int .u8 123] 5)).heap.size := by have := HB1.out.size; simp; omega
            go_wp2_with (at_builtin; refine wpList_append_own _ rfl _ _ 80 rfl w.heap.size 5 i0 (.int .u8 0) 1 1 Try.underlying80 hi hz0 hz1 hz2 rfl (by decide) _ _ _ rfl (HO1.out.alloc _) ⟨W1.heap.size, 0, none⟩ 1 1 [.int .u8 123] rfl rfl (cells_new W1 #[.int .u8 123] _) (by simp [Value.oneCell']) e3 e4 e5 ?_; intro v' w4 hown' hgrow _; obtain ⟨ao4, cap4, rfl⟩ := row_none hown')
            have hown2 : w4.ownsRow w.heap.size 5 1 (.slice ao4 (op.length + 1) cap4) (123 :: op).length (opC (123 :: op)) := by rw [opC_cons]; exact hown'
            have hb4 := (HB1.out.alloc HB1.out.size (.cells #[.int .u8 123] 5)).grown hgrow (by have := HB1.out.size; simp; omega) (fun j hj => (HO1.out.lt j hj).1)
            go_roundw
            case rel => exact ⟨k + 1, ⟨123 :: op, max dp (op.length + 1), 3⟩, by go_num, hlt, by go_num, by go_num, hown2, by rw [HS.out, HD.out]; rw [HST.out] <;> rfl, HOK.out.step HST.out, hb4⟩
            case measure => simp [intOf]; omega
      case false =>
      go_upto_region 19 with fail
      go_cut [93] (fun v wx => v = .bool (B3 wt c) ∧ W1 = wx)
      case first =>
        as_aux_lemma =>
          by_cases gwt0 : wt = 0
          · subst gwt0
            by_cases gc34 : c = 34
            · subst gc34
              go_wp2_with fail
              go_meet
              exact ⟨by simp [B3, *], rfl⟩
            · have gqc34 : ((c : Int) == 34) = false := by simp; omega
              have Gc34 := Lib.hid gc34
              clear gc34
              by_cases gc48 : c = 48
              · subst gc48
                go_wp2_with fail
                go_meet
                exact ⟨by have := Gc34.out; simp [B3, *], rfl⟩
              · have gqc48 : ((c : Int) == 48) = false := by simp; omega
                have Gc48 := Lib.hid gc48
                clear gc48
                by_cases gc97 : c = 97
                · subst gc97
                  go_wp2_with fail
                  go_meet
                  exact ⟨by have := Gc34.out; have := Gc48.out; simp [B3, *], rfl⟩
                · have gqc97 : ((c : Int) == 97) = false := by simp; omega
                  have Gc97 := Lib.hid gc97
                  clear gc97
                  go_wp2_with fail
                  go_meet
                  exact ⟨by have := Gc34.out; have := Gc48.out; have := Gc97.out; simp [B3, *], rfl⟩
          · have gqwt0 : ((wt : Int) == 0) = false := by simp; omega
            have Gwt0 := Lib.hid gwt0
            clear gwt0
            by_cases gwt1 : wt = 1
            · subst gwt1
              by_cases gc34 : c = 34
              · subst gc34
                go_wp2_with fail
                go_meet
                exact ⟨by simp [B3, *], rfl⟩
              · have gqc34 : ((c : Int) == 34) = false := by simp; omega
                have Gc34 := Lib.hid gc34
                clear gc34
                by_cases gc48 : c = 48
                · subst gc48
                  go_wp2_with fail
                  go_meet
                  exact ⟨by have := Gc34.out; simp [B3, *], rfl⟩
                · have gqc48 : ((c : Int) == 48) = false := by simp; omega
                  have Gc48 := Lib.hid gc48
                  clear gc48
                  by_cases gc97 : c = 97
                  · subst gc97
                    go_wp2_with fail
                    go_meet
                    exact ⟨by have := Gc34.out; have := Gc48.out; simp [B3, *], rfl⟩
                  · have gqc97 : ((c : Int) == 97) = false := by simp; omega
                    have Gc97 := Lib.hid gc97
                    clear gc97
                    go_wp2_with fail
                    go_meet
                    exact ⟨by have := Gc34.out; have := Gc48.out; have := Gc97.out; simp [B3, *], rfl⟩
            · have gqwt1 : ((wt : Int) == 1) = false := by simp; omega
              have Gwt1 := Lib.hid gwt1
              clear gwt1
              go_wp2_with fail
              go_meet
              exact ⟨by have := Gwt0.out; have := Gwt1.out; simp [B3, *], rfl⟩
      case rest =>
      obtain ⟨rfl, rfl⟩ := hcut
      obtain ⟨x3, hx3⟩ : ∃ b, B3 wt c = b := ⟨_, rfl⟩
      rw [hx3]
      have Hx3 := Lib.hid hx3
      clear hx3
      cases x3
      case true =>
        as_aux_lemma =>
          have HST := Lib.hid (step_3 (d := dp) (by rw [Hen.out]; exact Hx1.out) Hx2.out Hx3.out)
          go_wp2_with fail
          go_roundw
          case rel => exact ⟨k + 1, ⟨op, max dp (op.length + 1), 5⟩, by go_num, hlt, by go_num, by go_num, HO1.out, by rw [HS.out, HD.out]; rw [HST.out] <;> rfl, HOK.out.step HST.out, HB1.out⟩
          case measure => simp [intOf]; omega
      case false =>
      go_upto_region 22 with fail
      go_cut [117] (fun v wx => v = .bool (B4 wt c) ∧ W1 = wx)
      case first =>
        as_aux_lemma =>
          by_cases gwt2 : wt = 2
          · subst gwt2
            by_cases gc34 : c = 34
            · subst gc34
              go_wp2_with fail
              go_meet
              exact ⟨by simp [B4, *], rfl⟩
            · have gqc34 : ((c : Int) == 34) = false := by simp; omega
              have Gc34 := Lib.hid gc34
              clear gc34
              go_wp2_with fail
              go_meet
              exact ⟨by have := Gc34.out; simp [B4, *], rfl⟩
          · have gqwt2 : ((wt : Int) == 2) = false := by simp; omega
            have Gwt2 := Lib.hid gwt2
            clear gwt2
            by_cases gwt3 : wt = 3
            · subst gwt3
              by_cases gc34 : c = 34
              · subst gc34
                go_wp2_with fail
                go_meet
                exact ⟨by simp [B4, *], rfl⟩
              · have gqc34 : ((c : Int) == 34) = false := by simp; omega
                have Gc34 := Lib.hid gc34
                clear gc34
                go_wp2_with fail
                go_meet
                exact ⟨by have := Gc34.out; simp [B4, *], rfl⟩
            · have gqwt3 : ((wt : Int) == 3) = false := by simp; omega
              have Gwt3 := Lib.hid gwt3
              clear gwt3
              go_wp2_with fail
              go_meet
              exact ⟨by have := Gwt2.out; have := Gwt3.out; simp [B4, *], rfl⟩
      case rest =>
      obtain ⟨rfl, rfl⟩ := hcut
      obtain ⟨x4, hx4⟩ : ∃ b, B4 wt c = b := ⟨_, rfl⟩
      rw [hx4]
      have Hx4 := Lib.hid hx4
      clear hx4
      cases x4
      case true =>
        as_aux_lemma =>
          have HST := Lib.hid (step_4 (d := dp) (by rw [Hen.out]; exact Hx1.out) Hx2.out Hx3.out Hx4.out)
          go_wp2_with fail
          go_roundw
          case rel => exact ⟨k + 1, ⟨op, dp, 4⟩, by go_num, hlt, by go_num, by go_num, HO1.out, by rw [HS.out, HD.out]; rw [HST.out] <;> rfl, HOK.out.step HST.out, HB1.out⟩
          case measure => simp [intOf]; omega
      case false =>
      go_upto_region 24 with fail
      go_cut [128] (fun v wx => v = .bool (B5 wt c) ∧ W1 = wx)
      case first =>
        as_aux_lemma =>
          by_cases gwt4 : wt = 4
          · subst gwt4
            by_cases gc58 : c = 58
            · subst gc58
              go_wp2_with fail
              go_meet
              exact ⟨by simp [B5, *], rfl⟩
            · have gqc58 : ((c : Int) == 58) = false := by simp; omega
              have Gc58 := Lib.hid gc58
              clear gc58
              go_wp2_with fail
              go_meet
              exact ⟨by have := Gc58.out; simp [B5, *], rfl⟩
          · have gqwt4 : ((wt : Int) == 4) = false := by simp; omega
            have Gwt4 := Lib.hid gwt4
            clear gwt4
            go_wp2_with fail
            go_meet
            exact ⟨by have := Gwt4.out; simp [B5, *], rfl⟩
      case rest =>
      obtain ⟨rfl, rfl⟩ := hcut
      obtain ⟨x5, hx5⟩ : ∃ b, B5 wt c = b := ⟨_, rfl⟩
      rw [hx5]
      have Hx5 := Lib.hid hx5
      clear hx5
      cases x5
      case true =>
        as_aux_lemma =>
          have HST := Lib.hid (step_5 (d := dp) (by rw [Hen.out]; exact Hx1.out) Hx2.out Hx3.out Hx4.out Hx5.out)
          go_wp2_with fail
          go_roundw
          case rel => exact ⟨k + 1, ⟨op, dp, 0⟩, by go_num, hlt, by go_num, by go_num, HO1.out, by rw [HS.out, HD.out]; rw [HST.out] <;> rfl, HOK.out.step HST.out, HB1.out⟩
          case measure => simp [intOf]; omega
      case false =>
      go_upto_region 26 with fail
      go_cut [135] (fun v wx => v = .bool (B6 wt c op) ∧ W1 = wx)
      case first =>
        as_aux_lemma =>
          by_cases gwt5 : wt = 5
          · subst gwt5
            by_cases gc44 : c = 44
            · subst gc44
              cases op with
              | nil =>
                go_wp2_with fail
                go_meet
                exact ⟨by simp [B6, *], rfl⟩
              | cons t0 r0 =>
                obtain ⟨q, cap3, he, hq, d0, hcap, ho'⟩ := row_top HO1.out
                simp only [Value.slice.injEq] at he
                obtain ⟨rfl, _, rfl⟩ := he
                have h0 : r0.length + 1 ≤ 100000 := hol
                go_wp2_with fail
                go_meet
                exact ⟨by simp [B6, *], rfl⟩
            · have gqc44 : ((c : Int) == 44) = false := by simp; omega
              have Gc44 := Lib.hid gc44
              clear gc44
              go_wp2_with fail
              go_meet
              exact ⟨by have := Gc44.out; simp [B6, *], rfl⟩
          · have gqwt5 : ((wt : Int) == 5) = false := by simp; omega
            have Gwt5 := Lib.hid gwt5
            clear gwt5
            go_wp2_with fail
            go_meet
            exact ⟨by have := Gwt5.out; simp [B6, *], rfl⟩
      case rest =>
      obtain ⟨rfl, rfl⟩ := hcut
      obtain ⟨x6, hx6⟩ : ∃ b, B6 wt c op = b := ⟨_, rfl⟩
      rw [hx6]
      have Hx6 := Lib.hid hx6
      clear hx6
      cases x6
      case true =>
        as_aux_lemma =>
          have HST0 := Lib.hid (step_6 (d := dp) (by rw [Hen.out]; exact Hx1.out) Hx2.out Hx3.out Hx4.out Hx5.out Hx6.out)
          rw [Him.out] at HST0
          cases im
          · have HST : Hid (stepSh ⟨op, dp, wt⟩ c = some ⟨op, dp, 0⟩) := HST0.out
            clear HST0
            go_wp2_with fail
            go_roundw
            case rel => exact ⟨k + 1, ⟨op, dp, 0⟩, by go_num, hlt, by go_num, by go_num, HO1.out, by rw [HS.out, HD.out]; rw [HST.out] <;> rfl, HOK.out.step HST.out, HB1.out⟩
            case measure => simp [intOf]; omega
          · have HST : Hid (stepSh ⟨op, dp, wt⟩ c = some ⟨op, dp, 2⟩) := HST0.out
            clear HST0
            go_wp2_with fail
            go_roundw
            case rel => exact ⟨k + 1, ⟨op, dp, 2⟩, by go_num, hlt, by go_num, by go_num, HO1.out, by rw [HS.out, HD.out]; rw [HST.out] <;> rfl, HOK.out.step HST.out, HB1.out⟩
            case measure => simp [intOf]; omega
      case false =>
      have HST := Lib.hid (step_7 (d := dp) (by rw [Hen.out]; exact Hx1.out) Hx2.out Hx3.out Hx4.out Hx5.out Hx6.out)
      have HV : Hid (shapeN ts = 0) := by
        show _ = _
        unfold shapeN
        rw [HS.out, HD.out, HST.out]
      go_wp2_with fail
      go_ret
      exact ⟨by rw [HV.out]; rfl, HB1.out⟩
    · have hkk : k = ts.length := by omega
      subst hkk
      have HE : Hid (shapeN ts = if st.op = [] ∧ st.want = 5 then st.deep else 0) := by
        show _ = _
        unfold shapeN
        rw [HS.out, List.drop_length]; rfl
      obtain ⟨op, dp, wt⟩ := st
      dsimp only at *
      obtain ⟨ao2, cap2, rfl⟩ := row_none ho
      have HB := Lib.hid hb
      have hol : op.length ≤ 100000 := by have := HOK.out.len; dsimp only at this; omega
      clear hb
      cases op with
      | nil =>
        by_cases h5 : wt = 5
        · subst h5
          rw [if_pos ⟨rfl, rfl⟩] at HE
          go_wp2_with fail
          go_ret
          exact ⟨by rw [HE.out]; rfl, HB.out⟩
        · have hq : ((wt : Int) == 5) = false := by simp; omega
          rw [if_neg (fun h => h5 h.2)] at HE
          clear h5
          go_wp2_with fail
          go_ret
          exact ⟨by rw [HE.out]; rfl, HB.out⟩
      | cons t0 r0 =>
        rw [if_neg (fun h => by cases h.1)] at HE
        have h0 : r0.length + 1 ≤ 100000 := hol
        go_wp2_with fail
        go_ret
        exact ⟨by rw [HE.out]; rfl, HB.out⟩
end Go.Proofs.Ytjnmcadfaombjaa
