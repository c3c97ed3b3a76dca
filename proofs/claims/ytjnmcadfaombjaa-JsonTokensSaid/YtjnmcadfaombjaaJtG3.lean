/- Walks: the program's json reader: which taker comes (chapter 10). -/
import Derived.Test.YtjnmcadfaombjaaJtY
import Derived.Test.YtjnmcadfaombjaaJtD
import Derived.Test.YtjnmcadfaombjaaJtW
import Derived.Test.YtjnmcadfaombjaaJtC
import Derived.Test.YtjnmcadfaombjaaJsE
namespace Go.Proofs.Ytjnmcadfaombjaa
open Go.RowKit
set_option linter.unusedVariables false
set_option linter.unusedSimpArgs false
theorem in_mark (c : Nat) (hc : c < 256) : inL (⟨#[123, 125, 91, 93, 58, 44]⟩ : ByteArray).data.toList c = decide (markK c) := by
  have : ∀ c : Fin 256, inL (⟨#[123, 125, 91, 93, 58, 44]⟩ : ByteArray).data.toList c.val = decide (markK c.val) := by decide +kernel
  exact this ⟨c, hc⟩
theorem in_blank (c : Nat) (hc : c < 256) : inL (⟨#[32, 9, 13, 10]⟩ : ByteArray).data.toList c = decide (blankK c) := by
  have : ∀ c : Fin 256, inL (⟨#[32, 9, 13, 10]⟩ : ByteArray).data.toList c.val = decide (blankK c.val) := by decide +kernel
  exact this ⟨c, hc⟩
theorem atL_head {l p : List UInt8} {k : Nat} (h : atL l p k = true) (hp : 0 < p.length) : bt l k = bt p 0 := by
  unfold atL at h
  simp only [Bool.and_eq_true, decide_eq_true_eq] at h
  have e : bt l k = bt (l.drop k) 0 := (bt_drop0 l k).symm
  rw [e]
  have h2 := h.2
  generalize l.drop k = x at *
  rw [← h2]
  match x, p, hp with
  | [], _ :: _, _ => simp [bt]
  | y :: x, _ :: _, _ => simp [bt]
/-- The token that stands at a place, as the program looks for it. -/
theorem one_kind {l : List UInt8} {k : Nat} (hk : k < l.length) : oneT l k = if markK (bt l k) then some ⟨bt l k, [], k, k + 1⟩ else if bt l k = 34 then quotTok l k else if 97 ≤ bt l k ∧ bt l k ≤ 122 then wordTok l k else numTok l k := by
  unfold oneT
  split
  · rfl
  split
  · unfold quotTok; cases strJ (l.drop (k + 1)) with
    | none => rfl
    | some p => rfl
  rename_i h1 h2
  by_cases h3 : 97 ≤ bt l k ∧ bt l k ≤ 122
  · rw [if_pos h3]
    have hd : ¬ isDg (bt l k) := by unfold isDg; omega
    have hn : numE l k = none := by
      have e : numStart l k = k := if_neg (by omega)
      unfold numE
      rw [e, if_pos (digE_no hd)]
    unfold wordTok
    rw [hn]
  · rw [if_neg h3]
    have e1 : atL l tTrue k = false := by
      rw [Bool.eq_false_iff]; intro h
      have := atL_head h (by decide)
      exact h3 (by rw [this]; decide)
    have e2 : atL l tFalse k = false := by
      rw [Bool.eq_false_iff]; intro h
      have := atL_head h (by decide)
      exact h3 (by rw [this]; decide)
    have e3 : atL l tNull k = false := by
      rw [Bool.eq_false_iff]; intro h
      have := atL_head h (by decide)
      exact h3 (by rw [this]; decide)
    rw [e1, e2, e3, if_neg (by simp), if_neg (by simp), if_neg (by simp)]
    rfl
theorem jnext_mark (g c : Nat) (w : World) (hc : c < 256) (hm : markK c) :
    Calls Try.prog 25 #[.pointer (some ⟨g, 0, none⟩), .int .u8 c] w fun e w' => e = .returned (.func (Fn.func 38) #[.pointer (some ⟨g, 0, none⟩)] #[]) ∧ w = w' := by
  obtain ⟨r, hr, hi⟩ := index_in (⟨#[123, 125, 91, 93, 58, 44]⟩ : ByteArray) c hc
  have HI := Lib.hid hi
  rw [in_mark c hc] at hr
  have hr2 : 0 ≤ r := by rw [decide_eq_true hm] at hr; simpa using hr
  clear hr hi hm
  go_enter Try.func25, Try.ntmps25
  go_wp2_with fail
  refine (HI.out _).mono ?_
  rintro e w' ⟨rfl, rfl⟩
  go_wp2_with fail
  go_ret
  exact ⟨rfl, rfl⟩
theorem jnext_quote (g c : Nat) (w : World) (hc : c < 256) (hm : ¬ markK c) (h34 : c = 34) :
    Calls Try.prog 25 #[.pointer (some ⟨g, 0, none⟩), .int .u8 c] w fun e w' => e = .returned (.func (Fn.func 39) #[.pointer (some ⟨g, 0, none⟩)] #[]) ∧ w = w' := by
  obtain ⟨r, hr, hi⟩ := index_in (⟨#[123, 125, 91, 93, 58, 44]⟩ : ByteArray) c hc
  have HI := Lib.hid hi
  rw [in_mark c hc] at hr
  have hr2 : r < 0 := by rw [decide_eq_false hm] at hr; simpa using hr
  clear hr hi hm
  subst h34
  go_enter Try.func25, Try.ntmps25
  go_wp2_with fail
  refine (HI.out _).mono ?_
  rintro e w' ⟨rfl, rfl⟩
  go_wp2_with fail
  go_ret
  exact ⟨rfl, rfl⟩
theorem jnext_word (g c : Nat) (w : World) (hc : c < 256) (hm : ¬ markK c) (h34 : c ≠ 34) (h1 : 97 ≤ c) (h2 : c ≤ 122) :
    Calls Try.prog 25 #[.pointer (some ⟨g, 0, none⟩), .int .u8 c] w fun e w' => e = .returned (.func (Fn.func 40) #[.pointer (some ⟨g, 0, none⟩)] #[]) ∧ w = w' := by
  obtain ⟨r, hr, hi⟩ := index_in (⟨#[123, 125, 91, 93, 58, 44]⟩ : ByteArray) c hc
  have HI := Lib.hid hi
  rw [in_mark c hc] at hr
  have hr2 : r < 0 := by rw [decide_eq_false hm] at hr; simpa using hr
  clear hr hi hm
  have hq : ((c : Int) == 34) = false := by simp; omega
  clear h34
  go_enter Try.func25, Try.ntmps25
  go_wp2_with fail
  refine (HI.out _).mono ?_
  rintro e w' ⟨rfl, rfl⟩
  go_wp2_with fail
  go_ret
  exact ⟨rfl, rfl⟩
theorem jnext_num (g c : Nat) (w : World) (hc : c < 256) (hm : ¬ markK c) (h34 : c ≠ 34) (h1 : c < 97 ∨ 123 ≤ c) :
    Calls Try.prog 25 #[.pointer (some ⟨g, 0, none⟩), .int .u8 c] w fun e w' => e = .returned (.func (Fn.func 41) #[.pointer (some ⟨g, 0, none⟩)] #[]) ∧ w = w' := by
  obtain ⟨r, hr, hi⟩ := index_in (⟨#[123, 125, 91, 93, 58, 44]⟩ : ByteArray) c hc
  have HI := Lib.hid hi
  rw [in_mark c hc] at hr
  have hr2 : r < 0 := by rw [decide_eq_false hm] at hr; simpa using hr
  clear hr hi hm
  have hq : ((c : Int) == 34) = false := by simp; omega
  clear h34
  rcases h1 with h1 | h1
  all_goals
    go_enter Try.func25, Try.ntmps25
    go_wp2_with fail
    refine (HI.out _).mono ?_
    rintro e w' ⟨rfl, rfl⟩
    go_wp2_with fail
    go_ret
    exact ⟨rfl, rfl⟩
/-- What takes the token at a place: which function it is, and what it hands back. -/
theorem jtake (g k : Nat) (s : ByteArray) (hk : k < s.size) (hs : s.size ≤ 1000000) (hN : ∀ w, Rdr w g s k → Calls Try.prog 41 #[.pointer (some ⟨g, 0, none⟩)] w fun e w' => TakR (numTok s.data.toList k) g s e w' ∧ Only g w w') : ∃ F : FuncId, (F = 38 ∨ F = 39 ∨ F = 40 ∨ F = 41) ∧ (∀ w, Calls Try.prog 25 #[.pointer (some ⟨g, 0, none⟩), .int .u8 (bt s.data.toList k)] w fun e w' => e = .returned (.func (Fn.func F) #[.pointer (some ⟨g, 0, none⟩)] #[]) ∧ w = w') ∧
    (∀ w, Rdr w g s k → Calls Try.prog F #[.pointer (some ⟨g, 0, none⟩)] w fun e w' => TakR (oneT s.data.toList k) g s e w' ∧ Only g w w') := by
  have hl := sz_len s
  have y0 := bt_lt s.data.toList k
  rw [one_kind (l := s.data.toList) (k := k) (by omega)]
  by_cases hm : markK (bt s.data.toList k)
  · rw [if_pos hm]
    exact ⟨_, .inl rfl, fun w => jnext_mark g _ w y0 hm, fun w hR => jmark g k s w hR hk hs⟩
  rw [if_neg hm]
  by_cases h34 : bt s.data.toList k = 34
  · rw [if_pos h34]
    exact ⟨_, .inr (.inl rfl), fun w => jnext_quote g _ w y0 hm h34, fun w hR => jquoted g k s w hR hk hs⟩
  rw [if_neg h34]
  by_cases hw : 97 ≤ bt s.data.toList k ∧ bt s.data.toList k ≤ 122
  · rw [if_pos hw]
    exact ⟨_, .inr (.inr (.inl rfl)), fun w => jnext_word g _ w y0 hm h34 hw.1 hw.2, fun w hR => jword g k s w hR hk hs⟩
  rw [if_neg hw]
  exact ⟨_, .inr (.inr (.inr rfl)), fun w => jnext_num g _ w y0 hm h34 (by omega), hN⟩
end Go.Proofs.Ytjnmcadfaombjaa

/- Walks: the program's Tokens (chapter 10). -/
namespace Go.Proofs.Ytjnmcadfaombjaa
open Go.RowKit
set_option linter.unusedVariables false
set_option linter.unusedSimpArgs false
theorem infoTokJ : (Try.prog.info? 31).map (fun i => (i.zero, i.size, i.bytes)) = some (some (.agg #[.int .u8 0, .string ⟨#[]⟩, .int .i64 0, .int .i64 0]), 4, 40) := by kernel_rfl
def TokJ (o : Option (List Tok)) (B : Nat) (e : Ending) (W : World) : Prop := match o with
  | some ts => ∃ v, e = .returned (.tuple #[v, .int .i64 0]) ∧ W.ownsRow B 31 4 v ts.length (tokCs ts)
  | none => e = .returned (.tuple #[.slice none 0 0, .int .i64 7])
theorem ownsRow_only {w w' : World} {g base : Nat} {t : TypeId} {size n : Nat} {v : Value} {xs : List Value} (h : w.ownsRow base t size v n xs) (ho : Only g w w') (hg : g < base) : w'.ownsRow base t size v n xs := by
  refine ⟨h.1, ?_⟩
  rcases h.2 with h | ⟨q, cap, cur, hv, hq, hh, r⟩
  · exact .inl h
  · exact .inr ⟨q, cap, cur, hv, hq, (ho.block q (Array.getElem?_eq_some_iff.1 hh).1 (by omega)).trans hh, r⟩
theorem ownsRow_low {w : World} {base B : Nat} {t : TypeId} {size n : Nat} {v : Value} {xs : List Value} (h : w.ownsRow base t size v n xs) (hB : B ≤ base) : w.ownsRow B t size v n xs := by
  refine ⟨h.1, ?_⟩
  rcases h.2 with h | ⟨q, cap, cur, hv, hq, r⟩
  · exact .inl h
  · exact .inr ⟨q, cap, cur, hv, by omega, r⟩
theorem below_onl {g : Nat} {a w w' : World} (h : Below g a w) (ho : Only g w w') (hg : g < w.heap.size) : Below g a w' := h.trans (ho.below (Nat.le_refl _) (Nat.le_of_lt hg))
theorem rdr_grown {W w3 : World} {g : Nat} {s : ByteArray} {k : Nat} {row : Option Nat} (h : Rdr W g s k) (hg : W.grownBy w3 row) (hgn : ∀ j, row = some j → g ≠ j) : Rdr w3 g s k :=
  (hg.block g h.lt (fun e => hgn g e.symm rfl)).trans h
set_option maxRecDepth 100000 in
set_option maxHeartbeats 8000000 in
theorem jtokens (s : ByteArray) (w : World) (hs : s.size ≤ 100000) :
    Calls Try.prog 9 #[.string s] w fun e W' => TokJ (toks s.data.toList) w.heap.size e W' ∧ Below w.heap.size w W' := by
  obtain ⟨i0, hi, hz0, hz1, hz2⟩ := info_parts infoTokJ
  have HI := Lib.hid (And.intro hi (And.intro hz0 (And.intro hz1 hz2)))
  clear hi hz0 hz1 hz2
  have hl := Lib.hid (sz_len s)
  have HP := Lib.hid (fun g k w hR hk => jpeek g k s w hR hk (by omega : s.size ≤ 1000000))
  have HT := Lib.hid (fun g k hk => jtake g k s hk (by omega : s.size ≤ 1000000) (fun w hR => jnumber g k s w hR hk (by omega)))
  have HR0 : Hid (Rdr (w.alloc (.cells #[.string s, .int .i64 0] 63)) w.heap.size s 0) := Blk.new w _ _
  have HB0 : Hid (Below w.heap.size w (w.alloc (.cells #[.string s, .int .i64 0] 63))) := (Below.refl _ w).alloc (Nat.le_refl _) _
  go_enter Try.func9, Try.ntmps9
  go_upto_region 2 with fail
  generalize w.alloc (.cells #[.string s, .int .i64 0] 63) = W0 at *
  generalize hgg : w.heap.size = g at *
  have HGE := Lib.hid hgg
  clear hgg
  go_wp2_with fail
  go_loopw [5] (fun o wr => ∃ (k : Nat) (pre : List Tok), k ≤ s.size ∧ pre.length ≤ k ∧ toks s.data.toList = (toksAt s.data.toList k).map (pre ++ ·) ∧ wr.ownsRow (g + 1) 31 4 o pre.length (tokCs pre) ∧ Rdr wr g s k ∧ Below g w wr) (fun _ wr => s.size - atOf wr g)
  case atStart => exact ⟨0, [], Nat.zero_le _, Nat.le_refl _, by simp [toks], ⟨by simp [tokCs], .inl ⟨rfl, rfl⟩⟩, HR0.out, HB0.out⟩
  case round =>
    obtain ⟨k, pre, hk, hpk, hr, ho, hR, hb⟩ := hrel
    have HG := Lib.hid hr
    have HO := Lib.hid ho
    have HR := Lib.hid hR
    have HB := Lib.hid hb
    have c1 := hR.c1
    clear hr ho hR hb HR0 HB0
    by_cases hlt : k < s.size
    · have hst := toksAt_step (l := s.data.toList) (k := k) (by rw [← hl.out]; exact hlt)
      have y0 := bt_lt s.data.toList k
      have hP1 := HP.out g k wr HR.out (by omega)
      obtain ⟨r, hr, hi⟩ := index_in ⟨#[32, 9, 13, 10]⟩ (bt s.data.toList k) y0
      have HIx := Lib.hid hi
      rw [in_blank _ y0] at hr
      clear hi
      by_cases hbl : blankK (bt s.data.toList k)
      · rw [if_pos hbl] at hst
        rw [decide_eq_true hbl] at hr
        have hr2 : 0 ≤ r := by simpa using hr
        have HV : Hid (toks s.data.toList = (toksAt s.data.toList (k + 1)).map (pre ++ ·)) := by show _ = _; rw [HG.out, hst]
        clear hst hbl hr
        generalize bt s.data.toList k = c at *
        go_wp2_with fail
        refine hP1.mono ?_
        rintro e w2 ⟨rfl, b2⟩
        have HR2 := Lib.hid (HR.out.bel b2)
        have HO2 := Lib.hid (ownsRow_only HO.out (Only.of_below (g := g) b2) (Nat.lt_succ_self g))
        have HB2 := Lib.hid (below_onl HB.out (Only.of_below b2) HR.out.lt)
        clear hP1 b2 HO HB
        go_wp2_with fail
        refine (HIx.out _).mono ?_
        rintro e w' ⟨rfl, rfl⟩
        have c1 := HR2.out.c1
        have f1 := HR2.out.f1
        go_wp2_with fail
        go_roundw
        case rel => exact ⟨k + 1, pre, hlt, by omega, HV.out, ownsRow_only HO2.out ((Only.refl g _).set 1 _) (Nat.lt_succ_self g), HR2.out.set (k + 1), below_onl HB2.out ((Only.refl g _).set 1 _) HR2.out.lt⟩
        case measure =>
          have h1 := HR.out.at_
          have h2 := (HR2.out.set (k + 1)).at_
          show s.size - atOf (w2.setCell ⟨g, 1, none⟩ (.int .i64 ((k + 1 : Nat) : Int))) g < _
          omega
      · rw [if_neg hbl] at hst
        rw [decide_eq_false hbl] at hr
        have hr2 : r < 0 := by simpa using hr
        obtain ⟨F, hF, hF1, hF2⟩ := HT.out g k hlt
        have HFF := Lib.hid hF
        have HF1 := Lib.hid hF1
        have HF2 := Lib.hid hF2
        clear hbl hr hF1 hF2 hF
        generalize bt s.data.toList k = c at *
        go_wp2_with fail
        refine hP1.mono ?_
        rintro e w2 ⟨rfl, b2⟩
        have HR2 := Lib.hid (HR.out.bel b2)
        have HO2 := Lib.hid (ownsRow_only HO.out (Only.of_below (g := g) b2) (Nat.lt_succ_self g))
        have HB2 := Lib.hid (below_onl HB.out (Only.of_below b2) HR.out.lt)
        have HM := Lib.hid HR.out.at_
        clear hP1 b2 HO HB c1
        go_wp2_with fail
        refine (HIx.out _).mono ?_
        rintro e w' ⟨rfl, rfl⟩
        go_wp2_with fail
        refine (HF1.out _).mono ?_
        rintro e w' ⟨rfl, rfl⟩
        cases hot : oneT s.data.toList k with
        | none =>
          rw [hot] at hst HF2
          have HV : Hid (toks s.data.toList = none) := by show _ = _; rw [HG.out, hst]; rfl
          clear hst hot HT HP HG
          rcases HFF.out with rfl | rfl | rfl | rfl
          all_goals
            go_wp2_with fail
            refine (HF2.out _ HR2.out).mono ?_
            rintro e w3 ⟨⟨q1, q2, q3, q4, rfl⟩, o3⟩
            have HB3 := Lib.hid ((below_onl HB2.out o3 HR2.out.lt).alloc (by have := HR2.out.lt; have := o3.size; omega) (.cells #[.int .u8 q1, .string q2, .int .i64 q3, .int .i64 q4] 31))
            go_wp2_with fail
            go_ret2
            rw [HGE.out]
            exact ⟨by rw [HV.out]; rfl, HB3.out⟩
        | some t =>
          obtain ⟨t1, t2, t3, t4, t5⟩ := oneT_bd (by rw [← hl.out]; exact hlt) hot
          rw [hot] at hst HF2
          dsimp only at hst
          have HV : Hid (toks s.data.toList = (toksAt s.data.toList t.to).map ((pre ++ [t]) ++ ·)) := by
            show _ = _; rw [HG.out, hst]; cases toksAt s.data.toList t.to <;> simp
          rw [← hl.out] at t3
          unfold TakR at HF2
          dsimp only at HF2
          obtain ⟨tk, tx, tf, tt⟩ := t
          unfold tokC at HF2
          dsimp only at *
          have t1' := t1.symm
          clear t1
          subst t1'
          clear hst hot HT HP HG
          rcases HFF.out with rfl | rfl | rfl | rfl
          all_goals
            go_wp2_with fail
            refine (HF2.out _ HR2.out).mono ?_
            rintro e w3 ⟨⟨rfl, hR3⟩, o3⟩
            have ho3 := ownsRow_only HO2.out o3 (Nat.lt_succ_self g)
            have hb3 := below_onl HB2.out o3 HR2.out.lt
            have HR3 := Lib.hid hR3
            have e3 : pre.length + 1 ≤ maxLen := by unfold maxLen; omega
            have e4 : (pre.length + 1) * 40 ≤ 140737488355328 := by omega
            have hgl := HR3.out.lt
            clear hR3 o3
            have e5 : g + 1 ≤ ((w3.alloc (.cells #[.int .u8 tk, .string (strOf tx), .int .i64 k, .int .i64 tt] 31)).alloc (.cells #[.int .u8 tk, .string (strOf tx), .int .i64 k, .int .i64 tt] 31)).heap.size := by simp; omega
            obtain ⟨hi, hz0, hz1, hz2⟩ := HI.out
            have hT := (Blk.new w3 31 #[.int .u8 tk, .string (strOf tx), .int .i64 k, .int .i64 tt]).alloc (.cells #[.int .u8 tk, .string (strOf tx), .int .i64 k, .int .i64 tt] 31)
            have hTlt := hT.lt
            go_wp2_with (at_builtin; refine wpList_append_own _ rfl _ _ 23 rfl (g + 1) 31 i0 (.agg #[.int .u8 0, .string ⟨#[]⟩, .int .i64 0, .int .i64 0]) 4 40 Try.underlying23 hi hz0 hz1 hz2 rfl (by decide) _ _ _ rfl ((ho3.alloc _).alloc _) ⟨w3.heap.size + 1, 0, none⟩ 1 1 [.int .u8 tk, .string (strOf tx), .int .i64 k, .int .i64 tt] rfl rfl (cells_new1 w3 _ #[.int .u8 tk, .string (strOf tx), .int .i64 k, .int .i64 tt] _) (by simp [Value.oneCell']) e3 e4 e5 ?_; intro v' w4 hown' hgrow _; have hT3 := tok_kept hT hgrow (fun j hj => (ho3.lt j hj).2); have d3 := hT3.cell 3)
            have hR4 := rdr_grown ((HR3.out.alloc _).alloc _) hgrow (fun j hj => by have := (ho3.lt j hj).1; omega)
            go_roundw
            case rel => exact ⟨tt, pre ++ [⟨tk, tx, k, tt⟩], t3, by rw [List.length_append]; simp; omega, HV.out, by rw [tokCs_append, List.length_append]; exact hown', hR4, below_grown2 hb3 (Nat.le_of_lt hgl) (ownsRow_low ho3 (Nat.le_succ g)) hgrow⟩
            case measure => rw [hR4.at_, HM.out]; omega
    · have HE : Hid (toks s.data.toList = some pre) := by show _ = _; rw [HG.out, toksAt_end (by rw [← hl.out]; omega)]; simp
      go_wp2_with fail
      go_ret2
      rw [HGE.out]
      exact ⟨by rw [HE.out]; exact ⟨_, rfl, ownsRow_low HO.out (Nat.le_succ g)⟩, HB.out⟩
end Go.Proofs.Ytjnmcadfaombjaa
