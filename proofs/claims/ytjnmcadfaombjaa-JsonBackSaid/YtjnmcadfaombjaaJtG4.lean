/- Walks: the program's json reader: which taker comes (chapter 10). -/
import Derived.Test.YtjnmcadfaombjaaJtXY
import Derived.Test.YtjnmcadfaombjaaJtD
import Derived.Test.YtjnmcadfaombjaaJtW
import Derived.Test.YtjnmcadfaombjaaJtC
import Derived.Test.YtjnmcadfaombjaaJsF3
import Derived.Test.YtjnmcadfaombjaaJsW
import Derived.Deep.DeepCutAuto
import Derived.StillTailTactics
import Derived.Outline
import Derived.Test.YtjnmcadfaombjaaJtS
namespace Go.Proofs.Ytjnmcadfaombjaa
open Go.RowKit
set_option linter.unusedVariables false
set_option linter.unusedSimpArgs false
theorem in_mark (c : Nat) (hc : c < 256) : inL (⟨#[123, 125, 91, 93, 58, 44]⟩ : ByteArray).data.toList c = decide (markK c) := by
  have : ∀ c : Fin 256, inL (⟨#[123, 125, 91, 93, 58, 44]⟩ : ByteArray).data.toList c.val = decide (markK c.val) := by decide +kernel
  exact this ⟨c, hc⟩
theorem in_blank (c : Nat) (hc : c < 256) : inL (⟨#[32, 9, 13, 10]⟩ : ByteArray).data.toList c = decide (blankK c) := by
  have : ∀ c : Fin 256, inL (⟨#[32, 9, 13, 10]⟩ : ByteArray).data.toList c.val = decide (blankK c.val) := by decide +kernel
  exact this ⟨c, hc⟩
theorem atL_head {l p : List UInt8} {k : Nat} (h : atL l p k = true) (hp : 0 < p.length) : bt l k = bt p 0 := by
  unfold atL at h
  simp only [Bool.and_eq_true, decide_eq_true_eq] at h
  have e : bt l k = bt (l.drop k) 0 := (bt_drop0 l k).symm
  rw [e]
  have h2 := h.2
  generalize l.drop k = x at *
  rw [← h2]
  match x, p, hp with
  | [], _ :: _, _ => simp [bt]
  | y :: x, _ :: _, _ => simp [bt]
/-- The token that stands at a place, as the program looks for it. -/
theorem one_kind {l : List UInt8} {k : Nat} (hk : k < l.length) : oneT l k = if markK (bt l k) then some ⟨bt l k, [], k, k + 1⟩ else if bt l k = 34 then quotTok l k else if 97 ≤ bt l k ∧ bt l k ≤ 122 then wordTok l k else numTok l k := by
  unfold oneT
  split
  · rfl
  split
  · unfold quotTok; cases strJ (l.drop (k + 1)) with
    | none => rfl
    | some p => rfl
  rename_i h1 h2
  by_cases h3 : 97 ≤ bt l k ∧ bt l k ≤ 122
  · rw [if_pos h3]
    have hd : ¬ isDg (bt l k) := by unfold isDg; omega
    have hn : numE l k = none := by
      have e : numStart l k = k := if_neg (by omega)
      unfold numE
      rw [e, if_pos (digE_no hd)]
    unfold wordTok
    rw [hn]
  · rw [if_neg h3]
    have e1 : atL l tTrue k = false := by
      rw [Bool.eq_false_iff]; intro h
      have := atL_head h (by decide)
      exact h3 (by rw [this]; decide)
    have e2 : atL l tFalse k = false := by
      rw [Bool.eq_false_iff]; intro h
      have := atL_head h (by decide)
      exact h3 (by rw [this]; decide)
    have e3 : atL l tNull k = false := by
      rw [Bool.eq_false_iff]; intro h
      have := atL_head h (by decide)
      exact h3 (by rw [this]; decide)
    rw [e1, e2, e3, if_neg (by simp), if_neg (by simp), if_neg (by simp)]
    rfl
theorem jnext_mark (g c : Nat) (w : World) (hc : c < 256) (hm : markK c) :
    Calls Try.prog 25 #[.pointer (some ⟨g, 0, none⟩), .int .u8 c] w fun e w' => e = .returned (.func (Fn.func 38) #[.pointer (some ⟨g, 0, none⟩)] #[]) ∧ w = w' := by
  obtain ⟨r, hr, hi⟩ := index_in (⟨#[123, 125, 91, 93, 58, 44]⟩ : ByteArray) c hc
  have HI := Lib.hid hi
  rw [in_mark c hc] at hr
  have hr2 : 0 ≤ r := by rw [decide_eq_true hm] at hr; simpa using hr
  clear hr hi hm
  go_enter Try.func25, Try.ntmps25
  go_wp2_with fail
  refine (HI.out _).mono ?_
  rintro e w' ⟨rfl, rfl⟩
  go_wp2_with fail
  go_ret
  exact ⟨rfl, rfl⟩
theorem jnext_quote (g c : Nat) (w : World) (hc : c < 256) (hm : ¬ markK c) (h34 : c = 34) :
    Calls Try.prog 25 #[.pointer (some ⟨g, 0, none⟩), .int .u8 c] w fun e w' => e = .returned (.func (Fn.func 39) #[.pointer (some ⟨g, 0, none⟩)] #[]) ∧ w = w' := by
  obtain ⟨r, hr, hi⟩ := index_in (⟨#[123, 125, 91, 93, 58, 44]⟩ : ByteArray) c hc
  have HI := Lib.hid hi
  rw [in_mark c hc] at hr
  have hr2 : r < 0 := by rw [decide_eq_false hm] at hr; simpa using hr
  clear hr hi hm
  subst h34
  go_enter Try.func25, Try.ntmps25
  go_wp2_with fail
  refine (HI.out _).mono ?_
  rintro e w' ⟨rfl, rfl⟩
  go_wp2_with fail
  go_ret
  exact ⟨rfl, rfl⟩
theorem jnext_word (g c : Nat) (w : World) (hc : c < 256) (hm : ¬ markK c) (h34 : c ≠ 34) (h1 : 97 ≤ c) (h2 : c ≤ 122) :
    Calls Try.prog 25 #[.pointer (some ⟨g, 0, none⟩), .int .u8 c] w fun e w' => e = .returned (.func (Fn.func 40) #[.pointer (some ⟨g, 0, none⟩)] #[]) ∧ w = w' := by
  obtain ⟨r, hr, hi⟩ := index_in (⟨#[123, 125, 91, 93, 58, 44]⟩ : ByteArray) c hc
  have HI := Lib.hid hi
  rw [in_mark c hc] at hr
  have hr2 : r < 0 := by rw [decide_eq_false hm] at hr; simpa using hr
  clear hr hi hm
  have hq : ((c : Int) == 34) = false := by simp; omega
  clear h34
  go_enter Try.func25, Try.ntmps25
  go_wp2_with fail
  refine (HI.out _).mono ?_
  rintro e w' ⟨rfl, rfl⟩
  go_wp2_with fail
  go_ret
  exact ⟨rfl, rfl⟩
theorem jnext_num (g c : Nat) (w : World) (hc : c < 256) (hm : ¬ markK c) (h34 : c ≠ 34) (h1 : c < 97 ∨ 123 ≤ c) :
    Calls Try.prog 25 #[.pointer (some ⟨g, 0, none⟩), .int .u8 c] w fun e w' => e = .returned (.func (Fn.func 41) #[.pointer (some ⟨g, 0, none⟩)] #[]) ∧ w = w' := by
  obtain ⟨r, hr, hi⟩ := index_in (⟨#[123, 125, 91, 93, 58, 44]⟩ : ByteArray) c hc
  have HI := Lib.hid hi
  rw [in_mark c hc] at hr
  have hr2 : r < 0 := by rw [decide_eq_false hm] at hr; simpa using hr
  clear hr hi hm
  have hq : ((c : Int) == 34) = false := by simp; omega
  clear h34
  rcases h1 with h1 | h1
  all_goals
    go_enter Try.func25, Try.ntmps25
    go_wp2_with fail
    refine (HI.out _).mono ?_
    rintro e w' ⟨rfl, rfl⟩
    go_wp2_with fail
    go_ret
    exact ⟨rfl, rfl⟩
/-- What takes the token at a place: which function it is, and what it hands back. -/
theorem jtake (g k : Nat) (s : ByteArray) (hk : k < s.size) (hs : s.size ≤ 1000000) (hN : ∀ w, Rdr w g s k → Calls Try.prog 41 #[.pointer (some ⟨g, 0, none⟩)] w fun e w' => TakR (numTok s.data.toList k) g s e w' ∧ Only g w w') : ∃ F : FuncId, (F = 38 ∨ F = 39 ∨ F = 40 ∨ F = 41) ∧ (∀ w, Calls Try.prog 25 #[.pointer (some ⟨g, 0, none⟩), .int .u8 (bt s.data.toList k)] w fun e w' => e = .returned (.func (Fn.func F) #[.pointer (some ⟨g, 0, none⟩)] #[]) ∧ w = w') ∧
    (∀ w, Rdr w g s k → Calls Try.prog F #[.pointer (some ⟨g, 0, none⟩)] w fun e w' => TakR (oneT s.data.toList k) g s e w' ∧ Only g w w') := by
  have hl := sz_len s
  have y0 := bt_lt s.data.toList k
  rw [one_kind (l := s.data.toList) (k := k) (by omega)]
  by_cases hm : markK (bt s.data.toList k)
  · rw [if_pos hm]
    exact ⟨_, .inl rfl, fun w => jnext_mark g _ w y0 hm, fun w hR => jmark g k s w hR hk hs⟩
  rw [if_neg hm]
  by_cases h34 : bt s.data.toList k = 34
  · rw [if_pos h34]
    exact ⟨_, .inr (.inl rfl), fun w => jnext_quote g _ w y0 hm h34, fun w hR => jquoted g k s w hR hk hs⟩
  rw [if_neg h34]
  by_cases hw : 97 ≤ bt s.data.toList k ∧ bt s.data.toList k ≤ 122
  · rw [if_pos hw]
    exact ⟨_, .inr (.inr (.inl rfl)), fun w => jnext_word g _ w y0 hm h34 hw.1 hw.2, fun w hR => jword g k s w hR hk hs⟩
  rw [if_neg hw]
  exact ⟨_, .inr (.inr (.inr rfl)), fun w => jnext_num g _ w y0 hm h34 (by omega), hN⟩
end Go.Proofs.Ytjnmcadfaombjaa

/- Walks: the program's Tokens (chapter 10). -/
namespace Go.Proofs.Ytjnmcadfaombjaa
open Go.RowKit
set_option linter.unusedVariables false
set_option linter.unusedSimpArgs false
theorem infoTokJ : (Try.prog.info? 31).map (fun i => (i.zero, i.size, i.bytes)) = some (some (.agg #[.int .u8 0, .string ⟨#[]⟩, .int .i64 0, .int .i64 0]), 4, 40) := by kernel_rfl
def TokJ (o : Option (List Tok)) (B : Nat) (e : Ending) (W : World) : Prop := match o with
  | some ts => ∃ v, e = .returned (.tuple #[v, .int .i64 0]) ∧ W.ownsRow B 31 4 v ts.length (tokCs ts)
  | none => e = .returned (.tuple #[.slice none 0 0, .int .i64 7])
theorem ownsRow_only {w w' : World} {g base : Nat} {t : TypeId} {size n : Nat} {v : Value} {xs : List Value} (h : w.ownsRow base t size v n xs) (ho : Only g w w') (hg : g < base) : w'.ownsRow base t size v n xs := by
  refine ⟨h.1, ?_⟩
  rcases h.2 with h | ⟨q, cap, cur, hv, hq, hh, r⟩
  · exact .inl h
  · exact .inr ⟨q, cap, cur, hv, hq, (ho.block q (Array.getElem?_eq_some_iff.1 hh).1 (by omega)).trans hh, r⟩
theorem ownsRow_low {w : World} {base B : Nat} {t : TypeId} {size n : Nat} {v : Value} {xs : List Value} (h : w.ownsRow base t size v n xs) (hB : B ≤ base) : w.ownsRow B t size v n xs := by
  refine ⟨h.1, ?_⟩
  rcases h.2 with h | ⟨q, cap, cur, hv, hq, r⟩
  · exact .inl h
  · exact .inr ⟨q, cap, cur, hv, by omega, r⟩
theorem below_onl {g : Nat} {a w w' : World} (h : Below g a w) (ho : Only g w w') (hg : g < w.heap.size) : Below g a w' := h.trans (ho.below (Nat.le_refl _) (Nat.le_of_lt hg))
theorem rdr_grown {W w3 : World} {g : Nat} {s : ByteArray} {k : Nat} {row : Option Nat} (h : Rdr W g s k) (hg : W.grownBy w3 row) (hgn : ∀ j, row = some j → g ≠ j) : Rdr w3 g s k :=
  (hg.block g h.lt (fun e => hgn g e.symm rfl)).trans h
set_option maxRecDepth 100000 in
set_option maxHeartbeats 8000000 in
theorem jtokens (s : ByteArray) (w : World) (hs : s.size ≤ 100000) :
    Calls Try.prog 9 #[.string s] w fun e W' => TokJ (toks s.data.toList) w.heap.size e W' ∧ Below w.heap.size w W' := by
  obtain ⟨i0, hi, hz0, hz1, hz2⟩ := info_parts infoTokJ
  have HI := Lib.hid (And.intro hi (And.intro hz0 (And.intro hz1 hz2)))
  clear hi hz0 hz1 hz2
  have hl := Lib.hid (sz_len s)
  have HP := Lib.hid (fun g k w hR hk => jpeek g k s w hR hk (by omega : s.size ≤ 1000000))
  have HT := Lib.hid (fun g k hk => jtake g k s hk (by omega : s.size ≤ 1000000) (fun w hR => jnumber g k s w hR hk (by omega)))
  have HR0 : Hid (Rdr (w.alloc (.cells #[.string s, .int .i64 0] 63)) w.heap.size s 0) := Blk.new w _ _
  have HB0 : Hid (Below w.heap.size w (w.alloc (.cells #[.string s, .int .i64 0] 63))) := (Below.refl _ w).alloc (Nat.le_refl _) _
  go_enter Try.func9, Try.ntmps9
  go_upto_region 2 with fail
  generalize w.alloc (.cells #[.string s, .int .i64 0] 63) = W0 at *
  generalize hgg : w.heap.size = g at *
  have HGE := Lib.hid hgg
  clear hgg
  go_wp2_with fail
  go_loopw [5] (fun o wr => ∃ (k : Nat) (pre : List Tok), k ≤ s.size ∧ pre.length ≤ k ∧ toks s.data.toList = (toksAt s.data.toList k).map (pre ++ ·) ∧ wr.ownsRow (g + 1) 31 4 o pre.length (tokCs pre) ∧ Rdr wr g s k ∧ Below g w wr) (fun _ wr => s.size - atOf wr g)
  case atStart => exact ⟨0, [], Nat.zero_le _, Nat.le_refl _, by simp [toks], ⟨by simp [tokCs], .inl ⟨rfl, rfl⟩⟩, HR0.out, HB0.out⟩
  case round =>
    obtain ⟨k, pre, hk, hpk, hr, ho, hR, hb⟩ := hrel
    have HG := Lib.hid hr
    have HO := Lib.hid ho
    have HR := Lib.hid hR
    have HB := Lib.hid hb
    have c1 := hR.c1
    clear hr ho hR hb HR0 HB0
    by_cases hlt : k < s.size
    · have hst := toksAt_step (l := s.data.toList) (k := k) (by rw [← hl.out]; exact hlt)
      have y0 := bt_lt s.data.toList k
      have hP1 := HP.out g k wr HR.out (by omega)
      obtain ⟨r, hr, hi⟩ := index_in ⟨#[32, 9, 13, 10]⟩ (bt s.data.toList k) y0
      have HIx := Lib.hid hi
      rw [in_blank _ y0] at hr
      clear hi
      by_cases hbl : blankK (bt s.data.toList k)
      · rw [if_pos hbl] at hst
        rw [decide_eq_true hbl] at hr
        have hr2 : 0 ≤ r := by simpa using hr
        have HV : Hid (toks s.data.toList = (toksAt s.data.toList (k + 1)).map (pre ++ ·)) := by show _ = _; rw [HG.out, hst]
        clear hst hbl hr
        generalize bt s.data.toList k = c at *
        go_wp2_with fail
        refine hP1.mono ?_
        rintro e w2 ⟨rfl, b2⟩
        have HR2 := Lib.hid (HR.out.bel b2)
        have HO2 := Lib.hid (ownsRow_only HO.out (Only.of_below (g := g) b2) (Nat.lt_succ_self g))
        have HB2 := Lib.hid (below_onl HB.out (Only.of_below b2) HR.out.lt)
        clear hP1 b2 HO HB
        go_wp2_with fail
        refine (HIx.out _).mono ?_
        rintro e w' ⟨rfl, rfl⟩
        have c1 := HR2.out.c1
        have f1 := HR2.out.f1
        go_wp2_with fail
        go_roundw
        case rel => exact ⟨k + 1, pre, hlt, by omega, HV.out, ownsRow_only HO2.out ((Only.refl g _).set 1 _) (Nat.lt_succ_self g), HR2.out.set (k + 1), below_onl HB2.out ((Only.refl g _).set 1 _) HR2.out.lt⟩
        case measure =>
          have h1 := HR.out.at_
          have h2 := (HR2.out.set (k + 1)).at_
          show s.size - atOf (w2.setCell ⟨g, 1, none⟩ (.int .i64 ((k + 1 : Nat) : Int))) g < _
          omega
      · rw [if_neg hbl] at hst
        rw [decide_eq_false hbl] at hr
        have hr2 : r < 0 := by simpa using hr
        obtain ⟨F, hF, hF1, hF2⟩ := HT.out g k hlt
        have HFF := Lib.hid hF
        have HF1 := Lib.hid hF1
        have HF2 := Lib.hid hF2
        clear hbl hr hF1 hF2 hF
        generalize bt s.data.toList k = c at *
        go_wp2_with fail
        refine hP1.mono ?_
        rintro e w2 ⟨rfl, b2⟩
        have HR2 := Lib.hid (HR.out.bel b2)
        have HO2 := Lib.hid (ownsRow_only HO.out (Only.of_below (g := g) b2) (Nat.lt_succ_self g))
        have HB2 := Lib.hid (below_onl HB.out (Only.of_below b2) HR.out.lt)
        have HM := Lib.hid HR.out.at_
        clear hP1 b2 HO HB c1
        go_wp2_with fail
        refine (HIx.out _).mono ?_
        rintro e w' ⟨rfl, rfl⟩
        go_wp2_with fail
        refine (HF1.out _).mono ?_
        rintro e w' ⟨rfl, rfl⟩
        cases hot : oneT s.data.toList k with
        | none =>
          rw [hot] at hst HF2
          have HV : Hid (toks s.data.toList = none) := by show _ = _; rw [HG.out, hst]; rfl
          clear hst hot HT HP HG
          rcases HFF.out with rfl | rfl | rfl | rfl
          all_goals
            go_wp2_with fail
            refine (HF2.out _ HR2.out).mono ?_
            rintro e w3 ⟨⟨q1, q2, q3, q4, rfl⟩, o3⟩
            have HB3 := Lib.hid ((below_onl HB2.out o3 HR2.out.lt).alloc (by have := HR2.out.lt; have := o3.size; omega) (.cells #[.int .u8 q1, .string q2, .int .i64 q3, .int .i64 q4] 31))
            go_wp2_with fail
            go_ret2
            rw [HGE.out]
            exact ⟨by rw [HV.out]; rfl, HB3.out⟩
        | some t =>
          obtain ⟨t1, t2, t3, t4, t5⟩ := oneT_bd (by rw [← hl.out]; exact hlt) hot
          rw [hot] at hst HF2
          dsimp only at hst
          have HV : Hid (toks s.data.toList = (toksAt s.data.toList t.to).map ((pre ++ [t]) ++ ·)) := by
            show _ = _; rw [HG.out, hst]; cases toksAt s.data.toList t.to <;> simp
          rw [← hl.out] at t3
          unfold TakR at HF2
          dsimp only at HF2
          obtain ⟨tk, tx, tf, tt⟩ := t
          unfold tokC at HF2
          dsimp only at *
          have t1' := t1.symm
          clear t1
          subst t1'
          clear hst hot HT HP HG
          rcases HFF.out with rfl | rfl | rfl | rfl
          all_goals
            go_wp2_with fail
            refine (HF2.out _ HR2.out).mono ?_
            rintro e w3 ⟨⟨rfl, hR3⟩, o3⟩
            have ho3 := ownsRow_only HO2.out o3 (Nat.lt_succ_self g)
            have hb3 := below_onl HB2.out o3 HR2.out.lt
            have HR3 := Lib.hid hR3
            have e3 : pre.length + 1 ≤ maxLen := by unfold maxLen; omega
            have e4 : (pre.length + 1) * 40 ≤ 140737488355328 := by omega
            have hgl := HR3.out.lt
            clear hR3 o3
            have e5 : g + 1 ≤ ((w3.alloc (.cells #[.int .u8 tk, .string (strOf tx), .int .i64 k, .int .i64 tt] 31)).alloc (.cells #[.int .u8 tk, .string (strOf tx), .int .i64 k, .int .i64 tt] 31)).heap.size := by simp; omega
            obtain ⟨hi, hz0, hz1, hz2⟩ := HI.out
            have hT := (Blk.new w3 31 #[.int .u8 tk, .string (strOf tx), .int .i64 k, .int .i64 tt]).alloc (.cells #[.int .u8 tk, .string (strOf tx), .int .i64 k, .int .i64 tt] 31)
            have hTlt := hT.lt
            go_wp2_with (at_builtin; refine wpList_append_own _ rfl _ _ 23 rfl (g + 1) 31 i0 (.agg #[.int .u8 0, .string ⟨#[]⟩, .int .i64 0, .int .i64 0]) 4 40 Try.underlying23 hi hz0 hz1 hz2 rfl (by decide) _ _ _ rfl ((ho3.alloc _).alloc _) ⟨w3.heap.size + 1, 0, none⟩ 1 1 [.int .u8 tk, .string (strOf tx), .int .i64 k, .int .i64 tt] rfl rfl (cells_new1 w3 _ #[.int .u8 tk, .string (strOf tx), .int .i64 k, .int .i64 tt] _) (by simp [Value.oneCell']) e3 e4 e5 ?_; intro v' w4 hown' hgrow _; have hT3 := tok_kept hT hgrow (fun j hj => (ho3.lt j hj).2); have d3 := hT3.cell 3)
            have hR4 := rdr_grown ((HR3.out.alloc _).alloc _) hgrow (fun j hj => by have := (ho3.lt j hj).1; omega)
            go_roundw
            case rel => exact ⟨tt, pre ++ [⟨tk, tx, k, tt⟩], t3, by rw [List.length_append]; simp; omega, HV.out, by rw [tokCs_append, List.length_append]; exact hown', hR4, below_grown2 hb3 (Nat.le_of_lt hgl) (ownsRow_low ho3 (Nat.le_succ g)) hgrow⟩
            case measure => rw [hR4.at_, HM.out]; omega
    · have HE : Hid (toks s.data.toList = some pre) := by show _ = _; rw [HG.out, toksAt_end (by rw [← hl.out]; omega)]; simp
      go_wp2_with fail
      go_ret2
      rw [HGE.out]
      exact ⟨by rw [HE.out]; exact ⟨_, rfl, ownsRow_low HO.out (Nat.le_succ g)⟩, HB.out⟩
end Go.Proofs.Ytjnmcadfaombjaa

/- What lies in memory while build reads a row's or a map's members (chapter 10). -/
namespace Go.Proofs.Ytjnmcadfaombjaa
open Go.RowKit
set_option linter.unusedVariables false
set_option linter.unusedSimpArgs false
structure MidJ (q : Nat) (x : ByteArray) (B : Nat) (w : World) (ks : List (List UInt8)) (ns : List Node) (kv nv : Value) (cs : List Value) (wr : World) : Prop where
  hR : Blk wr B 39 zeroNC
  hN : Blk wr (B + 1) 39 #[.int .u8 q, .string x, kv, nv]
  hkv : wr.ownsRow (B + 2) 9 1 kv ks.length (strC ks)
  hnv : wr.ownsRow (B + 2) 39 4 nv ns.length cs
  hkids : KidsW wr (fun g => B + 2 ≤ g ∧ kv.ownBlock ≠ some g ∧ nv.ownBlock ≠ some g) ns cs
  bel : Below B w wr
variable {q : Nat} {x : ByteArray} {B : Nat} {w : World} {ks : List (List UInt8)} {ns : List Node} {kv nv : Value} {cs : List Value} {wr : World}
theorem MidJ.below {w2 : World} (h : MidJ q x B w ks ns kv nv cs wr) (hb : Below wr.heap.size wr w2) : MidJ q x B w ks ns kv nv cs w2 :=
  ⟨h.hR.below hb h.hR.lt, h.hN.below hb h.hN.lt, ownsRow_ofBelow h.hkv hb, ownsRow_ofBelow h.hnv hb,
    KidsW.mono (fun g hg hl => ⟨hg, by have := hb.size; omega, hb.block g hl⟩) ns cs h.hkids, h.bel.trans (hb.mono (Nat.le_of_lt h.hR.lt))⟩
/-- What a key's append leaves. -/
def KeyCutJ (B : Nat) (q : Int) (x : ByteArray) (kv nv : Value) (ks : List (List UInt8)) (y : List UInt8) (wr wx : World) : Prop :=
  ∃ g2 cap2, Blk wx (B + 1) 39 #[.int .u8 q, .string x, .slice (some ⟨g2, 0, none⟩) (ks.length + 1) cap2, nv] ∧
    wx.ownsRow (B + 2) 9 1 (.slice (some ⟨g2, 0, none⟩) (ks.length + 1) cap2) (ks.length + 1) (strC ks ++ [.string (strOf y)]) ∧
    (kv.ownBlock = some g2 ∨ wr.heap.size ≤ g2) ∧ wr.heap.size ≤ wx.heap.size ∧ wx.os = wr.os ∧ wx.tape = wr.tape ∧ wx.output = wr.output ∧
    ∀ b, b < wr.heap.size → b ≠ B + 1 → kv.ownBlock ≠ some b → wx.heap[b]? = wr.heap[b]?
theorem key_doneJ {B g2 cap2 : Nat} {q : Int} {x : ByteArray} {kv nv : Value} {ks : List (List UInt8)} {y : List UInt8} {wr w3 : World} {o : Obj} (hN3 : Blk w3 (B + 1) 39 #[.int .u8 q, .string x, kv, nv])
    (ho : w3.ownsRow (B + 2) 9 1 (.slice (some ⟨g2, 0, none⟩) (ks.length + 1) cap2) (ks.length + 1) (strC ks ++ [.string (strOf y)]))
    (hg : ((wr.alloc o).drew).grownBy w3 kv.ownBlock) (hf : kv.ownBlock = some g2 ∨ g2 = wr.heap.size + 1) :
    KeyCutJ B q x kv nv ks y wr (w3.setCell ⟨B + 1, 2, none⟩ (.slice (some ⟨g2, 0, none⟩) (ks.length + 1) cap2)) := by
  have hsz : wr.heap.size + 1 ≤ w3.heap.size := by have := hg.size; simpa using this
  refine ⟨g2, cap2, hN3.set_ 2 _, ownsRow_setCell_below ho (a := ⟨B + 1, 2, none⟩) (by show B + 1 < B + 2; omega) _, ?_, ?_, hg.os, hg.tape, hg.output, fun b hb hne hk => ?_⟩
  · rcases hf with h | h
    · exact .inl h
    · exact .inr (by omega)
  · have : (w3.setCell ⟨B + 1, 2, none⟩ (.slice (some ⟨g2, 0, none⟩) (ks.length + 1) cap2)).heap.size = w3.heap.size := by simp [World.setCell]
    omega
  · rw [Below.heap_setCell w3 ⟨B + 1, 2, none⟩ _ b hne, hg.block b (by simp; omega) (fun h => hk h.symm)]
    exact Below.heap_alloc wr o b hb
theorem MidJ.key {y : List UInt8} {wx : World} (h : MidJ q x B w ks ns kv nv cs wr) (hc : KeyCutJ B q x kv nv ks y wr wx) (hne : (9 : TypeId) ≠ 39) : ∃ kv', MidJ q x B w (ks ++ [y]) ns kv' nv cs wx := by
  obtain ⟨g2, cap2, hN', hkv', hfr, hsz, hos, htape, hout, hblk⟩ := hc
  have hkl := fun b hb => h.hkv.lt b hb
  have hnl := fun b hb => h.hnv.lt b hb
  refine ⟨_, ?_, hN', ?_, ?_, ?_, ?_⟩
  · exact (hblk B h.hR.lt (by omega) (fun e => by have := (hkl B e).1; omega)).trans h.hR
  · rw [strC_snoc, List.length_append]; exact hkv'
  · exact ownsRow_same h.hnv fun b hb => hblk b (hnl b hb).2 (by have := (hnl b hb).1; omega) (fun e => rows_apart h.hkv h.hnv hne b e hb)
  · refine KidsW.mono (fun g hg hl => ?_) ns cs h.hkids
    refine ⟨⟨hg.1, fun e => ?_, hg.2.2⟩, by omega, hblk g hl (by have := hg.1; omega) hg.2.1⟩
    simp [Value.ownBlock] at e
    subst e
    rcases hfr with hfr | hfr
    · exact hg.2.1 hfr
    · omega
  · exact h.bel.trans ⟨hos, htape, hout, hsz, fun b hb => hblk b (by have := h.bel.size; have := h.hR.lt; omega) (by omega) (fun e => by have := (hkl b e).1; omega)⟩
theorem MidJ.kid {n : Node} {a b c d : Value} {wc w2 w3 : World} {g3 cap3 : Nat} {o1 o2 : Obj} (hc : MidJ q x B w ks ns kv nv cs wc) (h : MidJ q x B w ks ns kv nv cs w2) (hsz : wc.heap.size ≤ w2.heap.size)
    (hn : NodeW w2 (fun g => wc.heap.size ≤ g) n (.agg #[a, b, c, d])) (hN3 : Blk w3 (B + 1) 39 #[.int .u8 q, .string x, kv, nv])
    (ho : w3.ownsRow (B + 2) 39 4 (.slice (some ⟨g3, 0, none⟩) (ns.length + 1) cap3) (ns.length + 1) (cs ++ [a, b, c, d]))
    (hg : ((w2.alloc o1).alloc o2).grownBy w3 nv.ownBlock) (hf : nv.ownBlock = some g3 ∨ g3 = w2.heap.size + 2) (hne : (9 : TypeId) ≠ 39) :
    MidJ q x B w ks (ns ++ [n]) kv (.slice (some ⟨g3, 0, none⟩) (ns.length + 1) cap3) (cs ++ [a, b, c, d]) (w3.setCell ⟨B + 1, 3, none⟩ (.slice (some ⟨g3, 0, none⟩) (ns.length + 1) cap3)) := by
  have hkl := fun b hb => hc.hkv.lt b hb
  have hnl := fun b hb => hc.hnv.lt b hb
  have hsz3 : w2.heap.size + 2 ≤ w3.heap.size := by have := hg.size; simpa using this
  have hsz4 : (w3.setCell ⟨B + 1, 3, none⟩ (.slice (some ⟨g3, 0, none⟩) (ns.length + 1) cap3)).heap.size = w3.heap.size := by simp [World.setCell]
  have hblk : ∀ k, k < w2.heap.size → k ≠ B + 1 → nv.ownBlock ≠ some k → (w3.setCell ⟨B + 1, 3, none⟩ (.slice (some ⟨g3, 0, none⟩) (ns.length + 1) cap3)).heap[k]? = w2.heap[k]? := by
    intro k hk hne hkn
    rw [Below.heap_setCell w3 ⟨B + 1, 3, none⟩ _ k hne, hg.block k (by simp; omega) (fun h => hkn h.symm)]
    exact (Below.heap_alloc (w2.alloc o1) o2 k (by simp; omega)).trans (Below.heap_alloc w2 o1 k hk)
  have hRl := h.hR.lt
  refine ⟨?_, hN3.set_ 3 _, ?_, ?_, ?_, ?_⟩
  · exact (hblk B hRl (by omega) (fun e => by have := (hnl B e).1; omega)).trans h.hR
  · exact ownsRow_same h.hkv fun k hk => hblk k (by have := (hkl k hk).2; omega) (by have := (hkl k hk).1; omega) (fun e => rows_apart h.hkv h.hnv hne k hk e)
  · rw [List.length_append]; exact ownsRow_setCell_below ho (a := ⟨B + 1, 3, none⟩) (by show B + 1 < B + 2; omega) _
  · refine KidsW.snoc ?_ ns cs ?_
    · refine NodeW.mono (fun g hg2 hl => ?_) n _ hn
      have e1 : kv.ownBlock ≠ some g := fun e => by have := (hkl g e).2; omega
      have e2 : nv.ownBlock ≠ some g := fun e => by have := (hnl g e).2; omega
      have e3 := hc.hN.lt
      refine ⟨⟨by omega, e1, fun e => ?_⟩, by omega, hblk g hl (by omega) e2⟩
      simp [Value.ownBlock] at e
      subst e
      rcases hf with hf | hf
      · exact e2 hf
      · omega
    · refine KidsW.mono (fun g hg2 hl => ?_) ns cs h.hkids
      refine ⟨⟨hg2.1, hg2.2.1, fun e => ?_⟩, by omega, hblk g hl (by have := hg2.1; omega) hg2.2.2⟩
      simp [Value.ownBlock] at e
      subst e
      rcases hf with hf | hf
      · exact hg2.2.2 hf
      · omega
  · exact h.bel.trans ⟨hg.os, hg.tape, hg.output, by omega, fun k hk => hblk k (by omega) (by omega) (fun e => by have := (hnl k e).1; omega)⟩
/-- What the node is at the end. -/
theorem MidJ.node {t : List UInt8} (h : MidJ q x B w ks ns kv nv cs wr) (hx : strOf t = x) {w2 : World} (hb : ∀ k, B + 2 ≤ k → w2.heap[k]? = wr.heap[k]?) (hs : wr.heap.size ≤ w2.heap.size) : NodeW w2 (fun g => B ≤ g) (.mk q t ks ns) (.agg #[.int .u8 q, .string x, kv, nv]) := by
  have hh : ∀ g, B + 2 ≤ g → g < wr.heap.size → (B ≤ g) ∧ g < w2.heap.size ∧ w2.heap[g]? = wr.heap[g]? := fun g hg hl => ⟨by omega, by omega, hb g hg⟩
  unfold NodeW
  refine ⟨kv, nv, cs, by rw [hx], ?_, ?_, ?_⟩
  · exact (RowW.own (ok := fun g => B + 2 ≤ g) h.hkv (fun g _ hg => hg)).mono hh
  · exact (RowW.own (ok := fun g => B + 2 ≤ g) h.hnv (fun g _ hg => hg)).mono hh
  · exact KidsW.mono (fun g hg hl => hh g hg.1 hl) ns cs h.hkids
end Go.Proofs.Ytjnmcadfaombjaa

/- Walks: build (chapter 10). -/
namespace Go.Proofs.Ytjnmcadfaombjaa
open Go.RowKit
set_option linter.unusedVariables false
set_option linter.unusedSimpArgs false
set_option maxRecDepth 100000 in
set_option maxHeartbeats 4000000 in
theorem jbuild_leaf (ts : List Tok) (g o N cap k : Nat) (t : Tok) (w : World) (ht : ts[k]? = some t) (hT : TokAt w w.heap.size (some ⟨g, 0, none⟩) ts) (ho : o = k * 4) (hN : N + k = ts.length) (hl : ts.length ≤ 100000) (hq : t.kind = 34 ∨ t.kind = 48 ∨ t.kind = 97) :
    Calls Try.prog 28 #[.slice (some ⟨g, o, none⟩) N cap] w fun e w' => (∃ a b c d, e = .returned (.tuple #[.agg #[a, b, c, d], .int .i64 1]) ∧ NodeW w' (fun g => w.heap.size ≤ g) (.mk t.kind t.text [] []) (.agg #[a, b, c, d])) ∧ Below w.heap.size w w' := by
  obtain ⟨g', hge, hg, c0, c1⟩ := hT.facts ht
  obtain rfl : g = g' := by simpa using hge
  rw [← ho] at c0 c1
  have hNp : 0 < N := by
    rcases Nat.lt_or_ge k ts.length with h | h
    · omega
    · rw [List.getElem?_eq_none h] at ht; cases ht
  have hNl : N ≤ 100000 := by omega
  have HF : Hid (∀ W : World, NodeW W (fun g => w.heap.size ≤ g) (.mk t.kind t.text [] []) (.agg #[.int .u8 t.kind, .string (strOf t.text), .slice none 0 0, .slice none 0 0])) := fun W => node_leaf _ _ _ _
  have hq1 : ((t.kind : Int) != 91) = true := by simp only [bne_iff_ne]; omega
  have hq2 : ((t.kind : Int) != 123) = true := by simp only [bne_iff_ne]; omega
  generalize t.kind = q at *
  generalize strOf t.text = x at *
  clear hT ht ho hN hge hq
  have HB0 := Lib.hid ((Below.refl w.heap.size w).alloc (Nat.le_refl _) (.cells zeroNC 39))
  have HR0 := Lib.hid (Blk.new w 39 zeroNC)
  have hgw : g < w.heap.size := hg
  have K1 : ∀ w', Below w.heap.size w w' → w'.cell? ⟨g, o, none⟩ = some (.int .u8 q) ∧ w'.cell? ⟨g, o + 1, none⟩ = some (.string x) := fun w' h => ⟨(h.cell (p := ⟨g, o, none⟩) hg).trans c0, (h.cell (p := ⟨g, o + 1, none⟩) hg).trans c1⟩
  have HK1 := Lib.hid K1
  clear K1 c0 c1
  unfold zeroNC at HB0 HR0
  go_enter Try.func28, Try.ntmps28
  go_upto_region 1 with fail
  go_region_held3 (fun w' => w'.cell? ⟨g, o, none⟩ = some (.int .u8 q) ∧ w'.cell? ⟨g, o + 1, none⟩ = some (.string x)) (first | exact HK1.out _ HB0.out | exact HK1.out _ (below_drew' HB0.out) | exact HK1.out _ (below_drew' (HB0.out.alloc HB0.out.size _)) | exact HK1.out _ ((below_drew' HB0.out).alloc HB0.out.size _)) (fail)
  have HN0 : Hid (Blk ((w.alloc (.cells #[.int .u8 0, .string ⟨#[]⟩, .slice none 0 0, .slice none 0 0] 39)).alloc (.cells #[.int .u8 q, .string x, .slice none 0 0, .slice none 0 0] 39)) (w.heap.size + 1) 39 #[.int .u8 q, .string x, .slice none 0 0, .slice none 0 0]) := by
    have := Blk.new (w.alloc (.cells #[.int .u8 0, .string ⟨#[]⟩, .slice none 0 0, .slice none 0 0] 39)) 39 #[.int .u8 q, .string x, .slice none 0 0, .slice none 0 0]
    rwa [World.size_alloc] at this
  have HR1 := Lib.hid (HR0.out.alloc (.cells #[.int .u8 q, .string x, .slice none 0 0, .slice none 0 0] 39))
  have HB1 := Lib.hid (HB0.out.alloc HB0.out.size (.cells #[.int .u8 q, .string x, .slice none 0 0, .slice none 0 0] 39))
  clear HR0 HB0 HK1
  obtain ⟨W1, hW1⟩ : ∃ W1, (w.alloc (.cells #[.int .u8 0, .string ⟨#[]⟩, .slice none 0 0, .slice none 0 0] 39)).alloc (.cells #[.int .u8 q, .string x, .slice none 0 0, .slice none 0 0] 39) = W1 := ⟨_, rfl⟩
  rw [hW1] at HN0 HR1 HB1 ⊢
  clear hW1
  have HN2 := Lib.hid HN0.out.drew
  have HR2 := Lib.hid HR1.out.drew
  have HB2 := Lib.hid (below_drew' HB1.out)
  clear HN0 HR1 HB1
  generalize W1.drew = W2 at *
  have r0 := HR2.out.cell 0
  have f0 := HR2.out.frozen 0
  have r1 := HR2.out.cell 1
  have f1 := HR2.out.frozen 1
  have r2 := HR2.out.cell 2
  have f2 := HR2.out.frozen 2
  have r3 := HR2.out.cell 3
  have f3 := HR2.out.frozen 3
  unfold zeroNC at r0 r1 r2 r3
  have n0 := HN2.out.cell 0
  have n1 := HN2.out.cell 1
  have n2 := HN2.out.cell 2
  have n3 := HN2.out.cell 3
  go_wp2_with fail
  have hF := (((HR2.out.set_ 0 (.int .u8 q)).set_ 1 (.string x)).set_ 2 (.slice none 0 0)).set_ 3 (.slice none 0 0)
  have s0 : (World.setCell _ _ _).cell? _ = some (.int .u8 q) := hF.cell 0
  have s1 : (World.setCell _ _ _).cell? _ = some (.string x) := hF.cell 1
  have s2 : (World.setCell _ _ _).cell? _ = some (.slice none 0 0) := hF.cell 2
  have s3 : (World.setCell _ _ _).cell? _ = some (.slice none 0 0) := hF.cell 3
  exact bodyPost_ret (v := .tuple #[.agg #[.int .u8 q, .string x, .slice none 0 0, .slice none 0 0], .int .i64 (1)]) (by simp [results, Try.f28, go_sem, s0, s1, s2, s3]) rfl ⟨by exact ⟨_, _, _, _, rfl, HF.out _⟩, (((HB2.out.setCell (p := ⟨w.heap.size, 0, none⟩) (Nat.le_refl _) _).setCell (p := ⟨w.heap.size, 1, none⟩) (Nat.le_refl _) _).setCell (p := ⟨w.heap.size, 2, none⟩) (Nat.le_refl _) _).setCell (p := ⟨w.heap.size, 3, none⟩) (Nat.le_refl _) _⟩
theorem infoNodeJ : (Try.prog.info? 39).map (fun i => (i.zero, i.size, i.bytes)) = some (some zeroN, 4, 72) := by kernel_rfl
/-- What holds at the head of build's loop: so far along, what was read, and what is still to come. -/
structure BLp (ts : List Tok) (map : Bool) (E q : Nat) (x : ByteArray) (w : World) (val : Nat → Option (Node × Nat)) (k : Nat) (out : List (List UInt8) × List Node × Nat) (a : Nat) (wr : World) : Prop where
  ex : ∃ (ks : List (List UInt8)) (ns : List Node) (kv nv : Value) (cs : List Value), MidJ q x w.heap.size w ks ns kv nv cs wr ∧ ks.length ≤ k + a ∧ ns.length ≤ k + a ∧
    ((isK ts (k + a) E = true ∧ out = (ks, ns, k + a + 1)) ∨
      ∃ (comma : Bool) (G b : Nat), b = (if comma then a + 1 else a) ∧ (comma = true → isK ts (k + a) 44 = true) ∧ (comma = false → ∃ t, ts[k + a]? = some t ∧ t.kind ≠ 93 ∧ t.kind ≠ 125 ∧ t.kind ≠ 44) ∧
        ts.length < G + (k + b) ∧ elems val ts map E G (k + b) ks ns = some out)
  le : k + a ≤ ts.length
  ge : 1 ≤ a
theorem isK_get {ts : List Tok} {k c : Nat} (h : isK ts k c = true) : ∃ t, ts[k]? = some t ∧ t.kind = c := by
  have hl := isK_lt h
  refine ⟨_, List.getElem?_eq_getElem hl, ?_⟩
  rw [isK_some (List.getElem?_eq_getElem hl)] at h
  simpa using h
def BuiR (n : Node) (k k2 B : Nat) (e : Ending) (W : World) : Prop := ∃ (a b c d : Value) (m : Nat), k2 = k + m ∧ e = .returned (.tuple #[.agg #[a, b, c, d], .int .i64 m]) ∧ NodeW W (fun g => B ≤ g) n (.agg #[a, b, c, d])
set_option maxRecDepth 100000 in
set_option maxHeartbeats 8000000 in
theorem jbuild_row (f : Nat) (ts : List Tok) (g o N cap k : Nat) (t : Tok) (out : List (List UInt8) × List Node × Nat) (w : World) (ht : ts[k]? = some t) (hT : TokAt w w.heap.size (some ⟨g, 0, none⟩) ts) (ho : o = k * 4) (hN : N + k = ts.length) (hcap : N ≤ cap) (hl : ts.length ≤ 100000) (hq : t.kind = 91)
    (ho2 : (isK ts (k + 1) 93 = true ∧ out = ([], [], k + 2)) ∨ (isK ts (k + 1) 93 = false ∧ elems (fun j => valI f ts j) ts false 93 ts.length (k + 1) [] [] = some out))
    (hst : isK ts (k + 1) 93 = false → ∃ t, ts[k + 1]? = some t ∧ t.kind ≠ 93 ∧ t.kind ≠ 125 ∧ t.kind ≠ 44)
    (ih : ∀ (k k2 : Nat) (n : Node) (o N cap : Nat) (w : World), valI f ts k = some (n, k2) → o = k * 4 → N + k = ts.length → N ≤ cap → TokAt w w.heap.size (some ⟨g, 0, none⟩) ts → Calls Try.prog 28 #[.slice (some ⟨g, o, none⟩) N cap] w fun e w' => BuiR n k k2 w.heap.size e w' ∧ Below w.heap.size w w') :
    Calls Try.prog 28 #[.slice (some ⟨g, o, none⟩) N cap] w fun e w' => BuiR (.mk 91 t.text out.1 out.2.1) k out.2.2 w.heap.size e w' ∧ Below w.heap.size w w' := by
  obtain ⟨g', hge, hg, c0, c1⟩ := hT.facts ht
  obtain rfl : g = g' := by simpa using hge
  rw [← ho] at c0 c1
  rw [hq] at c0
  have hNp : 0 < N := by
    rcases Nat.lt_or_ge k ts.length with h | h
    · omega
    · rw [List.getElem?_eq_none h] at ht; cases ht
  have hNl : N ≤ 100000 := by omega
  have HT := Lib.hid hT
  have HIH := Lib.hid ih
  have HST := Lib.hid hst
  have HO2 := Lib.hid ho2
  have HOk := Lib.hid ho
  generalize hxx : strOf t.text = x at *
  have HX := Lib.hid hxx
  clear hT ih hst ho2 ht hge hq hxx ho
  have HB0 := Lib.hid ((Below.refl w.heap.size w).alloc (Nat.le_refl _) (.cells zeroNC 39))
  have HR0 := Lib.hid (Blk.new w 39 zeroNC)
  have hgw : g < w.heap.size := hg
  have K1 : ∀ w', Below w.heap.size w w' → w'.cell? ⟨g, o, none⟩ = some (.int .u8 91) ∧ w'.cell? ⟨g, o + 1, none⟩ = some (.string x) := fun w' h => ⟨(h.cell (p := ⟨g, o, none⟩) hg).trans c0, (h.cell (p := ⟨g, o + 1, none⟩) hg).trans c1⟩
  have HK1 := Lib.hid K1
  clear K1 c0 c1
  unfold zeroNC at HB0 HR0
  go_enter Try.func28, Try.ntmps28
  go_upto_region 1 with fail
  go_region_held3 (fun w' => w'.cell? ⟨g, o, none⟩ = some (.int .u8 91) ∧ w'.cell? ⟨g, o + 1, none⟩ = some (.string x)) (first | exact HK1.out _ HB0.out | exact HK1.out _ (below_drew' HB0.out) | exact HK1.out _ (below_drew' (HB0.out.alloc HB0.out.size _)) | exact HK1.out _ ((below_drew' HB0.out).alloc HB0.out.size _)) (fail)
  have HN0 : Hid (Blk ((w.alloc (.cells #[.int .u8 0, .string ⟨#[]⟩, .slice none 0 0, .slice none 0 0] 39)).alloc (.cells #[.int .u8 91, .string x, .slice none 0 0, .slice none 0 0] 39)) (w.heap.size + 1) 39 #[.int .u8 91, .string x, .slice none 0 0, .slice none 0 0]) := by
    have := Blk.new (w.alloc (.cells #[.int .u8 0, .string ⟨#[]⟩, .slice none 0 0, .slice none 0 0] 39)) 39 #[.int .u8 91, .string x, .slice none 0 0, .slice none 0 0]
    rwa [World.size_alloc] at this
  have HR1 := Lib.hid (HR0.out.alloc (.cells #[.int .u8 91, .string x, .slice none 0 0, .slice none 0 0] 39))
  have HB1 := Lib.hid (HB0.out.alloc HB0.out.size (.cells #[.int .u8 91, .string x, .slice none 0 0, .slice none 0 0] 39))
  clear HR0 HB0 HK1
  obtain ⟨W1, hW1⟩ : ∃ W1, (w.alloc (.cells #[.int .u8 0, .string ⟨#[]⟩, .slice none 0 0, .slice none 0 0] 39)).alloc (.cells #[.int .u8 91, .string x, .slice none 0 0, .slice none 0 0] 39) = W1 := ⟨_, rfl⟩
  rw [hW1] at HN0 HR1 HB1 ⊢
  clear hW1
  have HN2 := Lib.hid HN0.out.drew
  have HR2 := Lib.hid HR1.out.drew
  have HB2 := Lib.hid (below_drew' HB1.out)
  clear HN0 HR1 HB1
  generalize W1.drew = W2 at *
  have HL0 : Hid (BLp ts false 93 91 x w (fun j => valI f ts j) k out 1 W2) := by
    refine ⟨⟨[], [], .slice none 0 0, .slice none 0 0, [], ⟨HR2.out, HN2.out, World.ownsRow_nil _ _ _ _, World.ownsRow_nil _ _ _ _, by unfold KidsW; rfl, HB2.out⟩, by simp, by simp, ?_⟩, by omega, Nat.le_refl _⟩
    rcases HO2.out with ⟨h1, h2⟩ | ⟨h1, h2⟩
    · exact .inl ⟨h1, h2⟩
    · exact .inr ⟨false, ts.length, 1, rfl, fun h => (by cases h), fun _ => HST.out h1, by omega, h2⟩
  have n0 := HN2.out.cell 0
  clear HR2 HB2 HO2 HST
  go_wp2_with fail
  go_loopw [5] (fun z wr => ∃ a : Nat, z = .int .i64 a ∧ BLp ts false 93 91 x w (fun j => valI f ts j) k out a wr) (fun z _ => 200000 - (intOf z).toNat)
  case atStart => exact ⟨1, rfl, HL0.out⟩
  case round =>
    obtain ⟨a, rfl, ⟨ks, ns, kv, nv, cs, hM, hkl, hnl, hR⟩, hle, hage⟩ := hrel
    clear HL0 HN2 n0
    have HM := Lib.hid hM
    clear hM
    have hTw : TokAt wr wr.heap.size (some ⟨g, 0, none⟩) ts := (HT.out.below HM.out.bel (Nat.le_refl _)).wider HM.out.bel.size
    have HTw := Lib.hid hTw
    clear hTw
    rcases hR with ⟨hE, hout⟩ | ⟨comma, G, b, hb, hc1, hc2, hG, hel⟩
    · obtain ⟨te, hte, hke⟩ := isK_get hE
      have haN : a < N := by have := isK_lt hE; omega
      obtain ⟨g', hge, hg', c0, c1⟩ := HTw.out.facts hte
      obtain rfl : g = g' := by simpa using hge
      rw [show (k + a) * 4 = o + a * 4 by have := HOk.out; omega, hke] at c0
      obtain ⟨o5, m5, c5, rfl⟩ := own_shape HM.out.hkv
      obtain ⟨o6, m6, c6, rfl⟩ := own_shape HM.out.hnv
      subst hout
      clear hE hte hke c1 hge
      have r0 := HM.out.hR.cell 0
      have f0 := HM.out.hR.frozen 0
      have r1 := HM.out.hR.cell 1
      have f1 := HM.out.hR.frozen 1
      have r2 := HM.out.hR.cell 2
      have f2 := HM.out.hR.frozen 2
      have r3 := HM.out.hR.cell 3
      have f3 := HM.out.hR.frozen 3
      unfold zeroNC at r0 r1 r2 r3
      have n0 := HM.out.hN.cell 0
      have n1 := HM.out.hN.cell 1
      have n2 := HM.out.hN.cell 2
      have n3 := HM.out.hN.cell 3
      go_wp2_with fail
      have hF := (((HM.out.hR.set_ 0 (.int .u8 91)).set_ 1 (.string x)).set_ 2 (.slice o5 m5 c5)).set_ 3 (.slice o6 m6 c6)
      have s0 : (World.setCell _ _ _).cell? _ = some (.int .u8 91) := hF.cell 0
      have s1 : (World.setCell _ _ _).cell? _ = some (.string x) := hF.cell 1
      have s2 : (World.setCell _ _ _).cell? _ = some (.slice o5 m5 c5) := hF.cell 2
      have s3 : (World.setCell _ _ _).cell? _ = some (.slice o6 m6 c6) := hF.cell 3
      exact bodyPost_ret (v := .tuple #[.agg #[.int .u8 91, .string x, .slice o5 m5 c5, .slice o6 m6 c6], .int .i64 ((a : Int) + 1)]) (by simp [results, Try.f28, go_sem, s0, s1, s2, s3]) rfl ⟨by exact ⟨_, _, _, _, a + 1, (by show k + a + 1 = k + (a + 1); omega), rfl, HM.out.node HX.out (fun b hb => far4 _ _ _ _ (by omega)) (by simp [World.setCell])⟩, (((HM.out.bel.setCell (p := ⟨w.heap.size, 0, none⟩) (Nat.le_refl _) _).setCell (p := ⟨w.heap.size, 1, none⟩) (Nat.le_refl _) _).setCell (p := ⟨w.heap.size, 2, none⟩) (Nat.le_refl _) _).setCell (p := ⟨w.heap.size, 3, none⟩) (Nat.le_refl _) _⟩
    · have HC1 := Lib.hid hc1
      have HC2 := Lib.hid hc2
      have HG := Lib.hid hG
      have HEL := Lib.hid hel
      clear hc1 hc2 hG hel
      obtain ⟨tq, htq, hk93, hk125, hk44⟩ : ∃ tq, ts[k + a]? = some tq ∧ tq.kind ≠ 93 ∧ tq.kind ≠ 125 ∧ (tq.kind = 44 ↔ comma = true) := by
        cases comma
        · obtain ⟨t, h1, h2, h3, h4⟩ := HC2.out rfl; exact ⟨t, h1, h2, h3, by simp [h4]⟩
        · obtain ⟨t, h1, h2⟩ := isK_get (HC1.out rfl); exact ⟨t, h1, by omega, by omega, by simp [h2]⟩
      have haN : a < N := by have := (List.getElem?_eq_some_iff.1 htq).1; omega
      obtain ⟨g', hge, hg', c0, c1⟩ := HTw.out.facts htq
      obtain rfl : g = g' := by simpa using hge
      rw [show (k + a) * 4 = o + a * 4 by have := HOk.out; omega] at c0
      have n93 : ((tq.kind : Int) != 93) = true := by simp only [bne_iff_ne]; omega
      have n125 : ((tq.kind : Int) != 125) = true := by simp only [bne_iff_ne]; omega
      have n44 : ((tq.kind : Int) == 44) = comma := by
        cases comma
        · have : tq.kind ≠ 44 := fun h => by have := hk44.1 h; cases this
          simp; omega
        · have := hk44.2 rfl; simp; omega
      generalize tq.kind = c at *
      have HBb := Lib.hid hb
      have hN := HM.out.hN
      have n0 := hN.cell 0
      clear htq c1 hge hk93 hk125 hk44 HC1 HC2 hb hN
      go_upto_if 45 with fail
      go_cut [5] (fun v wx => v = .int .i64 b ∧ wr = wx)
      case first =>
        cases comma
        · go_wp2_with fail
          go_meet
          exact ⟨by rw [HBb.out]; rfl, rfl⟩
        · go_wp2_with fail
          go_meet
          exact ⟨by rw [HBb.out]; go_num, rfl⟩
      case rest =>
      obtain ⟨rfl, rfl⟩ := hcut
      clear n93 n125 n44 c0 hg'
      have hba : a ≤ b ∧ b ≤ a + 1 := by have := HBb.out; cases comma <;> simp at this <;> omega
      obtain ⟨hba1, hba2⟩ := hba
      have hst := HEL.out
      rw [elems_step (fun k hk => valI_out hk) G (k + b) ks ns HG.out] at hst
      rw [if_neg (fun h => by cases h.1)] at hst
      have hst2 : (match valI f ts (k + b) with
          | none => none
          | some (n, k2) => if isK ts k2 93 then some (ks, ns ++ [n], k2 + 1) else if isK ts k2 44 then elems (fun j => valI f ts j) ts false 93 (G - 1) (k2 + 1) ks (ns ++ [n]) else none) = some out := hst
      have HST2 := Lib.hid hst2
      clear hst hst2 HEL
      have HM2 := HM
      clear HTw
      generalize wr = wx at *
      cases hval : valI f ts (k + (b)) with
      | none => rw [Hid, hval] at HST2; cases HST2
      | some r =>
        obtain ⟨n, k2⟩ := r
        have hbd := valI_bd _ _ _ _ _ hval
        have HRest : Hid ((isK ts k2 93 = true ∧ out = (ks, ns ++ [n], k2 + 1)) ∨ (isK ts k2 44 = true ∧ elems (fun j => valI f ts j) ts false 93 (G - 1) (k2 + 1) (ks) (ns ++ [n]) = some out)) := by
          have h := HST2.out
          rw [hval] at h
          dsimp only at h
          show _ ∨ _
          by_cases h1 : isK ts k2 93 = true
          · rw [if_pos h1] at h; exact .inl ⟨h1, (Option.some.inj h).symm⟩
          · rw [if_neg h1] at h
            by_cases h2 : isK ts k2 44 = true
            · rw [if_pos h2] at h; exact .inr ⟨h2, h⟩
            · rw [if_neg h2] at h; cases h
        have hTx : TokAt wx wx.heap.size (some ⟨g, 0, none⟩) ts := (HT.out.below HM2.out.bel (Nat.le_refl _)).wider HM2.out.bel.size
        have hpN : b < N := by omega
        have HIv := Lib.hid (HIH.out (k + (b)) k2 n (o + (b) * 4) (N - (b)) (cap - (b)) wx hval (by have := HOk.out; omega) (by omega) (by omega) hTx)
        clear hTx hval HST2 HIH HBb
        obtain ⟨o5, m5, c5, rfl⟩ := own_shape HM2.out.hkv
        obtain ⟨o6, m6, c6, rfl⟩ := own_shape HM2.out.hnv
        obtain ⟨i0, hi, hz0, hz1, hz2⟩ := info_parts infoNodeJ
        have e3 : ns.length + 1 ≤ maxLen := by unfold maxLen; omega
        have e4 : (ns.length + 1) * 72 ≤ 140737488355328 := by omega
        have hxs := HM2.out.hN.lt
        have n0 := HM2.out.hN.cell 0
        go_upto_region 13 with (first | (go_at_call 28; refine (HIv.out).mono ?_; rintro e w2 ⟨⟨na, nb, nc, nd, mm, hmm, rfl, hn⟩, hb2⟩; have HN := Lib.hid hn; obtain ⟨v1, v2, v3, v4, v5, v6, v7, v8, rfl, rfl, rfl, rfl⟩ := node_shape hn; clear hn; have hs2 := hb2.size; have HMc := Lib.hid (HM2.out.below hb2); have n2 := (HMc.out.hN.alloc (.cells #[.int .u8 v1, .string v2, .slice v3 v4 v5, .slice v6 v7 v8] 39)).cell 3; have e5 : w.heap.size + 2 ≤ ((w2.alloc (.cells #[.int .u8 v1, .string v2, .slice v3 v4 v5, .slice v6 v7 v8] 39)).alloc (.cells #[.int .u8 v1, .string v2, .slice v3 v4 v5, .slice v6 v7 v8] 39)).heap.size := (by simp; omega); have hNc := (HMc.out.hN.alloc (.cells #[.int .u8 v1, .string v2, .slice v3 v4 v5, .slice v6 v7 v8] 39)).alloc (.cells #[.int .u8 v1, .string v2, .slice v3 v4 v5, .slice v6 v7 v8] 39); have hnc : ((w2.alloc (.cells #[.int .u8 v1, .string v2, .slice v3 v4 v5, .slice v6 v7 v8] 39)).alloc (.cells #[.int .u8 v1, .string v2, .slice v3 v4 v5, .slice v6 v7 v8] 39)).ownsRow (w.heap.size + 2) 39 4 (.slice o6 m6 c6) ns.length cs := (HMc.out.hnv.alloc _).alloc _) | (at_builtin; refine wpList_append_lies _ rfl _ _ 37 rfl (w.heap.size + 2) 39 i0 zeroN 4 72 Try.underlying37 hi hz0 hz1 hz2 rfl (by decide) (.slice o6 m6 c6) ns.length cs rfl hnc ⟨w2.heap.size + 1, 0, none⟩ 1 1 [.int .u8 v1, .string v2, .slice v3 v4 v5, .slice v6 v7 v8] rfl rfl (cells_new1 w2 _ #[.int .u8 v1, .string v2, .slice v3 v4 v5, .slice v6 v7 v8] _) (by simp [Value.oneCell']) (by omega) e3 e4 e5 (w2.heap.size + 2) (by simp) ?_; intro g3 cap3 w3 hown3 hgrow3 hfr3 hlt3; have hN3 := key_box hNc hnc hgrow3; have m3 := hN3.cell 3; have mf := hN3.frozen 3))
        have hM4 := MidJ.kid HM2.out HMc.out hs2 HN.out hN3 hown3 hgrow3 hfr3 (by decide)
        obtain ⟨W4, hW4⟩ : ∃ W4, (w3.setCell ⟨w.heap.size + 1, 3, none⟩ (.slice (some ⟨g3, 0, none⟩) (ns.length + 1) cap3)) = W4 := ⟨_, rfl⟩
        rw [hW4] at hM4 ⊢
        clear hW4 hown3 hgrow3 hfr3 hlt3 hN3 m3 mf hnc hNc n2 HMc HN HM2 e5 hs2 hb2 hi hz0 hz1 hz2 HIv HM n0
        have HM4 := Lib.hid hM4
        clear hM4
        have HL : Hid (BLp ts false 93 91 x w (fun j => valI f ts j) k out (b + mm) W4) := by
          refine ⟨⟨ks, ns ++ [n], _, _, _, HM4.out, by first | omega | (simp; omega), by first | omega | (simp; omega), ?_⟩, by omega, by omega⟩
          rw [show k + (b + mm) = k2 by omega]
          rcases HRest.out with ⟨h1, h2⟩ | ⟨h1, h2⟩
          · exact .inl ⟨h1, h2⟩
          · exact .inr ⟨true, G - 1, b + mm + 1, rfl, fun _ => h1, fun h => (by cases h), by have := HG.out; omega, by rw [show k + (b + mm + 1) = k2 + 1 by omega]; exact h2⟩
        clear HRest HG HM4
        go_wp2_with fail
        go_roundw
        case rel => exact ⟨b + mm, by go_num, HL.out⟩
        case measure => simp [intOf]; omega
end Go.Proofs.Ytjnmcadfaombjaa

/- Walks: build, a map (chapter 10). -/
namespace Go.Proofs.Ytjnmcadfaombjaa
open Go.RowKit
set_option linter.unusedVariables false
set_option linter.unusedSimpArgs false
set_option maxRecDepth 100000 in
set_option maxHeartbeats 8000000 in
theorem jbuild_map (f : Nat) (ts : List Tok) (g o N cap k : Nat) (t : Tok) (out : List (List UInt8) × List Node × Nat) (w : World) (ht : ts[k]? = some t) (hT : TokAt w w.heap.size (some ⟨g, 0, none⟩) ts) (ho : o = k * 4) (hN : N + k = ts.length) (hcap : N ≤ cap) (hl : ts.length ≤ 100000) (hq : t.kind = 123)
    (ho2 : (isK ts (k + 1) 125 = true ∧ out = ([], [], k + 2)) ∨ (isK ts (k + 1) 125 = false ∧ elems (fun j => valI f ts j) ts true 125 ts.length (k + 1) [] [] = some out))
    (hst : isK ts (k + 1) 125 = false → ∃ t, ts[k + 1]? = some t ∧ t.kind ≠ 93 ∧ t.kind ≠ 125 ∧ t.kind ≠ 44)
    (ih : ∀ (k k2 : Nat) (n : Node) (o N cap : Nat) (w : World), valI f ts k = some (n, k2) → o = k * 4 → N + k = ts.length → N ≤ cap → TokAt w w.heap.size (some ⟨g, 0, none⟩) ts → Calls Try.prog 28 #[.slice (some ⟨g, o, none⟩) N cap] w fun e w' => BuiR n k k2 w.heap.size e w' ∧ Below w.heap.size w w') :
    Calls Try.prog 28 #[.slice (some ⟨g, o, none⟩) N cap] w fun e w' => BuiR (.mk 123 t.text out.1 out.2.1) k out.2.2 w.heap.size e w' ∧ Below w.heap.size w w' := by
  obtain ⟨g', hge, hg, c0, c1⟩ := hT.facts ht
  obtain rfl : g = g' := by simpa using hge
  rw [← ho] at c0 c1
  rw [hq] at c0
  have hNp : 0 < N := by
    rcases Nat.lt_or_ge k ts.length with h | h
    · omega
    · rw [List.getElem?_eq_none h] at ht; cases ht
  have hNl : N ≤ 100000 := by omega
  have HT := Lib.hid hT
  have HIH := Lib.hid ih
  have HST := Lib.hid hst
  have HO2 := Lib.hid ho2
  have HOk := Lib.hid ho
  generalize hxx : strOf t.text = x at *
  have HX := Lib.hid hxx
  clear hT ih hst ho2 ht hge hq hxx ho
  have HB0 := Lib.hid ((Below.refl w.heap.size w).alloc (Nat.le_refl _) (.cells zeroNC 39))
  have HR0 := Lib.hid (Blk.new w 39 zeroNC)
  have hgw : g < w.heap.size := hg
  have K1 : ∀ w', Below w.heap.size w w' → w'.cell? ⟨g, o, none⟩ = some (.int .u8 123) ∧ w'.cell? ⟨g, o + 1, none⟩ = some (.string x) := fun w' h => ⟨(h.cell (p := ⟨g, o, none⟩) hg).trans c0, (h.cell (p := ⟨g, o + 1, none⟩) hg).trans c1⟩
  have HK1 := Lib.hid K1
  clear K1 c0 c1
  unfold zeroNC at HB0 HR0
  go_enter Try.func28, Try.ntmps28
  go_upto_region 1 with fail
  go_region_held3 (fun w' => w'.cell? ⟨g, o, none⟩ = some (.int .u8 123) ∧ w'.cell? ⟨g, o + 1, none⟩ = some (.string x)) (first | exact HK1.out _ HB0.out | exact HK1.out _ (below_drew' HB0.out) | exact HK1.out _ (below_drew' (HB0.out.alloc HB0.out.size _)) | exact HK1.out _ ((below_drew' HB0.out).alloc HB0.out.size _)) (fail)
  have HN0 : Hid (Blk ((w.alloc (.cells #[.int .u8 0, .string ⟨#[]⟩, .slice none 0 0, .slice none 0 0] 39)).alloc (.cells #[.int .u8 123, .string x, .slice none 0 0, .slice none 0 0] 39)) (w.heap.size + 1) 39 #[.int .u8 123, .string x, .slice none 0 0, .slice none 0 0]) := by
    have := Blk.new (w.alloc (.cells #[.int .u8 0, .string ⟨#[]⟩, .slice none 0 0, .slice none 0 0] 39)) 39 #[.int .u8 123, .string x, .slice none 0 0, .slice none 0 0]
    rwa [World.size_alloc] at this
  have HR1 := Lib.hid (HR0.out.alloc (.cells #[.int .u8 123, .string x, .slice none 0 0, .slice none 0 0] 39))
  have HB1 := Lib.hid (HB0.out.alloc HB0.out.size (.cells #[.int .u8 123, .string x, .slice none 0 0, .slice none 0 0] 39))
  clear HR0 HB0 HK1
  obtain ⟨W1, hW1⟩ : ∃ W1, (w.alloc (.cells #[.int .u8 0, .string ⟨#[]⟩, .slice none 0 0, .slice none 0 0] 39)).alloc (.cells #[.int .u8 123, .string x, .slice none 0 0, .slice none 0 0] 39) = W1 := ⟨_, rfl⟩
  rw [hW1] at HN0 HR1 HB1 ⊢
  clear hW1
  have HN2 := Lib.hid HN0.out.drew
  have HR2 := Lib.hid HR1.out.drew
  have HB2 := Lib.hid (below_drew' HB1.out)
  clear HN0 HR1 HB1
  generalize W1.drew = W2 at *
  have HL0 : Hid (BLp ts true 125 123 x w (fun j => valI f ts j) k out 1 W2) := by
    refine ⟨⟨[], [], .slice none 0 0, .slice none 0 0, [], ⟨HR2.out, HN2.out, World.ownsRow_nil _ _ _ _, World.ownsRow_nil _ _ _ _, by unfold KidsW; rfl, HB2.out⟩, by simp, by simp, ?_⟩, by omega, Nat.le_refl _⟩
    rcases HO2.out with ⟨h1, h2⟩ | ⟨h1, h2⟩
    · exact .inl ⟨h1, h2⟩
    · exact .inr ⟨false, ts.length, 1, rfl, fun h => (by cases h), fun _ => HST.out h1, by omega, h2⟩
  have n0 := HN2.out.cell 0
  clear HR2 HB2 HO2 HST
  go_wp2_with fail
  go_loopw [5] (fun z wr => ∃ a : Nat, z = .int .i64 a ∧ BLp ts true 125 123 x w (fun j => valI f ts j) k out a wr) (fun z _ => 200000 - (intOf z).toNat)
  case atStart => exact ⟨1, rfl, HL0.out⟩
  case round =>
    obtain ⟨a, rfl, ⟨ks, ns, kv, nv, cs, hM, hkl, hnl, hR⟩, hle, hage⟩ := hrel
    clear HL0 HN2 n0
    have HM := Lib.hid hM
    clear hM
    have hTw : TokAt wr wr.heap.size (some ⟨g, 0, none⟩) ts := (HT.out.below HM.out.bel (Nat.le_refl _)).wider HM.out.bel.size
    have HTw := Lib.hid hTw
    clear hTw
    rcases hR with ⟨hE, hout⟩ | ⟨comma, G, b, hb, hc1, hc2, hG, hel⟩
    · obtain ⟨te, hte, hke⟩ := isK_get hE
      have haN : a < N := by have := isK_lt hE; omega
      obtain ⟨g', hge, hg', c0, c1⟩ := HTw.out.facts hte
      obtain rfl : g = g' := by simpa using hge
      rw [show (k + a) * 4 = o + a * 4 by have := HOk.out; omega, hke] at c0
      obtain ⟨o5, m5, c5, rfl⟩ := own_shape HM.out.hkv
      obtain ⟨o6, m6, c6, rfl⟩ := own_shape HM.out.hnv
      subst hout
      clear hE hte hke c1 hge
      have r0 := HM.out.hR.cell 0
      have f0 := HM.out.hR.frozen 0
      have r1 := HM.out.hR.cell 1
      have f1 := HM.out.hR.frozen 1
      have r2 := HM.out.hR.cell 2
      have f2 := HM.out.hR.frozen 2
      have r3 := HM.out.hR.cell 3
      have f3 := HM.out.hR.frozen 3
      unfold zeroNC at r0 r1 r2 r3
      have n0 := HM.out.hN.cell 0
      have n1 := HM.out.hN.cell 1
      have n2 := HM.out.hN.cell 2
      have n3 := HM.out.hN.cell 3
      go_wp2_with fail
      have hF := (((HM.out.hR.set_ 0 (.int .u8 123)).set_ 1 (.string x)).set_ 2 (.slice o5 m5 c5)).set_ 3 (.slice o6 m6 c6)
      have s0 : (World.setCell _ _ _).cell? _ = some (.int .u8 123) := hF.cell 0
      have s1 : (World.setCell _ _ _).cell? _ = some (.string x) := hF.cell 1
      have s2 : (World.setCell _ _ _).cell? _ = some (.slice o5 m5 c5) := hF.cell 2
      have s3 : (World.setCell _ _ _).cell? _ = some (.slice o6 m6 c6) := hF.cell 3
      exact bodyPost_ret (v := .tuple #[.agg #[.int .u8 123, .string x, .slice o5 m5 c5, .slice o6 m6 c6], .int .i64 ((a : Int) + 1)]) (by simp [results, Try.f28, go_sem, s0, s1, s2, s3]) rfl ⟨by exact ⟨_, _, _, _, a + 1, (by show k + a + 1 = k + (a + 1); omega), rfl, HM.out.node HX.out (fun b hb => far4 _ _ _ _ (by omega)) (by simp [World.setCell])⟩, (((HM.out.bel.setCell (p := ⟨w.heap.size, 0, none⟩) (Nat.le_refl _) _).setCell (p := ⟨w.heap.size, 1, none⟩) (Nat.le_refl _) _).setCell (p := ⟨w.heap.size, 2, none⟩) (Nat.le_refl _) _).setCell (p := ⟨w.heap.size, 3, none⟩) (Nat.le_refl _) _⟩
    · have HC1 := Lib.hid hc1
      have HC2 := Lib.hid hc2
      have HG := Lib.hid hG
      have HEL := Lib.hid hel
      clear hc1 hc2 hG hel
      obtain ⟨tq, htq, hk93, hk125, hk44⟩ : ∃ tq, ts[k + a]? = some tq ∧ tq.kind ≠ 93 ∧ tq.kind ≠ 125 ∧ (tq.kind = 44 ↔ comma = true) := by
        cases comma
        · obtain ⟨t, h1, h2, h3, h4⟩ := HC2.out rfl; exact ⟨t, h1, h2, h3, by simp [h4]⟩
        · obtain ⟨t, h1, h2⟩ := isK_get (HC1.out rfl); exact ⟨t, h1, by omega, by omega, by simp [h2]⟩
      have haN : a < N := by have := (List.getElem?_eq_some_iff.1 htq).1; omega
      obtain ⟨g', hge, hg', c0, c1⟩ := HTw.out.facts htq
      obtain rfl : g = g' := by simpa using hge
      rw [show (k + a) * 4 = o + a * 4 by have := HOk.out; omega] at c0
      have n93 : ((tq.kind : Int) != 93) = true := by simp only [bne_iff_ne]; omega
      have n125 : ((tq.kind : Int) != 125) = true := by simp only [bne_iff_ne]; omega
      have n44 : ((tq.kind : Int) == 44) = comma := by
        cases comma
        · have : tq.kind ≠ 44 := fun h => by have := hk44.1 h; cases this
          simp; omega
        · have := hk44.2 rfl; simp; omega
      generalize tq.kind = c at *
      have HBb := Lib.hid hb
      have hN := HM.out.hN
      have n0 := hN.cell 0
      clear htq c1 hge hk93 hk125 hk44 HC1 HC2 hb hN
      go_upto_if 45 with fail
      go_cut [5] (fun v wx => v = .int .i64 b ∧ wr = wx)
      case first =>
        cases comma
        · go_wp2_with fail
          go_meet
          exact ⟨by rw [HBb.out]; rfl, rfl⟩
        · go_wp2_with fail
          go_meet
          exact ⟨by rw [HBb.out]; go_num, rfl⟩
      case rest =>
      obtain ⟨rfl, rfl⟩ := hcut
      clear n93 n125 n44 c0 hg'
      have hba : a ≤ b ∧ b ≤ a + 1 := by have := HBb.out; cases comma <;> simp at this <;> omega
      obtain ⟨hba1, hba2⟩ := hba
      have hst := HEL.out
      rw [elems_step (fun k hk => valI_out hk) G (k + b) ks ns HG.out] at hst
      have h3458 : isK ts (k + b) 34 = true ∧ isK ts (k + b + 1) 58 = true := by
        by_cases h : isK ts (k + b) 34 = true ∧ isK ts (k + b + 1) 58 = true
        · exact h
        · rw [if_pos ⟨rfl, h⟩] at hst; cases hst
      rw [if_neg (fun h => h.2 h3458)] at hst
      obtain ⟨tk, htk, htk34⟩ := isK_get h3458.1
      have htx : txt ts (k + b) = tk.text := by unfold txt; rw [htk]
      rw [htx] at hst
      have hst2 : (match valI f ts (k + (b + 2)) with
          | none => none
          | some (n, k2) => if isK ts k2 125 then some (ks ++ [tk.text], ns ++ [n], k2 + 1) else if isK ts k2 44 then elems (fun j => valI f ts j) ts true 125 (G - 1) (k2 + 1) (ks ++ [tk.text]) (ns ++ [n]) else none) = some out := hst
      have hbN : b < N := by have := (List.getElem?_eq_some_iff.1 htk).1; omega
      obtain ⟨g', hge, hg'l, k0, k1⟩ := HTw.out.facts htk
      obtain rfl : g = g' := by simpa using hge
      rw [show (k + b) * 4 = o + b * 4 by have := HOk.out; omega] at k1
      have HST2 := Lib.hid hst2
      clear hst hst2 h3458 htk34 htx hge k0 htk n0
      have hN := HM.out.hN
      have hkv := HM.out.hkv
      have n0 := hN.cell 0
      have n2 := hN.cell 2
      go_upto_region 9 with fail
      obtain ⟨i0, hi, hz0, hz1, hz2⟩ := info_parts infoStr
      have e3 : ks.length + 1 ≤ maxLen := by unfold maxLen; omega
      have e4 : (ks.length + 1) * 16 ≤ 140737488355328 := by omega
      have hBN := hN.lt
      have e5 : w.heap.size + 2 ≤ (wr.drew.alloc (.cells #[.string (strOf tk.text)] 9)).heap.size := by simp; omega
      have hz6 : (wr.drew.alloc (.cells #[.string (strOf tk.text)] 9)).heap.size = wr.heap.size + 1 := by simp
      have hne2 : g ≠ w.heap.size + 1 := by omega
      have hNA := (hN.alloc (.cells #[.string (strOf tk.text)] 9)).drew
      have hkvA : ((wr.alloc (.cells #[.string (strOf tk.text)] 9)).drew).ownsRow (w.heap.size + 2) 9 1 kv ks.length (strC ks) := hkv.alloc _
      have hbA : Below wr.heap.size wr ((wr.alloc (.cells #[.string (strOf tk.text)] 9)).drew) := below_drew' ((Below.refl _ wr).alloc (Nat.le_refl _) _)
      have kA := (hbA.cell (p := ⟨g, o + b * 4 + 1, none⟩) hg'l).trans k1
      have hnw : ∀ i u, [Value.string (strOf tk.text)][i]? = some u → ((wr.alloc (.cells #[.string (strOf tk.text)] 9)).drew).cell? ((⟨wr.heap.size, 0, none⟩ : Addr).add i) = some u := cells_new wr #[.string (strOf tk.text)] 9
      go_cut [] (fun wx => KeyCutJ w.heap.size 123 x kv nv ks tk.text wr wx)
      case first =>
        go_region_law (refine step_append_lies _ rfl (.tmp 52) (.tmp 58) 36 rfl (w.heap.size + 2) 9 i0 (.string ⟨#[]⟩) 1 16 Try.underlying36 hi hz0 hz1 hz2 rfl (by decide) kv ks.length (strC ks) rfl hkvA ⟨wr.heap.size, 0, none⟩ 1 1 [.string (strOf tk.text)] rfl rfl hnw (by simp [Value.oneCell']) (by omega) e3 e4 e5 (wr.heap.size + 1) (by simp) ?_; intro g2 cap2 w3 hown3 hgrow3 hfr3 hlt3; have hN3 := key_box hNA hkvA hgrow3; have k3 := key_cell hgrow3 hkvA kA (by omega) (by simp; omega); have m2 := hN3.cell 2; have mf := hN3.frozen 2; have k4 := key_far (g2 := g2) (cap2 := cap2) (m := ks.length + 1) k3 hne2)
        all_goals
          go_wp2_with fail
          go_meet
          exact key_doneJ hN3 hown3 hgrow3 hfr3
      case rest =>
      obtain ⟨kv2, hM2⟩ := HM.out.key hcut (by decide)
      have HM2 := Lib.hid hM2
      clear hcut hM2 hN hkv n2 n0 hi hz0 hz1 hz2 e3 e4 hBN e5 hz6 hne2 hNA hkvA hbA kA hnw k1 hg'l HTw HEL
      rename World => wx
      cases hval : valI f ts (k + (b + 2)) with
      | none => rw [Hid, hval] at HST2; cases HST2
      | some r =>
        obtain ⟨n, k2⟩ := r
        have hbd := valI_bd _ _ _ _ _ hval
        have HRest : Hid ((isK ts k2 125 = true ∧ out = (ks ++ [tk.text], ns ++ [n], k2 + 1)) ∨ (isK ts k2 44 = true ∧ elems (fun j => valI f ts j) ts true 125 (G - 1) (k2 + 1) (ks ++ [tk.text]) (ns ++ [n]) = some out)) := by
          have h := HST2.out
          rw [hval] at h
          dsimp only at h
          show _ ∨ _
          by_cases h1 : isK ts k2 125 = true
          · rw [if_pos h1] at h; exact .inl ⟨h1, (Option.some.inj h).symm⟩
          · rw [if_neg h1] at h
            by_cases h2 : isK ts k2 44 = true
            · rw [if_pos h2] at h; exact .inr ⟨h2, h⟩
            · rw [if_neg h2] at h; cases h
        have hTx : TokAt wx wx.heap.size (some ⟨g, 0, none⟩) ts := (HT.out.below HM2.out.bel (Nat.le_refl _)).wider HM2.out.bel.size
        have hpN : b + 2 < N := by omega
        have HIv := Lib.hid (HIH.out (k + (b + 2)) k2 n (o + (b + 2) * 4) (N - (b + 2)) (cap - (b + 2)) wx hval (by have := HOk.out; omega) (by omega) (by omega) hTx)
        clear hTx hval HST2 HIH HBb
        obtain ⟨o5, m5, c5, rfl⟩ := own_shape HM2.out.hkv
        obtain ⟨o6, m6, c6, rfl⟩ := own_shape HM2.out.hnv
        obtain ⟨i0, hi, hz0, hz1, hz2⟩ := info_parts infoNodeJ
        have e3 : ns.length + 1 ≤ maxLen := by unfold maxLen; omega
        have e4 : (ns.length + 1) * 72 ≤ 140737488355328 := by omega
        have hxs := HM2.out.hN.lt
        have n0 := HM2.out.hN.cell 0
        go_upto_region 13 with (first | (go_at_call 28; refine (HIv.out).mono ?_; rintro e w2 ⟨⟨na, nb, nc, nd, mm, hmm, rfl, hn⟩, hb2⟩; have HN := Lib.hid hn; obtain ⟨v1, v2, v3, v4, v5, v6, v7, v8, rfl, rfl, rfl, rfl⟩ := node_shape hn; clear hn; have hs2 := hb2.size; have HMc := Lib.hid (HM2.out.below hb2); have n2 := (HMc.out.hN.alloc (.cells #[.int .u8 v1, .string v2, .slice v3 v4 v5, .slice v6 v7 v8] 39)).cell 3; have e5 : w.heap.size + 2 ≤ ((w2.alloc (.cells #[.int .u8 v1, .string v2, .slice v3 v4 v5, .slice v6 v7 v8] 39)).alloc (.cells #[.int .u8 v1, .string v2, .slice v3 v4 v5, .slice v6 v7 v8] 39)).heap.size := (by simp; omega); have hNc := (HMc.out.hN.alloc (.cells #[.int .u8 v1, .string v2, .slice v3 v4 v5, .slice v6 v7 v8] 39)).alloc (.cells #[.int .u8 v1, .string v2, .slice v3 v4 v5, .slice v6 v7 v8] 39); have hnc : ((w2.alloc (.cells #[.int .u8 v1, .string v2, .slice v3 v4 v5, .slice v6 v7 v8] 39)).alloc (.cells #[.int .u8 v1, .string v2, .slice v3 v4 v5, .slice v6 v7 v8] 39)).ownsRow (w.heap.size + 2) 39 4 (.slice o6 m6 c6) ns.length cs := (HMc.out.hnv.alloc _).alloc _) | (at_builtin; refine wpList_append_lies _ rfl _ _ 37 rfl (w.heap.size + 2) 39 i0 zeroN 4 72 Try.underlying37 hi hz0 hz1 hz2 rfl (by decide) (.slice o6 m6 c6) ns.length cs rfl hnc ⟨w2.heap.size + 1, 0, none⟩ 1 1 [.int .u8 v1, .string v2, .slice v3 v4 v5, .slice v6 v7 v8] rfl rfl (cells_new1 w2 _ #[.int .u8 v1, .string v2, .slice v3 v4 v5, .slice v6 v7 v8] _) (by simp [Value.oneCell']) (by omega) e3 e4 e5 (w2.heap.size + 2) (by simp) ?_; intro g3 cap3 w3 hown3 hgrow3 hfr3 hlt3; have hN3 := key_box hNc hnc hgrow3; have m3 := hN3.cell 3; have mf := hN3.frozen 3))
        have hM4 := MidJ.kid HM2.out HMc.out hs2 HN.out hN3 hown3 hgrow3 hfr3 (by decide)
        obtain ⟨W4, hW4⟩ : ∃ W4, (w3.setCell ⟨w.heap.size + 1, 3, none⟩ (.slice (some ⟨g3, 0, none⟩) (ns.length + 1) cap3)) = W4 := ⟨_, rfl⟩
        rw [hW4] at hM4 ⊢
        clear hW4 hown3 hgrow3 hfr3 hlt3 hN3 m3 mf hnc hNc n2 HMc HN HM2 e5 hs2 hb2 hi hz0 hz1 hz2 HIv HM n0
        have HM4 := Lib.hid hM4
        clear hM4
        have HL : Hid (BLp ts true 125 123 x w (fun j => valI f ts j) k out (b + 2 + mm) W4) := by
          refine ⟨⟨ks ++ [tk.text], ns ++ [n], _, _, _, HM4.out, by first | omega | (simp; omega), by first | omega | (simp; omega), ?_⟩, by omega, by omega⟩
          rw [show k + (b + 2 + mm) = k2 by omega]
          rcases HRest.out with ⟨h1, h2⟩ | ⟨h1, h2⟩
          · exact .inl ⟨h1, h2⟩
          · exact .inr ⟨true, G - 1, b + 2 + mm + 1, rfl, fun _ => h1, fun h => (by cases h), by have := HG.out; omega, by rw [show k + (b + 2 + mm + 1) = k2 + 1 by omega]; exact h2⟩
        clear HRest HG HM4
        go_wp2_with fail
        go_roundw
        case rel => exact ⟨b + 2 + mm, by go_num, HL.out⟩
        case measure => simp [intOf]; omega
end Go.Proofs.Ytjnmcadfaombjaa

/- Walks: build, whole (chapter 10). -/
namespace Go.Proofs.Ytjnmcadfaombjaa
open Go.RowKit
set_option linter.unusedVariables false
set_option linter.unusedSimpArgs false
/-- What a value can begin with. -/
theorem valI_head {f : Nat} {ts : List Tok} {k k2 : Nat} {n : Node} (h : valI f ts k = some (n, k2)) : ∃ t, ts[k]? = some t ∧ (t.kind = 34 ∨ t.kind = 48 ∨ t.kind = 97 ∨ t.kind = 91 ∨ t.kind = 123) := by
  cases f with
  | zero => cases h
  | succ f =>
    rcases Nat.lt_or_ge k ts.length with hk | hk
    · refine ⟨_, List.getElem?_eq_getElem hk, ?_⟩
      rw [valI_at (List.getElem?_eq_getElem hk)] at h
      by_cases h1 : ts[k].kind = 34 ∨ ts[k].kind = 48 ∨ ts[k].kind = 97
      · omega
      · rw [if_neg h1] at h
        by_cases h2 : ts[k].kind ≠ 91 ∧ ts[k].kind ≠ 123
        · rw [if_pos h2] at h; cases h
        · omega
    · rw [valI_out hk] at h; cases h
theorem elems_head {f : Nat} {ts : List Tok} {map : Bool} {E G k : Nat} {ks : List (List UInt8)} {ns : List Node} {out : List (List UInt8) × List Node × Nat} (h : elems (fun j => valI f ts j) ts map E G k ks ns = some out) : ∃ t, ts[k]? = some t ∧ t.kind ≠ 93 ∧ t.kind ≠ 125 ∧ t.kind ≠ 44 := by
  cases G with
  | zero => cases h
  | succ G =>
    unfold elems at h
    split at h
    · cases h
    · rename_i hm
      cases map
      · split at h
        · cases h
        · rename_i n k2 hv
          obtain ⟨t, h1, h2⟩ := valI_head hv
          exact ⟨t, h1, by omega, by omega, by omega⟩
      · have h34 : isK ts k 34 = true := by
          by_cases h : isK ts k 34 = true
          · exact h
          · exact absurd ⟨rfl, fun x => h x.1⟩ hm
        obtain ⟨t, h1, h2⟩ := isK_get h34
        exact ⟨t, h1, by omega, by omega, by omega⟩
theorem jbuild_any (ts : List Tok) (g : Nat) (hl : ts.length ≤ 100000) : ∀ (f k k2 : Nat) (n : Node) (o N cap : Nat) (w : World), valI f ts k = some (n, k2) → o = k * 4 → N + k = ts.length → N ≤ cap → TokAt w w.heap.size (some ⟨g, 0, none⟩) ts →
    Calls Try.prog 28 #[.slice (some ⟨g, o, none⟩) N cap] w fun e w' => BuiR n k k2 w.heap.size e w' ∧ Below w.heap.size w w'
  | 0, k, k2, n, o, N, cap, w, h, ho, hN, hc, hT => by cases h
  | f + 1, k, k2, n, o, N, cap, w, h, ho, hN, hc, hT => by
    obtain ⟨t, ht, hk⟩ := valI_head h
    have hv := h
    rw [valI_at ht] at h
    by_cases h1 : t.kind = 34 ∨ t.kind = 48 ∨ t.kind = 97
    · rw [if_pos h1] at h
      cases h
      refine (jbuild_leaf ts g o N cap k t w ht hT ho hN hl h1).mono ?_
      rintro e w' ⟨⟨a, b, c, d, he, hn⟩, hb⟩
      exact ⟨⟨a, b, c, d, 1, rfl, he, hn⟩, hb⟩
    rw [if_neg h1, if_neg (by omega)] at h
    have hout : ∀ (K E : Nat) (m : Bool), t.kind = K → (if isK ts (k + 1) E = true then some (Node.mk t.kind t.text [] [], k + 2)
        else match elems (fun j => valI f ts j) ts m E ts.length (k + 1) [] [] with
          | none => none
          | some (ks, ns, k2) => some (.mk t.kind t.text ks ns, k2)) = some (n, k2) →
        ∃ out : List (List UInt8) × List Node × Nat, n = .mk K t.text out.1 out.2.1 ∧ k2 = out.2.2 ∧ ((isK ts (k + 1) E = true ∧ out = ([], [], k + 2)) ∨ (isK ts (k + 1) E = false ∧ elems (fun j => valI f ts j) ts m E ts.length (k + 1) [] [] = some out)) := by
      intro K E m hK hh
      by_cases h2 : isK ts (k + 1) E = true
      · rw [if_pos h2] at hh
        cases hh
        exact ⟨([], [], k + 2), by rw [hK], rfl, .inl ⟨h2, rfl⟩⟩
      · rw [if_neg h2] at hh
        cases he : elems (fun j => valI f ts j) ts m E ts.length (k + 1) [] [] with
        | none => rw [he] at hh; cases hh
        | some out =>
          rw [he] at hh
          obtain ⟨ks, ns, k3⟩ := out
          cases hh
          exact ⟨(ks, ns, k2), by rw [hK], rfl, .inr ⟨by simpa using h2, rfl⟩⟩
    by_cases h2 : t.kind = 123
    · rw [if_pos h2, decide_eq_true h2] at h
      obtain ⟨out, rfl, rfl, hoo⟩ := hout 123 125 true h2 h
      exact jbuild_map f ts g o N cap k t out w ht hT ho hN hc hl h2 hoo (fun he => by
        rcases hoo with ⟨h3, _⟩ | ⟨_, h3⟩
        · rw [he] at h3; cases h3
        · exact elems_head h3) (jbuild_any ts g hl f)
    · have h3 : t.kind = 91 := by omega
      rw [if_neg h2, decide_eq_false h2] at h
      obtain ⟨out, rfl, rfl, hoo⟩ := hout 91 93 false h3 h
      exact jbuild_row f ts g o N cap k t out w ht hT ho hN hc hl h3 hoo (fun he => by
        rcases hoo with ⟨h3, _⟩ | ⟨_, h3⟩
        · rw [he] at h3; cases h3
        · exact elems_head h3) (jbuild_any ts g hl f)
end Go.Proofs.Ytjnmcadfaombjaa

/- Plain: the shape of tokens is the grammar (chapter 10). -/
namespace Go.Proofs.Ytjnmcadfaombjaa
set_option linter.unusedVariables false
set_option linter.unusedSimpArgs false
theorem shS_at {ts : List Tok} {k : Nat} {t : Tok} (ht : ts[k]? = some t) (st : Sh) : shS st (ts.drop k) = match stepSh st t.kind with
    | none => none
    | some st' => shS st' (ts.drop (k + 1)) := by
  obtain ⟨h1, h2⟩ := List.getElem?_eq_some_iff.1 ht
  rw [List.drop_eq_getElem_cons h1, h2]; rfl
theorem shS_end {ts : List Tok} {k : Nat} (h : ts.length ≤ k) (st : Sh) : shS st (ts.drop k) = some st := by
  rw [List.drop_eq_nil_of_le h]; rfl
theorem step_inv {op : List Nat} {d wt c : Nat} {st' : Sh} (h : stepSh ⟨op, d, wt⟩ c = some st') :
    ((wt = 1 ∨ wt = 3 ∨ wt = 5) ∧ endB op c = true ∧ st' = ⟨op.tail, d, 5⟩) ∨ ((wt = 0 ∨ wt = 1) ∧ (c = 91 ∨ c = 123) ∧ st' = ⟨c :: op, max d (op.length + 1), if c = 123 then 3 else 1⟩) ∨
    ((wt = 0 ∨ wt = 1) ∧ (c = 34 ∨ c = 48 ∨ c = 97) ∧ st' = ⟨op, max d (op.length + 1), 5⟩) ∨ ((wt = 2 ∨ wt = 3) ∧ c = 34 ∧ st' = ⟨op, d, 4⟩) ∨ (wt = 4 ∧ c = 58 ∧ st' = ⟨op, d, 0⟩) ∨
    (wt = 5 ∧ c = 44 ∧ op ≠ [] ∧ st' = ⟨op, d, if mapB op then 2 else 0⟩) := by
  unfold stepSh at h
  dsimp only at h
  split at h
  · rename_i h1; cases h; exact .inl ⟨h1.1, h1.2, rfl⟩
  split at h
  · rename_i h1; cases h; exact .inr (.inl ⟨h1.1, h1.2, rfl⟩)
  split at h
  · rename_i h1; cases h; exact .inr (.inr (.inl ⟨h1.1, h1.2, rfl⟩))
  split at h
  · rename_i h1; cases h; exact .inr (.inr (.inr (.inl ⟨h1.1, h1.2, rfl⟩)))
  split at h
  · rename_i h1; cases h; exact .inr (.inr (.inr (.inr (.inl ⟨h1.1, h1.2, rfl⟩))))
  split at h
  · rename_i h1; cases h; exact .inr (.inr (.inr (.inr (.inr ⟨h1.1.1, h1.1.2, h1.2, rfl⟩))))
  · cases h
theorem endB_no {op : List Nat} {c : Nat} (h1 : c ≠ 93) (h2 : c ≠ 125) : endB op c = false := by
  cases op with
  | nil => rfl
  | cons t r => unfold endB; dsimp only; split <;> simp [h1, h2]
theorem st_leaf {op : List Nat} {d wt c : Nat} (hw : wt = 0 ∨ wt = 1) (hc : c = 34 ∨ c = 48 ∨ c = 97) : stepSh ⟨op, d, wt⟩ c = some ⟨op, max d (op.length + 1), 5⟩ := by
  unfold stepSh
  dsimp only
  rw [if_neg (fun h => by rw [endB_no (by omega) (by omega)] at h; cases h.2), if_neg (by omega), if_pos ⟨hw, hc⟩]
theorem st_push {op : List Nat} {d wt c : Nat} (hw : wt = 0 ∨ wt = 1) (hc : c = 91 ∨ c = 123) : stepSh ⟨op, d, wt⟩ c = some ⟨c :: op, max d (op.length + 1), if c = 123 then 3 else 1⟩ := by
  unfold stepSh
  dsimp only
  rw [if_neg (fun h => by rw [endB_no (by omega) (by omega)] at h; cases h.2), if_pos ⟨hw, hc⟩]
theorem st_pop {op : List Nat} {d wt c : Nat} (hw : wt = 1 ∨ wt = 3 ∨ wt = 5) (hc : endB op c = true) : stepSh ⟨op, d, wt⟩ c = some ⟨op.tail, d, 5⟩ := by
  unfold stepSh
  dsimp only
  rw [if_pos ⟨hw, hc⟩]
theorem st_key {op : List Nat} {d wt : Nat} (hw : wt = 2 ∨ wt = 3) : stepSh ⟨op, d, wt⟩ 34 = some ⟨op, d, 4⟩ := by
  unfold stepSh
  dsimp only
  rw [if_neg (fun h => by rw [endB_no (by omega) (by omega)] at h; cases h.2), if_neg (by omega), if_neg (by omega), if_pos ⟨hw, rfl⟩]
theorem st_colon (op : List Nat) (d : Nat) : stepSh ⟨op, d, 4⟩ 58 = some ⟨op, d, 0⟩ := by
  unfold stepSh
  dsimp only
  rw [if_neg (by omega), if_neg (by omega), if_neg (by omega), if_neg (by omega), if_pos ⟨rfl, rfl⟩]
theorem st_more {op : List Nat} {d : Nat} (ho : op ≠ []) : stepSh ⟨op, d, 5⟩ 44 = some ⟨op, d, if mapB op then 2 else 0⟩ := by
  unfold stepSh
  dsimp only
  rw [if_neg (fun h => by rw [endB_no (by omega) (by omega)] at h; cases h.2), if_neg (by omega), if_neg (by omega), if_neg (by omega), if_neg (by omega), if_pos ⟨⟨rfl, rfl⟩, ho⟩]
def kE (map : Bool) : Nat := if map then 125 else 93
def kK (map : Bool) : Nat := if map then 123 else 91
theorem endB_K (map : Bool) (op : List Nat) (c : Nat) : endB (kK map :: op) c = decide (c = kE map) := by
  cases map <;> simp [endB, kK, kE]
theorem mapB_K (map : Bool) (op : List Nat) : mapB (kK map :: op) = map := by
  cases map <;> simp [mapB, kK]
theorem run_val {ts : List Tok} : ∀ (f k k2 : Nat) (n : Node) (op : List Nat) (d wt : Nat), valI f ts k = some (n, k2) → wt = 0 ∨ wt = 1 → shS ⟨op, d, wt⟩ (ts.drop k) = shS ⟨op, max d (op.length + deepN n), 5⟩ (ts.drop k2)
  | 0, k, k2, n, op, d, wt, h, hw => by cases h
  | f + 1, k, k2, n, op, d, wt, h, hw => by
    have run_elems : ∀ (map : Bool) (G m : Nat) (ks : List (List UInt8)) (ns : List Node) (ks' : List (List UInt8)) (ns' : List Node) (ke : Nat) (op : List Nat) (d wt : Nat), elems (fun j => valI f ts j) ts map (kE map) G m ks ns = some (ks', ns', ke) →
        (if map then wt = 2 ∨ wt = 3 else wt = 0 ∨ wt = 1) → ∃ news, ns' = ns ++ news ∧ shS ⟨kK map :: op, d, wt⟩ (ts.drop m) = shS ⟨op, max d (op.length + 1 + deepL news), 5⟩ (ts.drop ke) := by
      intro map G
      induction G with
      | zero => intro m ks ns ks' ns' ke op d wt h; cases h
      | succ G ih =>
        intro m ks ns ks' ns' ke op d wt h hwt
        unfold elems at h
        by_cases hm : map = true ∧ ¬ (isK ts m 34 = true ∧ isK ts (m + 1) 58 = true)
        · rw [if_pos hm] at h; cases h
        rw [if_neg hm] at h
        obtain ⟨p, hp⟩ : ∃ p, (if map then m + 2 else m) = p := ⟨_, rfl⟩
        rw [hp] at h
        have hstart : ∃ wt2, (wt2 = 0 ∨ wt2 = 1) ∧ shS ⟨kK map :: op, d, wt⟩ (ts.drop m) = shS ⟨kK map :: op, d, wt2⟩ (ts.drop p) := by
          cases map
          · exact ⟨wt, hwt, by rw [← hp]; rfl⟩
          · have h2 : isK ts m 34 = true ∧ isK ts (m + 1) 58 = true := by
              by_cases h2 : isK ts m 34 = true ∧ isK ts (m + 1) 58 = true
              · exact h2
              · exact absurd ⟨rfl, h2⟩ hm
            obtain ⟨t1, e1, q1⟩ := isK_get h2.1
            obtain ⟨t2, e2, q2⟩ := isK_get h2.2
            refine ⟨0, .inl rfl, ?_⟩
            have hwt' : wt = 2 ∨ wt = 3 := hwt
            rw [shS_at e1, q1, st_key hwt']
            dsimp only
            rw [shS_at e2, q2, st_colon, ← hp]
            rfl
        obtain ⟨wt2, hwt2, hs⟩ := hstart
        cases hv : valI f ts p with
        | none => rw [hv] at h; cases h
        | some r =>
          obtain ⟨n1, k3⟩ := r
          rw [hv] at h
          dsimp only at h
          have hr := run_val f p k3 n1 (kK map :: op) d wt2 hv hwt2
          rw [hs, hr]
          by_cases h1 : isK ts k3 (kE map) = true
          · rw [if_pos h1] at h
            simp only [Option.some.injEq, Prod.mk.injEq] at h
            obtain ⟨_, rfl, rfl⟩ := h
            obtain ⟨t1, e1, q1⟩ := isK_get h1
            refine ⟨[n1], rfl, ?_⟩
            rw [shS_at e1, q1, st_pop (by omega) (by rw [endB_K]; simp)]
            simp only [List.length_cons, List.tail_cons, deepL]
            rw [Nat.max_zero]
          · rw [if_neg h1] at h
            by_cases h2 : isK ts k3 44 = true
            · rw [if_pos h2] at h
              obtain ⟨t1, e1, q1⟩ := isK_get h2
              obtain ⟨news, rfl, hn⟩ := ih _ _ _ _ _ _ op (max d ((kK map :: op).length + deepN n1)) (if map then 2 else 0) h (by cases map <;> simp)
              refine ⟨n1 :: news, by simp, ?_⟩
              rw [shS_at e1, q1, st_more (by simp), mapB_K]
              dsimp only
              rw [hn]
              congr 2
              simp only [List.length_cons, deepL]
              omega
            · rw [if_neg h2] at h; cases h
    rcases Nat.lt_or_ge k ts.length with hk | hk
    · have ht : ts[k]? = some ts[k] := List.getElem?_eq_getElem hk
      rw [valI_at ht] at h
      generalize ts[k] = t at *
      rw [shS_at ht]
      by_cases h1 : t.kind = 34 ∨ t.kind = 48 ∨ t.kind = 97
      · rw [if_pos h1] at h
        cases h
        rw [st_leaf hw h1]
        rfl
      rw [if_neg h1] at h
      by_cases h2 : t.kind ≠ 91 ∧ t.kind ≠ 123
      · rw [if_pos h2] at h; cases h
      rw [if_neg h2, ] at h
      obtain ⟨map, hmap⟩ : ∃ map, decide (t.kind = 123) = map := ⟨_, rfl⟩
      have hK : t.kind = kK map := by
        cases map
        · have : t.kind ≠ 123 := by simpa using hmap
          simp [kK]; omega
        · simpa [kK] using hmap
      have hE : (if t.kind = 123 then 125 else 93) = kE map := by
        cases map
        · have : t.kind ≠ 123 := by simpa using hmap
          rw [if_neg this]; rfl
        · have : t.kind = 123 := by simpa using hmap
          rw [if_pos this]; rfl
      rw [hE, hmap] at h
      rw [st_push hw (by omega)]
      dsimp only
      rw [hK]
      by_cases h3 : isK ts (k + 1) (kE map) = true
      · rw [if_pos h3] at h
        cases h
        obtain ⟨t1, e1, q1⟩ := isK_get h3
        rw [shS_at e1, q1, st_pop (by cases map <;> simp [kK]) (by rw [endB_K]; simp)]
        rfl
      · rw [if_neg h3] at h
        cases he : elems (fun j => valI f ts j) ts map (kE map) ts.length (k + 1) [] [] with
        | none => rw [he] at h; cases h
        | some out =>
          obtain ⟨ks', ns', ke⟩ := out
          rw [he] at h
          cases h
          obtain ⟨news, hn, hr⟩ := run_elems map _ _ _ _ _ _ _ op (max d (op.length + 1)) (if kK map = 123 then 3 else 1) he (by cases map <;> simp [kK])
          rw [hr]
          rw [List.nil_append] at hn
          subst hn
          congr 2
          simp only [deepN]
          omega
    · rw [valI_out hk] at h; cases h
end Go.Proofs.Ytjnmcadfaombjaa

/- Plain: what the shape takes is a value (chapter 10). -/
namespace Go.Proofs.Ytjnmcadfaombjaa
set_option linter.unusedVariables false
set_option linter.unusedSimpArgs false
def A1 (ts : List Tok) (k : Nat) : Prop := ∀ (f : Nat) (op : List Nat) (d wt : Nat) (st' : Sh), ts.length < f + k → (wt = 0 ∨ (wt = 1 ∧ ∀ t, ts[k]? = some t → endB op t.kind = false)) → shS ⟨op, d, wt⟩ (ts.drop k) = some st' → st'.op = [] → st'.want = 5 →
  ∃ n k2, valI f ts k = some (n, k2)
def A2 (ts : List Tok) (k : Nat) : Prop := ∀ (f G : Nat) (map : Bool) (op : List Nat) (d wt : Nat) (ks : List (List UInt8)) (ns : List Node) (st' : Sh), ts.length < f + k → ts.length < G + k →
  (wt = (if map then 2 else 0) ∨ (wt = (if map then 3 else 1) ∧ ∀ t, ts[k]? = some t → endB (kK map :: op) t.kind = false)) → shS ⟨kK map :: op, d, wt⟩ (ts.drop k) = some st' → st'.op = [] → st'.want = 5 →
  ∃ out, elems (fun j => valI f ts j) ts map (kE map) G k ks ns = some out
theorem acc_1 {ts : List Tok} {k : Nat} (h2 : ∀ k', k < k' → A2 ts k') : A1 ts k := by
  intro f op d wt st' hf hw h ho h5
  rcases Nat.lt_or_ge k ts.length with hk | hk
  · have ht : ts[k]? = some ts[k] := List.getElem?_eq_getElem hk
    generalize ts[k] = t at *
    rw [shS_at ht] at h
    cases hs : stepSh ⟨op, d, wt⟩ t.kind with
    | none => rw [hs] at h; cases h
    | some st1 =>
      rw [hs] at h
      dsimp only at h
      obtain ⟨f, rfl⟩ : ∃ f', f = f' + 1 := ⟨f - 1, by omega⟩
      rw [valI_at ht]
      rcases step_inv hs with ⟨q1, q2, rfl⟩ | ⟨q1, q2, rfl⟩ | ⟨q1, q2, rfl⟩ | ⟨q1, q2, rfl⟩ | ⟨q1, q2, rfl⟩ | ⟨q1, q2, q3, rfl⟩
      · exfalso
        rcases hw with rfl | ⟨rfl, hw⟩
        · omega
        · rw [hw t ht] at q2; cases q2
      · rw [if_neg (by omega), if_neg (by omega)]
        obtain ⟨map, hmap⟩ : ∃ map, decide (t.kind = 123) = map := ⟨_, rfl⟩
        have hK : t.kind = kK map := by
          cases map
          · have : t.kind ≠ 123 := by simpa using hmap
            simp [kK]; omega
          · simpa [kK] using hmap
        have hE : (if t.kind = 123 then 125 else 93) = kE map := by
          cases map
          · have : t.kind ≠ 123 := by simpa using hmap
            rw [if_neg this]; rfl
          · have : t.kind = 123 := by simpa using hmap
            rw [if_pos this]; rfl
        have hW : (if t.kind = 123 then 3 else 1) = (if map then 3 else 1) := by
          cases map
          · have : t.kind ≠ 123 := by simpa using hmap
            rw [if_neg this]; rfl
          · have : t.kind = 123 := by simpa using hmap
            rw [if_pos this]; rfl
        rw [hE, hmap]
        by_cases h3 : isK ts (k + 1) (kE map) = true
        · rw [if_pos h3]; exact ⟨_, _, rfl⟩
        · rw [if_neg h3]
          rw [hK] at h
          rw [hK] at hW
          rw [hW] at h
          obtain ⟨out, he⟩ := h2 (k + 1) (by omega) f ts.length map op (max d (op.length + 1)) (if map then 3 else 1) [] [] st' (by omega) (by omega) (.inr ⟨rfl, fun t1 e1 => by
            rw [endB_K]
            rw [isK_some e1] at h3
            simpa using h3⟩) h ho h5
          rw [he]
          exact ⟨_, _, rfl⟩
      · rw [if_pos q2]; exact ⟨_, _, rfl⟩
      · exfalso; omega
      · exfalso; omega
      · exfalso; omega
  · exfalso
    rw [shS_end hk] at h
    cases h
    dsimp only at h5
    omega
theorem acc_2 {ts : List Tok} {k : Nat} (h1 : ∀ k', k ≤ k' → A1 ts k') (h2 : ∀ k', k < k' → A2 ts k') : A2 ts k := by
  intro f G map op d wt ks ns st' hf hG hw h ho h5
  rcases Nat.lt_or_ge k ts.length with hk | hk
  · rw [elems_step (fun k hk => valI_out hk) G k ks ns hG]
    obtain ⟨p, hp⟩ : ∃ p, (if map then k + 2 else k) = p := ⟨_, rfl⟩
    rw [hp]
    have hkp : k ≤ p := by cases map <;> simp at hp <;> omega
    have hstart : (map = true → isK ts k 34 = true ∧ isK ts (k + 1) 58 = true) ∧ ∃ wt2, (wt2 = 0 ∨ (wt2 = 1 ∧ ∀ t, ts[p]? = some t → endB (kK map :: op) t.kind = false)) ∧ shS ⟨kK map :: op, d, wt2⟩ (ts.drop p) = some st' := by
      cases map
      · refine ⟨fun h => (by cases h), wt, ?_, ?_⟩
        · have hp2 : k = p := hp
          rw [← hp2]; exact hw
        · have hp2 : k = p := hp
          rw [← hp2]; exact h
      · have ht : ts[k]? = some ts[k] := List.getElem?_eq_getElem hk
        generalize ts[k] = t at *
        rw [shS_at ht] at h
        cases hs : stepSh ⟨kK true :: op, d, wt⟩ t.kind with
        | none => rw [hs] at h; cases h
        | some st1 =>
          rw [hs] at h
          dsimp only at h
          have hw' : wt = 2 ∨ (wt = 3 ∧ ∀ t, ts[k]? = some t → endB (kK true :: op) t.kind = false) := hw
          have h34 : t.kind = 34 ∧ st1 = ⟨kK true :: op, d, 4⟩ := by
            rcases step_inv hs with ⟨q1, q2, rfl⟩ | ⟨q1, q2, rfl⟩ | ⟨q1, q2, rfl⟩ | ⟨q1, q2, rfl⟩ | ⟨q1, q2, rfl⟩ | ⟨q1, q2, q3, rfl⟩
            · exfalso
              rcases hw' with rfl | ⟨rfl, hw'⟩
              · omega
              · rw [hw' t ht] at q2; cases q2
            · exfalso; omega
            · exfalso; omega
            · exact ⟨q2, rfl⟩
            · exfalso; omega
            · exfalso; omega
          obtain ⟨h34, rfl⟩ := h34
          rcases Nat.lt_or_ge (k + 1) ts.length with hk1 | hk1
          · have ht1 : ts[k + 1]? = some ts[k + 1] := List.getElem?_eq_getElem hk1
            generalize ts[k + 1] = t1 at *
            rw [shS_at ht1] at h
            cases hs1 : stepSh ⟨kK true :: op, d, 4⟩ t1.kind with
            | none => rw [hs1] at h; cases h
            | some st2 =>
              rw [hs1] at h
              dsimp only at h
              rcases step_inv hs1 with ⟨q1, q2, rfl⟩ | ⟨q1, q2, rfl⟩ | ⟨q1, q2, rfl⟩ | ⟨q1, q2, rfl⟩ | ⟨q1, q2, rfl⟩ | ⟨q1, q2, q3, rfl⟩
              · exfalso; omega
              · exfalso; omega
              · exfalso; omega
              · exfalso; omega
              · refine ⟨fun _ => ⟨by rw [isK_some ht]; simp [h34], by rw [isK_some ht1]; simp [q2]⟩, 0, .inl rfl, ?_⟩
                have hp2 : k + 2 = p := hp
                rw [← hp2]; exact h
              · exfalso; omega
          · exfalso
            rw [shS_end hk1] at h
            cases h
            cases ho
    obtain ⟨hkey, wt2, hw2, h⟩ := hstart
    rw [if_neg (fun x => x.2 (hkey x.1))]
    obtain ⟨n, k3, hv⟩ := h1 p hkp f _ d wt2 st' (by omega) hw2 h ho h5
    have hb := valI_bd _ _ _ _ _ hv
    rw [run_val f p k3 n _ d wt2 hv (by omega)] at h
    rw [hv]
    dsimp only
    rcases Nat.lt_or_ge k3 ts.length with hk3 | hk3
    · have ht : ts[k3]? = some ts[k3] := List.getElem?_eq_getElem hk3
      generalize ts[k3] = t at *
      rw [shS_at ht] at h
      cases hs : stepSh ⟨kK map :: op, max d ((kK map :: op).length + deepN n), 5⟩ t.kind with
      | none => rw [hs] at h; cases h
      | some st1 =>
        rw [hs] at h
        dsimp only at h
        rcases step_inv hs with ⟨q1, q2, rfl⟩ | ⟨q1, q2, rfl⟩ | ⟨q1, q2, rfl⟩ | ⟨q1, q2, rfl⟩ | ⟨q1, q2, rfl⟩ | ⟨q1, q2, q3, rfl⟩
        · rw [endB_K] at q2
          rw [if_pos (by rw [isK_some ht]; exact q2)]
          exact ⟨_, rfl⟩
        · exfalso; omega
        · exfalso; omega
        · exfalso; omega
        · exfalso; omega
        · by_cases hE : isK ts k3 (kE map) = true
          · rw [if_pos hE]; exact ⟨_, rfl⟩
          · rw [if_neg hE, if_pos (by rw [isK_some ht]; simp [q2])]
            rw [mapB_K] at h
            exact h2 (k3 + 1) (by omega) f (G - 1) map op _ _ _ _ st' (by omega) (by omega) (.inl rfl) h ho h5
    · exfalso
      rw [shS_end hk3] at h
      cases h
      cases ho
  · exfalso
    rw [shS_end hk] at h
    cases h
    cases ho
theorem acc_all (ts : List Tok) : ∀ (L k : Nat), ts.length ≤ k + L → A1 ts k ∧ A2 ts k
  | 0, k, h => by
    constructor
    · intro f op d wt st' hf hw hh ho h5
      exfalso
      rw [shS_end (by omega)] at hh
      cases hh
      dsimp only at h5
      omega
    · intro f G map op d wt ks ns st' hf hG hw hh ho h5
      exfalso
      rw [shS_end (by omega)] at hh
      cases hh
      cases ho
  | L + 1, k, h => by
    have hx : ∀ k', k < k' → A1 ts k' ∧ A2 ts k' := fun k' hk' => acc_all ts L k' (by omega)
    have a1 : A1 ts k := acc_1 fun k' hk' => (hx k' hk').2
    refine ⟨a1, acc_2 (fun k' hk' => ?_) fun k' hk' => (hx k' hk').2⟩
    rcases Nat.lt_or_ge k k' with h1 | h1
    · exact (hx k' h1).1
    · obtain rfl : k = k' := by omega
      exact a1
theorem deepN_pos (n : Node) : 0 < deepN n := by cases n; simp [deepN]
/-- The shape is how deep the value is; 0: there is none. -/
theorem shape_val (ts : List Tok) : shapeN ts = match val ts with
    | none => 0
    | some (n, k) => if k = ts.length then deepN n else 0 := by
  have h0 : ts.drop 0 = ts := rfl
  cases hv : val ts with
  | some r =>
    obtain ⟨n, k⟩ := r
    dsimp only
    have hb := valI_bd _ _ _ _ _ hv
    have hr := run_val _ 0 k n [] 0 0 hv (.inl rfl)
    rw [h0] at hr
    unfold shapeN
    rw [hr]
    by_cases hk : k = ts.length
    · rw [if_pos hk, shS_end (by omega)]
      dsimp only
      rw [if_pos ⟨rfl, rfl⟩]
      simp
    · rw [if_neg hk]
      have ht : ts[k]? = some ts[k] := List.getElem?_eq_getElem (by omega)
      rw [shS_at ht]
      cases hs : stepSh ⟨[], max 0 (([] : List Nat).length + deepN n), 5⟩ ts[k].kind with
      | none => rfl
      | some st1 =>
        exfalso
        rcases step_inv hs with ⟨q1, q2, rfl⟩ | ⟨q1, q2, rfl⟩ | ⟨q1, q2, rfl⟩ | ⟨q1, q2, rfl⟩ | ⟨q1, q2, rfl⟩ | ⟨q1, q2, q3, rfl⟩
        · cases q2
        · omega
        · omega
        · omega
        · omega
        · exact q3 rfl
  | none =>
    dsimp only
    unfold shapeN
    cases hs : shS ⟨[], 0, 0⟩ ts with
    | none => rfl
    | some st =>
      dsimp only
      by_cases h : st.op = [] ∧ st.want = 5
      · exfalso
        obtain ⟨n, k2, h1⟩ := (acc_all ts ts.length 0 (by omega)).1 (ts.length + 1) [] 0 0 st (by omega) (.inl rfl) hs h.1 h.2
        have h2 : val ts = some (n, k2) := h1
        rw [hv] at h2; cases h2
      · rw [if_neg h]
end Go.Proofs.Ytjnmcadfaombjaa

/- Walks: the program's Parse (chapter 10). -/
namespace Go.Proofs.Ytjnmcadfaombjaa
open Go.RowKit
set_option linter.unusedVariables false
set_option linter.unusedSimpArgs false
theorem toksF_kind : ∀ (f : Nat) (l : List UInt8) (k : Nat) (ts : List Tok), toksF f l k = some ts → ∀ t ∈ ts, t.kind < 256
  | 0, l, k, ts, h => by unfold toksF at h; cases h; simp
  | f + 1, l, k, ts, h => by
    unfold toksF at h
    split at h
    · cases h; simp
    · split at h
      · exact toksF_kind f l (k + 1) ts h
      · split at h
        · cases h
        · rename_i h1 h2 t ho
          have hb := oneT_bd (by omega) ho
          cases hr : toksF f l t.to with
          | none => rw [hr] at h; cases h
          | some r =>
            rw [hr] at h
            cases h
            intro t' ht'
            rcases List.mem_cons.1 ht' with rfl | h3
            · exact hb.2.2.2.1
            · exact toksF_kind f l t.to r hr t' h3
theorem tok_rowJ {w : World} {B : Nat} {v : Value} {ts : List Tok} (h : w.ownsRow B 31 4 v ts.length (tokCs ts)) : ∃ ao cap, v = .slice ao ts.length cap ∧ ts.length ≤ cap ∧ TokAt w w.heap.size ao ts := by
  have hr := RowW.own (ok := fun _ => True) h (fun _ _ _ => trivial)
  have hcap : ∀ ao cap, v = .slice ao ts.length cap → ts.length ≤ cap := by
    intro ao cap hv
    rcases h.2 with ⟨h1, h2⟩ | ⟨g, c, cur, h1, _, _, r1, _⟩
    · omega
    · rw [hv] at h1
      simp only [Value.slice.injEq] at h1
      obtain ⟨_, _, rfl⟩ := h1
      exact r1
  rcases hr with ⟨hv, h0, _⟩ | ⟨g, cap, hv, _, hl, hc⟩
  · have h1 : ts = [] := List.length_eq_zero_iff.1 h0
    refine ⟨none, 0, by rw [hv, h0], by omega, .inl h1⟩
  · exact ⟨_, cap, hv, hcap _ _ hv, .inr ⟨g, rfl, hl, hc⟩⟩
theorem parse_shape {l : List UInt8} {ts : List Tok} (h : toks l = some ts) : (shapeN ts = 0 ∧ parseJ l = .error 7) ∨ (32 < shapeN ts ∧ parseJ l = .error 8) ∨ (0 < shapeN ts ∧ shapeN ts ≤ 32 ∧ ∃ n, valI (ts.length + 1) ts 0 = some (n, ts.length) ∧ parseJ l = .ok n) := by
  have hp : parseJ l = match val ts with
      | none => .error 7
      | some (n, k) => if k = ts.length then (if 32 < deepN n then .error 8 else .ok n) else .error 7 := by unfold parseJ; rw [h]; rfl
  rw [hp, shape_val]
  cases hv : val ts with
  | none => exact .inl ⟨rfl, rfl⟩
  | some r =>
    obtain ⟨n, k⟩ := r
    dsimp only
    by_cases hk : k = ts.length
    · rw [if_pos hk, if_pos hk]
      have hpos := deepN_pos n
      by_cases h3 : 32 < deepN n
      · rw [if_pos h3]; exact .inr (.inl ⟨h3, rfl⟩)
      · rw [if_neg h3]
        refine .inr (.inr ⟨hpos, by omega, n, ?_, rfl⟩)
        subst hk; exact hv
    · rw [if_neg hk, if_neg hk]; exact .inl ⟨rfl, rfl⟩
set_option maxRecDepth 100000 in
set_option maxHeartbeats 8000000 in
theorem jparse_any (s : ByteArray) (w : World) (hs : s.size ≤ 100000) :
    Calls Try.prog 13 #[.string s] w fun e w' => ParR (parseJ s.data.toList) w.heap.size e w' ∧ Below w.heap.size w w' := by
  have HTk := Lib.hid (fun w => jtokens s w hs)
  have hl : s.data.toList.length = s.size := (sz_len s).symm
  have HR := Lib.hid (Blk.new w 39 #[.int .u8 0, .string ⟨#[]⟩, .slice none 0 0, .slice none 0 0])
  have HB := Lib.hid ((Below.refl w.heap.size w).alloc (Nat.le_refl _) (.cells #[.int .u8 0, .string ⟨#[]⟩, .slice none 0 0, .slice none 0 0] 39))
  have HRl : Hid (w.heap.size < (w.alloc (.cells #[.int .u8 0, .string ⟨#[]⟩, .slice none 0 0, .slice none 0 0] 39)).heap.size) := HR.out.lt
  go_enter Try.func13, Try.ntmps13
  go_upto_region 1 with fail
  generalize w.alloc (.cells #[.int .u8 0, .string ⟨#[]⟩, .slice none 0 0, .slice none 0 0] 39) = W0 at *
  go_wp2_with fail
  refine (HTk.out _).mono ?_
  rintro e w2 ⟨ht, hb2⟩
  have hR2 := HR.out.below hb2 HRl.out
  have hB2 := HB.out.trans (hb2.mono (Nat.le_of_lt HRl.out))
  cases htk : toks s.data.toList with
  | none =>
    rw [htk] at ht
    have ht2 : e = .returned (.tuple #[.slice none 0 0, .int .i64 7]) := ht
    subst ht2
    have HP : Hid (parseJ s.data.toList = .error 7) := by show _ = _; unfold parseJ; rw [htk]
    clear ht htk HTk HR HB HRl hb2
    have r0 := hR2.cell 0
    have f0 := hR2.frozen 0
    have r1 := hR2.cell 1
    have f1 := hR2.frozen 1
    have r2 := hR2.cell 2
    have f2 := hR2.frozen 2
    have r3 := hR2.cell 3
    have f3 := hR2.frozen 3
    go_wp2_with fail
    have hF := (((hR2.set_ 0 (.int .u8 0)).set_ 1 (.string ⟨#[]⟩)).set_ 2 (.slice none 0 0)).set_ 3 (.slice none 0 0)
    have s0 : (World.setCell _ _ _).cell? _ = some (.int .u8 0) := hF.cell 0
    have s1 : (World.setCell _ _ _).cell? _ = some (.string ⟨#[]⟩) := hF.cell 1
    have s2 : (World.setCell _ _ _).cell? _ = some (.slice none 0 0) := hF.cell 2
    have s3 : (World.setCell _ _ _).cell? _ = some (.slice none 0 0) := hF.cell 3
    exact bodyPost_ret (v := .tuple #[.agg #[.int .u8 0, .string ⟨#[]⟩, .slice none 0 0, .slice none 0 0], .int .i64 7]) (by simp [results, Try.f13, go_sem, s0, s1, s2, s3]) rfl ⟨by rw [HP.out]; rfl, (((hB2.setCell (p := ⟨w.heap.size, 0, none⟩) (Nat.le_refl _) _).setCell (p := ⟨w.heap.size, 1, none⟩) (Nat.le_refl _) _).setCell (p := ⟨w.heap.size, 2, none⟩) (Nat.le_refl _) _).setCell (p := ⟨w.heap.size, 3, none⟩) (Nat.le_refl _) _⟩
  | some ts =>
    have hlen := toks_len htk
    have hps := parse_shape htk
    have HKD := Lib.hid (toksF_kind _ _ _ _ htk)
    rw [htk] at ht
    obtain ⟨v, rfl, hown⟩ : ∃ v, e = .returned (.tuple #[v, .int .i64 0]) ∧ w2.ownsRow W0.heap.size 31 4 v ts.length (tokCs ts) := ht
    obtain ⟨ao, cap, rfl, hcap, hT⟩ := tok_rowJ hown
    have HT := Lib.hid hT
    have HPS := Lib.hid hps
    clear hown htk hps hT
    go_wp2_with fail
    refine (jshape ts ao cap w2.heap.size w2 HT.out (Nat.le_refl _) (by omega) HKD.out).mono ?_
    rintro e w3 ⟨rfl, hb3⟩
    have hR3 := hR2.below hb3 hR2.lt
    have hB3 := hB2.trans (hb3.mono hB2.size)
    have HT3 := Lib.hid ((HT.out.below hb3 (Nat.le_refl _)).wider hb3.size)
    clear HT hb2 hb3 hR2 hB2 HTk HR HB HRl HKD
    rcases HPS.out with ⟨h0, hp⟩ | ⟨h0, hp⟩ | ⟨h0, h32, n, hv, hp⟩
    · rw [h0]
      have HP := Lib.hid hp
      clear h0 hp HPS
      have r0 := hR3.cell 0
      have f0 := hR3.frozen 0
      have r1 := hR3.cell 1
      have f1 := hR3.frozen 1
      have r2 := hR3.cell 2
      have f2 := hR3.frozen 2
      have r3 := hR3.cell 3
      have f3 := hR3.frozen 3
      go_wp2_with fail
      have hF := (((hR3.set_ 0 (.int .u8 0)).set_ 1 (.string ⟨#[]⟩)).set_ 2 (.slice none 0 0)).set_ 3 (.slice none 0 0)
      have s0 : (World.setCell _ _ _).cell? _ = some (.int .u8 0) := hF.cell 0
      have s1 : (World.setCell _ _ _).cell? _ = some (.string ⟨#[]⟩) := hF.cell 1
      have s2 : (World.setCell _ _ _).cell? _ = some (.slice none 0 0) := hF.cell 2
      have s3 : (World.setCell _ _ _).cell? _ = some (.slice none 0 0) := hF.cell 3
      exact bodyPost_ret (v := .tuple #[.agg #[.int .u8 0, .string ⟨#[]⟩, .slice none 0 0, .slice none 0 0], .int .i64 7]) (by simp [results, Try.f13, go_sem, s0, s1, s2, s3]) rfl ⟨by rw [HP.out]; rfl, (((hB3.setCell (p := ⟨w.heap.size, 0, none⟩) (Nat.le_refl _) _).setCell (p := ⟨w.heap.size, 1, none⟩) (Nat.le_refl _) _).setCell (p := ⟨w.heap.size, 2, none⟩) (Nat.le_refl _) _).setCell (p := ⟨w.heap.size, 3, none⟩) (Nat.le_refl _) _⟩
    · have HP := Lib.hid hp
      have hq : ((shapeN ts : Int) == 0) = false := by simp; omega
      have hq2 : (32 : Int) < (shapeN ts : Int) := by omega
      generalize shapeN ts = D at *
      clear h0 hp HPS
      have r0 := hR3.cell 0
      have f0 := hR3.frozen 0
      have r1 := hR3.cell 1
      have f1 := hR3.frozen 1
      have r2 := hR3.cell 2
      have f2 := hR3.frozen 2
      have r3 := hR3.cell 3
      have f3 := hR3.frozen 3
      go_wp2_with fail
      have hF := (((hR3.set_ 0 (.int .u8 0)).set_ 1 (.string ⟨#[]⟩)).set_ 2 (.slice none 0 0)).set_ 3 (.slice none 0 0)
      have s0 : (World.setCell _ _ _).cell? _ = some (.int .u8 0) := hF.cell 0
      have s1 : (World.setCell _ _ _).cell? _ = some (.string ⟨#[]⟩) := hF.cell 1
      have s2 : (World.setCell _ _ _).cell? _ = some (.slice none 0 0) := hF.cell 2
      have s3 : (World.setCell _ _ _).cell? _ = some (.slice none 0 0) := hF.cell 3
      exact bodyPost_ret (v := .tuple #[.agg #[.int .u8 0, .string ⟨#[]⟩, .slice none 0 0, .slice none 0 0], .int .i64 8]) (by simp [results, Try.f13, go_sem, s0, s1, s2, s3]) rfl ⟨by rw [HP.out]; rfl, (((hB3.setCell (p := ⟨w.heap.size, 0, none⟩) (Nat.le_refl _) _).setCell (p := ⟨w.heap.size, 1, none⟩) (Nat.le_refl _) _).setCell (p := ⟨w.heap.size, 2, none⟩) (Nat.le_refl _) _).setCell (p := ⟨w.heap.size, 3, none⟩) (Nat.le_refl _) _⟩
    · have HP := Lib.hid hp
      have hq : ((shapeN ts : Int) == 0) = false := by simp; omega
      have hq2 : ¬ ((32 : Int) < (shapeN ts : Int)) := by omega
      generalize shapeN ts = D at *
      clear h0 hp HPS h32
      obtain ⟨t0, ht0, _⟩ := valI_head hv
      obtain ⟨g, rfl, _⟩ := HT3.out.facts ht0
      have HBd := Lib.hid (jbuild_any ts g (by omega) (ts.length + 1) 0 ts.length n 0 ts.length cap w3 hv rfl (by omega) hcap HT3.out)
      clear hv HT3 ht0
      go_wp2_with fail
      refine (HBd.out).mono ?_
      rintro e w4 ⟨⟨na, nb, nc, nd, mm, hmm, rfl, hn⟩, hb4⟩
      have HN := Lib.hid hn
      obtain ⟨v1, v2, v3, v4, v5, v6, v7, v8, rfl, rfl, rfl, rfl⟩ := node_shape hn
      clear hn HBd hmm
      have hR4 := (hR3.below hb4 hR3.lt).alloc (.cells #[.int .u8 v1, .string v2, .slice v3 v4 v5, .slice v6 v7 v8] 39)
      have hB4 := (hB3.trans (hb4.mono hB3.size)).alloc (by have := hB3.size; have := hb4.size; omega) (.cells #[.int .u8 v1, .string v2, .slice v3 v4 v5, .slice v6 v7 v8] 39)
      have hK4 := Blk.new w4 39 #[.int .u8 v1, .string v2, .slice v3 v4 v5, .slice v6 v7 v8]
      have hwb := hR3.lt
      have HN2 : Hid (NodeW (w4.alloc (.cells #[.int .u8 v1, .string v2, .slice v3 v4 v5, .slice v6 v7 v8] 39)) (fun g => w3.heap.size ≤ g) n (.agg #[.int .u8 v1, .string v2, .slice v3 v4 v5, .slice v6 v7 v8])) := node_alloc _ HN.out
      clear HN hb4 hR3 hB3
      go_upto_region 10 with fail
      generalize w4.alloc (.cells #[.int .u8 v1, .string v2, .slice v3 v4 v5, .slice v6 v7 v8] 39) = W5 at *
      have k0 := hK4.cell 0
      have k1 := hK4.cell 1
      have k2 := hK4.cell 2
      have k3 := hK4.cell 3
      have r0 := hR4.cell 0
      have f0 := hR4.frozen 0
      have r1 := hR4.cell 1
      have f1 := hR4.frozen 1
      have r2 := hR4.cell 2
      have f2 := hR4.frozen 2
      have r3 := hR4.cell 3
      have f3 := hR4.frozen 3
      go_wp2_with fail
      have hF := (((hR4.set_ 0 (.int .u8 v1)).set_ 1 (.string v2)).set_ 2 (.slice v3 v4 v5)).set_ 3 (.slice v6 v7 v8)
      have s0 : (World.setCell _ _ _).cell? _ = some (.int .u8 v1) := hF.cell 0
      have s1 : (World.setCell _ _ _).cell? _ = some (.string v2) := hF.cell 1
      have s2 : (World.setCell _ _ _).cell? _ = some (.slice v3 v4 v5) := hF.cell 2
      have s3 : (World.setCell _ _ _).cell? _ = some (.slice v6 v7 v8) := hF.cell 3
      exact bodyPost_ret (v := .tuple #[.agg #[.int .u8 v1, .string v2, .slice v3 v4 v5, .slice v6 v7 v8], .int .i64 0]) (by simp [results, Try.f13, go_sem, s0, s1, s2, s3]) rfl ⟨by rw [HP.out]; exact ⟨_, _, _, _, rfl, NodeW.mono (fun g hg hl => ⟨by omega, by simpa [World.setCell] using hl, far4 _ _ _ _ (by omega)⟩) _ _ HN2.out⟩, (((hB4.setCell (p := ⟨w.heap.size, 0, none⟩) (Nat.le_refl _) _).setCell (p := ⟨w.heap.size, 1, none⟩) (Nat.le_refl _) _).setCell (p := ⟨w.heap.size, 2, none⟩) (Nat.le_refl _) _).setCell (p := ⟨w.heap.size, 3, none⟩) (Nat.le_refl _) _⟩
end Go.Proofs.Ytjnmcadfaombjaa

/- Walks: the law's examples (chapter 10). -/
namespace Go.Proofs.Ytjnmcadfaombjaa
open Go.RowKit
set_option linter.unusedVariables false
set_option linter.unusedSimpArgs false
theorem awk_toks : toks (⟨#[123, 34, 97, 34, 58, 91, 49, 93, 125]⟩ : ByteArray).data.toList = some [⟨123, [], 0, 1⟩, ⟨34, [97], 1, 4⟩, ⟨58, [], 4, 5⟩, ⟨91, [], 5, 6⟩, ⟨48, [49], 6, 7⟩, ⟨93, [], 7, 8⟩, ⟨125, [], 8, 9⟩] := by kernel_rfl
theorem awk_1 : parseJ (⟨#[91, 49, 44, 93]⟩ : ByteArray).data.toList = .error 7 := by kernel_rfl
theorem awk_2 : parseJ (⟨#[48, 49]⟩ : ByteArray).data.toList = .error 7 := by kernel_rfl
theorem awk_3 : parseJ (⟨#[91, 34, 92, 117, 48, 48, 52, 49, 34, 44, 32, 110, 117, 108, 108, 93]⟩ : ByteArray).data.toList = .ok (.mk 91 [] [] [.mk 34 [65] [] [], .mk 97 tNull [] []]) := by kernel_rfl
theorem node_textJ {w : World} {ok : Nat → Prop} {n : Node} {a b c d : Value} (h : NodeW w ok n (.agg #[a, b, c, d])) : b = .string (strOf n.text) := by
  obtain ⟨k, t, ks, ns⟩ := n
  unfold NodeW at h
  obtain ⟨kv, nv, cs, hv, _⟩ := h
  simp only [Value.agg.injEq, Array.mk.injEq, List.cons.injEq, and_true] at hv
  exact hv.2.1
/-- A node of two kids in memory: the first one's text. -/
theorem node_first {w : World} {ok : Nat → Prop} {q : Nat} {t : List UInt8} {ks : List (List UInt8)} {n1 n2 : Node} {a b c d : Value} (h : NodeW w ok (.mk q t ks [n1, n2]) (.agg #[a, b, c, d])) :
    ∃ (g c2 : Nat), d = .slice (some ⟨g, 0, none⟩) 2 c2 ∧ g < w.heap.size ∧ w.cell? ⟨g, 1, none⟩ = some (.string (strOf n1.text)) := by
  unfold NodeW at h
  obtain ⟨kv, nv, cs, hv, h1, h2, h3⟩ := h
  simp only [Value.agg.injEq, Array.mk.injEq, List.cons.injEq, and_true] at hv
  obtain ⟨rfl, rfl, rfl, rfl⟩ := hv
  rcases h2 with ⟨_, h0, _⟩ | ⟨g, cap, rfl, hg, hl, hc⟩
  · cases h0
  · obtain ⟨_, b1, _, _, _, e1, _, _, x1⟩ := KidsW.at _ cs 0 n1 h3 rfl
    have y1 := node_textJ x1
    subst y1
    exact ⟨g, cap, rfl, hl, hc _ _ e1⟩
set_option maxRecDepth 100000 in
set_option maxHeartbeats 4000000 in
theorem awake10_any (w : World) :
    Calls Try.prog 12 #[] w fun e w' => e = .returned (.bool true) ∧ Below w.heap.size w w' := by
  have T1 := Lib.hid (fun w => jtokens ⟨#[123, 34, 97, 34, 58, 91, 49, 93, 125]⟩ w (by decide))
  rw [awk_toks] at T1
  have P1 := Lib.hid (fun w => jparse_any ⟨#[91, 49, 44, 93]⟩ w (by decide))
  rw [awk_1] at P1
  have P1' : Hid (∀ w, Calls Try.prog 13 #[.string ⟨#[91, 49, 44, 93]⟩] w fun e w' => e = .returned (.tuple #[.agg #[.int .u8 0, .string ⟨#[]⟩, .slice none 0 0, .slice none 0 0], .int .i64 7]) ∧ Below w.heap.size w w') := P1
  have P2 := Lib.hid (fun w => jparse_any ⟨#[48, 49]⟩ w (by decide))
  rw [awk_2] at P2
  have P2' : Hid (∀ w, Calls Try.prog 13 #[.string ⟨#[48, 49]⟩] w fun e w' => e = .returned (.tuple #[.agg #[.int .u8 0, .string ⟨#[]⟩, .slice none 0 0, .slice none 0 0], .int .i64 7]) ∧ Below w.heap.size w w') := P2
  have P3 := Lib.hid (fun w => jparse_any ⟨#[91, 34, 92, 117, 48, 48, 52, 49, 34, 44, 32, 110, 117, 108, 108, 93]⟩ w (by decide))
  rw [awk_3] at P3
  have P3' : Hid (∀ w, Calls Try.prog 13 #[.string ⟨#[91, 34, 92, 117, 48, 48, 52, 49, 34, 44, 32, 110, 117, 108, 108, 93]⟩] w fun e w' => (∃ a b c d, e = .returned (.tuple #[.agg #[a, b, c, d], .int .i64 0]) ∧ NodeW w' (fun g => w.heap.size ≤ g) (.mk 91 [] [] [.mk 34 [65] [] [], .mk 97 tNull [] []]) (.agg #[a, b, c, d])) ∧ Below w.heap.size w w') := P3
  clear P1 P2 P3
  go_enter Try.func12, Try.ntmps12
  go_wp2_with fail
  refine (T1.out _).mono ?_
  rintro e w1 ⟨⟨v, rfl, hown⟩, b1⟩
  obtain ⟨ao, cap, rfl, hcap, hT⟩ := tok_rowJ hown
  obtain ⟨g, rfl, hg, c0, c1, c2, c3⟩ := tok_facts4 (j := 1) hT rfl
  clear hown hT T1
  go_wp2_with fail
  refine (P1'.out _).mono ?_
  rintro e w2 ⟨rfl, b2⟩
  have b12 := b1.trans (b2.mono b1.size)
  have b2a := b2.alloc b2.size (.cells #[.int .u8 0, .string ⟨#[]⟩, .slice none 0 0, .slice none 0 0] 39)
  go_wp2_with fail
  refine (P2'.out _).mono ?_
  rintro e w3 ⟨rfl, b3⟩
  have b3a := (b2a.trans (b3.mono b2a.size)).alloc (by have := b2a.size; have := b3.size; omega) (.cells #[.int .u8 0, .string ⟨#[]⟩, .slice none 0 0, .slice none 0 0] 39)
  clear b2 b2a b3 b12
  go_wp2_with fail
  refine (P3'.out _).mono ?_
  rintro e w4 ⟨⟨a, x, kv, d, rfl, hn⟩, b4⟩
  have b4a := b3a.trans (b4.mono b3a.size)
  obtain ⟨u1, u2, u3, u4, u5, u6, u7, u8, rfl, rfl, rfl, rfl⟩ := node_shape hn
  obtain ⟨g2, k2, he, hg2, d1⟩ := node_first hn
  simp only [Value.slice.injEq] at he
  obtain ⟨rfl, rfl, rfl⟩ := he
  clear hn b3a b4
  have hN5 := Blk.new w4 39 #[.int .u8 u1, .string u2, .slice u3 u4 u5, .slice (some ⟨g2, 0, none⟩) 2 u8]
  have b5 := b4a.alloc b4a.size (.cells #[.int .u8 u1, .string u2, .slice u3 u4 u5, .slice (some ⟨g2, 0, none⟩) 2 u8] 39)
  have HBf := Lib.hid (b1.trans (b5.mono b1.size))
  have x0 : (w4.alloc (.cells #[.int .u8 u1, .string u2, .slice u3 u4 u5, .slice (some ⟨g2, 0, none⟩) 2 u8] 39)).cell? ⟨g, 4, none⟩ = some (.int .u8 34) := (b5.cell (p := ⟨g, 4, none⟩) hg).trans c0
  have x1 : (w4.alloc (.cells #[.int .u8 u1, .string u2, .slice u3 u4 u5, .slice (some ⟨g2, 0, none⟩) 2 u8] 39)).cell? ⟨g, 5, none⟩ = some (.string ⟨#[97]⟩) := (b5.cell (p := ⟨g, 5, none⟩) hg).trans c1
  have x2 : (w4.alloc (.cells #[.int .u8 u1, .string u2, .slice u3 u4 u5, .slice (some ⟨g2, 0, none⟩) 2 u8] 39)).cell? ⟨g, 6, none⟩ = some (.int .i64 1) := (b5.cell (p := ⟨g, 6, none⟩) hg).trans c2
  have x3 : (w4.alloc (.cells #[.int .u8 u1, .string u2, .slice u3 u4 u5, .slice (some ⟨g2, 0, none⟩) 2 u8] 39)).cell? ⟨g, 7, none⟩ = some (.int .i64 4) := (b5.cell (p := ⟨g, 7, none⟩) hg).trans c3
  have y1 : (w4.alloc (.cells #[.int .u8 u1, .string u2, .slice u3 u4 u5, .slice (some ⟨g2, 0, none⟩) 2 u8] 39)).cell? ⟨g2, 1, none⟩ = some (.string ⟨#[65]⟩) := (((Below.refl w4.heap.size w4).alloc (Nat.le_refl _) _).cell (p := ⟨g2, 1, none⟩) hg2).trans d1
  have n3 := hN5.cell 3
  clear b1 b5 b4a c0 c1 c2 c3 d1 hN5 hcap P1' P2' P3' hg hg2
  go_upto_region 5 with fail
  generalize w4.alloc (.cells #[.int .u8 u1, .string u2, .slice u3 u4 u5, .slice (some ⟨g2, 0, none⟩) 2 u8] 39) = W5 at *
  go_wp2_with fail
  go_ret
  exact ⟨rfl, HBf.out⟩
end Go.Proofs.Ytjnmcadfaombjaa
