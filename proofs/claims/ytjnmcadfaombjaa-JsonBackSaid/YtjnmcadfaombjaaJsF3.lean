/- Walks: the document's token at a place: words and numbers (chapter 10). -/
import Derived.Test.YtjnmcadfaombjaaJsC
import Derived.Outline
namespace Go.Proofs.Ytjnmcadfaombjaa
open Go.RowKit
set_option linter.unusedVariables false
set_option linter.unusedSimpArgs false
theorem below_drew' {B : Nat} {a w : World} (h : Below B a w) : Below B a w.drew := ⟨h.os, h.tape, h.output, h.size, h.block⟩
def wdJ (j : Nat) : List UInt8 := if j = 0 then tTrue else if j = 1 then tFalse else tNull
def wordsC : Array Value := #[.string (strOf tTrue), .string (strOf tFalse), .string (strOf tNull)]
theorem wdJ_cell {w : World} {g j : Nat} {t : TypeId} (h : Blk w g t wordsC) (hj : j < 3) : w.cell? ⟨g, j, none⟩ = some (.string (strOf (wdJ j))) := by
  rw [h.cell]
  have : j = 0 ∨ j = 1 ∨ j = 2 := by omega
  rcases this with rfl | rfl | rfl <;> rfl
theorem wdJ_len (j : Nat) : (wdJ j).length ≤ 5 := by
  unfold wdJ
  split
  · decide
  split <;> decide
theorem one_word {l : List UInt8} {k j : Nat} (hm : ¬ markK (bt l k)) (h34 : bt l k ≠ 34) (hj : j < 3) (h : atL l (wdJ j) k = true) (hno : ∀ i, i < j → atL l (wdJ i) k = false) :
    oneT l k = some ⟨97, wdJ j, k, k + (wdJ j).length⟩ := by
  unfold oneT
  rw [if_neg hm, if_neg h34]
  have : j = 0 ∨ j = 1 ∨ j = 2 := by omega
  rcases this with rfl | rfl | rfl
  · have h : atL l tTrue k = true := h
    rw [if_pos h]; rfl
  · have h0 : atL l tTrue k = false := hno 0 (by omega)
    have h : atL l tFalse k = true := h
    rw [h0, if_neg (by simp), if_pos h]; rfl
  · have h0 : atL l tTrue k = false := hno 0 (by omega)
    have h1 : atL l tFalse k = false := hno 1 (by omega)
    have h : atL l tNull k = true := h
    rw [h0, if_neg (by simp), h1, if_neg (by simp), if_pos h]; rfl
theorem one_num {l : List UInt8} {k : Nat} (hm : ¬ markK (bt l k)) (h34 : bt l k ≠ 34) (hno : ∀ i, i < 3 → atL l (wdJ i) k = false) :
    oneT l k = match numE l k with | none => none | some e => some ⟨48, (l.drop k).take (e - k), k, e⟩ := by
  unfold oneT
  have h0 : atL l tTrue k = false := hno 0 (by omega)
  have h1 : atL l tFalse k = false := hno 1 (by omega)
  have h2 : atL l tNull k = false := hno 2 (by omega)
  rw [if_neg hm, if_neg h34, h0, if_neg (by simp), h1, if_neg (by simp), h2, if_neg (by simp)]
  rfl
set_option maxRecDepth 100000 in
set_option maxHeartbeats 4000000 in
theorem rone_rest (s : ByteArray) (k : Nat) (w : World) (hs : s.size ≤ 1000000) (hk : k < s.size) (hm : ¬ markK (bt s.data.toList k)) (h34 : bt s.data.toList k ≠ 34) :
    Calls Try.prog 26 #[.string s, .int .i64 k] w fun e w' => OneR (oneT s.data.toList k) e ∧ Below w.heap.size w w' := by
  have hx := bt_byte s k hk
  have y0 := bt_lt s.data.toList k
  obtain ⟨m1, m2, m3, m4, m5, m6⟩ := not_mark hm
  have m7 : ((bt s.data.toList k : Int) == 34) = false := by simp; omega
  have HW := Lib.hid (fun j => one_word (l := s.data.toList) (k := k) (j := j) hm h34)
  have HNm := Lib.hid (one_num (l := s.data.toList) (k := k) hm h34)
  have HB := Lib.hid (fun j w b hb => rword_at s (wdJ j) k b w hs (by have := wdJ_len j; omega) hb)
  have HNu := Lib.hid (fun w => rnumber_any s k w hs hk)
  have HBD : Hid (∀ e, numE s.data.toList k = some e → k < e ∧ e ≤ s.size) := fun e h => by
    have := numE_bd (by rw [← sz_len]; exact hk) h
    rwa [← sz_len] at this
  have HEX := Lib.hid (fun e h => ext_eq s k e h)
  clear hm h34
  generalize bt s.data.toList k = c at *
  go_enter Try.func26, Try.ntmps26
  go_wp2_with fail
  obtain ⟨W0, hW0⟩ : ∃ W0, (w.alloc (.cells #[.int .u8 0, .string ⟨#[]⟩, .int .i64 0, .int .i64 0] 32)).alloc (.cells wordsC 9) = W0 := ⟨_, rfl⟩
  have hT : Blk W0 w.heap.size 32 #[.int .u8 0, .string ⟨#[]⟩, .int .i64 0, .int .i64 0] := by rw [← hW0]; exact (Blk.new w _ _).alloc _
  have hG : Blk W0 (w.heap.size + 1) 9 wordsC := by
    have := Blk.new (w.alloc (.cells #[.int .u8 0, .string ⟨#[]⟩, .int .i64 0, .int .i64 0] 32)) 9 wordsC
    rw [World.size_alloc, hW0] at this
    exact this
  have hB : Below w.heap.size w W0 := by rw [← hW0]; exact ((Below.refl w.heap.size w).alloc (Nat.le_refl _) _).alloc (by simp) _
  have hW1 : (w.alloc (.cells #[.int .u8 0, .string ⟨#[]⟩, .int .i64 0, .int .i64 0] 32)).alloc (.cells #[.string ⟨#[116, 114, 117, 101]⟩, .string ⟨#[102, 97, 108, 115, 101]⟩, .string ⟨#[110, 117, 108, 108]⟩] 9) = W0 := hW0
  rw [hW1]
  clear hW0 hW1 hx m1 m2 m3 m4 m5 m6 m7 y0
  have HT := Lib.hid hT
  have HG := Lib.hid hG
  have HBl := Lib.hid hB
  clear hT hG hB
  have f0 := HT.out.frozen 0
  have f1 := HT.out.frozen 1
  have f2 := HT.out.frozen 2
  have f3 := HT.out.frozen 3
  go_loop [10] (fun i => ∃ j : Nat, j ≤ 3 ∧ i = .int .i64 j ∧ ∀ i, i < j → atL s.data.toList (wdJ i) k = false) (fun i => 3 - (intOf i).toNat)
  case atStart => exact ⟨0, by omega, rfl, fun i h => by omega⟩
  case round =>
    obtain ⟨j, hj, rfl, hno⟩ := hrel
    have HN := Lib.hid hno
    clear hno
    have c0 := HT.out.cell 0
    have c1 := HT.out.cell 1
    have c2 := HT.out.cell 2
    have c3 := HT.out.cell 3
    by_cases hlt : j < 3
    · have hc := wdJ_cell HG.out hlt
      cases hb : atL s.data.toList (wdJ j) k with
      | true =>
        have HV := Lib.hid (HW.out j hlt hb HN.out)
        have HBj := Lib.hid (fun w => HB.out j w true hb)
        have hz := strOf_size (wdJ j)
        have hzl := wdJ_len j
        have HZ := Lib.hid hz
        have hsz : (strOf (wdJ j)).size ≤ 5 := by omega
        clear hb hz hzl
        generalize hww : strOf (wdJ j) = ww at *
        have HWW := Lib.hid hww
        clear hww
        go_wp2_with fail
        refine (HBj.out _).mono ?_
        rintro e w' ⟨rfl, rfl⟩
        go_wp2_with fail
        have e1 : IntKind.i64.wrap ((k : Int) + ww.size) = (k : Int) + ww.size := IntWalk.i64_in _ (by omega)
        go_still_tail 13, (by kernel_rfl)
        change wpList _ _ _ _ _ W0.drew
        clear e1
        have hTd : Blk W0.drew w.heap.size 32 #[.int .u8 0, .string ⟨#[]⟩, .int .i64 0, .int .i64 0] := HT.out.drew
        have hBd : Below w.heap.size w W0.drew := below_drew' HBl.out
        clear c0 c1 c2 c3 f0 f1 f2 f3 hc
        generalize W0.drew = W1 at *
        have c0 := hTd.cell 0
        have c1 := hTd.cell 1
        have c2 := hTd.cell 2
        have c3 := hTd.cell 3
        have f0 := hTd.frozen 0
        have f1 := hTd.frozen 1
        have f2 := hTd.frozen 2
        have f3 := hTd.frozen 3
        go_wp2_with fail
        have hF := (((hTd.set_ 0 (.int .u8 97)).set_ 1 (.string ww)).set_ 2 (.int .i64 k)).set_ 3 (.int .i64 ((k : Int) + ww.size))
        have s0 : (World.setCell _ _ _).cell? _ = some (.int .u8 97) := hF.cell 0
        have s1 : (World.setCell _ _ _).cell? _ = some (.string ww) := hF.cell 1
        have s2 : (World.setCell _ _ _).cell? _ = some (.int .i64 k) := hF.cell 2
        have s3 : (World.setCell _ _ _).cell? _ = some (.int .i64 ((k : Int) + ww.size)) := hF.cell 3
        exact bodyPost_ret (v := .tuple #[.agg #[.int .u8 97, .string ww, .int .i64 k, .int .i64 ((k : Int) + ww.size)], .bool true]) (by simp [results, Try.f26, go_sem, s0, s1, s2, s3]) rfl ⟨by rw [HV.out]; show _ = Ending.returned (.tuple #[.agg #[.int .u8 97, .string (strOf (wdJ j)), .int .i64 k, .int .i64 ((k + (wdJ j).length : Nat) : Int)], .bool true]); rw [HWW.out, ← HZ.out]; rfl, (((hBd.setCell (p := ⟨w.heap.size, 0, none⟩) (Nat.le_refl _) _).setCell (p := ⟨w.heap.size, 1, none⟩) (Nat.le_refl _) _).setCell (p := ⟨w.heap.size, 2, none⟩) (Nat.le_refl _) _).setCell (p := ⟨w.heap.size, 3, none⟩) (Nat.le_refl _) _⟩
      | false =>
        have HBj := Lib.hid (fun w => HB.out j w false hb)
        have HT2 := Lib.hid hb
        clear hb
        go_wp2_with fail
        refine (HBj.out _).mono ?_
        rintro e w' ⟨rfl, rfl⟩
        go_wp2_with fail
        go_round
        case rel => exact ⟨j + 1, by omega, by go_num, fun i hi => by rcases Nat.lt_succ_iff_lt_or_eq.1 hi with h | rfl; exact HN.out i h; exact HT2.out⟩
        case measure => simp [intOf]; omega
    · obtain rfl : j = 3 := by omega
      have HV := Lib.hid (HNm.out HN.out)
      clear hlt hj HN HW HB
      cases hn : numE s.data.toList k with
      | none =>
        have HF : Hid (OneR (oneT s.data.toList k) (.returned (.tuple #[.agg #[.int .u8 0, .string ⟨#[]⟩, .int .i64 0, .int .i64 0], .bool false]))) := by
          show OneR _ _; rw [HV.out, hn]; exact ⟨_, _, _, _, rfl⟩
        rw [hn] at HNu
        unfold numI at HNu
        dsimp only at HNu
        clear hn HV
        go_wp2_with fail
        refine (HNu.out _).mono ?_
        rintro e w' ⟨rfl, rfl⟩
        go_wp2_with fail
        have hF := (((HT.out.set_ 0 (.int .u8 0)).set_ 1 (.string ⟨#[]⟩)).set_ 2 (.int .i64 0)).set_ 3 (.int .i64 0)
        have s0 : (World.setCell _ _ _).cell? _ = some (.int .u8 0) := hF.cell 0
        have s1 : (World.setCell _ _ _).cell? _ = some (.string ⟨#[]⟩) := hF.cell 1
        have s2 : (World.setCell _ _ _).cell? _ = some (.int .i64 0) := hF.cell 2
        have s3 : (World.setCell _ _ _).cell? _ = some (.int .i64 0) := hF.cell 3
        exact bodyPost_ret (v := .tuple #[.agg #[.int .u8 0, .string ⟨#[]⟩, .int .i64 0, .int .i64 0], .bool false]) (by simp [results, Try.f26, go_sem, s0, s1, s2, s3]) rfl ⟨HF.out, (((HBl.out.setCell (p := ⟨w.heap.size, 0, none⟩) (Nat.le_refl _) _).setCell (p := ⟨w.heap.size, 1, none⟩) (Nat.le_refl _) _).setCell (p := ⟨w.heap.size, 2, none⟩) (Nat.le_refl _) _).setCell (p := ⟨w.heap.size, 3, none⟩) (Nat.le_refl _) _⟩
      | some e =>
        obtain ⟨hb1, hb2⟩ := HBD.out e hn
        have HF : Hid (OneR (oneT s.data.toList k) (.returned (.tuple #[.agg #[.int .u8 48, .string (s.extract k e), .int .i64 k, .int .i64 e], .bool true]))) := by
          show OneR _ _; rw [HV.out, hn, ← HEX.out e hb2]; rfl
        rw [hn] at HNu
        unfold numI at HNu
        dsimp only at HNu
        clear hn HV
        go_wp2_with fail
        refine (HNu.out _).mono ?_
        rintro e w' ⟨rfl, rfl⟩
        go_wp2_with fail
        have hF := (((HT.out.set_ 0 (.int .u8 48)).set_ 1 (.string (s.extract k e))).set_ 2 (.int .i64 k)).set_ 3 (.int .i64 e)
        have s0 : (World.setCell _ _ _).cell? _ = some (.int .u8 48) := hF.cell 0
        have s1 : (World.setCell _ _ _).cell? _ = some (.string (s.extract k e)) := hF.cell 1
        have s2 : (World.setCell _ _ _).cell? _ = some (.int .i64 k) := hF.cell 2
        have s3 : (World.setCell _ _ _).cell? _ = some (.int .i64 e) := hF.cell 3
        exact bodyPost_ret (v := .tuple #[.agg #[.int .u8 48, .string (s.extract k e), .int .i64 k, .int .i64 e], .bool true]) (by simp [results, Try.f26, go_sem, s0, s1, s2, s3]) rfl ⟨HF.out, (((HBl.out.setCell (p := ⟨w.heap.size, 0, none⟩) (Nat.le_refl _) _).setCell (p := ⟨w.heap.size, 1, none⟩) (Nat.le_refl _) _).setCell (p := ⟨w.heap.size, 2, none⟩) (Nat.le_refl _) _).setCell (p := ⟨w.heap.size, 3, none⟩) (Nat.le_refl _) _⟩
/-- The document's token at any place of a text. -/
theorem rone10_any (s : ByteArray) (k : Nat) (w : World) (hs : s.size ≤ 1000000) (hk : k < s.size) :
    Calls Try.prog 26 #[.string s, .int .i64 k] w fun e w' => OneR (oneT s.data.toList k) e ∧ Below w.heap.size w w' := by
  by_cases hm : markK (bt s.data.toList k)
  · exact rone_mark s k w hs hk hm
  · by_cases h34 : bt s.data.toList k = 34
    · exact rone_str s k w hs hk h34
    · exact rone_rest s k w hs hk hm h34
end Go.Proofs.Ytjnmcadfaombjaa

/- Walks: the document's Tokens (chapter 10). -/
namespace Go.Proofs.Ytjnmcadfaombjaa
open Go.RowKit
set_option linter.unusedVariables false
set_option linter.unusedSimpArgs false
theorem infoTok : (Try.prog.info? 32).map (fun i => (i.zero, i.size, i.bytes)) = some (some (.agg #[.int .u8 0, .string ⟨#[]⟩, .int .i64 0, .int .i64 0]), 4, 40) := by kernel_rfl
def tokCs (ts : List Tok) : List Value := ts.flatMap fun t => (tokC t).toList
theorem tokCs_length (ts : List Tok) : (tokCs ts).length = ts.length * 4 := by
  unfold tokCs
  induction ts with
  | nil => rfl
  | cons t ts ih => rw [List.flatMap_cons, List.length_append, ih, List.length_cons]; simp [tokC]; omega
theorem tokCs_append (a b : List Tok) : tokCs (a ++ b) = tokCs a ++ tokCs b := by unfold tokCs; rw [List.flatMap_append]
theorem cells_new (w : World) (cs : Array Value) (t : TypeId) : ∀ j u, cs.toList[j]? = some u → (w.alloc (.cells cs t)).cell? ((⟨w.heap.size, 0, none⟩ : Addr).add j) = some u := by
  intro j u h
  have := (Blk.new w t cs).cell (0 + j)
  rw [Nat.zero_add] at this
  have h2 : (w.alloc (.cells cs t)).cell? ⟨w.heap.size, j, none⟩ = some u := by rw [this, ← Array.getElem?_toList]; exact h
  have h3 : (⟨w.heap.size, 0, none⟩ : Addr).add j = ⟨w.heap.size, j, none⟩ := by rw [Addr.add_lit, Nat.zero_add]
  rw [h3]; exact h2
theorem cells_new1 (w : World) (o : Obj) (cs : Array Value) (t : TypeId) : ∀ j u, cs.toList[j]? = some u → ((w.alloc o).alloc (.cells cs t)).cell? ((⟨w.heap.size + 1, 0, none⟩ : Addr).add j) = some u := by
  have h := cells_new (w.alloc o) cs t
  rw [World.size_alloc] at h
  exact h
theorem below_grown2 {w0 w w' : World} {o1 o2 : Obj} {base : Nat} {e : TypeId} {size n : Nat} {v : Value} {xs : List Value} (hb : Below base w0 w) (hB : base ≤ w.heap.size) (ho : w.ownsRow base e size v n xs)
    (hg : ((w.alloc o1).alloc o2).grownBy w' v.ownBlock) : Below base w0 w' := by
  refine ((hb.alloc hB o1).alloc (by simp; omega) o2).grown hg (by simp; omega) fun j ej => ?_
  exact (ho.lt j ej).1
theorem tok_kept {W w3 : World} {g : Nat} {t : TypeId} {cs : Array Value} {v : Value} (hT : Blk W g t cs) (hg : W.grownBy w3 v.ownBlock) (hgn : ∀ j, v.ownBlock = some j → j < g) : Blk w3 g t cs :=
  (hg.block g hT.lt (fun e => by have := hgn g e.symm; omega)).trans hT
def TokR (o : Option (List Tok)) (B : Nat) (e : Ending) (W : World) : Prop := match o with
  | some ts => ∃ v, e = .returned (.tuple #[v, .int .i64 0]) ∧ W.ownsRow B 32 4 v ts.length (tokCs ts)
  | none => e = .returned (.tuple #[.slice none 0 0, .int .i64 7])
set_option maxRecDepth 100000 in
set_option maxHeartbeats 4000000 in
theorem rtokens_any (s : ByteArray) (w : World) (hs : s.size ≤ 100000) :
    Calls Try.prog 10 #[.string s] w fun e W' => TokR (toks s.data.toList) w.heap.size e W' ∧ Below w.heap.size w W' := by
  obtain ⟨i0, hi, hz0, hz1, hz2⟩ := info_parts infoTok
  have HI := Lib.hid (And.intro hi (And.intro hz0 (And.intro hz1 hz2)))
  clear hi hz0 hz1 hz2
  have hl := Lib.hid (sz_len s)
  go_enter Try.func10, Try.ntmps10
  go_wp2_with fail
  go_loopw [4, 5] (fun o z wr => ∃ (k : Nat) (pre : List Tok), z = .int .i64 k ∧ k ≤ s.size ∧ pre.length ≤ k ∧ toks s.data.toList = (toksAt s.data.toList k).map (pre ++ ·) ∧ wr.ownsRow w.heap.size 32 4 o pre.length (tokCs pre) ∧ Below w.heap.size w wr) (fun _ z _ => s.size - (intOf z).toNat)
  case atStart => exact ⟨0, [], rfl, Nat.zero_le _, Nat.le_refl _, by simp [toks], ⟨by simp [tokCs], .inr ⟨w.heap.size, 0, #[], rfl, Nat.le_refl _, World.alloc_heap_new _ _, by simp [tokCs]⟩⟩, (Below.refl _ w).alloc (Nat.le_refl _) _⟩
  case round =>
    obtain ⟨k, pre, rfl, hk, hpk, hr, ho, hb⟩ := hrel
    have HG := Lib.hid hr
    clear hr
    by_cases hlt : k < s.size
    · have hst := toksAt_step (l := s.data.toList) (k := k) (by rw [← hl.out]; exact hlt)
      have hx := bt_byte s k hlt
      have y0 := bt_lt s.data.toList k
      by_cases hbl : blankK (bt s.data.toList k)
      · rw [if_pos hbl] at hst
        have HB : Hid (∀ w, Calls Try.prog 11 #[.int .u8 (bt s.data.toList k)] w fun e w' => e = .returned (.bool true) ∧ w = w') := fun w => by
          have := rblank_any (bt s.data.toList k) w y0
          rwa [decide_eq_true hbl] at this
        have HV : Hid (toks s.data.toList = (toksAt s.data.toList (k + 1)).map (pre ++ ·)) := by show _ = _; rw [HG.out, hst]
        clear hst hbl
        generalize bt s.data.toList k = c at *
        go_wp2_with fail
        refine (HB.out _).mono ?_
        rintro e w' ⟨rfl, rfl⟩
        go_wp2_with fail
        go_roundw
        case rel => exact ⟨k + 1, pre, by go_num, hlt, by omega, HV.out, ho, hb⟩
        case measure => simp [intOf]; omega
      · rw [if_neg hbl] at hst
        have HB : Hid (∀ w, Calls Try.prog 11 #[.int .u8 (bt s.data.toList k)] w fun e w' => e = .returned (.bool false) ∧ w = w') := fun w => by
          have := rblank_any (bt s.data.toList k) w y0
          rwa [decide_eq_false hbl] at this
        have HO := Lib.hid (fun w => rone10_any s k w (by omega) hlt)
        clear hbl
        generalize bt s.data.toList k = c at *
        cases hot : oneT s.data.toList k with
        | none =>
          rw [hot] at hst HO
          have HV : Hid (toks s.data.toList = none) := by show _ = _; rw [HG.out, hst]; rfl
          unfold OneR at HO
          dsimp only at HO
          clear hst hot
          go_wp2_with fail
          refine (HB.out _).mono ?_
          rintro e w' ⟨rfl, rfl⟩
          go_wp2_with fail
          refine (HO.out _).mono ?_
          rintro e w2 ⟨⟨q1, q2, q3, q4, rfl⟩, b2⟩
          go_wp2_with fail
          go_ret2
          have hfin := ((hb.trans (b2.mono hb.size)).alloc (by have := hb.size; have := b2.size; omega) (.cells #[.int .u8 q1, .string q2, .int .i64 q3, .int .i64 q4] 32))
          exact ⟨by rw [HV.out]; rfl, hfin⟩
        | some t =>
          obtain ⟨t1, t2, t3, t4, t5⟩ := oneT_bd (by rw [← hl.out]; exact hlt) hot
          rw [hot] at hst HO
          dsimp only at hst
          have HV : Hid (toks s.data.toList = (toksAt s.data.toList t.to).map ((pre ++ [t]) ++ ·)) := by
            show _ = _; rw [HG.out, hst]; cases toksAt s.data.toList t.to <;> simp
          rw [← hl.out] at t3
          unfold OneR at HO
          dsimp only at HO
          obtain ⟨tk, tx, tf, tt⟩ := t
          unfold tokC at HO
          dsimp only at *
          have t1' := t1.symm
          clear t1
          subst t1'
          clear hst hot
          go_wp2_with fail
          refine (HB.out _).mono ?_
          rintro e w' ⟨rfl, rfl⟩
          go_wp2_with fail
          refine (HO.out _).mono ?_
          rintro e w2 ⟨rfl, b2⟩
          have ho2 := ownsRow_ofBelow ho b2
          have hb2 := hb.trans (b2.mono hb.size)
          clear ho b2 hb
          have e3 : pre.length + 1 ≤ maxLen := by unfold maxLen; omega
          have e4 : (pre.length + 1) * 40 ≤ 140737488355328 := by omega
          have e5 : w.heap.size ≤ ((w2.alloc (.cells #[.int .u8 tk, .string (strOf tx), .int .i64 k, .int .i64 tt] 32)).alloc (.cells #[.int .u8 tk, .string (strOf tx), .int .i64 k, .int .i64 tt] 32)).heap.size := by have := hb2.size; simp; omega
          obtain ⟨hi, hz0, hz1, hz2⟩ := HI.out
          have hT := (Blk.new w2 32 #[.int .u8 tk, .string (strOf tx), .int .i64 k, .int .i64 tt]).alloc (.cells #[.int .u8 tk, .string (strOf tx), .int .i64 k, .int .i64 tt] 32)
          have hTlt := hT.lt
          go_wp2_with (at_builtin; refine wpList_append_own _ rfl _ _ 27 rfl w.heap.size 32 i0 (.agg #[.int .u8 0, .string ⟨#[]⟩, .int .i64 0, .int .i64 0]) 4 40 Try.underlying27 hi hz0 hz1 hz2 rfl (by decide) _ _ _ rfl ((ho2.alloc _).alloc _) ⟨w2.heap.size + 1, 0, none⟩ 1 1 [.int .u8 tk, .string (strOf tx), .int .i64 k, .int .i64 tt] rfl rfl (cells_new1 w2 _ #[.int .u8 tk, .string (strOf tx), .int .i64 k, .int .i64 tt] _) (by simp [Value.oneCell']) e3 e4 e5 ?_; intro v' w3 hown' hgrow _; have hT3 := tok_kept hT hgrow (fun j hj => (ho2.lt j hj).2); have d3 := hT3.cell 3)
          go_roundw
          case rel => exact ⟨tt, pre ++ [⟨tk, tx, k, tt⟩], rfl, t3, by rw [List.length_append]; simp; omega, HV.out, by rw [tokCs_append, List.length_append]; exact hown', below_grown2 hb2 hb2.size ho2 hgrow⟩
          case measure => simp [intOf]; omega
    · have HE : Hid (toks s.data.toList = some pre) := by show _ = _; rw [HG.out, toksAt_end (by rw [← hl.out]; omega)]; simp
      go_wp2_with fail
      go_ret2
      exact ⟨by rw [HE.out]; exact ⟨_, rfl, ho⟩, hb⟩
end Go.Proofs.Ytjnmcadfaombjaa

/- Walks: a token of a kind (chapter 10); the nodes in memory. -/
namespace Go.Proofs.Ytjnmcadfaombjaa
open Go.RowKit
set_option linter.unusedVariables false
set_option linter.unusedSimpArgs false
/-- Tokens that lie in a row, in a block below B. -/
def TokAt (w : World) (B : Nat) (ao : Option Addr) (ts : List Tok) : Prop :=
  ts = [] ∨ ∃ g, ao = some ⟨g, 0, none⟩ ∧ g < B ∧ ∀ m u, (tokCs ts)[m]? = some u → w.cell? ⟨g, m, none⟩ = some u
theorem TokAt.below {w w' : World} {B C : Nat} {ao : Option Addr} {ts : List Tok} (h : TokAt w B ao ts) (hb : Below C w w') (hC : B ≤ C) : TokAt w' B ao ts := by
  rcases h with h | ⟨g, hg, hl, hc⟩
  · exact .inl h
  · exact .inr ⟨g, hg, hl, fun m u hu => (hb.cell (p := ⟨g, m, none⟩) (by show g < C; omega)).trans (hc m u hu)⟩
theorem tokCs_at : ∀ (ts : List Tok) (j i : Nat) (t : Tok), ts[j]? = some t → i < 4 → (tokCs ts)[j * 4 + i]? = (tokC t)[i]?
  | [], j, i, t, h, _ => by simp at h
  | a :: ts, 0, i, t, h, hi => by
    simp only [List.getElem?_cons_zero, Option.some.injEq] at h
    subst h
    have : tokCs (a :: ts) = (tokC a).toList ++ tokCs ts := by unfold tokCs; rw [List.flatMap_cons]
    rw [this, Nat.zero_mul, Nat.zero_add, List.getElem?_append_left (by simp [tokC]; omega), Array.getElem?_toList]
  | a :: ts, j + 1, i, t, h, hi => by
    have : tokCs (a :: ts) = (tokC a).toList ++ tokCs ts := by unfold tokCs; rw [List.flatMap_cons]
    have hl : (tokC a).toList.length = 4 := rfl
    rw [this, List.getElem?_append_right (by rw [hl]; omega), hl, show (j + 1) * 4 + i - 4 = j * 4 + i by omega]
    exact tokCs_at ts j i t (by simpa using h) hi
theorem TokAt.facts {w : World} {B : Nat} {ao : Option Addr} {ts : List Tok} {j : Nat} {t : Tok} (h : TokAt w B ao ts) (ht : ts[j]? = some t) :
    ∃ g, ao = some ⟨g, 0, none⟩ ∧ g < B ∧ w.cell? ⟨g, j * 4, none⟩ = some (.int .u8 t.kind) ∧ w.cell? ⟨g, j * 4 + 1, none⟩ = some (.string (strOf t.text)) := by
  rcases h with h | ⟨g, hg, hl, hc⟩
  · subst h; simp at ht
  · exact ⟨g, hg, hl, hc _ _ (tokCs_at ts j 0 t ht (by omega)), hc _ _ (tokCs_at ts j 1 t ht (by omega))⟩
theorem isK_some {ts : List Tok} {k c : Nat} {t : Tok} (h : ts[k]? = some t) : isK ts k c = decide (t.kind = c) := by unfold isK; rw [h]
theorem isK_none {ts : List Tok} {k c : Nat} (h : ts[k]? = none) : isK ts k c = false := by unfold isK; rw [h]
theorem ris_tok (ts : List Tok) (ao : Option Addr) (cap k c : Nat) (B : Nat) (w : World) (hT : TokAt w B ao ts) (hl : ts.length ≤ 1000000) (hk : k ≤ 2000000) :
    Calls Try.prog 45 #[.slice ao ts.length cap, .int .i64 k, .int .u8 c] w fun e w' => e = .returned (.bool (isK ts k c)) ∧ w = w' := by
  by_cases hlt : k < ts.length
  · obtain ⟨t, ht⟩ : ∃ t, ts[k]? = some t := ⟨_, List.getElem?_eq_getElem hlt⟩
    obtain ⟨g, rfl, hg, c0, _⟩ := hT.facts ht
    have HV := Lib.hid (isK_some (c := c) ht)
    obtain ⟨b, hb, hb2⟩ : ∃ b, ((t.kind : Int) == (c : Int)) = b ∧ decide (t.kind = c) = b := by
      by_cases h : t.kind = c
      · exact ⟨true, by simp [h], decide_eq_true h⟩
      · exact ⟨false, by simp; omega, decide_eq_false h⟩
    rw [hb2] at HV
    clear hT hb2 ht
    generalize t.kind = q at *
    go_enter Try.func45, Try.ntmps45
    go_wp2
    go_ret
    exact ⟨by rw [HV.out]; rfl, rfl⟩
  · have HV := Lib.hid (isK_none (c := c) (List.getElem?_eq_none (Nat.le_of_not_lt hlt) : ts[k]? = none))
    clear hT
    go_enter Try.func45, Try.ntmps45
    go_wp2
    go_ret
    exact ⟨by rw [HV.out]; rfl, rfl⟩
end Go.Proofs.Ytjnmcadfaombjaa
