/- Loops over the iterator: Clean. -/
import Derived.Test.YtdfnlcigbmiafaaUtfL
import Derived.Test.YtdfnlcigbmiafaaBW
namespace Go.Proofs.Ytdfnlcigbmiafaa
open Go.RowKit Go.Shelf
set_option linter.unusedVariables false
set_option linter.unusedSimpArgs false
attribute [local go_sem] Oper.semAt_some
set_option maxRecDepth 100000 in
set_option maxHeartbeats 1000000 in
theorem shown_any (r : Nat) (w : World) (hr : r ≤ 1114111) :
    Calls Try.prog 44 #[.int .i32 r] w fun e w' => e = .returned (.int .i32 (shownN r)) ∧ w = w' := by
  have SH : (r < 32 ∧ ((r : Int) != 9) = true ∧ ((r : Int) != 10) = true ∧ shownN r = 65533) ∨ (127 ≤ r ∧ r ≤ 159 ∧ shownN r = 65533) ∨ (r = 9) ∨ (r = 10) ∨ (32 ≤ r ∧ r < 127 ∧ shownN r = r) ∨ (160 ≤ r ∧ shownN r = r) := by
    by_cases c1 : r < 32
    · by_cases c2 : r = 9
      · right; right; left; exact c2
      · by_cases c3 : r = 10
        · right; right; right; left; exact c3
        · left; exact ⟨c1, by simp; omega, by simp; omega, shown_bad (by omega)⟩
    · by_cases c2 : r < 127
      · right; right; right; right; left; exact ⟨by omega, c2, shown_self (by omega)⟩
      · by_cases c3 : r ≤ 159
        · right; left; exact ⟨by omega, c3, shown_bad (by omega)⟩
        · right; right; right; right; right; exact ⟨by omega, shown_self (by omega)⟩
  rcases SH with ⟨c1, c2, c3, c4⟩ | ⟨c1, c2, c4⟩ | c4 | c4 | ⟨c1, c2, c4⟩ | ⟨c1, c4⟩
  all_goals
    first | subst c4 | (rw [c4]; clear c4)
    go_enter Try.func44, Try.ntmps44
    go_wp2
    go_ret
    exact ⟨rfl, rfl⟩
theorem bt_ge {l : List UInt8} {k : Nat} (h : l.length ≤ k) : bt l k = 0 := by
  have := bt_drop l k 0
  rw [List.drop_eq_nil_of_le h] at this
  simpa [bt] using this.symm
theorem build_kept {n b : Nat} {l : List UInt8} {W W' : World} {row : Option Nat} (h : Build n b l W) (hg : W.grownBy W' row) (hr : ∀ r, row = some r → ∃ o : Obj, W.heap[r]? = some o ∧ o.isCells = false) : Build n b l W' := by
  have key : ∀ p, BuildAt n b p l W → BuildAt n b p l W' := by
    rintro p ⟨hb, v, hk, ho⟩
    refine ⟨hb, v, hk.kept hg hr, ho.1, ?_⟩
    rcases ho.2 with h | ⟨q, cap, cur, hv, hq, hh, r⟩
    · exact .inl h
    · exact .inr ⟨q, cap, cur, hv, hq, (grownBy_keeps_cells hg hr hh rfl).trans hh, r⟩
  rcases h with h | h
  · exact .inl (key _ h)
  · exact .inr (key _ h)
theorem build_below {n b : Nat} {l : List UInt8} {W W' : World} (h : Build n b l W) (hb : Below W.heap.size W W') : Build n b l W' := by
  have key : ∀ p, BuildAt n b p l W → BuildAt n b p l W' := by
    rintro p ⟨hb', v, hk, ho⟩
    refine ⟨hb', v, hk.below hb hk.lt, ho.1, ?_⟩
    rcases ho.2 with h | ⟨q, cap, cur, hv, hq, hh, r⟩
    · exact .inl h
    · exact .inr ⟨q, cap, cur, hv, hq, (hb.block q (Array.getElem?_eq_some_iff.1 hh).1).trans hh, r⟩
  rcases h with h | h
  · exact .inl (key _ h)
  · exact .inr (key _ h)
def CleanI (s : ByteArray) (B : Nat) (pre : List Stp) (W : World) : Prop :=
  ((Blk W B 9 #[.string s] ∧ Blk W (B + 2) 3 #[.int .i64 (total pre)]) ∧ Build (B + 4) (B + 1) (cleanP s.data.toList 0 pre) W) ∧ B + 4 ≤ W.heap.size
theorem cleanI_own (s : ByteArray) (B n : Nat) : OwnFrom n (CleanI s B) := fun pre W W' row ⟨⟨⟨a, b⟩, c⟩, d⟩ hg hr =>
  ⟨⟨⟨a.kept hg (fun r e => (hr r e).2), b.kept hg (fun r e => (hr r e).2)⟩, build_kept c hg (fun r e => (hr r e).2)⟩, Nat.le_trans d hg.size⟩
def CleanN (s : ByteArray) (w : World) (x : Stp) (pre : List Stp) (W w3 : World) : Prop :=
  KeepsOthers W w3 ∧ KB (w.heap.size + 3) W w3 ∧ CleanI s w.heap.size (pre ++ [x]) w3 ∧ Below w.heap.size w w3
theorem clean_turn (s : ByteArray) (w W W1 : World) (pre : List Stp) (x : Stp) (hI : CleanI s w.heap.size pre W) (hB : Below w.heap.size w W)
    (hW1 : W.setCell ⟨w.heap.size + 2, 0, none⟩ (.int .i64 ((total pre : Int) + x.n)) = W1) (hp : pieceP s.data.toList (total pre) x = []) : CleanN s w x pre W W1 := by
  obtain ⟨⟨⟨hS, hT⟩, hU⟩, hsz⟩ := hI
  subst hW1
  have hE : ∀ j, j ≠ w.heap.size + 2 → (W.setCell ⟨w.heap.size + 2, 0, none⟩ (.int .i64 ((total pre : Int) + x.n))).heap[j]? = W.heap[j]? := fun j hj => Below.heap_setCell _ _ _ _ hj
  refine ⟨KeepsOthers.setCell _ _ _, hE _ (by omega), ⟨⟨⟨hS.far (p := ⟨w.heap.size + 2, 0, none⟩) (by simp) _, ?_⟩, ?_⟩, by simpa [World.setCell] using hsz⟩, hB.setCell (p := ⟨w.heap.size + 2, 0, none⟩) (by simp) _⟩
  · rw [total_snoc]
    have := hT.set_ 0 (.int .i64 ((total pre : Int) + x.n))
    simpa using this
  · rw [cleanP_snoc, Nat.zero_add, hp, List.append_nil]
    exact hU.bnd (g := w.heap.size + 2) hE (by omega) (by omega)
theorem clean_write (s : ByteArray) (w W W1 w2 : World) (pre : List Stp) (x : Stp) (hI : CleanI s w.heap.size pre W) (hB : Below w.heap.size w W) (hN : pre.length < 60000)
    (hW1 : W.setCell ⟨w.heap.size + 2, 0, none⟩ (.int .i64 ((total pre : Int) + x.n)) = W1) (b2 : Below W1.heap.size W1 w2) (bs : List UInt8) (hbs : bs.length ≤ 4) :
    Calls Try.prog 33 #[.pointer (some ⟨w.heap.size + 1, 0, none⟩), .string (strOf bs)] w2 fun e w3 => e = .returned (.tuple #[.int .i64 (strOf bs).size, .nilIface]) ∧
      (pieceP s.data.toList (total pre) x = bs → CleanN s w x pre W w3) := by
  obtain ⟨⟨⟨hS, hT⟩, hU⟩, hsz⟩ := hI
  have hE : ∀ j, j ≠ w.heap.size + 2 → W1.heap[j]? = W.heap[j]? := by rw [← hW1]; exact fun j hj => Below.heap_setCell _ _ _ _ hj
  have hz : W1.heap.size = W.heap.size := by rw [← hW1]; simp [World.setCell]
  have hk1 : KeepsOthers W W1 := by rw [← hW1]; exact KeepsOthers.setCell _ _ _
  have hT1 : Blk W1 (w.heap.size + 2) 3 #[.int .i64 ((total pre : Int) + x.n)] := by rw [← hW1]; exact hT.set_ 0 _
  have hS1 : Blk W1 w.heap.size 9 #[.string s] := by rw [← hW1]; exact hS.far (p := ⟨w.heap.size + 2, 0, none⟩) (by simp) _
  have hB1 : Below w.heap.size w W1 := by rw [← hW1]; exact hB.setCell (p := ⟨w.heap.size + 2, 0, none⟩) (by simp) _
  have hk2 := keepsOthers_below b2
  have hz2 := b2.size
  have hU2 : Build (w.heap.size + 4) (w.heap.size + 1) (cleanP s.data.toList 0 pre) w2 := by
    have h1 : Build (w.heap.size + 4) (w.heap.size + 1) (cleanP s.data.toList 0 pre) W1 := hU.bnd (g := w.heap.size + 2) hE (by omega) (by omega)
    exact build_below h1 b2
  have hl := cleanP_length s.data.toList pre 0
  refine (writeString_any _ _ _ (strOf bs) w2 hU2 (by omega) (by rw [strOf_size]; omega)).mono ?_
  rintro e w3 ⟨he, hU3, b3⟩
  rw [strOf_list] at hU3
  refine ⟨he, fun hp => ⟨(hk1.trans hk2).trans b3.keep, ?_, ⟨⟨⟨?_, ?_⟩, ?_⟩, ?_⟩, ?_⟩⟩
  · exact (b3.block _ (by omega) (by omega)).trans ((b2.block _ (by omega)).trans (hE _ (by omega)))
  · exact (hS1.below b2 (by omega)).bnd b3 (by omega) (by omega)
  · rw [total_snoc]
    have := (hT1.below b2 (by omega)).bnd b3 (by omega) (by omega)
    simpa using this
  · rw [cleanP_snoc, Nat.zero_add, hp]
    exact hU3
  · have := b3.size; omega
  · exact (hB1.trans (b2.mono (by omega))).trans (b3.below (by omega) (by omega))
set_option maxRecDepth 100000 in
set_option maxHeartbeats 2000000 in
theorem clean_in (n : Nat) (hn : 3 ≤ n) (s : ByteArray) (w : World) (hs : s.size ≤ 60000) :
    CallsIn Fence.wide n Try.prog 22 #[.string s] w fun e W' => e = .returned (.string (strOf (clean s.data.toList))) ∧ Below w.heap.size w W' := by
  have h1 : 1 ≤ n := by omega
  have Hlen := Lib.hid (stps_length_le s.data.toList)
  have Hsl := Lib.hid (sz_len s)
  have HA := Lib.hid (all_any s)
  refine callsIn_of_wp_marks Try.func22 rfl trivial ?_ rfl
  simp only [Try.ntmps22, List.size_toArray, List.length_cons, List.length_nil, Nat.reduceAdd, Nat.reduceSub, Array.replicate_succ, Array.replicate_zero, List.push_toArray, List.append_toArray, List.nil_append, List.cons_append]
  gi_wp2_with (first | (refine ⟨trivial, ?_⟩; gi_at_call 43; refine (callsIn_wide.2 (HA.out _)).mono ?_; rintro e w' ⟨rfl, rfl⟩) | (gi_at_call 43; refine (callsIn_wide.2 (HA.out _)).mono ?_; rintro e w' ⟨rfl, rfl⟩))
  obtain ⟨W0, hW0⟩ : ∃ W0, (((w.alloc (.cells #[.string s] 9)).alloc (.cells #[.pointer none, .slice none 0 0] 67)).alloc (.cells #[.int .i64 0] 3)).alloc (.cells #[.string s] 9) = W0 := ⟨_, rfl⟩
  have e1 : w.heap.size + 1 + 1 = w.heap.size + 2 := rfl
  have e2 : w.heap.size + 2 + 1 = w.heap.size + 3 := rfl
  have hb0 : Blk W0 w.heap.size 9 #[.string s] := by rw [← hW0]; exact (((Blk.new w _ _).alloc _).alloc _).alloc _
  have hb1 : Build (w.heap.size + 4) (w.heap.size + 1) [] W0 := by
    have h0 := ((Blk.new (w.alloc (.cells #[.string s] 9)) 67 #[.pointer none, .slice none 0 0]).alloc (.cells #[.int .i64 0] 3)).alloc (.cells #[.string s] 9)
    rw [World.size_alloc, hW0] at h0
    exact .inl ⟨by omega, _, h0, by simp, .inl ⟨rfl, rfl⟩⟩
  have hb2 : Blk W0 (w.heap.size + 2) 3 #[.int .i64 0] := by
    have h0 := (Blk.new ((w.alloc (.cells #[.string s] 9)).alloc (.cells #[.pointer none, .slice none 0 0] 67)) 3 #[.int .i64 0]).alloc (.cells #[.string s] 9)
    rw [World.size_alloc, World.size_alloc, hW0] at h0
    exact h0
  have hb3 : Blk W0 (w.heap.size + 3) 9 #[.string s] := by
    have h0 := Blk.new (((w.alloc (.cells #[.string s] 9)).alloc (.cells #[.pointer none, .slice none 0 0] 67)).alloc (.cells #[.int .i64 0] 3)) 9 #[.string s]
    rw [World.size_alloc, World.size_alloc, World.size_alloc, hW0] at h0
    exact h0
  have hB0 : Below w.heap.size w W0 := by rw [← hW0]; exact ((((Below.refl _ w).alloc (Nat.le_refl _) _).alloc (by simp) _).alloc (by simp; omega) _).alloc (by simp; omega) _
  have hsz : W0.heap.size = w.heap.size + 4 := by rw [← hW0]; simp
  rw [hW0, e1, e2]
  clear hW0 e1 e2
  refine wpIn_rangeFunc_ownF rfl h1 (gf := 61) (lb := #[.pointer (some ⟨w.heap.size + 3, 0, none⟩)]) rfl trivial (enters_of Try.func61 (by kernel_rfl) rfl)
    (all_stops (n - 1) (w.heap.size + 3) s _ (by omega) (by omega) (by omega) (hb3.cell 0)) KB.t (KB.b (by omega)) (Below.refl _ _) stpV_size
    (fun pre W => CleanI s w.heap.size pre W ∧ Below w.heap.size w W)
    (fun _ _ _ => False)
    (OwnFrom.and (cleanI_own _ _ _) (ownFrom_below (Nat.le_refl _) (by omega)))
    (fun _ _ _ _ _ hs _ _ => hs)
    ⟨⟨⟨⟨hb0, hb2⟩, hb1⟩, by omega⟩, hB0⟩
    (fun x => { tmps := #[.string s, .pointer (some ⟨w.heap.size, 0, none⟩), .string { data := #[] }, .pointer (some ⟨w.heap.size + 1, 0, none⟩), .pointer (some ⟨w.heap.size + 2, 0, none⟩), .int .i32 x.r, .int .i64 x.n, .string s, .func (.func 61) #[] #[.pointer (some ⟨w.heap.size + 3, 0, none⟩)], .int .i32 x.r, .int .i64 x.n, undef, undef, undef, undef, undef, undef, undef, undef, undef, undef, undef, undef, undef, undef, undef, undef, undef, undef, undef, undef], defers := [] }) ?assign ?body ?done ?stop
  case assign =>
    intro l x W K hK
    unfold stpV
    gi_wp2
    simpa using hK
  case body =>
    rintro l pre x W ⟨hI, hB⟩ hN
    have hN2 : pre.length < 60000 := by have := Hlen.out; have := Hsl.out; omega
    have hN3 : total pre < 240000 := by have := total_le pre; omega
    have hd : 1 ≤ n - 1 - 1 := by omega
    clear hN
    obtain ⟨W1, hW1⟩ : ∃ W1, W.setCell ⟨w.heap.size + 2, 0, none⟩ (.int .i64 ((total pre : Int) + x.n)) = W1 := ⟨_, rfl⟩
    have HC := Lib.hid (clean_turn s w W W1 pre x hI hB hW1)
    have HW := Lib.hid (fun rs w2 b2 => clean_write s w W W1 w2 pre x hI hB hN2 hW1 b2 (enc rs) (enc_length rs).1)
    obtain ⟨⟨⟨hS, hT⟩, hU⟩, hsz'⟩ := hI
    have c0 := hS.cell 0
    have c2 := hT.cell 0
    have f2 := hT.frozen 0
    have d0 : W1.cell? ⟨w.heap.size, 0, none⟩ = some (.string s) := by rw [← hW1]; exact (hS.far (p := ⟨w.heap.size + 2, 0, none⟩) (by simp) _).cell 0
    have d2 : W1.cell? ⟨w.heap.size + 2, 0, none⟩ = some (.int .i64 ((total pre : Int) + x.n)) := by rw [← hW1]; exact (hT.set_ 0 _).cell 0
    have hpd : pieceP s.data.toList (total pre) x = if x.r = 13 then (if bt s.data.toList (total pre + x.n) = 10 then [] else enc 10) else enc (shownN x.r) := rfl
    unfold CleanN at HC HW
    rw [hpd] at HC HW
    obtain ⟨r, k, hr, hk1, hk4⟩ := x
    dsimp only at *
    clear hpd hS hT hU hB hsz' hb0 hb1 hb2 hb3 hB0 hsz
    by_cases h13 : r = 13
    · subst h13
      have hc13 : shownN 10 = 10 := rfl
      by_cases h10 : total pre + k < s.size ∧ bt s.data.toList (total pre + k) = 10
      · obtain ⟨hkn2, h10⟩ := h10
        have hx := bt_at0 s (total pre + k) hkn2
        rw [bt_drop, Nat.add_zero, h10] at hx
        have HC2 := HC.out (by rw [if_pos rfl, if_pos h10])
        clear h10 HC HW
        have HC3 := Lib.hid HC2
        clear HC2
        gi_wp2
        exact HC3.out
      · have HW2 := Lib.hid (fun w2 b2 => HW.out 10 w2 b2)
        have hp10 : (if (13 : Nat) = 13 then (if bt s.data.toList (total pre + k) = 10 then [] else enc 10) else enc (shownN 13)) = enc 10 := by
          rw [if_pos rfl, if_neg]
          intro h
          by_cases hq : total pre + k < s.size
          · exact h10 ⟨hq, h⟩
          · rw [bt_ge (by rw [← sz_len]; omega)] at h; omega
        rw [hp10] at HW2
        by_cases hq : total pre + k < s.size
        · have hx := bt_at0 s (total pre + k) hq
          rw [bt_drop, Nat.add_zero] at hx
          have hy : ((bt s.data.toList (total pre + k) : Int) == 10) = false := by
            simp only [beq_eq_false_iff_ne]; intro h; exact h10 ⟨hq, by omega⟩
          clear h10 HC HW hp10
          generalize bt s.data.toList (total pre + k) = c at *
          gi_wp2_with (first
            | (refine ⟨trivial, ?_⟩; gi_at_call 44; refine (CallsIn.inRound l (callsIn_wide.2 (shown_any 10 _ (by decide)))).mono ?_; rintro e w2 ⟨rfl, rfl⟩)
            | (refine ⟨trivial, ?_⟩; gi_at_call 35; refine (CallsIn.inRound l (callsIn_wide.2 (pbytes_any _ _))).mono ?_; rintro e w2 ⟨rfl, b2⟩)
            | (refine ⟨trivial, ?_⟩; gi_at_call 33; refine (CallsIn.inRound l (callsIn_wide.2 (HW2.out _ b2))).mono ?_; rintro e w3 ⟨rfl, b3⟩))
          exact b3 trivial
        · clear h10 HC HW hp10
          gi_wp2_with (first
            | (refine ⟨trivial, ?_⟩; gi_at_call 44; refine (CallsIn.inRound l (callsIn_wide.2 (shown_any 10 _ (by decide)))).mono ?_; rintro e w2 ⟨rfl, rfl⟩)
            | (refine ⟨trivial, ?_⟩; gi_at_call 35; refine (CallsIn.inRound l (callsIn_wide.2 (pbytes_any _ _))).mono ?_; rintro e w2 ⟨rfl, b2⟩)
            | (refine ⟨trivial, ?_⟩; gi_at_call 33; refine (CallsIn.inRound l (callsIn_wide.2 (HW2.out _ b2))).mono ?_; rintro e w3 ⟨rfl, b3⟩))
          exact b3 trivial
    · rw [if_neg h13] at HW
      have hy13 : ((r : Int) == 13) = false := by simp; omega
      clear h13 HC
      gi_wp2_with (first
        | (refine ⟨trivial, ?_⟩; gi_at_call 44; refine (CallsIn.inRound l (callsIn_wide.2 (shown_any _ _ hr))).mono ?_; rintro e w2 ⟨rfl, rfl⟩)
        | (refine ⟨trivial, ?_⟩; gi_at_call 35; refine (CallsIn.inRound l (callsIn_wide.2 (pbytes_any _ _))).mono ?_; rintro e w2 ⟨rfl, b2⟩)
        | (refine ⟨trivial, ?_⟩; gi_at_call 33; refine (CallsIn.inRound l (callsIn_wide.2 (HW.out _ _ b2))).mono ?_; rintro e w3 ⟨rfl, b3⟩))
      exact b3 trivial
  case done =>
    rintro D ys W hD rfl ⟨⟨⟨⟨hS, hT⟩, hU⟩, hsz'⟩, hB⟩ hK
    rw [cleanP_all] at hU
    have hlt : w.heap.size + 1 ≤ W.heap.size := by omega
    have HU := Lib.hid (builder_String_k _ _ _ W hU hlt)
    clear hU
    gi_wp2_with (refine ⟨trivial, ?_⟩; gi_at_call 36; refine (callsIn_wide.2 HU.out).mono ?_; rintro e w3 ⟨rfl, b3, k3⟩)
    have hK3 := k3.same D _ hK rfl
    refine ⟨by simp, .inl ⟨_, _, rfl, run_takeDeferred hK3, ?_⟩⟩
    exact ⟨_, results_tmp rfl _ _ _, rfl, (hB.trans (b3.mono (by omega))).trans (belowK_b (w := w) (Nat.le_refl _) w3 D _ _ (by omega) hK3 rfl rfl)⟩
  case stop =>
    rintro D c pre W _ _ h _
    exact h.elim
theorem clean_any (s : ByteArray) (w : World) (hs : s.size ≤ 60000) :
    Calls Try.prog 22 #[.string s] w fun e W' => e = .returned (.string (strOf (clean s.data.toList))) ∧ Below w.heap.size w W' :=
  callsIn_wide.1 (clean_in 3 (Nat.le_refl _) s w hs)
end Go.Proofs.Ytdfnlcigbmiafaa
