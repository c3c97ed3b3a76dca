/- Walks: the document's Tokens (chapter 10). -/
import Derived.Test.YtmfldffbafamnaaJsD
namespace Go.Proofs.Ytmfldffbafamnaa
open Go.RowKit
set_option linter.unusedVariables false
set_option linter.unusedSimpArgs false
theorem infoTok : (Try.prog.info? 49).map (fun i => (i.zero, i.size, i.bytes)) = some (some (.agg #[.int .u8 0, .string ⟨#[]⟩, .int .i64 0, .int .i64 0]), 4, 40) := by kernel_rfl
def tokCs (ts : List Tok) : List Value := ts.flatMap fun t => (tokC t).toList
theorem tokCs_length (ts : List Tok) : (tokCs ts).length = ts.length * 4 := by
  unfold tokCs
  induction ts with
  | nil => rfl
  | cons t ts ih => rw [List.flatMap_cons, List.length_append, ih, List.length_cons]; simp [tokC]; omega
theorem tokCs_append (a b : List Tok) : tokCs (a ++ b) = tokCs a ++ tokCs b := by unfold tokCs; rw [List.flatMap_append]
theorem cells_new (w : World) (cs : Array Value) (t : TypeId) : ∀ j u, cs.toList[j]? = some u → (w.alloc (.cells cs t)).cell? ((⟨w.heap.size, 0, none⟩ : Addr).add j) = some u := by
  intro j u h
  have := (Blk.new w t cs).cell (0 + j)
  rw [Nat.zero_add] at this
  have h2 : (w.alloc (.cells cs t)).cell? ⟨w.heap.size, j, none⟩ = some u := by rw [this, ← Array.getElem?_toList]; exact h
  have h3 : (⟨w.heap.size, 0, none⟩ : Addr).add j = ⟨w.heap.size, j, none⟩ := by rw [Addr.add_lit, Nat.zero_add]
  rw [h3]; exact h2
theorem cells_new1 (w : World) (o : Obj) (cs : Array Value) (t : TypeId) : ∀ j u, cs.toList[j]? = some u → ((w.alloc o).alloc (.cells cs t)).cell? ((⟨w.heap.size + 1, 0, none⟩ : Addr).add j) = some u := by
  have h := cells_new (w.alloc o) cs t
  rw [World.size_alloc] at h
  exact h
theorem below_grown2 {w0 w w' : World} {o1 o2 : Obj} {base : Nat} {e : TypeId} {size n : Nat} {v : Value} {xs : List Value} (hb : Below base w0 w) (hB : base ≤ w.heap.size) (ho : w.ownsRow base e size v n xs)
    (hg : ((w.alloc o1).alloc o2).grownBy w' v.ownBlock) : Below base w0 w' := by
  refine ((hb.alloc hB o1).alloc (by simp; omega) o2).grown hg (by simp; omega) fun j ej => ?_
  exact (ho.lt j ej).1
theorem tok_kept {W w3 : World} {g : Nat} {t : TypeId} {cs : Array Value} {v : Value} (hT : Blk W g t cs) (hg : W.grownBy w3 v.ownBlock) (hgn : ∀ j, v.ownBlock = some j → j < g) : Blk w3 g t cs :=
  (hg.block g hT.lt (fun e => by have := hgn g e.symm; omega)).trans hT
def TokR (o : Option (List Tok)) (B : Nat) (e : Ending) (W : World) : Prop := match o with
  | some ts => ∃ v, e = .returned (.tuple #[v, .int .i64 0]) ∧ W.ownsRow B 49 4 v ts.length (tokCs ts)
  | none => e = .returned (.tuple #[.slice none 0 0, .int .i64 7])
set_option maxRecDepth 100000 in
set_option maxHeartbeats 4000000 in
theorem rtokens_any (s : ByteArray) (w : World) (hs : s.size ≤ 100000) :
    Calls Try.prog 19 #[.string s] w fun e W' => TokR (toks s.data.toList) w.heap.size e W' ∧ Below w.heap.size w W' := by
  obtain ⟨i0, hi, hz0, hz1, hz2⟩ := info_parts infoTok
  have HI := Lib.hid (And.intro hi (And.intro hz0 (And.intro hz1 hz2)))
  clear hi hz0 hz1 hz2
  have hl := Lib.hid (sz_len s)
  go_enter Try.func19, Try.ntmps19
  go_wp2_with fail
  go_loopw [4, 5] (fun o z wr => ∃ (k : Nat) (pre : List Tok), z = .int .i64 k ∧ k ≤ s.size ∧ pre.length ≤ k ∧ toks s.data.toList = (toksAt s.data.toList k).map (pre ++ ·) ∧ wr.ownsRow w.heap.size 49 4 o pre.length (tokCs pre) ∧ Below w.heap.size w wr) (fun _ z _ => s.size - (intOf z).toNat)
  case atStart => exact ⟨0, [], rfl, Nat.zero_le _, Nat.le_refl _, by simp [toks], ⟨by simp [tokCs], .inr ⟨w.heap.size, 0, #[], rfl, Nat.le_refl _, World.alloc_heap_new _ _, by simp [tokCs]⟩⟩, (Below.refl _ w).alloc (Nat.le_refl _) _⟩
  case round =>
    obtain ⟨k, pre, rfl, hk, hpk, hr, ho, hb⟩ := hrel
    have HG := Lib.hid hr
    clear hr
    by_cases hlt : k < s.size
    · have hst := toksAt_step (l := s.data.toList) (k := k) (by rw [← hl.out]; exact hlt)
      have hx := bt_byte s k hlt
      have y0 := bt_lt s.data.toList k
      by_cases hbl : blankK (bt s.data.toList k)
      · rw [if_pos hbl] at hst
        have HB : Hid (∀ w, Calls Try.prog 33 #[.int .u8 (bt s.data.toList k)] w fun e w' => e = .returned (.bool true) ∧ w = w') := fun w => by
          have := rblank_any (bt s.data.toList k) w y0
          rwa [decide_eq_true hbl] at this
        have HV : Hid (toks s.data.toList = (toksAt s.data.toList (k + 1)).map (pre ++ ·)) := by show _ = _; rw [HG.out, hst]
        clear hst hbl
        generalize bt s.data.toList k = c at *
        go_wp2_with fail
        refine (HB.out _).mono ?_
        rintro e w' ⟨rfl, rfl⟩
        go_wp2_with fail
        go_roundw
        case rel => exact ⟨k + 1, pre, by go_num, hlt, by omega, HV.out, ho, hb⟩
        case measure => simp [intOf]; omega
      · rw [if_neg hbl] at hst
        have HB : Hid (∀ w, Calls Try.prog 33 #[.int .u8 (bt s.data.toList k)] w fun e w' => e = .returned (.bool false) ∧ w = w') := fun w => by
          have := rblank_any (bt s.data.toList k) w y0
          rwa [decide_eq_false hbl] at this
        have HO := Lib.hid (fun w => rone10_any s k w (by omega) hlt)
        clear hbl
        generalize bt s.data.toList k = c at *
        cases hot : oneT s.data.toList k with
        | none =>
          rw [hot] at hst HO
          have HV : Hid (toks s.data.toList = none) := by show _ = _; rw [HG.out, hst]; rfl
          unfold OneR at HO
          dsimp only at HO
          clear hst hot
          go_wp2_with fail
          refine (HB.out _).mono ?_
          rintro e w' ⟨rfl, rfl⟩
          go_wp2_with fail
          refine (HO.out _).mono ?_
          rintro e w2 ⟨⟨q1, q2, q3, q4, rfl⟩, b2⟩
          go_wp2_with fail
          go_ret2
          have hfin := ((hb.trans (b2.mono hb.size)).alloc (by have := hb.size; have := b2.size; omega) (.cells #[.int .u8 q1, .string q2, .int .i64 q3, .int .i64 q4] 49))
          exact ⟨by rw [HV.out]; rfl, hfin⟩
        | some t =>
          obtain ⟨t1, t2, t3, t4, t5⟩ := oneT_bd (by rw [← hl.out]; exact hlt) hot
          rw [hot] at hst HO
          dsimp only at hst
          have HV : Hid (toks s.data.toList = (toksAt s.data.toList t.to).map ((pre ++ [t]) ++ ·)) := by
            show _ = _; rw [HG.out, hst]; cases toksAt s.data.toList t.to <;> simp
          rw [← hl.out] at t3
          unfold OneR at HO
          dsimp only at HO
          obtain ⟨tk, tx, tf, tt⟩ := t
          unfold tokC at HO
          dsimp only at *
          have t1' := t1.symm
          clear t1
          subst t1'
          clear hst hot
          go_wp2_with fail
          refine (HB.out _).mono ?_
          rintro e w' ⟨rfl, rfl⟩
          go_wp2_with fail
          refine (HO.out _).mono ?_
          rintro e w2 ⟨rfl, b2⟩
          have ho2 := ownsRow_ofBelow ho b2
          have hb2 := hb.trans (b2.mono hb.size)
          clear ho b2 hb
          have e3 : pre.length + 1 ≤ maxLen := by unfold maxLen; omega
          have e4 : (pre.length + 1) * 40 ≤ 140737488355328 := by omega
          have e5 : w.heap.size ≤ ((w2.alloc (.cells #[.int .u8 tk, .string (strOf tx), .int .i64 k, .int .i64 tt] 49)).alloc (.cells #[.int .u8 tk, .string (strOf tx), .int .i64 k, .int .i64 tt] 49)).heap.size := by have := hb2.size; simp; omega
          obtain ⟨hi, hz0, hz1, hz2⟩ := HI.out
          have hT := (Blk.new w2 49 #[.int .u8 tk, .string (strOf tx), .int .i64 k, .int .i64 tt]).alloc (.cells #[.int .u8 tk, .string (strOf tx), .int .i64 k, .int .i64 tt] 49)
          have hTlt := hT.lt
          go_wp2_with (at_builtin; refine wpList_append_own _ rfl _ _ 45 rfl w.heap.size 49 i0 (.agg #[.int .u8 0, .string ⟨#[]⟩, .int .i64 0, .int .i64 0]) 4 40 Try.underlying45 hi hz0 hz1 hz2 rfl (by decide) _ _ _ rfl ((ho2.alloc _).alloc _) ⟨w2.heap.size + 1, 0, none⟩ 1 1 [.int .u8 tk, .string (strOf tx), .int .i64 k, .int .i64 tt] rfl rfl (cells_new1 w2 _ #[.int .u8 tk, .string (strOf tx), .int .i64 k, .int .i64 tt] _) (by simp [Value.oneCell']) e3 e4 e5 ?_; intro v' w3 hown' hgrow _; have hT3 := tok_kept hT hgrow (fun j hj => (ho2.lt j hj).2); have d3 := hT3.cell 3)
          go_roundw
          case rel => exact ⟨tt, pre ++ [⟨tk, tx, k, tt⟩], rfl, t3, by rw [List.length_append]; simp; omega, HV.out, by rw [tokCs_append, List.length_append]; exact hown', below_grown2 hb2 hb2.size ho2 hgrow⟩
          case measure => simp [intOf]; omega
    · have HE : Hid (toks s.data.toList = some pre) := by show _ = _; rw [HG.out, toksAt_end (by rw [← hl.out]; omega)]; simp
      go_wp2_with fail
      go_ret2
      exact ⟨by rw [HE.out]; exact ⟨_, rfl, ho⟩, hb⟩
end Go.Proofs.Ytmfldffbafamnaa
