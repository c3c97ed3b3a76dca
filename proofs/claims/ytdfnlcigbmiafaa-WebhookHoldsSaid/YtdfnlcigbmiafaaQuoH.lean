/- Walks: the program's Read, a loop over an iterator. -/
import Derived.Test.YtdfnlcigbmiafaaQuoF
import Derived.Test.YtdfnlcigbmiafaaUtfM
namespace Go.Proofs.Ytdfnlcigbmiafaa
open Go.RowKit Go.Shelf
set_option linter.unusedVariables false
set_option linter.unusedSimpArgs false
attribute [local go_sem] Oper.semAt_some
/-- What the iterator hands on: a rune, or -1. -/
structure Itm where
  v : Int
  h0 : -1 ≤ v
  h1 : v ≤ 1114111
def itmsF : Nat → List UInt8 → List Itm
  | 0, _ => []
  | f + 1, l => if l = [] then [] else
    match h : oneJ l with
    | none => [⟨-1, by decide, by decide⟩]
    | some (r, n) => ⟨(r : Int), by omega, (oneJ_bound h).1.2.1⟩ :: itmsF f (l.drop n)
def itms (l : List UInt8) : List Itm := itmsF l.length l
theorem itmsF_none {f : Nat} {l : List UInt8} (h0 : l ≠ []) (h : oneJ l = none) : itmsF (f + 1) l = [⟨-1, by decide, by decide⟩] := by
  rw [itmsF, if_neg h0]
  split
  · rfl
  · rename_i h2; rw [h] at h2; cases h2
theorem itmsF_some {f : Nat} {l : List UInt8} {r n : Nat} (h0 : l ≠ []) (h : oneJ l = some (r, n)) : itmsF (f + 1) l = ⟨(r : Int), by omega, (oneJ_bound h).1.2.1⟩ :: itmsF f (l.drop n) := by
  rw [itmsF, if_neg h0]
  split
  · rename_i h2; rw [h] at h2; cases h2
  · rename_i r2 n2 h2
    have e := h.symm.trans h2
    cases e
    rfl
theorem itmsF_more : ∀ (f g : Nat) (l : List UInt8), l.length ≤ f → l.length ≤ g → itmsF f l = itmsF g l
  | 0, 0, _, _, _ => rfl
  | 0, g + 1, l, hf, _ => by
    have : l = [] := List.length_eq_zero_iff.1 (by omega)
    subst this; simp [itmsF]
  | f + 1, 0, l, _, hg => by
    have : l = [] := List.length_eq_zero_iff.1 (by omega)
    subst this; simp [itmsF]
  | f + 1, g + 1, l, hf, hg => by
    by_cases h0 : l = []
    · subst h0; simp [itmsF]
    · cases h : oneJ l with
      | none => rw [itmsF_none h0 h, itmsF_none h0 h]
      | some p =>
        obtain ⟨r, n⟩ := p
        have hb := oneJ_bound h
        rw [itmsF_some h0 h, itmsF_some h0 h, itmsF_more f g (l.drop n) (by rw [List.length_drop]; omega) (by rw [List.length_drop]; omega)]
theorem itms_nil : itms [] = [] := rfl
theorem len_succ {l : List UInt8} (h0 : l ≠ []) : ∃ k, l.length = k + 1 := ⟨l.length - 1, by have := List.length_pos_iff.2 h0; omega⟩
theorem itms_none {l : List UInt8} (h0 : l ≠ []) (h : oneJ l = none) : itms l = [⟨-1, by decide, by decide⟩] := by
  obtain ⟨k, hk⟩ := len_succ h0
  unfold itms; rw [hk, itmsF_none h0 h]
theorem itms_some {l : List UInt8} {r n : Nat} (h0 : l ≠ []) (h : oneJ l = some (r, n)) : itms l = ⟨(r : Int), by omega, (oneJ_bound h).1.2.1⟩ :: itms (l.drop n) := by
  obtain ⟨k, hk⟩ := len_succ h0
  have hb := oneJ_bound h
  have e : itms l = itmsF (k + 1) l := by unfold itms; rw [hk]
  have e2 : itms (l.drop n) = itmsF k (l.drop n) := itmsF_more _ _ _ (Nat.le_refl _) (by rw [List.length_drop]; omega)
  rw [e, e2]
  exact itmsF_some h0 h
theorem itms_read : ∀ (m : Nat) (l : List UInt8), l.length ≤ m → (readJ l = none ∧ ∃ x ∈ itms l, x.v < 0) ∨ ((∀ x ∈ itms l, 0 ≤ x.v) ∧ readJ l = some ((itms l).flatMap fun x => enc x.v))
  | m, [], _ => .inr ⟨(fun x hx => by rw [itms_nil] at hx; cases hx), rfl⟩
  | 0, _ :: _, h => by simp at h
  | m + 1, a :: t, h => by
    have h0 : a :: t ≠ [] := by simp
    cases ho : oneJ (a :: t) with
    | none => exact .inl ⟨readJ_none h0 ho, _, by rw [itms_none h0 ho]; exact List.mem_singleton.2 rfl, by decide⟩
    | some p =>
      obtain ⟨r, n⟩ := p
      have hb := oneJ_bound ho
      have hle : ((a :: t).drop n).length ≤ m := by rw [List.length_drop]; simp only [List.length_cons] at *; omega
      rw [readJ_some h0 ho, itms_some h0 ho]
      rcases itms_read m _ hle with ⟨h1, x, hx, hx2⟩ | ⟨h1, h2⟩
      · exact .inl ⟨by rw [h1]; rfl, x, List.mem_cons_of_mem _ hx, hx2⟩
      · refine .inr ⟨fun x hx => ?_, by rw [h2]; rfl⟩
        rcases List.mem_cons.1 hx with rfl | hx
        · exact Int.natCast_nonneg r
        · exact h1 x hx
theorem itms_length : ∀ (m : Nat) (l : List UInt8), l.length ≤ m → (itms l).length ≤ l.length
  | m, [], _ => by rw [itms_nil]; simp
  | 0, _ :: _, h => by simp at h
  | m + 1, a :: t, h => by
    have h0 : a :: t ≠ [] := by simp
    cases ho : oneJ (a :: t) with
    | none => rw [itms_none h0 ho]; simp
    | some p =>
      obtain ⟨r, n⟩ := p
      have hb := oneJ_bound ho
      have hle : ((a :: t).drop n).length ≤ m := by rw [List.length_drop]; simp only [List.length_cons] at *; omega
      rw [itms_some h0 ho, List.length_cons]
      have := itms_length m _ hle
      rw [List.length_drop] at this
      omega
def itmV (p : Itm) : Array Value := #[.int .i32 p.v]
theorem grown_below {W W' : World} (h : Below W.heap.size W W') : W.grownBy W' none := ⟨h.os, h.tape, h.output, h.size, fun k hk _ => h.block k hk⟩
set_option maxRecDepth 100000 in
set_option maxHeartbeats 2000000 in
theorem jall1_in (n l b : Nat) (s : ByteArray) (hn : 1 ≤ n) (hs : s.size ≤ 1000000) (J Jx : List Itm → World → Prop) (W : World) (hA : AbidesFrom W.heap.size J)
    (hY : ∀ pre x W, J pre W → pre.length < (itms s.data.toList).length → YieldAt Fence.wide (n - 1) Try.prog l (itmV x) W fun e W' =>
      (e = .returned (.bool true) ∧ J (pre ++ [x]) W' ∧ KB b W W') ∨ (e = .returned (.bool false) ∧ Jx (pre ++ [x]) W'))
    (hc : W.cell? ⟨b, 0, none⟩ = some (.string s)) (h0 : J [] W) :
    CallsIn Fence.wide n Try.prog 85 #[.func (.yield l) #[] #[], .pointer (some ⟨b, 0, none⟩)] W fun e W' => (∃ v, e = .returned v) ∧
      ((∃ ys, ys = itms s.data.toList ∧ J ys W') ∨ (∃ pre, pre <+: itms s.data.toList ∧ Jx pre W')) := by
  have Hsl := Lib.hid (sz_len s)
  have HAb := Lib.hid hA
  clear hA
  refine callsIn_of_wp Try.func85 rfl trivial ?_ rfl
  simp only [Try.ntmps85, List.size_toArray, List.length_cons, List.length_nil, Nat.reduceAdd, Nat.reduceSub, Array.replicate_succ, Array.replicate_zero, List.push_toArray, List.append_toArray, List.nil_append, List.cons_append]
  gi_wp2
  gi_loopw [3] (fun z wr => ∃ (k : Nat) (pre : List Itm), z = .int .i64 k ∧ k ≤ s.size ∧ itms s.data.toList = pre ++ itms (s.data.toList.drop k) ∧ J pre wr ∧ wr.cell? ⟨b, 0, none⟩ = some (.string s)) (fun z _ => s.size - (intOf z).toNat)
  case atStart => exact ⟨0, [], rfl, Nat.zero_le _, rfl, h0, hc⟩
  case round =>
    obtain ⟨k, pre, rfl, hk, hp, hJ, hcr⟩ := hrel
    have HP := Lib.hid hp
    clear hp hc
    by_cases hlt : k < s.size
    · have hne : s.data.toList.drop k ≠ [] := drop_ne (by rw [← sz_len]; exact hlt)
      have hblt : b < wr.heap.size := by
        rcases Nat.lt_or_ge b wr.heap.size with h | h
        · exact h
        · unfold World.cell? at hcr; simp [Array.getElem?_eq_none h] at hcr
      cases ho : oneJ (s.data.toList.drop k) with
      | none =>
        have hx : itms s.data.toList = pre ++ [⟨-1, by decide, by decide⟩] := by rw [HP.out, itms_none hne ho]
        have hlen : pre.length < (itms s.data.toList).length := by rw [hx]; simp
        have HO : Hid (∀ w, Calls Try.prog 86 #[.string s, .int .i64 k] w fun e w' => e = .returned (.tuple #[.int .i32 0, .int .i64 0, .bool false]) ∧ Below w.heap.size w w') := fun w => one_at s k none w hs ho
        have HY := Lib.hid (fun w2 (hJ2 : J pre w2) => hY pre ⟨-1, by decide, by decide⟩ w2 hJ2 hlen)
        have HX := Lib.hid hx
        clear hx hlen hne ho hY
        gi_wp2_with (refine ⟨trivial, ?_⟩; gi_at_call 86; refine (callsIn_wide.2 (HO.out _)).mono ?_; rintro e w2 ⟨rfl, b2⟩; have hJ2 := HAb.out _ _ _ none hJ (grown_below b2) (fun r e => by cases e); obtain ⟨fn, tmps, assign, body, hy, hR⟩ := HY.out _ hJ2; unfold itmV at hy; dsimp only at hy)
        refine hR.mono ?_
        rintro e W3 (⟨rfl, hJ3, hk3⟩ | ⟨rfl, hJx3⟩)
        · gi_wp2
          refine bodyPost_ret (results_none rfl _ _ _) rfl ?_
          exact ⟨⟨_, rfl⟩, .inl ⟨_, HX.out.symm, hJ3⟩⟩
        · gi_wp2
          refine bodyPost_ret (results_none rfl _ _ _) rfl ?_
          exact ⟨⟨_, rfl⟩, .inr ⟨_, ⟨[], by rw [List.append_nil]; exact HX.out.symm⟩, hJx3⟩⟩
      | some p =>
        obtain ⟨r, m⟩ := p
        obtain ⟨hr, hn1, hn12, hnl⟩ := oneJ_bound ho
        rw [List.length_drop, ← Hsl.out] at hnl
        have hr2 := hr.2.1
        have hx : itms s.data.toList = (pre ++ [⟨(r : Int), by omega, hr2⟩]) ++ itms (s.data.toList.drop (k + m)) := by
          rw [HP.out, itms_some hne ho, List.drop_drop]; simp
        have hlen : pre.length < (itms s.data.toList).length := by rw [hx]; simp
        have HO : Hid (∀ w, Calls Try.prog 86 #[.string s, .int .i64 k] w fun e w' => e = .returned (.tuple #[.int .i32 r, .int .i64 m, .bool true]) ∧ Below w.heap.size w w') := fun w => one_at s k _ w hs ho
        have HY := Lib.hid (fun w2 (hJ2 : J pre w2) => hY pre ⟨(r : Int), by omega, hr2⟩ w2 hJ2 hlen)
        have HX := Lib.hid hx
        clear hx hlen hne ho hY hr
        gi_wp2_with (refine ⟨trivial, ?_⟩; gi_at_call 86; refine (callsIn_wide.2 (HO.out _)).mono ?_; rintro e w2 ⟨rfl, b2⟩; have hJ2 := HAb.out _ _ _ none hJ (grown_below b2) (fun r e => by cases e); have hc2 := (b2.cell (p := ⟨b, 0, none⟩) hblt).trans hcr; obtain ⟨fn, tmps, assign, body, hy, hR⟩ := HY.out _ hJ2; unfold itmV at hy; dsimp only at hy)
        refine hR.mono ?_
        rintro e W3 (⟨rfl, hJ3, hk3⟩ | ⟨rfl, hJx3⟩)
        · have hc3 := (KB.cell hk3 0).trans hc2
          gi_wp2
          go_roundw
          case rel => exact ⟨k + m, _, by go_num, by omega, HX.out, hJ3, hc3⟩
          case measure => simp [intOf]; omega
        · gi_wp2
          refine bodyPost_ret (results_none rfl _ _ _) rfl ?_
          exact ⟨⟨_, rfl⟩, .inr ⟨_, ⟨_, HX.out.symm⟩, hJx3⟩⟩
    · have HE : Hid (itms s.data.toList = pre) := by show _ = _; rw [HP.out, drop_end (by omega), itms_nil, List.append_nil]
      gi_wp2
      go_end0
      exact ⟨⟨_, rfl⟩, .inl ⟨pre, HE.out.symm, hJ⟩⟩
end Go.Proofs.Ytdfnlcigbmiafaa
