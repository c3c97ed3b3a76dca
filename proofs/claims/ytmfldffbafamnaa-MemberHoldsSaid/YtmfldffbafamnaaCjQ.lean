/- Walks: ctxjson's next. -/
import Derived.Test.YtmfldffbafamnaaCjO
import Derived.Test.YtmfldffbafamnaaCjP
namespace Go.Proofs.Ytmfldffbafamnaa
open Go.RowKit
set_option linter.unusedVariables false
set_option linter.unusedSimpArgs false
theorem outside_any (q : Q) (c : UInt8) (w : World) (hq : q.fit) :
    Calls Try.prog 41 #[q.v, .int .u8 c.toNat] w fun x w' => x = .returned (qr (outS q c)) ∧ Below w.heap.size w w' := by
  obtain ⟨m, o, p⟩ := q
  by_cases h1 : c.toNat = 32 ∨ c.toNat = 9 ∨ c.toNat = 10 ∨ c.toNat = 13
  · exact out_blank m o p c w h1
  by_cases h2 : c.toNat = 93
  · exact out_sq m o p c w hq h2
  by_cases h3 : c.toNat = 125
  · exact out_br m o p c w hq h3
  by_cases h4 : c.toNat = 44
  · exact out_comma m o p c w hq h4
  by_cases h5 : c.toNat = 58
  · exact out_colon m o p c w hq h5
  by_cases h6 : c.toNat = 34 ∧ (m = 2 ∨ m = 3)
  · exact out_quote m o p c w hq h6.1 h6.2
  · exact out_else m o p c w hq (by omega) h6
def nextS (q : Q) (c : UInt8) : Q × Bool :=
  if q.m = 6 ∨ q.m = 7 then quoteS q c
  else if q.m = 8 then (if (wordS (q.p ++ [c])).2 = true then (⟨5, q.o, []⟩, true) else (⟨8, q.o, q.p ++ [c]⟩, (wordS (q.p ++ [c])).1))
  else if q.m = 9 then (if (numS q.p c.toNat).2 = true then (⟨9, q.o, (numS q.p c.toNat).1⟩, true) else if cntB q.p = true then outS ⟨5, q.o, []⟩ c else (⟨9, q.o, q.p⟩, false))
  else outS q c
def numC : List (List UInt8) := [[], [45], [48], [49], [46], [53], [101], [43], [57]]
/-- Behind any box, and the result's, and one thing more. -/
theorem box_behind (w : World) (a b : Obj) (W : World) (hW : W = ((w.alloc a).alloc (.cells #[.int .i64 0, .string ⟨#[]⟩, .string ⟨#[]⟩] 25)).alloc b) :
    StAt W (w.heap.size + 1) ⟨0, [], []⟩ ∧ Below w.heap.size w W := by
  subst hW
  refine ⟨Blk.alloc ?_ _, (((Below.refl _ w).alloc (Nat.le_refl _) _).alloc (by simp) _).alloc (by simp; omega) _⟩
  have h := Blk.new (w.alloc a) 25 #[.int .i64 0, .string ⟨#[]⟩, .string ⟨#[]⟩]
  rw [World.size_alloc] at h
  exact h
set_option maxRecDepth 100000 in
set_option maxHeartbeats 1000000 in
theorem next_quoted (m : Nat) (o p : List UInt8) (c : UInt8) (w : World) (hq : Q.fit ⟨m, o, p⟩) (hm : m = 6 ∨ m = 7) :
    Calls Try.prog 24 #[sv m o p, .int .u8 c.toNat] w fun x w' => x = .returned (qr (nextS ⟨m, o, p⟩ c)) ∧ Below w.heap.size w w' := by
  have K : Hid (nextS ⟨m, o, p⟩ c = quoteS ⟨m, o, p⟩ c) := by show _ = _; unfold nextS; rw [if_pos hm]
  have HC := Lib.hid (fun w => quoted_any ⟨m, o, p⟩ c w hq)
  generalize quoteS ⟨m, o, p⟩ c = r at *
  obtain ⟨⟨x1, x2, x3⟩, y⟩ := r
  have HB := Lib.hid (boxes_new w m o p)
  unfold qr Q.v sv at HC
  unfold sv
  clear hq
  rcases hm with rfl | rfl
  all_goals
    go_enter Try.func24, Try.ntmps24
    go_wp2_with fail
    refine (HC.out _).mono ?_
    rintro x w2 ⟨rfl, b2⟩
    obtain ⟨hA, hR, hb⟩ := HB.out
    have HR2 := Lib.hid (hR.below' b2)
    have hb2 := hb.trans (b2.mono hb.size)
    obtain ⟨c0, c1, c2, g0, g1, g2⟩ := (hR.below' b2).facts
    clear hA hR hb b2
    go_wp2_with fail
    obtain ⟨s0, s1, s2, _, _, _⟩ := (HR2.out.put ⟨x1, x2, x3⟩).facts
    refine bodyPost_ret (v := .tuple #[.agg #[.int .i64 x1, .string (strOf x2), .string (strOf x3)], .bool y]) (by simp [results, Try.f24, go_sem, s0, s1, s2]) rfl ⟨by rw [K.out]; rfl, ?_⟩
    exact below_put hb2 (by simp) _ _ _
set_option maxRecDepth 100000 in
set_option maxHeartbeats 1000000 in
theorem next_out (m : Nat) (o p : List UInt8) (c : UInt8) (w : World) (hq : Q.fit ⟨m, o, p⟩) (hm : ¬ (m = 6 ∨ m = 7) ∧ m ≠ 8 ∧ m ≠ 9) :
    Calls Try.prog 24 #[sv m o p, .int .u8 c.toNat] w fun x w' => x = .returned (qr (nextS ⟨m, o, p⟩ c)) ∧ Below w.heap.size w w' := by
  have K : Hid (nextS ⟨m, o, p⟩ c = outS ⟨m, o, p⟩ c) := by show _ = _; unfold nextS; rw [if_neg hm.1, if_neg hm.2.1, if_neg hm.2.2]
  have HC := Lib.hid (fun w => outside_any ⟨m, o, p⟩ c w hq)
  generalize outS ⟨m, o, p⟩ c = r at *
  obtain ⟨⟨x1, x2, x3⟩, y⟩ := r
  have HB := Lib.hid (boxes_new w m o p)
  have q6 : ((m : Int) == 6) = false := by simp only [beq_eq_false_iff_ne]; omega
  have q7 : ((m : Int) == 7) = false := by simp only [beq_eq_false_iff_ne]; omega
  have q8 : ((m : Int) == 8) = false := by simp only [beq_eq_false_iff_ne]; omega
  have q9 : ((m : Int) == 9) = false := by simp only [beq_eq_false_iff_ne]; omega
  unfold qr Q.v sv at HC
  unfold sv
  clear hq hm
  go_enter Try.func24, Try.ntmps24
  go_wp2_with fail
  refine (HC.out _).mono ?_
  rintro x w2 ⟨rfl, b2⟩
  obtain ⟨hA, hR, hb⟩ := HB.out
  have HR2 := Lib.hid (hR.below' b2)
  have hb2 := hb.trans (b2.mono hb.size)
  obtain ⟨c0, c1, c2, g0, g1, g2⟩ := (hR.below' b2).facts
  clear hA hR hb b2
  go_wp2_with fail
  obtain ⟨s0, s1, s2, _, _, _⟩ := (HR2.out.put ⟨x1, x2, x3⟩).facts
  refine bodyPost_ret (v := .tuple #[.agg #[.int .i64 x1, .string (strOf x2), .string (strOf x3)], .bool y]) (by simp [results, Try.f24, go_sem, s0, s1, s2]) rfl ⟨by rw [K.out]; rfl, ?_⟩
  exact below_put hb2 (by simp) _ _ _
set_option maxRecDepth 100000 in
set_option maxHeartbeats 1000000 in
theorem next_word_not (m : Nat) (o p : List UInt8) (c : UInt8) (w : World) (hm : m = 8) (hp : p.length ≤ 1000) (hw : (wordS (p ++ [c])).2 = false) :
    Calls Try.prog 24 #[sv m o p, .int .u8 c.toNat] w fun x w' => x = .returned (qr (nextS ⟨m, o, p⟩ c)) ∧ Below w.heap.size w w' := by
  subst hm
  have K : Hid (nextS ⟨8, o, p⟩ c = (⟨8, o, p ++ [c]⟩, (wordS (p ++ [c])).1)) := by show _ = _; unfold nextS; rw [if_neg (by dsimp only; decide), if_pos rfl, if_neg (by rw [hw]; decide)]
  have hz := strOf_size p
  have hz1 := strOf_size [c]
  have ha := strOf_append
  have kc := fun w a b => conv_at2 w a b c
  have HW := Lib.hid (fun w => word_any (p ++ [c]) w)
  have HB := Lib.hid (fun a b W => box_behind w a b W)
  rw [hw] at HW
  generalize (wordS (p ++ [c])).1 = y at *
  unfold sv
  clear hw
  go_enter Try.func24, Try.ntmps24
  go_wp2_with fail
  refine (HW.out _).mono ?_
  rintro x w2 ⟨rfl, rfl⟩
  go_wp2_with fail
  refine bodyPost_ret (v := .tuple #[.agg #[.int .i64 8, .string (strOf o), .string (strOf (p ++ [c]))], .bool y]) (by simp [results, Try.f24, go_sem]; try rfl) rfl ⟨by rw [K.out]; rfl, ?_⟩
  go_grown
set_option maxRecDepth 100000 in
set_option maxHeartbeats 1000000 in
theorem next_word_all (m : Nat) (o p : List UInt8) (c : UInt8) (w : World) (hm : m = 8) (hp : p.length ≤ 1000) (hw : (wordS (p ++ [c])).2 = true) :
    Calls Try.prog 24 #[sv m o p, .int .u8 c.toNat] w fun x w' => x = .returned (qr (nextS ⟨m, o, p⟩ c)) ∧ Below w.heap.size w w' := by
  subst hm
  have K : Hid (nextS ⟨8, o, p⟩ c = (⟨5, o, []⟩, true)) := by show _ = _; unfold nextS; rw [if_neg (by dsimp only; decide), if_pos rfl, if_pos hw]
  have hz := strOf_size p
  have hz1 := strOf_size [c]
  have ha := strOf_append
  have kc := fun w a b => conv_at2 w a b c
  have HW := Lib.hid (fun w => word_any (p ++ [c]) w)
  have HB := Lib.hid (fun a b W => box_behind w a b W)
  rw [hw] at HW
  have HD := Lib.hid (fun w => done_any 8 o (p ++ [c]) w)
  generalize (wordS (p ++ [c])).1 = y at *
  unfold sv at *
  clear hw
  go_enter Try.func24, Try.ntmps24
  go_wp2_with fail
  refine (HW.out _).mono ?_
  rintro x w2 ⟨rfl, rfl⟩
  go_wp2_with fail
  refine (HD.out _).mono ?_
  rintro x w2 ⟨rfl, b2⟩
  obtain ⟨hR, hb⟩ := HB.out _ _ _ rfl
  have HR2 := Lib.hid (hR.below' b2)
  have hb2 := hb.trans (b2.mono hb.size)
  obtain ⟨c0, c1, c2, g0, g1, g2⟩ := (hR.below' b2).facts
  clear hR hb b2
  go_wp2_with fail
  obtain ⟨s0, s1, s2, _, _, _⟩ := (HR2.out.put ⟨5, o, []⟩).facts
  dsimp only at s0 s1 s2
  have e5 : ((5 : Nat) : Int) = 5 := rfl
  rw [e5] at s0 s1 s2
  refine bodyPost_ret (v := .tuple #[.agg #[.int .i64 5, .string (strOf o), .string (strOf [])], .bool true]) (by simp [results, Try.f24, go_sem, s0, s1, s2]) rfl ⟨by rw [K.out]; rfl, ?_⟩
  exact below_put hb2 (by simp) _ _ _
set_option maxRecDepth 100000 in
set_option maxHeartbeats 1000000 in
theorem next_num_yes (m : Nat) (o p : List UInt8) (c : UInt8) (w : World) (hm : m = 9) (hp : p ∈ numC) (hn : (numS p c.toNat).2 = true) :
    Calls Try.prog 24 #[sv m o p, .int .u8 c.toNat] w fun x w' => x = .returned (qr (nextS ⟨m, o, p⟩ c)) ∧ Below w.heap.size w w' := by
  subst hm
  have K : Hid (nextS ⟨9, o, p⟩ c = (⟨9, o, (numS p c.toNat).1⟩, true)) := by show _ = _; unfold nextS; rw [if_neg (by dsimp only; decide), if_neg (by dsimp only; decide), if_pos rfl, if_pos hn]
  have HN := Lib.hid (fun w => number_any p c.toNat w (UInt8.toNat_lt c) hp)
  rw [hn] at HN
  generalize (numS p c.toNat).1 = r at *
  unfold sv
  clear hp hn
  go_enter Try.func24, Try.ntmps24
  go_wp2_with fail
  refine (HN.out _).mono ?_
  rintro x w2 ⟨rfl, rfl⟩
  go_wp2_with fail
  refine bodyPost_ret (v := .tuple #[.agg #[.int .i64 9, .string (strOf o), .string (strOf r)], .bool true]) (by simp [results, Try.f24, go_sem]; try rfl) rfl ⟨by rw [K.out]; rfl, ?_⟩
  go_grown
set_option maxRecDepth 100000 in
set_option maxHeartbeats 1000000 in
theorem next_num_no (m : Nat) (o p : List UInt8) (c : UInt8) (w : World) (hm : m = 9) (hp : p ∈ numC) (hn : (numS p c.toNat).2 = false) (hc : cntB p = false) :
    Calls Try.prog 24 #[sv m o p, .int .u8 c.toNat] w fun x w' => x = .returned (qr (nextS ⟨m, o, p⟩ c)) ∧ Below w.heap.size w w' := by
  subst hm
  have K : Hid (nextS ⟨9, o, p⟩ c = (⟨9, o, p⟩, false)) := by show _ = _; unfold nextS; rw [if_neg (by dsimp only; decide), if_neg (by dsimp only; decide), if_pos rfl, if_neg (by rw [hn]; decide), if_neg (by rw [hc]; decide)]
  have HN := Lib.hid (fun w => number_any p c.toNat w (UInt8.toNat_lt c) hp)
  have HT := Lib.hid (fun w => counts_any p w)
  rw [hn] at HN
  rw [hc] at HT
  generalize (numS p c.toNat).1 = r at *
  unfold sv
  clear hp hn hc
  go_enter Try.func24, Try.ntmps24
  go_wp2_with fail
  refine (HN.out _).mono ?_
  rintro x w2 ⟨rfl, rfl⟩
  go_wp2_with fail
  refine (HT.out _).mono ?_
  rintro x w2 ⟨rfl, rfl⟩
  go_wp2_with fail
  refine bodyPost_ret (v := .tuple #[.agg #[.int .i64 9, .string (strOf o), .string (strOf p)], .bool false]) (by simp [results, Try.f24, go_sem]; try rfl) rfl ⟨by rw [K.out]; rfl, ?_⟩
  go_grown
set_option maxRecDepth 100000 in
set_option maxHeartbeats 1000000 in
theorem next_num_out (m : Nat) (o p : List UInt8) (c : UInt8) (w : World) (hq : Q.fit ⟨m, o, p⟩) (hm : m = 9) (hp : p ∈ numC) (hn : (numS p c.toNat).2 = false) (hc : cntB p = true) :
    Calls Try.prog 24 #[sv m o p, .int .u8 c.toNat] w fun x w' => x = .returned (qr (nextS ⟨m, o, p⟩ c)) ∧ Below w.heap.size w w' := by
  subst hm
  have K : Hid (nextS ⟨9, o, p⟩ c = outS ⟨5, o, []⟩ c) := by show _ = _; unfold nextS; rw [if_neg (by dsimp only; decide), if_neg (by dsimp only; decide), if_pos rfl, if_neg (by rw [hn]; decide), if_pos hc]
  have HN := Lib.hid (fun w => number_any p c.toNat w (UInt8.toNat_lt c) hp)
  have HT := Lib.hid (fun w => counts_any p w)
  have HC := Lib.hid (fun w => outside_any ⟨5, o, []⟩ c w ⟨by dsimp only; decide, hq.2.1, by simp⟩)
  have HD := Lib.hid (fun w => done_any 9 o p w)
  rw [hn] at HN
  rw [hc] at HT
  generalize (numS p c.toNat).1 = r9 at *
  generalize outS ⟨5, o, []⟩ c = r at *
  obtain ⟨⟨x1, x2, x3⟩, y⟩ := r
  have HB := Lib.hid (boxes_new w 9 o p)
  unfold qr Q.v sv at HC
  unfold sv at *
  clear hp hn hc hq
  go_enter Try.func24, Try.ntmps24
  go_wp2_with fail
  refine (HN.out _).mono ?_
  rintro x w2 ⟨rfl, rfl⟩
  go_wp2_with fail
  refine (HT.out _).mono ?_
  rintro x w2 ⟨rfl, rfl⟩
  go_wp2_with fail
  refine (HD.out _).mono ?_
  rintro x w1 ⟨rfl, b1⟩
  go_wp2_with fail
  refine (HC.out _).mono ?_
  rintro x w2 ⟨rfl, b2'⟩
  obtain ⟨hA, hR, hb⟩ := HB.out
  have b2 := b1.trans (b2'.mono b1.size)
  have HR2 := Lib.hid (hR.below' b2)
  have hb2 := hb.trans (b2.mono hb.size)
  obtain ⟨c0, c1, c2, g0, g1, g2⟩ := (hR.below' b2).facts
  clear hA hR hb b2 b2' b1
  go_wp2_with fail
  obtain ⟨s0, s1, s2, _, _, _⟩ := (HR2.out.put ⟨x1, x2, x3⟩).facts
  refine bodyPost_ret (v := .tuple #[.agg #[.int .i64 x1, .string (strOf x2), .string (strOf x3)], .bool y]) (by simp [results, Try.f24, go_sem, s0, s1, s2]) rfl ⟨by rw [K.out]; rfl, ?_⟩
  exact below_put hb2 (by simp) _ _ _
theorem cnext_any (q : Q) (c : UInt8) (w : World) (hq : q.fit) (hn : q.m = 9 → q.p ∈ numC) :
    Calls Try.prog 24 #[q.v, .int .u8 c.toNat] w fun x w' => x = .returned (qr (nextS q c)) ∧ Below w.heap.size w w' := by
  obtain ⟨m, o, p⟩ := q
  by_cases h1 : m = 6 ∨ m = 7
  · exact next_quoted m o p c w hq h1
  by_cases h2 : m = 8
  · cases hw : (wordS (p ++ [c])).2
    · exact next_word_not m o p c w h2 hq.2.2 hw
    · exact next_word_all m o p c w h2 hq.2.2 hw
  by_cases h3 : m = 9
  · cases hw : (numS p c.toNat).2
    · cases hc : cntB p
      · exact next_num_no m o p c w h3 (hn h3) hw hc
      · exact next_num_out m o p c w hq h3 (hn h3) hw hc
    · exact next_num_yes m o p c w h3 (hn h3) hw
  · exact next_out m o p c w hq ⟨h1, h2, h3⟩
end Go.Proofs.Ytmfldffbafamnaa
