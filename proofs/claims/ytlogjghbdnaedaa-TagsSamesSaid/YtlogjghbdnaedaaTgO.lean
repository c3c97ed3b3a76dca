/- Plain: rows of tokens that came in as arguments lie in memory as rows of tokens. -/
import Derived.Test.YtlogjghbdnaedaaTgG
import Derived.WalkKit
import Derived.ProofKit
import Derived.OpenShut
import Derived.ChangeOld
import Derived.Lib.SmallJoins
import Derived.SizedLaws
namespace Go.Proofs.Ytlogjghbdnaedaa
open Go.ChangeShapes Go.WideShapes Go.ChangeAt Go.RowKit
set_option linter.unusedVariables false
set_option linter.unusedSimpArgs false
set_option linter.constructorNameAsVariable false
theorem cell_addrT {w : World} {a : Addr} {v : Value} (h : w.cell? a = some v) : a.block < w.heap.size ∧ a = ⟨a.block, a.off, none⟩ := by
  obtain ⟨b, off, spot⟩ := a
  unfold World.cell? at h
  dsimp only at h
  cases hb : w.heap[b]? with
  | none => rw [hb] at h; cases h
  | some o =>
    have hl := (Array.getElem?_eq_some_iff.1 hb).1
    refine ⟨hl, ?_⟩
    rw [hb] at h
    cases spot with
    | none => rfl
    | some s => cases o <;> simp at h
theorem listT4 {α : Type} {l : List α} (h : l.length = 4) : ∃ a b c d, l = [a, b, c, d] := by
  match l, h with
  | [a, b, c, d], _ => exact ⟨a, b, c, d, rfl⟩
theorem listT6 {α : Type} {l : List α} (h : l.length = 6) : ∃ a b c d e f, l = [a, b, c, d, e, f] := by
  match l, h with
  | [a, b, c, d, e, f], _ => exact ⟨a, b, c, d, e, f, rfl⟩
/-- Rows whose elements take k cells each. -/
theorem row_of {w : World} {k len cap : Nat} (hk : 0 < k) {a : Addr} (f : Nat → List Value) (hl : ∀ i, (f i).length = k)
    (hc : ∀ i, i < len → ∀ m u, (f i)[m]? = some u → w.cell? ((a.add (i * k)).add m) = some u) :
    RowG w (fun _ => True) (.slice (some a) len cap) len ((List.range len).flatMap f) := by
  rcases Nat.eq_zero_or_pos len with h0 | h0
  · subst h0
    exact .inl ⟨_, _, rfl, rfl, rfl⟩
  · have hz : 0 < (f 0).length := by rw [hl]; exact hk
    have h1 := hc 0 h0 0 _ (List.getElem?_eq_getElem hz)
    rw [Nat.zero_mul, show a.add 0 = a from if_pos rfl, show a.add 0 = a from if_pos rfl] at h1
    obtain ⟨hb, ha⟩ := cell_addrT h1
    generalize a.block = g at *
    generalize a.off = o at *
    subst ha
    refine .inr ⟨g, o, cap, rfl, trivial, hb, ?_⟩
    have hrow : ∀ m, m ≤ len → ((List.range m).flatMap f).length = m * k ∧ ∀ j u, ((List.range m).flatMap f)[j]? = some u → w.cell? ⟨g, o + j, none⟩ = some u := by
      intro m
      induction m with
      | zero => intro _; exact ⟨by simp, fun j u hu => by simp at hu⟩
      | succ m ihm =>
        intro hml
        obtain ⟨i1, i2⟩ := ihm (by omega)
        rw [List.range_succ, List.flatMap_append]
        simp only [List.flatMap_cons, List.flatMap_nil, List.append_nil]
        refine ⟨by rw [List.length_append, i1, hl, Nat.succ_mul], fun j u hu => ?_⟩
        rcases Nat.lt_or_ge j (m * k) with hj | hj
        · rw [List.getElem?_append_left (by omega)] at hu
          exact i2 j u hu
        · rw [List.getElem?_append_right (by omega), i1] at hu
          have h3 := hc m (by omega) _ u hu
          rw [Addr.add_lit, Addr.add_lit] at h3
          rw [show o + j = o + m * k + (j - m * k) by omega]
          exact h3
    exact (hrow len (Nat.le_refl _)).2
section
variable {H : Type} {enc : TypeId × Value → H} {w : World}
theorem list4_at {a b c d u : Value} {m : Nat} {P : Nat → Value → Prop} (h : [a, b, c, d][m]? = some u) (h0 : P 0 a) (h1 : P 1 b) (h2 : P 2 c) (h3 : P 3 d) : P m u := by
  match m, h with
  | 0, h => cases h; exact h0
  | 1, h => cases h; exact h1
  | 2, h => cases h; exact h2
  | 3, h => cases h; exact h3
  | m + 4, h => simp at h
theorem list6_at {a b c d e f u : Value} {m : Nat} {P : Nat → Value → Prop} (h : [a, b, c, d, e, f][m]? = some u) (h0 : P 0 a) (h1 : P 1 b) (h2 : P 2 c) (h3 : P 3 d) (h4 : P 4 e) (h5 : P 5 f) : P m u := by
  match m, h with
  | 0, h => cases h; exact h0
  | 1, h => cases h; exact h1
  | 2, h => cases h; exact h2
  | 3, h => cases h; exact h3
  | 4, h => cases h; exact h4
  | 5, h => cases h; exact h5
  | m + 6, h => simp at h
theorem bytesAR : Try.prog.bytesOf 58 = 48 := by kernel_rfl
theorem weights_mem_all {P : Program} {e : TypeId} : ∀ {ds : List (DataW H)} {d : DataW H}, d ∈ ds → ∀ n ∈ d.weights P e, n ∈ DataW.weightsAll P e ds
  | d0 :: ds, d, hd, n, hn => by
    simp only [DataW.weightsAll, List.mem_append]
    rcases List.mem_cons.1 hd with rfl | h
    · exact .inl hn
    · exact .inr (weights_mem_all h n hn)
  | [], _, hd, _, _ => by simp at hd
set_option maxRecDepth 100000 in
theorem att_arg (fuel : Nat) (cs : List Value) (x : DataW H × List MemPlace) (h : DataW.trod enc Try.prog w 0 (fun _ => true) true fuel 58 cs = some x) :
    ∃ (a : Att) (p q : Value), cs = [.string (strOf a.name), .string (strOf a.val), p, q] ∧ PlG false a.frm a.to p q := by
  obtain ⟨xs, n, hfu, _, hcl, hxl, hf⟩ := DataW.trod_struct Try.underlying58 h
  have hC : Try.prog.cellsOf 58 = 4 := by kernel_rfl
  have hC1 : Try.prog.cellsOf 9 = 1 := by kernel_rfl
  have hC2 : Try.prog.cellsOf 3 = 1 := by kernel_rfl
  rw [hC] at hcl
  obtain ⟨c0, c1, c2, c3, rfl⟩ := listT4 hcl
  obtain ⟨y0, y1, y2, y3, rfl⟩ := listT4 (show xs.length = 4 from hxl)
  have g0 : DataW.trod enc Try.prog w 0 (fun _ => true) true n 9 ((List.drop 0 [c0, c1, c2, c3]).take (Try.prog.cellsOf 9)) = some y0 := hf 0 _ rfl
  have g1 : DataW.trod enc Try.prog w 0 (fun _ => true) true n 9 ((List.drop 1 [c0, c1, c2, c3]).take (Try.prog.cellsOf 9)) = some y1 := hf 1 _ rfl
  have g2 : DataW.trod enc Try.prog w 0 (fun _ => true) true n 3 ((List.drop 2 [c0, c1, c2, c3]).take (Try.prog.cellsOf 3)) = some y2 := hf 2 _ rfl
  have g3 : DataW.trod enc Try.prog w 0 (fun _ => true) true n 3 ((List.drop 3 [c0, c1, c2, c3]).take (Try.prog.cellsOf 3)) = some y3 := hf 3 _ rfl
  rw [hC1] at g0 g1
  rw [hC2] at g2 g3
  obtain ⟨s0, e0, _, _⟩ := DataW.trod_string Try.underlying9 g0
  obtain ⟨s1, e1, _, _⟩ := DataW.trod_string Try.underlying9 g1
  obtain ⟨k2, e2, _, _⟩ := DataW.trod_int Try.underlying3 g2
  obtain ⟨k3, e3, _, _⟩ := DataW.trod_int Try.underlying3 g3
  obtain rfl : c0 = .string s0 := by simpa using e0
  obtain rfl : c1 = .string s1 := by simpa using e1
  obtain rfl : c2 = .int .i64 k2 := by simpa using e2
  obtain rfl : c3 = .int .i64 k3 := by simpa using e3
  refine ⟨⟨s0.data.toList, s1.data.toList, 0, 0⟩, _, _, ?_, ⟨k2, k3, rfl, rfl, fun h => by cases h⟩⟩
  rw [strOf_data, strOf_data]
set_option maxRecDepth 100000 in
theorem atts_arg {fuel : Nat} {c : Value} {x : DataW H × List MemPlace} (h : DataW.trod enc Try.prog w 0 (fun _ => true) true fuel 32 [c] = some x) :
    ∃ (az : List Att) (cs : List Value), RowG w (fun _ => True) c az.length cs ∧ AttsC false az cs ∧ ∀ W, (∀ n ∈ x.1.weights Try.prog 32, n ≤ W) → az.length * 48 ≤ W := by
  have hC : Try.prog.cellsOf 58 = 4 := by kernel_rfl
  rcases DataW.trod_slice Try.underlying32 h with ⟨hc, _⟩ | ⟨a, len, cap, elems, rest, n2, hn2, hc, hx, _, hl, hm, hlen, hel, _, _⟩
  · cases hc
    exact ⟨[], [], .inl ⟨_, _, rfl, rfl, rfl⟩, rfl, fun W _ => by simp⟩
  · cases hc
    have key : ∀ i, ∃ p : Att × Value × Value, PlG false p.1.frm p.1.to p.2.1 p.2.2 ∧ (i < len → ∀ m u, [Value.string (strOf p.1.name), .string (strOf p.1.val), p.2.1, p.2.2][m]? = some u → w.cell? ((a.add (i * 4)).add m) = some u) := by
      intro i
      by_cases hi : i < len
      · have h1 := hel i hi
        rw [hC, List.getElem?_eq_getElem (by omega)] at h1
        obtain ⟨cs', h2, h3⟩ := Option.bind_eq_some_iff.1 h1
        obtain ⟨_, h4, h5⟩ := World.cells?_some h2
        obtain ⟨t, p, q, hcs, hp⟩ := att_arg n2 cs' _ h3
        subst hcs
        refine ⟨(t, p, q), hp, fun _ m u hu => ?_⟩
        exact list4_at (P := fun m u => w.cell? ((a.add (i * 4)).add m) = some u) hu (h5 0 (by omega)) (h5 1 (by omega)) (h5 2 (by omega)) (h5 3 (by omega))
      · exact ⟨(⟨[], [], 0, 0⟩, .int .i64 0, .int .i64 0), ⟨0, 0, rfl, rfl, fun h => by cases h⟩, fun h => absurd h hi⟩
    obtain ⟨f, hf2⟩ := Classical.skolem.1 key
    have atts : ∀ m, AttsC false ((List.range m).map fun i => (f i).1) ((List.range m).flatMap fun i => [Value.string (strOf (f i).1.name), .string (strOf (f i).1.val), (f i).2.1, (f i).2.2]) := by
      intro m
      induction m with
      | zero => rfl
      | succ m ihm =>
        rw [List.range_succ, List.map_append, List.flatMap_append]
        have := AttsC.snoc (hf2 m).1 _ _ ihm
        simpa using this
    refine ⟨_, _, ?_, atts len, fun W hW => ?_⟩
    rotate_left
    · rw [List.length_map, List.length_range]
      have h := hW ((elems.length + rest.length) * 48) (by rw [hx]; simp [DataW.weights, Try.underlying32, bytesAR])
      omega
    rw [List.length_map, List.length_range]
    exact row_of (by omega) _ (fun _ => rfl) fun i hi m u hu => (hf2 i).2 hi m u hu
set_option maxRecDepth 100000 in
theorem tg_arg (fuel : Nat) (cs : List Value) (x : DataW H × List MemPlace) (h : DataW.trod enc Try.prog w 0 (fun _ => true) true fuel 34 cs = some x) :
    ∃ (t : Tg) (a b c d e f : Value), cs = [a, b, c, d, e, f] ∧ TgV w (fun _ => True) false t (.agg #[a, b, c, d, e, f]) ∧ t.kind < 256 ∧ ∀ W, (∀ n ∈ x.1.weights Try.prog 34, n ≤ W) → t.atts.length * 48 ≤ W := by
  obtain ⟨xs, n, hfu, hx, hcl, hxl, hf⟩ := DataW.trod_struct Try.underlying34 h
  have hC : Try.prog.cellsOf 34 = 6 := by kernel_rfl
  have hC1 : Try.prog.cellsOf 9 = 1 := by kernel_rfl
  have hC2 : Try.prog.cellsOf 3 = 1 := by kernel_rfl
  have hC3 : Try.prog.cellsOf 5 = 1 := by kernel_rfl
  have hC4 : Try.prog.cellsOf 32 = 1 := by kernel_rfl
  rw [hC] at hcl
  obtain ⟨c0, c1, c2, c3, c4, c5, rfl⟩ := listT6 hcl
  obtain ⟨y0, y1, y2, y3, y4, y5, rfl⟩ := listT6 (show xs.length = 6 from hxl)
  have g0 : DataW.trod enc Try.prog w 0 (fun _ => true) true n 5 ((List.drop 0 [c0, c1, c2, c3, c4, c5]).take (Try.prog.cellsOf 5)) = some y0 := hf 0 _ rfl
  have g1 : DataW.trod enc Try.prog w 0 (fun _ => true) true n 9 ((List.drop 1 [c0, c1, c2, c3, c4, c5]).take (Try.prog.cellsOf 9)) = some y1 := hf 1 _ rfl
  have g2 : DataW.trod enc Try.prog w 0 (fun _ => true) true n 9 ((List.drop 2 [c0, c1, c2, c3, c4, c5]).take (Try.prog.cellsOf 9)) = some y2 := hf 2 _ rfl
  have g3 : DataW.trod enc Try.prog w 0 (fun _ => true) true n 32 ((List.drop 3 [c0, c1, c2, c3, c4, c5]).take (Try.prog.cellsOf 32)) = some y3 := hf 3 _ rfl
  have g4 : DataW.trod enc Try.prog w 0 (fun _ => true) true n 3 ((List.drop 4 [c0, c1, c2, c3, c4, c5]).take (Try.prog.cellsOf 3)) = some y4 := hf 4 _ rfl
  have g5 : DataW.trod enc Try.prog w 0 (fun _ => true) true n 3 ((List.drop 5 [c0, c1, c2, c3, c4, c5]).take (Try.prog.cellsOf 3)) = some y5 := hf 5 _ rfl
  rw [hC3] at g0
  rw [hC1] at g1 g2
  rw [hC4] at g3
  rw [hC2] at g4 g5
  obtain ⟨k, e0, _, hk⟩ := DataW.trod_int Try.underlying5 g0
  obtain ⟨s1, e1, _, _⟩ := DataW.trod_string Try.underlying9 g1
  obtain ⟨s2, e2, _, _⟩ := DataW.trod_string Try.underlying9 g2
  obtain ⟨az, ds, hr, hd, hwt⟩ := atts_arg g3
  obtain ⟨k4, e4, _, _⟩ := DataW.trod_int Try.underlying3 g4
  obtain ⟨k5, e5, _, _⟩ := DataW.trod_int Try.underlying3 g5
  have hb := bounds_u8 hk
  obtain ⟨q, rfl⟩ : ∃ q : Nat, k = q := ⟨k.toNat, by omega⟩
  obtain rfl : c0 = .int .u8 q := by simpa using e0
  obtain rfl : c1 = .string s1 := by simpa using e1
  obtain rfl : c2 = .string s2 := by simpa using e2
  obtain rfl : c4 = .int .i64 k4 := by simpa using e4
  obtain rfl : c5 = .int .i64 k5 := by simpa using e5
  refine ⟨⟨q, s1.data.toList, s2.data.toList, az, 0, 0⟩, _, _, _, _, _, _, rfl, ⟨c3, .int .i64 k4, .int .i64 k5, ds, ?_, ⟨k4, k5, rfl, rfl, fun h => by cases h⟩, hr, hd⟩, by dsimp only; omega, fun W hW => hwt W fun m hm => hW m ?_⟩
  · rw [strOf_data, strOf_data]
  · rw [hx]
    simp only [DataW.weights, Try.underlying34]
    exact DataW.weights_mem_each (j := 3) (t := 32) rfl rfl m hm
set_option maxRecDepth 100000 in
theorem tgs_arg {fuel : Nat} {c : Value} {x : DataW H × List MemPlace} (h : DataW.trod enc Try.prog w 0 (fun _ => true) true fuel 27 [c] = some x) :
    ∃ ts : List Tg, TgsV w (fun _ => True) false ts c ∧ (∀ t ∈ ts, t.kind < 256) ∧ (∃ a len cap, c = .slice a len cap ∧ len ≤ cap ∧ cap ≤ maxLen ∧ ts.length = len) ∧ ∀ W, (∀ n ∈ x.1.weights Try.prog 27, n ≤ W) → ∀ t ∈ ts, t.atts.length * 48 ≤ W := by
  have hC : Try.prog.cellsOf 34 = 6 := by kernel_rfl
  rcases DataW.trod_slice Try.underlying27 h with ⟨hc, _⟩ | ⟨a, len, cap, elems, rest, n2, hn2, hc, hx, _, hl, hm, hlen, hel, _, _⟩
  · cases hc
    exact ⟨[], ⟨[], .inl ⟨_, _, rfl, rfl, rfl⟩, rfl⟩, fun t h => by simp at h, ⟨_, _, _, rfl, Nat.le_refl _, by unfold maxLen; omega, rfl⟩, fun W _ t h => by simp at h⟩
  · cases hc
    have key : ∀ i, ∃ p : Tg × Value × Value × Value × Value × Value × Value, i < len → (TgV w (fun _ => True) false p.1 (.agg #[p.2.1, p.2.2.1, p.2.2.2.1, p.2.2.2.2.1, p.2.2.2.2.2.1, p.2.2.2.2.2.2]) ∧ p.1.kind < 256 ∧ ∀ W, (∀ n ∈ x.1.weights Try.prog 27, n ≤ W) → p.1.atts.length * 48 ≤ W) ∧
        ∀ m u, [p.2.1, p.2.2.1, p.2.2.2.1, p.2.2.2.2.1, p.2.2.2.2.2.1, p.2.2.2.2.2.2][m]? = some u → w.cell? ((a.add (i * 6)).add m) = some u := by
      intro i
      by_cases hi : i < len
      · have h1 := hel i hi
        rw [hC, List.getElem?_eq_getElem (by omega)] at h1
        obtain ⟨cs', h2, h3⟩ := Option.bind_eq_some_iff.1 h1
        obtain ⟨_, h4, h5⟩ := World.cells?_some h2
        obtain ⟨t, x0, x1, x2, x3, x4, x5, hcs, hp, hkk, hwt⟩ := tg_arg n2 cs' _ h3
        subst hcs
        refine ⟨(t, x0, x1, x2, x3, x4, x5), fun _ => ⟨⟨hp, hkk, fun W hW => hwt W fun m hm => hW m ?_⟩, fun m u hu => ?_⟩⟩
        · rw [hx]
          simp only [DataW.weights, Try.underlying27]
          refine List.mem_cons_of_mem _ (List.mem_append_left _ (weights_mem_all (List.mem_map_of_mem (List.getElem_mem (by omega))) m hm))
        exact list6_at (P := fun m u => w.cell? ((a.add (i * 6)).add m) = some u) hu (h5 0 (by omega)) (h5 1 (by omega)) (h5 2 (by omega)) (h5 3 (by omega)) (h5 4 (by omega)) (h5 5 (by omega))
      · exact ⟨(⟨0, [], [], [], 0, 0⟩, .bool true, .bool true, .bool true, .bool true, .bool true, .bool true), fun h => absurd h hi⟩
    obtain ⟨f, hf2⟩ := Classical.skolem.1 key
    have toks : ∀ m, m ≤ len → TgsC w (fun _ => True) false ((List.range m).map fun i => (f i).1) ((List.range m).flatMap fun i => [(f i).2.1, (f i).2.2.1, (f i).2.2.2.1, (f i).2.2.2.2.1, (f i).2.2.2.2.2.1, (f i).2.2.2.2.2.2]) := by
      intro m
      induction m with
      | zero => intro _; rfl
      | succ m ihm =>
        intro hml
        rw [List.range_succ, List.map_append, List.flatMap_append]
        have := TgsC.snoc (hf2 m (by omega)).1.1 _ _ (ihm (by omega))
        simpa using this
    refine ⟨(List.range len).map fun i => (f i).1, ⟨_, ?_, toks len (Nat.le_refl _)⟩, ?_, ⟨_, _, _, rfl, hl, hm, by simp⟩, ?_⟩
    · rw [List.length_map, List.length_range]
      exact row_of (by omega) _ (fun _ => rfl) fun i hi m u hu => (hf2 i hi).2 m u hu
    · intro t ht
      obtain ⟨i, hi, rfl⟩ := List.mem_map.1 ht
      exact (hf2 i (List.mem_range.1 hi)).1.2.1
    · intro W hW t ht
      obtain ⟨i, hi, rfl⟩ := List.mem_map.1 ht
      exact (hf2 i (List.mem_range.1 hi)).1.2.2 W hW
/-- An argument that is a row of tokens. -/
theorem tgs_arg0 {a : Option Addr} {len cap : Nat} {d : DataW H} {p : List MemPlace} (h : DataW.Trod enc Try.prog w 0 (fun _ => true) true 27 (.slice a len cap) d p) :
    ∃ ts : List Tg, TgsV w (fun _ => True) false ts (.slice a len cap) ∧ len ≤ cap ∧ cap ≤ maxLen ∧ ts.length = len ∧ ∀ W, (∀ n ∈ d.weights Try.prog 27, n ≤ W) → ∀ t ∈ ts, t.atts.length * 48 ≤ W := by
  obtain ⟨fuel, hf⟩ := h
  obtain ⟨ts, h1, _, ⟨a', l', c', he, h2, h3, h4⟩, h5⟩ := tgs_arg hf
  simp only [Value.slice.injEq] at he
  obtain ⟨_, rfl, rfl⟩ := he
  exact ⟨ts, h1, h2, h3, h4, h5⟩
end
end Go.Proofs.Ytlogjghbdnaedaa
