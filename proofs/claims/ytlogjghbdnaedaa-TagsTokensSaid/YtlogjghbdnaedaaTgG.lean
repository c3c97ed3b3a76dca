/- A page's tokens in memory: rows that may begin anywhere in their block. -/
import Derived.Test.YtlogjghbdnaedaaRow
import Derived.Test.YtlogjghbdnaedaaTgP
namespace Go.Proofs.Ytlogjghbdnaedaa
open Go.RowKit
set_option linter.unusedVariables false
set_option linter.unusedSimpArgs false
/-- A row: nil, or cells of a block that 'ok' allows. -/
def RowG (w : World) (ok : Nat → Prop) (v : Value) (n : Nat) (xs : List Value) : Prop :=
  (∃ ao cap, v = .slice ao 0 cap ∧ n = 0 ∧ xs = []) ∨ ∃ g o cap, v = .slice (some ⟨g, o, none⟩) n cap ∧ ok g ∧ g < w.heap.size ∧ ∀ m u, xs[m]? = some u → w.cell? ⟨g, o + m, none⟩ = some u
theorem RowG.mono {w w' : World} {ok ok' : Nat → Prop} (hh : ∀ g, ok g → g < w.heap.size → ok' g ∧ g < w'.heap.size ∧ w'.heap[g]? = w.heap[g]?) {v : Value} {n : Nat} {xs : List Value} (h : RowG w ok v n xs) : RowG w' ok' v n xs := by
  rcases h with h | ⟨g, o, cap, hv, hg, hl, hc⟩
  · exact .inl h
  · obtain ⟨h1, h2, h3⟩ := hh g hg hl
    exact .inr ⟨g, o, cap, hv, h1, h2, fun m u hu => (World.cell?_of_block (w := w) (a := ⟨g, o + m, none⟩) h3).trans (hc m u hu)⟩
theorem RowG.own {w : World} {base : Nat} {e : TypeId} {size n : Nat} {v : Value} {xs : List Value} {ok : Nat → Prop} (h : w.ownsRow base e size v n xs) (hok : ∀ g, v.ownBlock = some g → base ≤ g → ok g) : RowG w ok v n xs := by
  rcases h.2 with ⟨rfl, h0⟩ | ⟨g, cap, cur, rfl, hb, hh, r1, r2, r3, r4⟩
  · exact .inl ⟨_, _, rfl, h0, List.length_eq_zero_iff.1 (by rw [h.1, h0, Nat.zero_mul])⟩
  · refine .inr ⟨g, 0, cap, rfl, hok g rfl hb, (Array.getElem?_eq_some_iff.1 hh).1, fun m u hu => ?_⟩
    have h3 : (⟨g, 0, none⟩ : Addr).add m = ⟨g, 0 + m, none⟩ := by rw [Addr.add_lit]
    rw [← h3]
    exact h.cells (g := g) rfl m u hu
theorem rowG_len {w : World} {ok : Nat → Prop} {v : Value} {n : Nat} {xs : List Value} (h : RowG w ok v n xs) : ∃ o c, v = .slice o n c := by
  rcases h with ⟨_, _, hv, h0, _⟩ | ⟨g, o, cap, hv, _⟩
  · exact ⟨_, _, by rw [hv, h0]⟩
  · exact ⟨_, _, hv⟩
/-- Where a pair of places stands; with 'pl' it is the ones that are meant. -/
def PlG (pl : Bool) (f t : Nat) (a b : Value) : Prop := ∃ x y : Int, a = .int .i64 x ∧ b = .int .i64 y ∧ (pl = true → x = f ∧ y = t)
theorem PlG.exact_ {pl : Bool} {f t : Nat} : PlG pl f t (.int .i64 f) (.int .i64 t) := ⟨_, _, rfl, rfl, fun _ => ⟨rfl, rfl⟩⟩
theorem PlG.weak {pl : Bool} {f t : Nat} {a b : Value} (h : PlG pl f t a b) : PlG false f t a b := by
  obtain ⟨x, y, h1, h2, _⟩ := h
  exact ⟨x, y, h1, h2, fun h => by cases h⟩
def AttsC (pl : Bool) : List Att → List Value → Prop
  | [], cs => cs = []
  | a :: az, cs => ∃ f t rest, cs = .string (strOf a.name) :: .string (strOf a.val) :: f :: t :: rest ∧ PlG pl a.frm a.to f t ∧ AttsC pl az rest
theorem AttsC.length {pl : Bool} : ∀ (az : List Att) (cs : List Value), AttsC pl az cs → cs.length = az.length * 4
  | [], cs, h => by unfold AttsC at h; subst h; rfl
  | a :: az, cs, h => by
    obtain ⟨f, t, rest, rfl, _, h2⟩ := h
    have := AttsC.length az rest h2
    simp only [List.length_cons]; omega
theorem AttsC.at {pl : Bool} : ∀ (az : List Att) (cs : List Value) (j : Nat) (a : Att), AttsC pl az cs → az[j]? = some a →
    ∃ f t, cs[j * 4]? = some (.string (strOf a.name)) ∧ cs[j * 4 + 1]? = some (.string (strOf a.val)) ∧ cs[j * 4 + 2]? = some f ∧ cs[j * 4 + 3]? = some t ∧ PlG pl a.frm a.to f t
  | [], cs, j, a, _, ha => by simp at ha
  | b :: az, cs, 0, a, h, ha => by
    obtain ⟨f, t, rest, rfl, h1, h2⟩ := h
    simp only [List.getElem?_cons_zero, Option.some.injEq] at ha
    subst ha
    exact ⟨f, t, rfl, rfl, rfl, rfl, h1⟩
  | b :: az, cs, j + 1, a, h, ha => by
    obtain ⟨f, t, rest, rfl, h1, h2⟩ := h
    obtain ⟨f', t', k1, k2, k3, k4, k5⟩ := AttsC.at az rest j a h2 (by simpa using ha)
    refine ⟨f', t', ?_, ?_, ?_, ?_, k5⟩
    · rw [show (j + 1) * 4 = j * 4 + 4 by omega]; exact k1
    · rw [show (j + 1) * 4 + 1 = (j * 4 + 1) + 4 by omega]; exact k2
    · rw [show (j + 1) * 4 + 2 = (j * 4 + 2) + 4 by omega]; exact k3
    · rw [show (j + 1) * 4 + 3 = (j * 4 + 3) + 4 by omega]; exact k4
theorem AttsC.snoc {pl : Bool} {a : Att} {f t : Value} (hp : PlG pl a.frm a.to f t) : ∀ (az : List Att) (cs : List Value), AttsC pl az cs → AttsC pl (az ++ [a]) (cs ++ [.string (strOf a.name), .string (strOf a.val), f, t])
  | [], cs, h => by
    unfold AttsC at h
    subst h
    exact ⟨f, t, [], rfl, hp, rfl⟩
  | b :: az, cs, h => by
    obtain ⟨f', t', rest, rfl, h1, h2⟩ := h
    exact ⟨f', t', _, rfl, h1, AttsC.snoc hp az rest h2⟩
theorem AttsC.weak {pl : Bool} : ∀ (az : List Att) (cs : List Value), AttsC pl az cs → AttsC false az cs
  | [], cs, h => h
  | b :: az, cs, h => by
    obtain ⟨f', t', rest, rfl, h1, h2⟩ := h
    exact ⟨f', t', _, rfl, h1.weak, AttsC.weak az rest h2⟩
/-- A token in memory. -/
def TgV (w : World) (ok : Nat → Prop) (pl : Bool) (t : Tg) (v : Value) : Prop :=
  ∃ av f g cs, v = .agg #[.int .u8 t.kind, .string (strOf t.name), .string (strOf t.text), av, f, g] ∧ PlG pl t.frm t.to f g ∧ RowG w ok av t.atts.length cs ∧ AttsC pl t.atts cs
def TgsC (w : World) (ok : Nat → Prop) (pl : Bool) : List Tg → List Value → Prop
  | [], cs => cs = []
  | t :: ts, cs => ∃ a b c d e f rest, cs = a :: b :: c :: d :: e :: f :: rest ∧ TgV w ok pl t (.agg #[a, b, c, d, e, f]) ∧ TgsC w ok pl ts rest
theorem TgV.mono {w w' : World} {ok ok' : Nat → Prop} {pl : Bool} (hh : ∀ g, ok g → g < w.heap.size → ok' g ∧ g < w'.heap.size ∧ w'.heap[g]? = w.heap[g]?) {t : Tg} {v : Value} (h : TgV w ok pl t v) : TgV w' ok' pl t v := by
  obtain ⟨av, f, g, cs, hv, h1, h2, h3⟩ := h
  exact ⟨av, f, g, cs, hv, h1, h2.mono hh, h3⟩
theorem TgV.weak {w : World} {ok : Nat → Prop} {pl : Bool} {t : Tg} {v : Value} (h : TgV w ok pl t v) : TgV w ok false t v := by
  obtain ⟨av, f, g, cs, hv, h1, h2, h3⟩ := h
  exact ⟨av, f, g, cs, hv, h1.weak, h2, h3.weak⟩
theorem TgsC.mono {w w' : World} {ok ok' : Nat → Prop} {pl : Bool} (hh : ∀ g, ok g → g < w.heap.size → ok' g ∧ g < w'.heap.size ∧ w'.heap[g]? = w.heap[g]?) : ∀ (ts : List Tg) (cs : List Value), TgsC w ok pl ts cs → TgsC w' ok' pl ts cs
  | [], cs, h => h
  | t :: ts, cs, h => by
    obtain ⟨a, b, c, d, e, f, rest, hc, h1, h2⟩ := h
    exact ⟨a, b, c, d, e, f, rest, hc, h1.mono hh, TgsC.mono hh ts rest h2⟩
theorem TgsC.weak {w : World} {ok : Nat → Prop} {pl : Bool} : ∀ (ts : List Tg) (cs : List Value), TgsC w ok pl ts cs → TgsC w ok false ts cs
  | [], cs, h => h
  | t :: ts, cs, h => by
    obtain ⟨a, b, c, d, e, f, rest, hc, h1, h2⟩ := h
    exact ⟨a, b, c, d, e, f, rest, hc, h1.weak, TgsC.weak ts rest h2⟩
theorem TgsC.snoc {w : World} {ok : Nat → Prop} {pl : Bool} {t : Tg} {a b c d e f : Value} (hn : TgV w ok pl t (.agg #[a, b, c, d, e, f])) : ∀ (ts : List Tg) (cs : List Value), TgsC w ok pl ts cs → TgsC w ok pl (ts ++ [t]) (cs ++ [a, b, c, d, e, f])
  | [], cs, h => by
    unfold TgsC at h
    subst h
    exact ⟨a, b, c, d, e, f, [], rfl, hn, rfl⟩
  | u :: ts, cs, h => by
    obtain ⟨a', b', c', d', e', f', rest, rfl, h1, h2⟩ := h
    exact ⟨a', b', c', d', e', f', _, rfl, h1, TgsC.snoc hn ts rest h2⟩
theorem TgsC.length {w : World} {ok : Nat → Prop} {pl : Bool} : ∀ (ts : List Tg) (cs : List Value), TgsC w ok pl ts cs → cs.length = ts.length * 6
  | [], cs, h => by unfold TgsC at h; subst h; rfl
  | t :: ts, cs, h => by
    obtain ⟨a, b, c, d, e, f, rest, rfl, h1, h2⟩ := h
    have := TgsC.length ts rest h2
    simp only [List.length_cons]; omega
theorem TgsC.at {w : World} {ok : Nat → Prop} {pl : Bool} : ∀ (ts : List Tg) (cs : List Value) (j : Nat) (t : Tg), TgsC w ok pl ts cs → ts[j]? = some t →
    ∃ a b c d e f, cs[j * 6]? = some a ∧ cs[j * 6 + 1]? = some b ∧ cs[j * 6 + 2]? = some c ∧ cs[j * 6 + 3]? = some d ∧ cs[j * 6 + 4]? = some e ∧ cs[j * 6 + 5]? = some f ∧ TgV w ok pl t (.agg #[a, b, c, d, e, f])
  | [], cs, j, t, _, ht => by simp at ht
  | u :: ts, cs, 0, t, h, ht => by
    obtain ⟨a, b, c, d, e, f, rest, rfl, h1, h2⟩ := h
    simp only [List.getElem?_cons_zero, Option.some.injEq] at ht
    subst ht
    exact ⟨a, b, c, d, e, f, rfl, rfl, rfl, rfl, rfl, rfl, h1⟩
  | u :: ts, cs, j + 1, t, h, ht => by
    obtain ⟨a, b, c, d, e, f, rest, rfl, h1, h2⟩ := h
    obtain ⟨a', b', c', d', e', f', k1, k2, k3, k4, k5, k6, k7⟩ := TgsC.at ts rest j t h2 (by simpa using ht)
    refine ⟨a', b', c', d', e', f', ?_, ?_, ?_, ?_, ?_, ?_, k7⟩
    · rw [show (j + 1) * 6 = j * 6 + 6 by omega]; exact k1
    · rw [show (j + 1) * 6 + 1 = (j * 6 + 1) + 6 by omega]; exact k2
    · rw [show (j + 1) * 6 + 2 = (j * 6 + 2) + 6 by omega]; exact k3
    · rw [show (j + 1) * 6 + 3 = (j * 6 + 3) + 6 by omega]; exact k4
    · rw [show (j + 1) * 6 + 4 = (j * 6 + 4) + 6 by omega]; exact k5
    · rw [show (j + 1) * 6 + 5 = (j * 6 + 5) + 6 by omega]; exact k6
/-- A row of tokens in memory. -/
def TgsV (w : World) (ok : Nat → Prop) (pl : Bool) (ts : List Tg) (v : Value) : Prop := ∃ cs, RowG w ok v ts.length cs ∧ TgsC w ok pl ts cs
theorem TgsV.mono {w w' : World} {ok ok' : Nat → Prop} {pl : Bool} (hh : ∀ g, ok g → g < w.heap.size → ok' g ∧ g < w'.heap.size ∧ w'.heap[g]? = w.heap[g]?) {ts : List Tg} {v : Value} (h : TgsV w ok pl ts v) : TgsV w' ok' pl ts v := by
  obtain ⟨cs, h1, h2⟩ := h
  exact ⟨cs, h1.mono hh, h2.mono hh⟩
theorem TgsV.weak {w : World} {ok : Nat → Prop} {pl : Bool} {ts : List Tg} {v : Value} (h : TgsV w ok pl ts v) : TgsV w ok false ts v := by
  obtain ⟨cs, h1, h2⟩ := h
  exact ⟨cs, h1, h2.weak⟩
theorem tgsV_below {w w' : World} {ok : Nat → Prop} {pl : Bool} {ts : List Tg} {v : Value} (h : TgsV w ok pl ts v) (hb : Below w.heap.size w w') : TgsV w' ok pl ts v :=
  h.mono fun g hg hl => ⟨hg, Nat.lt_of_lt_of_le hl hb.size, hb.block g hl⟩
theorem tgV_below {w w' : World} {ok : Nat → Prop} {pl : Bool} {t : Tg} {v : Value} (h : TgV w ok pl t v) (hb : Below w.heap.size w w') : TgV w' ok pl t v :=
  h.mono fun g hg hl => ⟨hg, Nat.lt_of_lt_of_le hl hb.size, hb.block g hl⟩
theorem tgsV_drew {w : World} {ok : Nat → Prop} {pl : Bool} {ts : List Tg} {v : Value} (h : TgsV w ok pl ts v) : TgsV w.drew ok pl ts v :=
  TgsV.mono (w := w) (w' := w.drew) (fun g hg hl => ⟨hg, hl, rfl⟩) h
theorem tgV_drew {w : World} {ok : Nat → Prop} {pl : Bool} {t : Tg} {v : Value} (h : TgV w ok pl t v) : TgV w.drew ok pl t v :=
  TgV.mono (w := w) (w' := w.drew) (fun g hg hl => ⟨hg, hl, rfl⟩) h
/-- A token of a row: its six cells, in any later world. -/
theorem tg_at {w wr : World} {ok : Nat → Prop} {pl : Bool} {v : Value} {ts : List Tg} (h : TgsV w ok pl ts v) {j : Nat} {t : Tg} (ht : ts[j]? = some t) (hb : Below w.heap.size w wr) :
    ∃ (g o cap : Nat) (d e f : Value), v = .slice (some ⟨g, o, none⟩) ts.length cap ∧ g < w.heap.size ∧ wr.cell? ⟨g, o + j * 6, none⟩ = some (.int .u8 t.kind) ∧ wr.cell? ⟨g, o + j * 6 + 1, none⟩ = some (.string (strOf t.name)) ∧ wr.cell? ⟨g, o + j * 6 + 2, none⟩ = some (.string (strOf t.text)) ∧
      wr.cell? ⟨g, o + j * 6 + 3, none⟩ = some d ∧ wr.cell? ⟨g, o + j * 6 + 4, none⟩ = some e ∧ wr.cell? ⟨g, o + j * 6 + 5, none⟩ = some f ∧ PlG pl t.frm t.to e f ∧ ∃ cs, RowG wr ok d t.atts.length cs ∧ AttsC pl t.atts cs := by
  obtain ⟨cs, hr, hk⟩ := h
  obtain ⟨a, b, c, d, e, f, e1, e2, e3, e4, e5, e6, x⟩ := TgsC.at ts cs j t hk ht
  obtain ⟨av, fv, gv, ds, hv, hp, hra, hca⟩ := x
  simp only [Value.agg.injEq, Array.mk.injEq, List.cons.injEq, and_true] at hv
  obtain ⟨rfl, rfl, rfl, rfl, rfl, rfl⟩ := hv
  rcases hr with ⟨_, _, _, h0, hc⟩ | ⟨g, o, cap, hv, hg, hl, hc⟩
  · have h1 := List.length_eq_zero_iff.1 h0
    subst h1; simp at ht
  · have K : ∀ m u, cs[j * 6 + m]? = some u → wr.cell? ⟨g, o + j * 6 + m, none⟩ = some u := fun m u hu => (hb.cell (p := ⟨g, o + j * 6 + m, none⟩) hl).trans (by rw [Nat.add_assoc]; exact hc _ _ hu)
    exact ⟨g, o, cap, _, _, _, hv, hl, K 0 _ e1, K 1 _ e2, K 2 _ e3, K 3 _ e4, K 4 _ e5, K 5 _ e6, hp, ds, hra.mono fun g hg hl => ⟨hg, Nat.lt_of_lt_of_le hl hb.size, hb.block g hl⟩, hca⟩
/-- An attribute of a row. -/
theorem att_at {w wr : World} {ok : Nat → Prop} {pl : Bool} {v : Value} {az : List Att} {cs : List Value} (hr : RowG w ok v az.length cs) (hk : AttsC pl az cs) {j : Nat} {a : Att} (ha : az[j]? = some a) (hb : Below w.heap.size w wr) :
    ∃ (g o cap : Nat) (e f : Value), v = .slice (some ⟨g, o, none⟩) az.length cap ∧ g < w.heap.size ∧ wr.cell? ⟨g, o + j * 4, none⟩ = some (.string (strOf a.name)) ∧ wr.cell? ⟨g, o + j * 4 + 1, none⟩ = some (.string (strOf a.val)) ∧
      wr.cell? ⟨g, o + j * 4 + 2, none⟩ = some e ∧ wr.cell? ⟨g, o + j * 4 + 3, none⟩ = some f ∧ PlG pl a.frm a.to e f := by
  obtain ⟨e, f, e1, e2, e3, e4, hp⟩ := AttsC.at az cs j a hk ha
  rcases hr with ⟨_, _, _, h0, hc⟩ | ⟨g, o, cap, hv, hg, hl, hc⟩
  · have h1 := List.length_eq_zero_iff.1 h0
    subst h1; simp at ha
  · have K : ∀ m u, cs[j * 4 + m]? = some u → wr.cell? ⟨g, o + j * 4 + m, none⟩ = some u := fun m u hu => (hb.cell (p := ⟨g, o + j * 4 + m, none⟩) hl).trans (by rw [Nat.add_assoc]; exact hc _ _ hu)
    exact ⟨g, o, cap, _, _, hv, hl, K 0 _ e1, K 1 _ e2, K 2 _ e3, K 3 _ e4, hp⟩
theorem tgsV_len {w : World} {ok : Nat → Prop} {pl : Bool} {ts : List Tg} {v : Value} (h : TgsV w ok pl ts v) : ∃ o c, v = .slice o ts.length c := by
  obtain ⟨cs, h1, _⟩ := h
  exact rowG_len h1
end Go.Proofs.Ytlogjghbdnaedaa
