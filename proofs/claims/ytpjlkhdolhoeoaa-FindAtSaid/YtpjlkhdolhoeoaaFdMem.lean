/- What lies in memory while many texts are made ready (chapter 03). -/
import Derived.Test.YtpjlkhdolhoeoaaFdTree
import Derived.Deep.AppendLies
import Derived.OwnWalk
import Derived.Deep.DeepCutAuto
namespace Go.Proofs.Ytpjlkhdolhoeoaa
open Go.RowKit Go.Maps
set_option linter.unusedVariables false
set_option linter.unusedSimpArgs false
def strOf (l : Bs) : ByteArray := ⟨l.toArray⟩
theorem strOf_list (l : Bs) : (strOf l).data.toList = l := by simp [strOf]
theorem strOf_data (s : ByteArray) : strOf s.data.toList = s := by cases s; simp [strOf]
theorem strOf_size (l : Bs) : (strOf l).size = l.length := by simp [strOf, ByteArray.size]
def strG (ls : List Bs) : List Value := ls.map fun x => .string (strOf x)
def intG (l : List Nat) : List Value := l.map fun (k : Nat) => .int .i64 (k : Int)
theorem intG_len (l : List Nat) : (intG l).length = l.length := by simp [intG]
theorem intG_app (l : List Nat) (n : Nat) : intG (l ++ [n]) = intG l ++ [.int .i64 (n : Int)] := by simp [intG]
theorem strG_len (l : List Bs) : (strG l).length = l.length := by simp [strG]
/-- The states' cells. -/
def stG : List Nat → List Value → List Value
  | b :: bk, e :: ev => .int .i64 (b : Int) :: e :: stG bk ev
  | _, _ => []
theorem stG_len : ∀ (bk : List Nat) (ev : List Value), bk.length = ev.length → (stG bk ev).length = ev.length * 2
  | [], [], _ => rfl
  | [], _ :: _, h => by simp at h
  | _ :: _, [], h => by simp at h
  | b :: bk, e :: ev, h => by
    simp only [stG, List.length_cons, stG_len bk ev (by simpa using h)]; omega
theorem stG_app : ∀ (bk : List Nat) (ev : List Value) (b : Nat) (e : Value), bk.length = ev.length → stG (bk ++ [b]) (ev ++ [e]) = stG bk ev ++ [.int .i64 (b : Int), e]
  | [], [], _, _, _ => rfl
  | [], _ :: _, _, _, h => by simp at h
  | _ :: _, [], _, _, h => by simp at h
  | b' :: bk, e' :: ev, b, e, h => by
    simp only [List.cons_append, stG, stG_app bk ev b e (by simpa using h)]
theorem stG_at : ∀ (bk : List Nat) (ev : List Value) (k b : Nat) (e : Value), bk[k]? = some b → ev[k]? = some e → (stG bk ev)[k * 2]? = some (.int .i64 (b : Int)) ∧ (stG bk ev)[k * 2 + 1]? = some e
  | [], _, k, _, _, h, _ => by simp at h
  | _ :: _, [], k, _, _, _, h => by simp at h
  | b' :: bk, e' :: ev, 0, b, e, h1, h2 => by
    simp at h1 h2
    subst h1 h2
    exact ⟨rfl, rfl⟩
  | b' :: bk, e' :: ev, k + 1, b, e, h1, h2 => by
    have h := stG_at bk ev k b e (by simpa using h1) (by simpa using h2)
    rw [show (k + 1) * 2 = k * 2 + 1 + 1 by omega]
    simp only [stG, List.getElem?_cons_succ]
    exact h
theorem stG_setB : ∀ (bk : List Nat) (ev : List Value) (k b : Nat), bk.length = ev.length → k < bk.length → (stG bk ev).set (k * 2) (.int .i64 (b : Int)) = stG (bk.set k b) ev
  | [], _, k, _, _, h => by simp at h
  | _ :: _, [], k, _, h, _ => by simp at h
  | b' :: bk, e' :: ev, 0, b, _, _ => by simp [stG]
  | b' :: bk, e' :: ev, k + 1, b, h, hk => by
    rw [show (k + 1) * 2 = k * 2 + 1 + 1 by omega]
    simp only [stG, List.set_cons_succ, stG_setB bk ev k b (by simpa using h) (by simpa using hk)]
theorem stG_setE : ∀ (bk : List Nat) (ev : List Value) (k : Nat) (e : Value), bk.length = ev.length → k < bk.length → (stG bk ev).set (k * 2 + 1) e = stG bk (ev.set k e)
  | [], _, k, _, _, h => by simp at h
  | _ :: _, [], k, _, h, _ => by simp at h
  | b' :: bk, e' :: ev, 0, e, _, _ => by simp [stG]
  | b' :: bk, e' :: ev, k + 1, e, h, hk => by
    rw [show (k + 1) * 2 + 1 = k * 2 + 1 + 1 + 1 by omega]
    simp only [stG, List.set_cons_succ, stG_setE bk ev k e (by simpa using h) (by simpa using hk)]
/-- No two of these blocks are one. -/
def Apart (L : List (Option Nat)) : Prop := L.Pairwise fun a b => ∀ x, a = some x → b ≠ some x
theorem Apart.get {L : List (Option Nat)} (h : Apart L) {i j : Nat} {a b : Option Nat} (hij : i ≠ j) (ha : L[i]? = some a) (hb : L[j]? = some b) {x : Nat} (hx : a = some x) : b ≠ some x := by
  obtain ⟨hi, rfl⟩ := List.getElem?_eq_some_iff.1 ha
  obtain ⟨hj, rfl⟩ := List.getElem?_eq_some_iff.1 hb
  have hp := List.pairwise_iff_getElem.1 h
  rcases Nat.lt_or_gt_of_ne hij with h1 | h1
  · exact hp i j hi hj h1 x hx
  · intro hb2
    exact hp j i hj hi h1 x hb2 hx
/-- One of them is another block, that none of the others is. -/
theorem Apart.set {L : List (Option Nat)} (h : Apart L) (i : Nat) (b : Option Nat) (hb : ∀ (j : Nat) (a : Option Nat), j ≠ i → L[j]? = some a → ∀ x, b = some x → a ≠ some x) : Apart (L.set i b) := by
  refine List.pairwise_iff_getElem.2 fun j k hj hk hjk => ?_
  rw [List.length_set] at hj hk
  rw [List.getElem_set, List.getElem_set]
  have hp := List.pairwise_iff_getElem.1 h j k hj hk hjk
  split
  · rename_i hij
    rw [if_neg (by omega)]
    intro x hx
    exact hb k _ (by omega) (List.getElem?_eq_getElem hk) x hx
  · split
    · rename_i hik
      intro x hx he
      exact hb j _ (by omega) (List.getElem?_eq_getElem hj) x he hx
    · exact hp
theorem Apart.snoc {L : List (Option Nat)} (h : Apart L) : Apart (L ++ [none]) := by
  unfold Apart
  rw [List.pairwise_append]
  exact ⟨h, by simp, fun a ha b hb x hx => by simp at hb; subst hb; simp⟩
theorem own_keep {w w' : World} {n : Nat} {e : TypeId} {size N : Nat} {v : Value} {xs : List Value} (h : w.ownsRow n e size v N xs) (hk : ∀ b, v.ownBlock = some b → b < w.heap.size → w'.heap[b]? = w.heap[b]?) : w'.ownsRow n e size v N xs := by
  refine ⟨h.1, ?_⟩
  rcases h.2 with h2 | ⟨q, cap, cur, hv, hq, hh, r⟩
  · exact .inl h2
  · exact .inr ⟨q, cap, cur, hv, hq, (hk q (by rw [hv]; rfl) (Array.getElem?_eq_some_iff.1 hh).1).trans hh, r⟩
theorem own_below {w w' : World} {n : Nat} {e : TypeId} {size N : Nat} {v : Value} {xs : List Value} (h : w.ownsRow n e size v N xs) (hb : Below w.heap.size w w') : w'.ownsRow n e size v N xs := own_keep h fun b _ hl => hb.block b hl
theorem map_keep {w w' : World} {P : Program} {k : TypeId} {R : Value → Option (DataW Unit × List MemPlace)} {b n : Nat} {D : DataW Unit} (h : w.ownsMap P k R b n D) (hk : w'.heap[b]? = w.heap[b]?) : w'.ownsMap P k R b n D := by
  obtain ⟨es, clock, hb, r⟩ := h
  exact ⟨es, clock, hk.trans hb, r⟩
theorem map_lt {w : World} {P : Program} {k : TypeId} {R : Value → Option (DataW Unit × List MemPlace)} {b n : Nat} {D : DataW Unit} (h : w.ownsMap P k R b n D) : b < w.heap.size := by
  obtain ⟨es, clock, hb, _⟩ := h
  exact (Array.getElem?_eq_some_iff.1 hb).1
/-- A store into a row of one's own. -/
theorem own_set {w : World} {n : Nat} {e : TypeId} {size N g cap : Nat} {xs : List Value} (h : w.ownsRow n e size (.slice (some ⟨g, 0, none⟩) N cap) N xs) {i : Nat} (hi : i < xs.length) (u : Value) : (w.setCell ⟨g, i, none⟩ u).ownsRow n e size (.slice (some ⟨g, 0, none⟩) N cap) N (xs.set i u) := by
  obtain ⟨h1, h2⟩ := h
  refine ⟨by rw [List.length_set]; exact h1, ?_⟩
  rcases h2 with ⟨h2, _⟩ | ⟨q, c, cur, hv, hq, hh, r1, r2, r3, r4⟩
  · cases h2
  · simp only [Value.slice.injEq, Option.some.injEq, Addr.mk.injEq] at hv
    obtain ⟨⟨rfl, _, _⟩, _, rfl⟩ := hv
    refine .inr ⟨g, cap, cur.setIfInBounds i u, rfl, hq, ?_, r1, r2, by simpa using r3, ?_⟩
    · simp [World.setCell, Array.getElem?_modify, hh]
    · rw [Array.toList_setIfInBounds, List.take_set, r4]
/-- What is being made ready: the box M, the map B (of the states Q), the rows of the texts, the states P, and each state's ends. -/
structure BigM (w0 : World) (M B : Nat) (ls P Q : List Bs) (bk : List Nat) (E : List (List Nat)) (evs : List Value) (lv sv : Value) (D : DataW Unit) (wr : World) : Prop where
  lM : w0.heap.size ≤ M
  lB : w0.heap.size ≤ B
  m : Blk wr M 55 #[lv, sv, .map (some B)]
  tx : wr.ownsRow w0.heap.size 9 1 lv ls.length (strG ls)
  ow : wr.ownsRow w0.heap.size 72 2 sv P.length (stG bk evs)
  bl : bk.length = P.length
  el : E.length = P.length
  vl : evs.length = P.length
  ends : ∀ (k : Nat) (es : List Nat) (ev : Value), E[k]? = some es → evs[k]? = some ev → wr.ownsRow w0.heap.size 3 1 ev es.length (intG es)
  ap : Apart (some M :: some B :: lv.ownBlock :: sv.ownBlock :: evs.map Value.ownBlock)
  mp : wr.ownsMap Try.prog 68 (plainElem Try.prog 3) B Q.length D
  mP : MapP D Q
  tr : Trie P
  bel : Below w0.heap.size w0 wr
section
variable {w0 wr w' : World} {M B : Nat} {ls P Q : List Bs} {bk : List Nat} {E : List (List Nat)} {evs : List Value} {lv sv : Value} {D : DataW Unit}
theorem BigM.bel_ (h : BigM w0 M B ls P Q bk E evs lv sv D wr) (hb : Below wr.heap.size wr w') : BigM w0 M B ls P Q bk E evs lv sv D w' :=
  ⟨h.lM, h.lB, h.m.below hb h.m.lt, own_below h.tx hb, own_below h.ow hb, h.bl, h.el, h.vl, fun k es ev h1 h2 => own_below (h.ends k es ev h1 h2) hb, h.ap, map_keep h.mp (hb.block B (map_lt h.mp)), h.mP, h.tr, h.bel.trans (hb.mono h.bel.size)⟩
theorem BigM.al (h : BigM w0 M B ls P Q bk E evs lv sv D wr) (o : Obj) : BigM w0 M B ls P Q bk E evs lv sv D (wr.alloc o) := h.bel_ ((Below.refl _ _).alloc (Nat.le_refl _) o)
theorem BigM.drew (h : BigM w0 M B ls P Q bk E evs lv sv D wr) : BigM w0 M B ls P Q bk E evs lv sv D wr.drew := h.bel_ ⟨rfl, rfl, rfl, Nat.le_refl _, fun _ _ => rfl⟩
theorem BigM.svn (h : BigM w0 M B ls P Q bk E evs lv sv D wr) : ∃ gs cap, sv = .slice (some ⟨gs, 0, none⟩) P.length cap ∧ w0.heap.size ≤ gs ∧ gs < wr.heap.size ∧ P.length ≤ cap := by
  rcases h.ow.2 with ⟨_, h0⟩ | ⟨g, cap, cur, hv, hb, hh, r, _⟩
  · have := h.tr.pos; omega
  · exact ⟨g, cap, hv, hb, (Array.getElem?_eq_some_iff.1 hh).1, r⟩
theorem apE {evs : List Value} {a b c d : Option Nat} {k : Nat} {ev : Value} (h : evs[k]? = some ev) : (a :: b :: c :: d :: evs.map Value.ownBlock)[k + 4]? = some ev.ownBlock := by
  simp [h]
/-- The blocks are apart, by name. -/
theorem BigM.apart (h : BigM w0 M B ls P Q bk E evs lv sv D wr) : M ≠ B ∧ lv.ownBlock ≠ some M ∧ lv.ownBlock ≠ some B ∧ sv.ownBlock ≠ some M ∧ sv.ownBlock ≠ some B ∧ (∀ b, lv.ownBlock = some b → sv.ownBlock ≠ some b) ∧
    ∀ (k : Nat) (ev : Value) (b : Nat), evs[k]? = some ev → ev.ownBlock = some b → b ≠ M ∧ b ≠ B ∧ lv.ownBlock ≠ some b ∧ sv.ownBlock ≠ some b := by
  have a := h.ap
  refine ⟨fun e => a.get (i := 0) (j := 1) (by omega) rfl rfl rfl (by rw [e]), a.get (i := 0) (j := 2) (by omega) rfl rfl rfl, a.get (i := 1) (j := 2) (by omega) rfl rfl rfl, a.get (i := 0) (j := 3) (by omega) rfl rfl rfl, a.get (i := 1) (j := 3) (by omega) rfl rfl rfl,
    fun b hb => a.get (i := 2) (j := 3) (by omega) rfl rfl hb, fun k ev b hk hb => ⟨fun e => ?_, fun e => ?_, ?_, ?_⟩⟩
  · exact a.get (i := k + 4) (j := 0) (by omega) (apE hk) rfl hb (by rw [e])
  · exact a.get (i := k + 4) (j := 1) (by omega) (apE hk) rfl hb (by rw [e])
  · exact a.get (i := k + 4) (j := 2) (by omega) (apE hk) rfl hb
  · exact a.get (i := k + 4) (j := 3) (by omega) (apE hk) rfl hb
theorem BigM.evApart (h : BigM w0 M B ls P Q bk E evs lv sv D wr) {j k : Nat} {ev ev' : Value} (hjk : j ≠ k) (h1 : evs[j]? = some ev) (h2 : evs[k]? = some ev') {b : Nat} (hb : ev.ownBlock = some b) : ev'.ownBlock ≠ some b :=
  h.ap.get (i := j + 4) (j := k + 4) (by omega) (apE h1) (apE h2) hb
theorem BigM.evLt (h : BigM w0 M B ls P Q bk E evs lv sv D wr) {k : Nat} {ev : Value} (h1 : evs[k]? = some ev) {b : Nat} (hb : ev.ownBlock = some b) : w0.heap.size ≤ b ∧ b < wr.heap.size := by
  have hk := get_lt h1
  obtain ⟨es, he⟩ : ∃ es, E[k]? = some es := ⟨_, List.getElem?_eq_getElem (by rw [h.el, ← h.vl]; exact hk)⟩
  exact (h.ends k es ev he h1).lt b hb
/-- A state more, in the states' row alone. -/
theorem BigM.state {y : Bs} {w3 : World} {g3 cap3 : Nat} {o1 : Obj} (h : BigM w0 M B ls P Q bk E evs lv sv D wr) (ht : Trie (P ++ [y]))
    (ho : w3.ownsRow w0.heap.size 72 2 (.slice (some ⟨g3, 0, none⟩) (P.length + 1) cap3) (P.length + 1) (stG bk evs ++ [.int .i64 ((0 : Nat) : Int), .slice none 0 0]))
    (hg : (wr.alloc o1).grownBy w3 sv.ownBlock) (hf : sv.ownBlock = some g3 ∨ g3 = wr.heap.size + 1) :
    BigM w0 M B ls (P ++ [y]) Q (bk ++ [0]) (E ++ [[]]) (evs ++ [.slice none 0 0]) lv (.slice (some ⟨g3, 0, none⟩) (P.length + 1) cap3) D (w3.setCell ⟨M, 1, none⟩ (.slice (some ⟨g3, 0, none⟩) (P.length + 1) cap3)) := by
  obtain ⟨a1, a2, a3, a4, a5, a6, a7⟩ := h.apart
  have hk3 : ∀ b, b < wr.heap.size → sv.ownBlock ≠ some b → w3.heap[b]? = wr.heap[b]? := fun b hb hn => by
    rw [hg.block b (by simp; omega) (fun e => hn e.symm)]
    exact Below.heap_alloc wr o1 b hb
  have hk : ∀ b, b < wr.heap.size → b ≠ M → sv.ownBlock ≠ some b → (w3.setCell ⟨M, 1, none⟩ (.slice (some ⟨g3, 0, none⟩) (P.length + 1) cap3)).heap[b]? = wr.heap[b]? := fun b hb hm hn => by
    rw [Below.heap_setCell w3 ⟨M, 1, none⟩ _ b hm, hk3 b hb hn]
  have hMl := h.m.lt
  have hsv := fun b hb => h.ow.lt b hb
  have hm3 : Blk w3 M 55 #[lv, sv, .map (some B)] := (hk3 M hMl a4).trans h.m
  have hne : g3 ≠ M := by
    rcases hf with hf | hf
    · exact fun e => a4 (e ▸ hf)
    · omega
  have hsz : wr.heap.size ≤ w3.heap.size := by have := hg.size; simp at this; omega
  have hz : w0.heap.size ≤ wr.heap.size := h.bel.size
  refine ⟨h.lM, h.lB, hm3.set_ 1 _, own_keep h.tx fun b hb hl => hk b hl (fun e => a2 (e ▸ hb)) (a6 b hb), ?_, by rw [List.length_append, List.length_append, h.bl]; rfl, by rw [List.length_append, List.length_append, h.el]; rfl, by rw [List.length_append, List.length_append, h.vl]; rfl, ?_, ?_, map_keep h.mp (hk B (map_lt h.mp) (fun e => a1 e.symm) a5), h.mP, ht, ?_⟩
  · rw [List.length_append, List.length_singleton, stG_app bk evs 0 (.slice none 0 0) (by rw [h.bl, h.vl])]
    exact own_keep ho fun b hb _ => Below.heap_setCell w3 ⟨M, 1, none⟩ _ b (by
      simp [Value.ownBlock] at hb
      intro e
      exact hne (hb.trans e))
  · intro k es ev h1 h2
    rcases Nat.lt_or_ge k P.length with hkl | hkl
    · rw [List.getElem?_append_left (by rw [h.el]; exact hkl)] at h1
      rw [List.getElem?_append_left (by rw [h.vl]; exact hkl)] at h2
      exact own_keep (h.ends k es ev h1 h2) fun b hb hl => hk b hl (a7 k ev b h2 hb).1 (a7 k ev b h2 hb).2.2.2
    · have hl2 := get_lt h1
      rw [List.length_append, List.length_singleton, h.el] at hl2
      have h0 : k = P.length := by omega
      subst h0
      rw [List.getElem?_append_right (by rw [h.el]; exact Nat.le_refl _), h.el, Nat.sub_self] at h1
      rw [List.getElem?_append_right (by rw [h.vl]; exact Nat.le_refl _), h.vl, Nat.sub_self] at h2
      simp only [List.getElem?_cons_zero, Option.some.injEq] at h1 h2
      subst h1 h2
      exact World.ownsRow_nil _ _ _ _
  · have e : (some M :: some B :: lv.ownBlock :: (Value.slice (some ⟨g3, 0, none⟩) (P.length + 1) cap3).ownBlock :: (evs ++ [Value.slice none 0 0]).map Value.ownBlock) = (some M :: some B :: lv.ownBlock :: sv.ownBlock :: evs.map Value.ownBlock).set 3 (some g3) ++ [none] := by
      simp [Value.ownBlock]
    rw [e]
    refine (h.ap.set 3 (some g3) fun j a hj ha x hx => ?_).snoc
    simp only [Option.some.injEq] at hx
    subst hx
    rcases hf with hf | hf
    · exact h.ap.get (i := 3) (j := j) (fun e => hj e.symm) rfl ha hf
    · rw [hf]
      intro e
      subst e
      match j, hj, ha with
      | 0, _, ha => simp at ha; omega
      | 1, _, ha => simp at ha; have := map_lt h.mp; omega
      | 2, _, ha => simp at ha; have := (h.tx.lt _ ha).2; omega
      | 3, hj, _ => exact hj rfl
      | k + 4, _, ha =>
        simp only [List.getElem?_cons_succ, List.getElem?_map, Option.map_eq_some_iff] at ha
        obtain ⟨ev, h1, h2⟩ := ha
        have := (h.evLt h1 h2).2
        omega
  · exact h.bel.trans ⟨hg.os, hg.tape, hg.output, by simp [World.setCell]; omega, fun b hb => hk b (by omega) (by have := h.lM; omega) (fun e => by have := (hsv b e).1; omega)⟩
/-- The map knows the new state. -/
theorem BigM.put {x : Bs} {c : UInt8} {a : Nat} (h : BigM w0 M B ls (Q ++ [x ++ [c]]) Q bk E evs lv sv D wr) (hQ : Trie Q) (hl : Q.length ≤ 1000000) (hx : Q[a]? = some x) (hi : idx Q (x ++ [c]) = none)
    (ho : w'.ownsMap Try.prog 68 (plainElem Try.prog 3) B (Q.length + 1) (D.put (keyL a c.toNat) (.lit (.int .i64 Q.length)))) (ht : wr.mapTurned w' B) :
    BigM w0 M B ls (Q ++ [x ++ [c]]) (Q ++ [x ++ [c]]) bk E evs lv sv (D.put (keyL a c.toNat) (.lit (.int .i64 Q.length))) w' := by
  obtain ⟨a1, a2, a3, a4, a5, a6, a7⟩ := h.apart
  have hg := ht.grown
  have hk : ∀ b, b < wr.heap.size → b ≠ B → w'.heap[b]? = wr.heap[b]? := fun b hb hn => hg.block b hb (by simpa using hn)
  have hz : w0.heap.size ≤ wr.heap.size := h.bel.size
  refine ⟨h.lM, h.lB, (hk M h.m.lt a1).trans h.m, own_keep h.tx fun b hb hl => hk b hl (fun e => a3 (e ▸ hb)), own_keep h.ow fun b hb hl => hk b hl (fun e => a5 (e ▸ hb)), h.bl, h.el, h.vl, fun k es ev h1 h2 => own_keep (h.ends k es ev h1 h2) fun b hb hl => hk b hl (a7 k ev b h2 hb).2.1, h.ap, by rw [List.length_append, List.length_singleton]; exact ho, h.mP.put hQ hl hx hi, h.tr, ?_⟩
  exact h.bel.trans ⟨hg.os, hg.tape, hg.output, hg.size, fun b hb => hk b (by omega) (by have := h.lB; omega)⟩
/-- A state's ends have a text more. -/
theorem BigM.addEnd {k n : Nat} {es : List Nat} {ev : Value} {w3 : World} {gs cap g3 cap3 : Nat} {o1 : Obj} (h : BigM w0 M B ls P Q bk E evs lv (.slice (some ⟨gs, 0, none⟩) P.length cap) D wr) (he : E[k]? = some es) (hv : evs[k]? = some ev)
    (ho : w3.ownsRow w0.heap.size 3 1 (.slice (some ⟨g3, 0, none⟩) (es.length + 1) cap3) (es.length + 1) (intG es ++ [.int .i64 (n : Int)]))
    (hg : (wr.alloc o1).grownBy w3 ev.ownBlock) (hf : ev.ownBlock = some g3 ∨ g3 = wr.heap.size + 1) :
    BigM w0 M B ls P Q bk (E.set k (es ++ [n])) (evs.set k (.slice (some ⟨g3, 0, none⟩) (es.length + 1) cap3)) lv (.slice (some ⟨gs, 0, none⟩) P.length cap) D (w3.setCell ⟨gs, k * 2 + 1, none⟩ (.slice (some ⟨g3, 0, none⟩) (es.length + 1) cap3)) := by
  obtain ⟨a1, a2, a3, a4, a5, a6, a7⟩ := h.apart
  obtain ⟨e1, e2, e3, e4⟩ := (fun b hb => a7 k ev b hv hb : ∀ b, ev.ownBlock = some b → _) |> fun f => (⟨fun b hb => (f b hb).1, fun b hb => (f b hb).2.1, fun b hb => (f b hb).2.2.1, fun b hb => (f b hb).2.2.2⟩ : (∀ b, ev.ownBlock = some b → b ≠ M) ∧ (∀ b, ev.ownBlock = some b → b ≠ B) ∧ (∀ b, ev.ownBlock = some b → lv.ownBlock ≠ some b) ∧ ∀ b, ev.ownBlock = some b → (Value.slice (some ⟨gs, 0, none⟩) P.length cap).ownBlock ≠ some b)
  have hgs := h.ow.lt gs rfl
  have hkl : k < P.length := by have := get_lt he; rw [h.el] at this; exact this
  have hk3 : ∀ b, b < wr.heap.size → ev.ownBlock ≠ some b → w3.heap[b]? = wr.heap[b]? := fun b hb hn => by
    rw [hg.block b (by simp; omega) (fun e => hn e.symm)]
    exact Below.heap_alloc wr o1 b hb
  have hgne : ev.ownBlock ≠ some gs := fun e => e4 gs e rfl
  have hk : ∀ b, b < wr.heap.size → b ≠ gs → ev.ownBlock ≠ some b → (w3.setCell ⟨gs, k * 2 + 1, none⟩ (.slice (some ⟨g3, 0, none⟩) (es.length + 1) cap3)).heap[b]? = wr.heap[b]? := fun b hb hm hn => by
    rw [Below.heap_setCell w3 ⟨gs, k * 2 + 1, none⟩ _ b hm, hk3 b hb hn]
  have hMl := h.m.lt
  have hne : g3 ≠ gs := by
    rcases hf with hf | hf
    · exact fun e => hgne (e ▸ hf)
    · omega
  have hsz : wr.heap.size ≤ w3.heap.size := by have := hg.size; simp at this; omega
  have hz : w0.heap.size ≤ wr.heap.size := h.bel.size
  have gM : gs ≠ M := fun e => a4 (by rw [e]; rfl)
  have gB : gs ≠ B := fun e => a5 (by rw [e]; rfl)
  have hlen : (stG bk evs).length = P.length * 2 := by rw [stG_len bk evs (by rw [h.bl, h.vl]), h.vl]
  refine ⟨h.lM, h.lB, (hk M hMl gM.symm (fun e => e1 M e rfl)).trans h.m, own_keep h.tx fun b hb hl => hk b hl (fun e => a6 b hb (by rw [e]; rfl)) (fun e => e3 b e hb), ?_, h.bl, by rw [List.length_set]; exact h.el, by rw [List.length_set]; exact h.vl, ?_, ?_, map_keep h.mp (hk B (map_lt h.mp) gB.symm (fun e => e2 B e rfl)), h.mP, h.tr, ?_⟩
  · have h3 : w3.ownsRow w0.heap.size 72 2 (.slice (some ⟨gs, 0, none⟩) P.length cap) P.length (stG bk evs) := own_keep h.ow fun b hb hl => hk3 b hl (fun e => e4 b e hb)
    rw [← stG_setE bk evs k _ (by rw [h.bl, h.vl]) (by rw [h.bl]; exact hkl)]
    exact own_set h3 (by rw [hlen]; omega) _
  · intro j fs fv h1 h2
    by_cases hj : j = k
    · subst hj
      rw [List.getElem?_set_self (by rw [h.el]; exact hkl)] at h1
      rw [List.getElem?_set_self (by rw [h.vl]; exact hkl)] at h2
      simp only [Option.some.injEq] at h1 h2
      subst h1 h2
      rw [List.length_append, List.length_singleton, intG_app]
      exact own_keep ho fun b hb _ => Below.heap_setCell w3 ⟨gs, j * 2 + 1, none⟩ _ b (by
        simp [Value.ownBlock] at hb
        intro e
        exact hne (hb.trans e))
    · rw [List.getElem?_set_ne (fun e => hj e.symm)] at h1 h2
      exact own_keep (h.ends j fs fv h1 h2) fun b hb hl => hk b hl (fun e => (a7 j fv b h2 hb).2.2.2 (by rw [e]; rfl)) (fun e => h.evApart hj h2 hv hb e)
  · have e : (some M :: some B :: lv.ownBlock :: (Value.slice (some ⟨gs, 0, none⟩) P.length cap).ownBlock :: (evs.set k (.slice (some ⟨g3, 0, none⟩) (es.length + 1) cap3)).map Value.ownBlock) = (some M :: some B :: lv.ownBlock :: (Value.slice (some ⟨gs, 0, none⟩) P.length cap).ownBlock :: evs.map Value.ownBlock).set (k + 4) (some g3) := by
      simp [Value.ownBlock, List.map_set]
    rw [e]
    refine h.ap.set (k + 4) (some g3) fun j a hj ha x hx => ?_
    simp only [Option.some.injEq] at hx
    subst hx
    rcases hf with hf | hf
    · exact h.ap.get (i := k + 4) (j := j) (fun e => hj e.symm) (apE hv) ha hf
    · rw [hf]
      intro e
      subst e
      match j, hj, ha with
      | 0, _, ha => simp at ha; omega
      | 1, _, ha => simp at ha; have := map_lt h.mp; omega
      | 2, _, ha => simp at ha; have := (h.tx.lt _ ha).2; omega
      | 3, _, ha => simp [Value.ownBlock] at ha; omega
      | i + 4, _, ha =>
        simp only [List.getElem?_cons_succ, List.getElem?_map, Option.map_eq_some_iff] at ha
        obtain ⟨fv, h1, h2⟩ := ha
        have := (h.evLt h1 h2).2
        omega
  · exact h.bel.trans ⟨hg.os, hg.tape, hg.output, by simp [World.setCell]; omega, fun b hb => hk b (by omega) (by omega) (fun e => by have := (h.evLt hv e).1; omega)⟩
/-- A state's back is told. -/
theorem BigM.setBack {k b : Nat} {gs cap : Nat} (h : BigM w0 M B ls P Q bk E evs lv (.slice (some ⟨gs, 0, none⟩) P.length cap) D wr) (hk : k < P.length) : BigM w0 M B ls P Q (bk.set k b) E evs lv (.slice (some ⟨gs, 0, none⟩) P.length cap) D (wr.setCell ⟨gs, k * 2, none⟩ (.int .i64 (b : Int))) := by
  obtain ⟨a1, a2, a3, a4, a5, a6, a7⟩ := h.apart
  have hgs := h.ow.lt gs rfl
  have hkp : ∀ b', b' ≠ gs → (wr.setCell ⟨gs, k * 2, none⟩ (.int .i64 (b : Int))).heap[b']? = wr.heap[b']? := fun b' hn => Below.heap_setCell wr ⟨gs, k * 2, none⟩ _ b' hn
  have gM : gs ≠ M := fun e => a4 (by rw [e]; rfl)
  have gB : gs ≠ B := fun e => a5 (by rw [e]; rfl)
  have hlen : (stG bk evs).length = P.length * 2 := by rw [stG_len bk evs (by rw [h.bl, h.vl]), h.vl]
  refine ⟨h.lM, h.lB, (hkp M gM.symm).trans h.m, own_keep h.tx fun b' hb hl => hkp b' (fun e => a6 b' hb (by rw [e]; rfl)), ?_, by rw [List.length_set]; exact h.bl, h.el, h.vl, fun j fs fv h1 h2 => own_keep (h.ends j fs fv h1 h2) fun b' hb hl => hkp b' (fun e => (a7 j fv b' h2 hb).2.2.2 (by rw [e]; rfl)), h.ap, map_keep h.mp (hkp B gB.symm), h.mP, h.tr, h.bel.setCell (p := ⟨gs, k * 2, none⟩) hgs.1 _⟩
  rw [← stG_setB bk evs k b (by rw [h.bl, h.vl]) (by rw [h.bl]; exact hk)]
  exact own_set h.ow (by rw [hlen]; omega) _
end
end Go.Proofs.Ytpjlkhdolhoeoaa
