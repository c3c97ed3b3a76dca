/- Walks: many texts are made ready: the box (find.New, chapter 03). -/
import Derived.Test.YtpjlkhdolhoeoaaFdNew
import Derived.Carry
namespace Go.Proofs.Ytpjlkhdolhoeoaa
open Go.Shelf Go.RowKit Go.Lib Go.Maps
set_option linter.unusedVariables false
set_option linter.unusedSimpArgs false
def stCells : Array Value := #[.int .i64 0, .slice none 0 0]
theorem own_base {w : World} {n m : Nat} {e : TypeId} {size N : Nat} {v : Value} {xs : List Value} (h : w.ownsRow n e size v N xs) (hm : m ≤ n) : w.ownsRow m e size v N xs := by
  refine ⟨h.1, ?_⟩
  rcases h.2 with h2 | ⟨q, cap, cur, hv, hq, r⟩
  · exact .inl h2
  · exact .inr ⟨q, cap, cur, hv, by omega, r⟩
theorem own_of_blk {w : World} {g : Nat} {base : Nat} (h : Blk w g 72 stCells) (hb : base ≤ g) : w.ownsRow base 72 2 (.slice (some ⟨g, 0, none⟩) 1 1) 1 (stG [0] [.slice none 0 0]) :=
  ⟨rfl, .inr ⟨g, 1, stCells, rfl, hb, h, Nat.le_refl _, by decide, rfl, rfl⟩⟩
theorem newBig {w W : World} {lv : Value} {gs B : Nat} {ls : List Bs} (hb : Below w.heap.size w W) (hlv : W.ownsRow w.heap.size 9 1 lv ls.length (strG ls)) (hgs : Blk W gs 72 stCells) (hB : W.heap[B]? = some (.map #[] 0))
    (g1 : w.heap.size ≤ gs) (g2 : w.heap.size ≤ B) (n1 : gs ≠ B) (n2 : lv.ownBlock ≠ some gs) (n3 : lv.ownBlock ≠ some B) :
    BigM w W.heap.size B ls [[]] [[]] [0] [[]] [.slice none 0 0] lv (.slice (some ⟨gs, 0, none⟩) 1 1) (.map []) (W.alloc (.cells #[lv, .slice (some ⟨gs, 0, none⟩) 1 1, .map (some B)] 55)) := by
  have hBl : B < W.heap.size := (Array.getElem?_eq_some_iff.1 hB).1
  have hgl := hgs.lt
  have hll : ∀ b, lv.ownBlock = some b → b < W.heap.size := fun b e => (hlv.lt b e).2
  refine ⟨hb.size, g2, Blk.new W _ _, hlv.alloc _, (own_of_blk hgs g1).alloc _, rfl, rfl, rfl, ?_, ?_, ?_, MapP.empty, Trie.one, hb.alloc hb.size _⟩
  · intro k es ev h1 h2
    cases k with
    | zero => simp at h1 h2; subst h1 h2; exact World.ownsRow_nil _ _ _ _
    | succ k => simp at h1
  · unfold Apart
    simp only [List.map_cons, List.map_nil, List.pairwise_cons, List.mem_cons, List.not_mem_nil, or_false, forall_eq_or_imp, forall_eq, Value.ownBlock]
    refine ⟨⟨fun x hx => ?_, fun x hx => ?_, fun x hx => ?_, fun x hx => ?_⟩, ⟨fun x hx => ?_, fun x hx => ?_, fun x hx => ?_⟩, ⟨fun x hx => ?_, fun x hx => ?_⟩, ?_, ?_⟩
    all_goals first
      | (cases hx; intro e; cases e; omega)
      | (cases hx; intro e; exact absurd (hll _ e) (by omega))
      | (cases hx; exact n3)
      | (intro e; cases e; exact absurd hx n2)
      | (intro e; cases e)
      | skip
    all_goals simp
  · have h1 : W.ownsMap (H := Unit) Try.prog 68 (plainElem Try.prog 3) B 0 (.map []) := ⟨#[], 0, hB, ⟨by simp, Go.MapKept.stamped_empty 0, by simp⟩, Nat.le_refl _, rfl⟩
    exact map_keep (h1.mono (Nat.zero_le _)) (Below.heap_alloc W _ B hBl)
theorem run_mkSt (W : World) : Sem.run Try.prog (Instr.makeSlice 52 (.int .i64 1) (.int .i64 1)) W = .ok (.slice (some ⟨W.heap.size, 0, none⟩) 1 1) (W.alloc (.cells stCells 72)) := by
  obtain ⟨i0, hi0, hz0, hz1, hz2⟩ := info_parts infoSt
  have h := run_make (P := Try.prog) W 52 72 i0 zeroSt Try.underlying52 hi0 hz0 .i64 .i64 1 1 (by omega) (by omega) (by rw [hz2]; omega) (by omega)
  have e : madeCells zeroSt.cells ((1 : Int).toNat * i0.size) = stCells := by rw [hz1]; kernel_rfl
  rw [e] at h
  exact h
theorem run_mkMap (W : World) : Sem.run Try.prog (Instr.makeMap 53 none) W = .ok (.map (some W.heap.size)) (W.alloc (.map #[] 0)) := run_makeMap _ _
/-- The box, once it is there. -/
def NewM (w : World) (ls : List Bs) (v : Value) (wx : World) : Prop := ∃ (M B gs : Nat) (lv : Value), v = .pointer (some ⟨M, 0, none⟩) ∧ BigM w M B ls [[]] [[]] [0] [[]] [.slice none 0 0] lv (.slice (some ⟨gs, 0, none⟩) 1 1) (.map []) wx
theorem below_undrew {B : Nat} {a b : World} (h : Below B a.drew b) : Below B a b := ⟨h.os, h.tape, h.output, h.size, h.block⟩
theorem TxtM.al {w : World} {b off : Nat} {ls : List Bs} (h : TxtM w b off ls) (o : Obj) : TxtM (w.alloc o) b off ls := h.keep ((Below.refl _ _).alloc (Nat.le_refl _) o)
theorem newOrdCAM {w w2 : World} {lv : Value} {ls : List Bs} (hr2 : w2.ownsRow w.heap.size 9 1 lv ls.length (strG ls)) (hb2 : Below w.heap.size w w2) :
    BigM w (w2.heap.size + 1 + 1) (w2.heap.size + 1) ls [[]] [[]] [0] [[]] [.slice none 0 0] lv (.slice (some ⟨w2.heap.size, 0, none⟩) 1 1) (.map []) (((w2.alloc (.cells stCells 72)).alloc (.map #[] 0)).alloc (.cells #[lv, .slice (some ⟨w2.heap.size, 0, none⟩) 1 1, .map (some (w2.heap.size + 1))] 55)) := by
  have hp : Below w.heap.size w w := (Below.refl w.heap.size w)
  have hs := hb2.size
  have hps := hp.size
  have h2 : Below w.heap.size w w2 := hp.trans (hb2.mono hps)
  have hlt := fun b e => hr2.lt b e
  have hW : Below w.heap.size w ((w2.alloc (.cells stCells 72)).alloc (.map #[] 0)) := ((h2.alloc (by first | omega | (simp; omega)) (.cells stCells 72)).alloc (by first | omega | (simp; omega)) (.map #[] 0))
  have hA : ((w2.alloc (.cells stCells 72)).alloc (.map #[] 0)).heap[w2.heap.size]? = some (.cells stCells 72) := by
    have k0 : (w2.alloc (.cells stCells 72)).heap[w2.heap.size]? = some (.cells stCells 72) := by have := heap_alloc_new w2 (.cells stCells 72); simpa using this
    have k0 : ((w2.alloc (.cells stCells 72)).alloc (.map #[] 0)).heap[w2.heap.size]? = some (.cells stCells 72) := (Below.heap_alloc _ _ _ (Array.getElem?_eq_some_iff.1 k0).1).trans k0
    exact k0
  have hM : ((w2.alloc (.cells stCells 72)).alloc (.map #[] 0)).heap[w2.heap.size + 1]? = some (.map #[] 0) := by
    have k0 : ((w2.alloc (.cells stCells 72)).alloc (.map #[] 0)).heap[w2.heap.size + 1]? = some (.map #[] 0) := by have := heap_alloc_new (w2.alloc (.cells stCells 72)) (.map #[] 0); simpa using this
    exact k0
  have h := newBig (W := ((w2.alloc (.cells stCells 72)).alloc (.map #[] 0))) (gs := w2.heap.size) (B := w2.heap.size + 1) hW (((own_base hr2 hp.size).alloc _).alloc _) hA hM (by omega) (by omega) (by omega) (fun e => by have := hlt _ e; omega) (fun e => by have := hlt _ e; omega)
  rw [show ((w2.alloc (.cells stCells 72)).alloc (.map #[] 0)).heap.size = w2.heap.size + 1 + 1 by simp] at h
  exact h
theorem newOrdCMA {w w2 : World} {lv : Value} {ls : List Bs} (hr2 : w2.ownsRow w.heap.size 9 1 lv ls.length (strG ls)) (hb2 : Below w.heap.size w w2) :
    BigM w (w2.heap.size + 1 + 1) (w2.heap.size) ls [[]] [[]] [0] [[]] [.slice none 0 0] lv (.slice (some ⟨w2.heap.size + 1, 0, none⟩) 1 1) (.map []) (((w2.alloc (.map #[] 0)).alloc (.cells stCells 72)).alloc (.cells #[lv, .slice (some ⟨w2.heap.size + 1, 0, none⟩) 1 1, .map (some (w2.heap.size))] 55)) := by
  have hp : Below w.heap.size w w := (Below.refl w.heap.size w)
  have hs := hb2.size
  have hps := hp.size
  have h2 : Below w.heap.size w w2 := hp.trans (hb2.mono hps)
  have hlt := fun b e => hr2.lt b e
  have hW : Below w.heap.size w ((w2.alloc (.map #[] 0)).alloc (.cells stCells 72)) := ((h2.alloc (by first | omega | (simp; omega)) (.map #[] 0)).alloc (by first | omega | (simp; omega)) (.cells stCells 72))
  have hA : ((w2.alloc (.map #[] 0)).alloc (.cells stCells 72)).heap[w2.heap.size + 1]? = some (.cells stCells 72) := by
    have k0 : ((w2.alloc (.map #[] 0)).alloc (.cells stCells 72)).heap[w2.heap.size + 1]? = some (.cells stCells 72) := by have := heap_alloc_new (w2.alloc (.map #[] 0)) (.cells stCells 72); simpa using this
    exact k0
  have hM : ((w2.alloc (.map #[] 0)).alloc (.cells stCells 72)).heap[w2.heap.size]? = some (.map #[] 0) := by
    have k0 : (w2.alloc (.map #[] 0)).heap[w2.heap.size]? = some (.map #[] 0) := by have := heap_alloc_new w2 (.map #[] 0); simpa using this
    have k0 : ((w2.alloc (.map #[] 0)).alloc (.cells stCells 72)).heap[w2.heap.size]? = some (.map #[] 0) := (Below.heap_alloc _ _ _ (Array.getElem?_eq_some_iff.1 k0).1).trans k0
    exact k0
  have h := newBig (W := ((w2.alloc (.map #[] 0)).alloc (.cells stCells 72))) (gs := w2.heap.size + 1) (B := w2.heap.size) hW (((own_base hr2 hp.size).alloc _).alloc _) hA hM (by omega) (by omega) (by omega) (fun e => by have := hlt _ e; omega) (fun e => by have := hlt _ e; omega)
  rw [show ((w2.alloc (.map #[] 0)).alloc (.cells stCells 72)).heap.size = w2.heap.size + 1 + 1 by simp] at h
  exact h
theorem newOrdACM {w w2 : World} {lv : Value} {ls : List Bs} (hr2 : w2.ownsRow (w.alloc (.cells stCells 72)).heap.size 9 1 lv ls.length (strG ls)) (hb2 : Below (w.alloc (.cells stCells 72)).heap.size (w.alloc (.cells stCells 72)) w2) :
    BigM w (w2.heap.size + 1) (w2.heap.size) ls [[]] [[]] [0] [[]] [.slice none 0 0] lv (.slice (some ⟨w.heap.size, 0, none⟩) 1 1) (.map []) ((w2.alloc (.map #[] 0)).alloc (.cells #[lv, .slice (some ⟨w.heap.size, 0, none⟩) 1 1, .map (some (w2.heap.size))] 55)) := by
  have hp : Below w.heap.size w (w.alloc (.cells stCells 72)) := ((Below.refl w.heap.size w).alloc (by simp) (.cells stCells 72))
  have hs := hb2.size
  have hps := hp.size
  have h2 : Below w.heap.size w w2 := hp.trans (hb2.mono hps)
  have hlt := fun b e => hr2.lt b e
  simp only [World.alloc, Array.size_push] at hs hps hlt
  have hW : Below w.heap.size w (w2.alloc (.map #[] 0)) := (h2.alloc (by first | omega | (simp; omega)) (.map #[] 0))
  have hA : (w2.alloc (.map #[] 0)).heap[w.heap.size]? = some (.cells stCells 72) := by
    have k0 : (w.alloc (.cells stCells 72)).heap[w.heap.size]? = some (.cells stCells 72) := by have := heap_alloc_new w (.cells stCells 72); simpa using this
    have k0 : w2.heap[w.heap.size]? = some (.cells stCells 72) := (hb2.block _ (Array.getElem?_eq_some_iff.1 k0).1).trans k0
    have k0 : ((w2).alloc (.map #[] 0)).heap[w.heap.size]? = some (.cells stCells 72) := (Below.heap_alloc _ _ _ (Array.getElem?_eq_some_iff.1 k0).1).trans k0
    exact k0
  have hM : (w2.alloc (.map #[] 0)).heap[w2.heap.size]? = some (.map #[] 0) := by
    have k0 : (w2.alloc (.map #[] 0)).heap[w2.heap.size]? = some (.map #[] 0) := by have := heap_alloc_new w2 (.map #[] 0); simpa using this
    exact k0
  have h := newBig (W := (w2.alloc (.map #[] 0))) (gs := w.heap.size) (B := w2.heap.size) hW ((own_base hr2 hp.size).alloc _) hA hM (by omega) (by omega) (by omega) (fun e => by have := hlt _ e; omega) (fun e => by have := hlt _ e; omega)
  rw [show (w2.alloc (.map #[] 0)).heap.size = w2.heap.size + 1 by simp] at h
  exact h
theorem newOrdAMC {w w2 : World} {lv : Value} {ls : List Bs} (hr2 : w2.ownsRow ((w.alloc (.cells stCells 72)).alloc (.map #[] 0)).heap.size 9 1 lv ls.length (strG ls)) (hb2 : Below ((w.alloc (.cells stCells 72)).alloc (.map #[] 0)).heap.size ((w.alloc (.cells stCells 72)).alloc (.map #[] 0)) w2) :
    BigM w (w2.heap.size) (w.heap.size + 1) ls [[]] [[]] [0] [[]] [.slice none 0 0] lv (.slice (some ⟨w.heap.size, 0, none⟩) 1 1) (.map []) (w2.alloc (.cells #[lv, .slice (some ⟨w.heap.size, 0, none⟩) 1 1, .map (some (w.heap.size + 1))] 55)) := by
  have hp : Below w.heap.size w ((w.alloc (.cells stCells 72)).alloc (.map #[] 0)) := (((Below.refl w.heap.size w).alloc (by simp) (.cells stCells 72)).alloc (by simp) (.map #[] 0))
  have hs := hb2.size
  have hps := hp.size
  have h2 : Below w.heap.size w w2 := hp.trans (hb2.mono hps)
  have hlt := fun b e => hr2.lt b e
  simp only [World.alloc, Array.size_push] at hs hps hlt
  have hW : Below w.heap.size w w2 := h2
  have hA : w2.heap[w.heap.size]? = some (.cells stCells 72) := by
    have k0 : (w.alloc (.cells stCells 72)).heap[w.heap.size]? = some (.cells stCells 72) := by have := heap_alloc_new w (.cells stCells 72); simpa using this
    have k0 : ((w.alloc (.cells stCells 72)).alloc (.map #[] 0)).heap[w.heap.size]? = some (.cells stCells 72) := (Below.heap_alloc _ _ _ (Array.getElem?_eq_some_iff.1 k0).1).trans k0
    have k0 : w2.heap[w.heap.size]? = some (.cells stCells 72) := (hb2.block _ (Array.getElem?_eq_some_iff.1 k0).1).trans k0
    exact k0
  have hM : w2.heap[w.heap.size + 1]? = some (.map #[] 0) := by
    have k0 : ((w.alloc (.cells stCells 72)).alloc (.map #[] 0)).heap[w.heap.size + 1]? = some (.map #[] 0) := by have := heap_alloc_new (w.alloc (.cells stCells 72)) (.map #[] 0); simpa using this
    have k0 : w2.heap[w.heap.size + 1]? = some (.map #[] 0) := (hb2.block _ (Array.getElem?_eq_some_iff.1 k0).1).trans k0
    exact k0
  have h := newBig (W := w2) (gs := w.heap.size) (B := w.heap.size + 1) hW (own_base hr2 hp.size) hA hM (by omega) (by omega) (by omega) (fun e => by have := hlt _ e; omega) (fun e => by have := hlt _ e; omega)
  rw [show w2.heap.size = w2.heap.size by simp] at h
  exact h
theorem newOrdMCA {w w2 : World} {lv : Value} {ls : List Bs} (hr2 : w2.ownsRow (w.alloc (.map #[] 0)).heap.size 9 1 lv ls.length (strG ls)) (hb2 : Below (w.alloc (.map #[] 0)).heap.size (w.alloc (.map #[] 0)) w2) :
    BigM w (w2.heap.size + 1) (w.heap.size) ls [[]] [[]] [0] [[]] [.slice none 0 0] lv (.slice (some ⟨w2.heap.size, 0, none⟩) 1 1) (.map []) ((w2.alloc (.cells stCells 72)).alloc (.cells #[lv, .slice (some ⟨w2.heap.size, 0, none⟩) 1 1, .map (some (w.heap.size))] 55)) := by
  have hp : Below w.heap.size w (w.alloc (.map #[] 0)) := ((Below.refl w.heap.size w).alloc (by simp) (.map #[] 0))
  have hs := hb2.size
  have hps := hp.size
  have h2 : Below w.heap.size w w2 := hp.trans (hb2.mono hps)
  have hlt := fun b e => hr2.lt b e
  simp only [World.alloc, Array.size_push] at hs hps hlt
  have hW : Below w.heap.size w (w2.alloc (.cells stCells 72)) := (h2.alloc (by first | omega | (simp; omega)) (.cells stCells 72))
  have hA : (w2.alloc (.cells stCells 72)).heap[w2.heap.size]? = some (.cells stCells 72) := by
    have k0 : (w2.alloc (.cells stCells 72)).heap[w2.heap.size]? = some (.cells stCells 72) := by have := heap_alloc_new w2 (.cells stCells 72); simpa using this
    exact k0
  have hM : (w2.alloc (.cells stCells 72)).heap[w.heap.size]? = some (.map #[] 0) := by
    have k0 : (w.alloc (.map #[] 0)).heap[w.heap.size]? = some (.map #[] 0) := by have := heap_alloc_new w (.map #[] 0); simpa using this
    have k0 : w2.heap[w.heap.size]? = some (.map #[] 0) := (hb2.block _ (Array.getElem?_eq_some_iff.1 k0).1).trans k0
    have k0 : ((w2).alloc (.cells stCells 72)).heap[w.heap.size]? = some (.map #[] 0) := (Below.heap_alloc _ _ _ (Array.getElem?_eq_some_iff.1 k0).1).trans k0
    exact k0
  have h := newBig (W := (w2.alloc (.cells stCells 72))) (gs := w2.heap.size) (B := w.heap.size) hW ((own_base hr2 hp.size).alloc _) hA hM (by omega) (by omega) (by omega) (fun e => by have := hlt _ e; omega) (fun e => by have := hlt _ e; omega)
  rw [show (w2.alloc (.cells stCells 72)).heap.size = w2.heap.size + 1 by simp] at h
  exact h
theorem newOrdMAC {w w2 : World} {lv : Value} {ls : List Bs} (hr2 : w2.ownsRow ((w.alloc (.map #[] 0)).alloc (.cells stCells 72)).heap.size 9 1 lv ls.length (strG ls)) (hb2 : Below ((w.alloc (.map #[] 0)).alloc (.cells stCells 72)).heap.size ((w.alloc (.map #[] 0)).alloc (.cells stCells 72)) w2) :
    BigM w (w2.heap.size) (w.heap.size) ls [[]] [[]] [0] [[]] [.slice none 0 0] lv (.slice (some ⟨w.heap.size + 1, 0, none⟩) 1 1) (.map []) (w2.alloc (.cells #[lv, .slice (some ⟨w.heap.size + 1, 0, none⟩) 1 1, .map (some (w.heap.size))] 55)) := by
  have hp : Below w.heap.size w ((w.alloc (.map #[] 0)).alloc (.cells stCells 72)) := (((Below.refl w.heap.size w).alloc (by simp) (.map #[] 0)).alloc (by simp) (.cells stCells 72))
  have hs := hb2.size
  have hps := hp.size
  have h2 : Below w.heap.size w w2 := hp.trans (hb2.mono hps)
  have hlt := fun b e => hr2.lt b e
  simp only [World.alloc, Array.size_push] at hs hps hlt
  have hW : Below w.heap.size w w2 := h2
  have hA : w2.heap[w.heap.size + 1]? = some (.cells stCells 72) := by
    have k0 : ((w.alloc (.map #[] 0)).alloc (.cells stCells 72)).heap[w.heap.size + 1]? = some (.cells stCells 72) := by have := heap_alloc_new (w.alloc (.map #[] 0)) (.cells stCells 72); simpa using this
    have k0 : w2.heap[w.heap.size + 1]? = some (.cells stCells 72) := (hb2.block _ (Array.getElem?_eq_some_iff.1 k0).1).trans k0
    exact k0
  have hM : w2.heap[w.heap.size]? = some (.map #[] 0) := by
    have k0 : (w.alloc (.map #[] 0)).heap[w.heap.size]? = some (.map #[] 0) := by have := heap_alloc_new w (.map #[] 0); simpa using this
    have k0 : ((w.alloc (.map #[] 0)).alloc (.cells stCells 72)).heap[w.heap.size]? = some (.map #[] 0) := (Below.heap_alloc _ _ _ (Array.getElem?_eq_some_iff.1 k0).1).trans k0
    have k0 : w2.heap[w.heap.size]? = some (.map #[] 0) := (hb2.block _ (Array.getElem?_eq_some_iff.1 k0).1).trans k0
    exact k0
  have h := newBig (W := w2) (gs := w.heap.size + 1) (B := w.heap.size) hW (own_base hr2 hp.size) hA hM (by omega) (by omega) (by omega) (fun e => by have := hlt _ e; omega) (fun e => by have := hlt _ e; omega)
  rw [show w2.heap.size = w2.heap.size by simp] at h
  exact h
/-- Made ready. -/
def MadeM (w0 : World) (M : Nat) (ls : List Bs) (wx : World) : Prop := ∃ (B : Nat) (P : List Bs) (bk : List Nat) (E : List (List Nat)) (evs : List Value) (lv sv : Value) (D : DataW Unit), BigM w0 M B ls P P bk E evs lv sv D wx ∧
  (∀ (k : Nat) (x : Bs), P[k]? = some x → bk[k]? = some (backI P k)) ∧ EndsP ls ls.length P E ∧ LaidP ls ls.length P ∧ P.length ≤ 65537
set_option maxRecDepth 100000 in
set_option maxHeartbeats 4000000 in
theorem fnew {w : World} {b off cap : Nat} {ls : List Bs} (h : TxtM w b off ls) (hf : fitN ls = 0) (hs : ∀ s ∈ ls, s.length ≤ 100000)
    (hst : ∀ N, N ≤ 1 + tot ls → StableAt N) :
    Calls Try.prog 8 #[.slice (some ⟨b, off, none⟩) ls.length cap] w fun e w' => ∃ M, e = .returned (.tuple #[.pointer (some ⟨M, 0, none⟩), .int .i64 0]) ∧ MadeM w M ls w' := by
  have hl : ls.length ≤ 256 := by
    unfold fitN at hf
    by_cases h1 : 256 < ls.length
    · rw [if_pos h1] at hf; cases hf
    · omega
  have hff := fun W (hW : TxtM W b off ls) => ffits (cap := cap) hW (by omega) hs
  rw [hf] at hff
  have HFF := Lib.hid hff
  have HT := Lib.hid h
  have HC := Lib.hid (fun W (hW : TxtM W b off ls) => cloneL (cap := cap) hW (by omega))
  have htd : TxtM w.drew b off ls := h
  have HTD := Lib.hid htd
  have hmk := run_mkSt
  have hmm := run_mkMap
  clear hff h htd
  go_enter Try.func8, Try.ntmps8
  go_wp2_with (go_at_call 23; refine (HFF.out _ HT.out).mono ?_; rintro e w1 ⟨rfl, rfl⟩)
  go_upto_region 4 with fail
  go_cut [5] (fun v wx => NewM w ls v wx)
  case first =>
    go_region_held3 (fun w' => TxtM w' b off ls) (first | assumption | exact TxtM.al (by assumption) _ | exact TxtM.keep (by assumption) (by assumption)) ((go_at_call 24; refine (HC.out _ (by assumption)).mono ?_; rintro e w2 ⟨lv, rfl, hr2, hb2⟩; obtain ⟨o1, c1, rfl⟩ := own_shapeF hr2))
    all_goals
      go_wp2_with fail
      go_meet
      first
        | exact ⟨_, _, _, _, rfl, newOrdCAM (w := w) hr2 (below_undrew hb2)⟩
        | exact ⟨_, _, _, _, rfl, newOrdCMA (w := w) hr2 (below_undrew hb2)⟩
        | exact ⟨_, _, _, _, rfl, newOrdACM (w := w) hr2 (below_undrew hb2)⟩
        | exact ⟨_, _, _, _, rfl, newOrdAMC (w := w) hr2 (below_undrew hb2)⟩
        | exact ⟨_, _, _, _, rfl, newOrdMCA (w := w) hr2 (below_undrew hb2)⟩
        | exact ⟨_, _, _, _, rfl, newOrdMAC (w := w) hr2 (below_undrew hb2)⟩
  case rest =>
    obtain ⟨M, B, gs, lv, rfl, hbig⟩ := hcut
    have htot : tot ls ≤ 65536 := by
      unfold fitN at hf
      rw [if_neg (by omega)] at hf
      by_cases h1 : 65536 < tot ls
      · rw [if_pos h1] at hf; cases hf
      · omega
    have HTOT := Lib.hid htot
    have HST := Lib.hid hst
    have HBIG := Lib.hid hbig
    have HS := Lib.hid hs
    clear hbig hst hs hf htot hmk hmm
    go_wp2_with fail
    go_loopw [21] (fun z wr => ∃ (k B : Nat) (P : List Bs) (E : List (List Nat)) (evs : List Value) (lv sv : Value) (D : DataW Unit), z = .int .i64 k ∧ k ≤ ls.length ∧ BigM w M B ls P P (List.replicate P.length 0) E evs lv sv D wr ∧ EndsP ls k P E ∧ LaidP ls k P ∧ P.length ≤ 1 + tot (ls.take k)) (fun z _ => ls.length - (intOf z).toNat)
    case atStart =>
      refine ⟨0, B, [[]], [[]], [.slice none 0 0], lv, _, _, rfl, Nat.zero_le _, HBIG.out, ⟨rfl, fun k x hk => ?_⟩, fun x hx => by simp at hx, by simp [tot]⟩
      cases k with
      | zero => simp at hk; subst hk; rfl
      | succ k => simp at hk
    case round =>
      obtain ⟨k, B, P, E, evs, lv, sv, D, rfl, hk, hb, hE, hL, hPl⟩ := hrel
      by_cases hlt : k < ls.length
      · obtain ⟨s, hs⟩ : ∃ s, ls[k]? = some s := ⟨_, List.getElem?_eq_getElem hlt⟩
        have hc := (HT.out.keep hb.bel) k s hs
        have htt := tot_take hs
        have htl := tot_le ls (k + 1)
        have hlay := flay w wr M B k ls P E evs lv sv D s hb hE hL hs (by have := HTOT.out; omega) (by omega)
        have hsp := layP_spec s P [] hb.tr (List.mem_of_getElem? hb.tr.root)
        have HSP := Lib.hid (show (layP P [] s).length ≤ 1 + tot (ls.take (k + 1)) by have := hsp.2.2.2; omega)
        have HLAY := Lib.hid hlay
        have kz : (k : Int) < (ls.length : Int) := by omega
        have k0 : (0 : Int) ≤ (k : Int) := by omega
        have e2 : IntKind.i64.wrap ((k : Int) + 1) = (k : Int) + 1 := IntWalk.i64_in _ (by omega)
        clear hs htt htl hlay hsp hb hE hL hPl
        go_wp2_with (go_at_call 25; refine HLAY.out.mono ?_; rintro e w3 ⟨rfl, E', evs', sv', D', hb', hE', hL'⟩; have HN := Lib.hid (And.intro hb' (And.intro hE' hL')); clear hb' hE' hL'; go_frame)
        go_roundw
        case rel => exact ⟨k + 1, _, _, _, _, _, _, _, by go_num, hlt, HN.out.1, HN.out.2.1, HN.out.2.2, HSP.out⟩
        case measure => simp [intOf]; omega
      · have hke : k = ls.length := by omega
        subst hke
        rw [List.take_length] at hPl
        have hlink := flink hb (by have := HTOT.out; omega) (fun N hN => HST.out N (by have := HTOT.out; omega))
        have HLINK := Lib.hid hlink
        have HE := Lib.hid (And.intro hE (And.intro hL (show P.length ≤ 65537 by have := HTOT.out; omega)))
        clear hlink hb hE hL hPl hlt hk
        go_wp2_with (go_at_call 26; refine HLINK.out.mono ?_; rintro e w3 ⟨rfl, bk, hb', hbk⟩; have HN := Lib.hid (And.intro hb' hbk); clear hb' hbk; go_frame)
        go_ret2
        exact ⟨M, rfl, B, P, bk, E, evs, lv, sv, D, HN.out.1, HN.out.2, HE.out.1, HE.out.2.1, HE.out.2.2⟩
end Go.Proofs.Ytpjlkhdolhoeoaa
