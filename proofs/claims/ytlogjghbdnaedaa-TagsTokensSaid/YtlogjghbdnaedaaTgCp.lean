/- What lies in memory while rows of tokens are copied (chapter 11). -/
import Derived.Test.YtlogjghbdnaedaaTgV
namespace Go.Proofs.Ytlogjghbdnaedaa
open Go.RowKit
set_option linter.unusedVariables false
set_option linter.unusedSimpArgs false
/-- A token under way: its block T, its attributes' row behind it. -/
structure CpA (tA tT : TypeId) (w : World) (T : Nat) (q : Nat) (x y : ByteArray) (p r v : Value) (pl : Bool) (az : List Att) (cs : List Value) (wr : World) : Prop where
  lT : w.heap.size ≤ T
  k : Blk wr T tT #[.int .u8 q, .string x, .string y, v, p, r]
  ow : wr.ownsRow (T + 1) tA 4 v az.length cs
  at_ : AttsC pl az cs
  bel : Below w.heap.size w wr
/-- Rows under way. -/
structure CpT (tT : TypeId) (w : World) (v : Value) (pl : Bool) (ts : List Tg) (cs : List Value) (wr : World) : Prop where
  ow : wr.ownsRow w.heap.size tT 6 v ts.length cs
  tg : TgsC wr (fun b => w.heap.size ≤ b ∧ v.ownBlock ≠ some b) pl ts cs
  bel : Below w.heap.size w wr
section
variable {tA tT : TypeId} {w wr w' : World} {T q : Nat} {x y : ByteArray} {p r v : Value} {pl : Bool} {az : List Att} {cs : List Value} {ts : List Tg}
theorem CpA.bel_ (h : CpA tA tT w T q x y p r v pl az cs wr) (hb : Below wr.heap.size wr w') : CpA tA tT w T q x y p r v pl az cs w' :=
  ⟨h.lT, h.k.below hb h.k.lt, ownsRow_ofBelow h.ow hb, h.at_, h.bel.trans (hb.mono h.bel.size)⟩
theorem CpA.al (h : CpA tA tT w T q x y p r v pl az cs wr) (o : Obj) : CpA tA tT w T q x y p r v pl az cs (wr.alloc o) := h.bel_ ((Below.refl _ _).alloc (Nat.le_refl _) o)
theorem CpA.drew (h : CpA tA tT w T q x y p r v pl az cs wr) : CpA tA tT w T q x y p r v pl az cs wr.drew := h.bel_ ((Below.refl wr.heap.size wr).drew)
/-- One attribute more. -/
theorem CpA.att {a : Att} {c d : Value} {w3 : World} {g3 cap3 : Nat} {o1 : Obj} (h : CpA tA tT w T q x y p r v pl az cs wr) (hp : PlG pl a.frm a.to c d)
    (ho : w3.ownsRow (T + 1) tA 4 (.slice (some ⟨g3, 0, none⟩) (az.length + 1) cap3) (az.length + 1) (cs ++ [.string (strOf a.name), .string (strOf a.val), c, d]))
    (hg : (wr.alloc o1).grownBy w3 v.ownBlock) :
    CpA tA tT w T q x y p r (.slice (some ⟨g3, 0, none⟩) (az.length + 1) cap3) pl (az ++ [a]) (cs ++ [.string (strOf a.name), .string (strOf a.val), c, d]) (w3.setCell ⟨T, 3, none⟩ (.slice (some ⟨g3, 0, none⟩) (az.length + 1) cap3)) := by
  have hnl := fun b hb => h.ow.lt b hb
  have hkl := h.k.lt
  have hbk : ∀ k, k < wr.heap.size → v.ownBlock ≠ some k → w3.heap[k]? = wr.heap[k]? := by
    intro k hk hkn
    rw [hg.block k (by simp; omega) (fun h => hkn h.symm)]
    exact Below.heap_alloc wr o1 k hk
  have hlow : ∀ k, k < T + 1 → v.ownBlock ≠ some k := fun k hk e => by have := (hnl k e).1; omega
  have hblk : ∀ k, k < wr.heap.size → k ≠ T → v.ownBlock ≠ some k → (w3.setCell ⟨T, 3, none⟩ (.slice (some ⟨g3, 0, none⟩) (az.length + 1) cap3)).heap[k]? = wr.heap[k]? := by
    intro k hk hne hkn
    rw [Below.heap_setCell w3 ⟨T, 3, none⟩ _ k hne, hbk k hk hkn]
  have hlT := h.lT
  have hk3 : Blk w3 T tT #[.int .u8 q, .string x, .string y, v, p, r] := (hbk T hkl (hlow T (by omega))).trans h.k
  refine ⟨hlT, hk3.set_ 3 _, ?_, AttsC.snoc hp az cs h.at_, ?_⟩
  · rw [List.length_append]; exact ownsRow_setCell_below ho (a := ⟨T, 3, none⟩) (by show T < T + 1; omega) _
  · have hs3 : wr.heap.size ≤ w3.heap.size := by have := hg.size; simp at this; omega
    have hsz : w.heap.size ≤ wr.heap.size := h.bel.size
    exact h.bel.trans ⟨hg.os, hg.tape, hg.output, by simp [World.setCell]; omega, fun k hk => hblk k (by omega) (by omega) (hlow k (by omega))⟩
theorem CpT.bel_ (h : CpT tT w v pl ts cs wr) (hb : Below wr.heap.size wr w') : CpT tT w v pl ts cs w' :=
  ⟨ownsRow_ofBelow h.ow hb, TgsC.mono (fun b hb2 hl => ⟨hb2, Nat.lt_of_lt_of_le hl hb.size, hb.block b hl⟩) ts cs h.tg, h.bel.trans (hb.mono h.bel.size)⟩
theorem CpT.drew (h : CpT tT w v pl ts cs wr) : CpT tT w v pl ts cs wr.drew := h.bel_ ((Below.refl wr.heap.size wr).drew)
/-- One token more. -/
theorem CpT.tok {t : Tg} {a b c d e f : Value} {w3 : World} {g3 cap3 : Nat} {o1 : Obj} (h : CpT tT w v pl ts cs wr)
    (hn : TgV wr (fun b => w.heap.size ≤ b ∧ v.ownBlock ≠ some b) pl t (.agg #[a, b, c, d, e, f]))
    (ho : w3.ownsRow w.heap.size tT 6 (.slice (some ⟨g3, 0, none⟩) (ts.length + 1) cap3) (ts.length + 1) (cs ++ [a, b, c, d, e, f]))
    (hg : (wr.alloc o1).grownBy w3 v.ownBlock) (hf : v.ownBlock = some g3 ∨ g3 = wr.heap.size + 1) :
    CpT tT w (.slice (some ⟨g3, 0, none⟩) (ts.length + 1) cap3) pl (ts ++ [t]) (cs ++ [a, b, c, d, e, f]) w3 := by
  have hnl := fun b hb => h.ow.lt b hb
  have hbk : ∀ k, k < wr.heap.size → v.ownBlock ≠ some k → w3.heap[k]? = wr.heap[k]? := by
    intro k hk hkn
    rw [hg.block k (by simp; omega) (fun h => hkn h.symm)]
    exact Below.heap_alloc wr o1 k hk
  have hs3 : wr.heap.size ≤ w3.heap.size := by have := hg.size; simp at this; omega
  have hlow : ∀ k, k < w.heap.size → v.ownBlock ≠ some k := fun k hk e => by have := (hnl k e).1; omega
  have hkeep : ∀ k, (w.heap.size ≤ k ∧ v.ownBlock ≠ some k) → k < wr.heap.size → (w.heap.size ≤ k ∧ (Value.slice (some ⟨g3, 0, none⟩) (ts.length + 1) cap3).ownBlock ≠ some k) ∧ k < w3.heap.size ∧ w3.heap[k]? = wr.heap[k]? := by
    intro k hk hkl
    refine ⟨⟨hk.1, fun e => ?_⟩, by omega, hbk k hkl hk.2⟩
    simp [Value.ownBlock] at e
    subst e
    rcases hf with hf | hf
    · exact hk.2 hf
    · omega
  have hbs := h.bel.size
  refine ⟨?_, TgsC.snoc (hn.mono hkeep) ts cs (TgsC.mono hkeep ts cs h.tg), h.bel.trans ⟨hg.os, hg.tape, hg.output, hs3, fun k hk => hbk k (by omega) (hlow k (by omega))⟩⟩
  rw [List.length_append]; exact ho
theorem CpT.done (h : CpT tT w v pl ts cs wr) : TgsV wr (fun b => w.heap.size ≤ b) pl ts v :=
  ⟨cs, RowG.own h.ow (fun b _ hb => hb), TgsC.mono (fun b hb hl => ⟨hb.1, hl, rfl⟩) ts cs h.tg⟩
end
theorem mem_get {α : Type} {l : List α} {k : Nat} {t : α} (h : l[k]? = some t) : t ∈ l := List.mem_of_getElem? h
theorem take_snoc {α : Type} {l : List α} {k : Nat} {t : α} (h : l[k]? = some t) : l.take (k + 1) = l.take k ++ [t] := by
  rw [List.take_add_one, h]; rfl
theorem take_len {α : Type} {l : List α} {k : Nat} (h : k ≤ l.length) : (l.take k).length = k := by rw [List.length_take]; omega
end Go.Proofs.Ytlogjghbdnaedaa
