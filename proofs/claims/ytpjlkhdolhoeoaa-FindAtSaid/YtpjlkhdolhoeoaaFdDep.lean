/- What lies in memory while the backs are laid (chapter 03). -/
import Derived.Test.YtpjlkhdolhoeoaaFdOrd
import Derived.Shelf.SlicesQ.Load
namespace Go.Proofs.Ytpjlkhdolhoeoaa
open Go.Shelf Go.RowKit Go.Lib Go.Maps
set_option linter.unusedVariables false
set_option linter.unusedSimpArgs false
theorem edG_at {E : List Tri} {k : Nat} {e : Tri} (h : E[k]? = some e) : ∀ j, j < 3 → (edG E)[k * 3 + j]? = (edV e)[j]? := by
  unfold edG
  induction E generalizing k with
  | nil => simp at h
  | cons x r ih =>
    intro j hj
    cases k with
    | zero =>
      simp at h
      subst h
      rw [List.flatMap_cons, List.getElem?_append_left (by simp [edV]; omega), Nat.zero_mul, Nat.zero_add]
    | succ k =>
      have h2 := ih (by simpa using h) j hj
      rw [List.flatMap_cons, List.getElem?_append_right (by simp [edV]; omega)]
      rw [← h2]
      congr 1
      simp [edV]; omega
theorem row_load {w : World} {base g N cap : Nat} {E : List Tri} {k : Nat} {e : Tri} (h : w.ownsRow base 75 3 (.slice (some ⟨g, 0, none⟩) N cap) E.length (edG E)) (hk : E[k]? = some e) :
    Sem.run Try.prog (loadCellsFrom ⟨g, k * 3, none⟩ 0 3 #[]) w = .ok #[.int .i64 (e.1 : Int), .int .i64 (e.2.1.toNat : Int), .int .i64 (e.2.2 : Int)] w := by
  refine run_loadCellsFrom_list Try.prog w ⟨g, k * 3, none⟩ (edV e) 3 rfl fun j u hj => ?_
  have hj3 : j < 3 := by have := get_lt hj; simpa [edV] using this
  have h1 := h.cells (g := g) rfl (k * 3 + j) u (by rw [edG_at hk j hj3]; exact hj)
  rw [Addr.add_lit] at h1 ⊢
  rwa [Nat.zero_add] at h1
theorem row_cells {w : World} {base g N cap : Nat} {E : List Tri} {k : Nat} {e : Tri} (h : w.ownsRow base 75 3 (.slice (some ⟨g, 0, none⟩) N cap) E.length (edG E)) (hk : E[k]? = some e) :
    w.cell? ⟨g, k * 3, none⟩ = some (.int .i64 (e.1 : Int)) ∧ w.cell? ⟨g, k * 3 + 1, none⟩ = some (.int .i64 (e.2.1.toNat : Int)) ∧ w.cell? ⟨g, k * 3 + 2, none⟩ = some (.int .i64 (e.2.2 : Int)) := by
  have h1 : ∀ j u, j < 3 → (edV e)[j]? = some u → w.cell? ⟨g, k * 3 + j, none⟩ = some u := fun j u hj hu => by
    have := h.cells (g := g) rfl (k * 3 + j) u (by rw [edG_at hk j hj]; exact hu)
    rwa [Addr.add_lit, Nat.zero_add] at this
  exact ⟨h1 0 _ (by omega) rfl, h1 1 _ (by omega) rfl, h1 2 _ (by omega) rfl⟩
/-- While the depths are laid: the box c with the row dg of depths, the edges' row, and nothing old has turned. -/
structure DepM (W : World) (dg c : Nat) (P : List Bs) (v : Value) (E A : List Tri) (dep : List Nat) (wr : World) : Prop where
  dp : DepP P dep A
  bx : Blk wr c 70 #[.slice (some ⟨dg, 0, none⟩) P.length P.length]
  dr : wr.ownsRow W.heap.size 3 1 (.slice (some ⟨dg, 0, none⟩) P.length P.length) P.length (intG dep)
  er : wr.ownsRow W.heap.size 75 3 v E.length (edG E)
  on : Below W.heap.size W wr
  lc : W.heap.size ≤ c
  ld : W.heap.size ≤ dg
  ne : c ≠ dg
  nc : some c ≠ v.ownBlock
  nd : some dg ≠ v.ownBlock
section
variable {W wr w' : World} {dg c : Nat} {P : List Bs} {v : Value} {E A : List Tri} {dep : List Nat}
theorem DepM.bel_ (h : DepM W dg c P v E A dep wr) (hb : Below wr.heap.size wr w') : DepM W dg c P v E A dep w' :=
  ⟨h.dp, h.bx.below hb h.bx.lt, own_below h.dr hb, own_below h.er hb, h.on.trans (hb.mono h.on.size), h.lc, h.ld, h.ne, h.nc, h.nd⟩
theorem DepM.al (h : DepM W dg c P v E A dep wr) (o : Obj) : DepM W dg c P v E A dep (wr.alloc o) := h.bel_ ((Below.refl _ _).alloc (Nat.le_refl _) o)
theorem DepM.drew (h : DepM W dg c P v E A dep wr) : DepM W dg c P v E A dep wr.drew := h.bel_ ⟨rfl, rfl, rfl, Nat.le_refl _, fun _ _ => rfl⟩
theorem DepM.at_ (h : DepM W dg c P v E A dep wr) {j d : Nat} (hj : dep[j]? = some d) : wr.cell? ⟨dg, j, none⟩ = some (.int .i64 (d : Int)) := by
  have := h.dr.cells (g := dg) rfl j (.int .i64 (d : Int)) (by simp [intG, hj])
  rwa [Addr.add_lit, Nat.zero_add] at this
theorem DepM.froz (h : DepM W dg c P v E A dep wr) (j : Nat) : wr.frozen? ⟨dg, j, none⟩ = false := (own_cf h.dr).2 j
theorem DepM.set_ (h : DepM W dg c P v E A dep wr) {i d : Nat} {A' : List Tri} (hi : i < P.length) (hd : DepP P (dep.set i d) A') : DepM W dg c P v E A' (dep.set i d) (wr.setCell ⟨dg, i, none⟩ (.int .i64 (d : Int))) := by
  refine ⟨hd, h.bx.far h.ne _, ?_, ?_, h.on.trans ⟨rfl, rfl, rfl, by simp [World.setCell], fun k hk => Below.heap_setCell wr ⟨dg, i, none⟩ _ k (by have := h.ld; simp only; omega)⟩, h.lc, h.ld, h.ne, h.nc, h.nd⟩
  · have := own_set h.dr (i := i) (by rw [intG_len, h.dp.1]; exact hi) (.int .i64 (d : Int))
    rw [show (intG dep).set i (.int .i64 (d : Int)) = intG (dep.set i d) by simp [intG, List.map_set]] at this
    exact this
  · exact own_keep h.er fun b hb hl => Below.heap_setCell wr ⟨dg, i, none⟩ _ b (fun e => h.nd (by rw [hb]; simp only at e; rw [e]))
end
/-- While the backs are laid. -/
structure BakM (w0 : World) (M B : Nat) (ls P : List Bs) (Es : List (List Nat)) (evs : List Value) (lv sv : Value) (D : DataW Unit) (v : Value) (E A : List Tri) (base : Nat) (bk : List Nat) (wr : World) : Prop where
  big : BigM w0 M B ls P P bk Es evs lv sv D wr
  er : wr.ownsRow base 75 3 v E.length (edG E)
  bp : BkP P bk A
  sb : ∀ b, sv.ownBlock = some b → b < base
section
variable {w0 wr w' : World} {M B base : Nat} {ls P : List Bs} {Es : List (List Nat)} {evs : List Value} {lv sv v : Value} {D : DataW Unit} {E A A' : List Tri} {bk : List Nat}
theorem BakM.bel_ (h : BakM w0 M B ls P Es evs lv sv D v E A base bk wr) (hb : Below wr.heap.size wr w') : BakM w0 M B ls P Es evs lv sv D v E A base bk w' := ⟨h.big.bel_ hb, own_below h.er hb, h.bp, h.sb⟩
theorem BakM.al (h : BakM w0 M B ls P Es evs lv sv D v E A base bk wr) (o : Obj) : BakM w0 M B ls P Es evs lv sv D v E A base bk (wr.alloc o) := h.bel_ ((Below.refl _ _).alloc (Nat.le_refl _) o)
theorem BakM.drew (h : BakM w0 M B ls P Es evs lv sv D v E A base bk wr) : BakM w0 M B ls P Es evs lv sv D v E A base bk wr.drew := h.bel_ ⟨rfl, rfl, rfl, Nat.le_refl _, fun _ _ => rfl⟩
theorem BakM.set_ {gs cap i d : Nat} (h : BakM w0 M B ls P Es evs lv (.slice (some ⟨gs, 0, none⟩) P.length cap) D v E A base bk wr) (hi : i < P.length) (hd : BkP P (bk.set i d) A') :
    BakM w0 M B ls P Es evs lv (.slice (some ⟨gs, 0, none⟩) P.length cap) D v E A' base (bk.set i d) (wr.setCell ⟨gs, i * 2, none⟩ (.int .i64 (d : Int))) := by
  refine ⟨h.big.setBack hi, own_keep h.er fun b hb hl => Below.heap_setCell wr ⟨gs, i * 2, none⟩ _ b (fun e => ?_), hd, h.sb⟩
  have h1 := (h.er.lt b hb).1
  have h2 := h.sb gs rfl
  simp only at e
  omega
end
end Go.Proofs.Ytpjlkhdolhoeoaa
