/- Walks: the edges in order (chapter 03). -/
import Derived.Test.YtpjlkhdolhoeoaaFdEd
namespace Go.Proofs.Ytpjlkhdolhoeoaa
open Go.Shelf Go.RowKit Go.Lib Go.Sort Go.Maps
set_option linter.unusedVariables false
set_option linter.unusedSimpArgs false
def edG (E : List Tri) : List Value := E.flatMap edV
theorem edG_len (E : List Tri) : (edG E).length = E.length * 3 := by
  unfold edG
  induction E with
  | nil => rfl
  | cons e r ih => rw [List.flatMap_cons, List.length_append, ih, List.length_cons, Nat.succ_mul]; simp [edV]; omega
theorem edG_snoc (E : List Tri) (e : Tri) : edG (E ++ [e]) = edG E ++ edV e := by simp [edG]
theorem edG_val {n : Nat} (l : List (Ed n)) : l.flatMap (encE n) = edG (l.map fun x => x.1) := by
  induction l with
  | nil => rfl
  | cons x r ih => rw [List.flatMap_cons, ih]; rfl
theorem only_sorted {n : Nat} {w : World} {g m : Nat} {os : Array Obj} (d : Array (Ed n)) : Only g w (sortWorldK (encE n) 3 w g 0 m d os) := by
  have h := grownByK (enc := encE n) (k := 3) (w := w) (g := g) (n := m) (os := os) d
  exact ⟨h.os, h.tape, h.output, h.size, fun k hk hn => h.block k hk (by simpa using hn)⟩
theorem eg38 : ∀ args w, (callFunc 38 args).run Try.prog w = .ok (.enter 38 args) w := enters_of Try.func38 (by kernel_rfl) rfl
theorem eg40 : ∀ args w, (callFunc 40 args).run Try.prog w = .ok (.enter 40 args) w := enters_of Try.func40 (by kernel_rfl) rfl
theorem sortTo {n : Nat} {w : World} {base g cap : Nat} (l : List (Ed n)) (h : w.ownsRow base 75 3 (.slice (some ⟨g, 0, none⟩) l.length cap) l.length (l.flatMap (encE n))) (hsz : l.length < 4611686018427387904) :
    Calls Try.prog 37 #[.slice (some ⟨g, 0, none⟩) l.length cap, .func (.func 38) #[] #[]] w fun e w' =>
      e = .returned (.tuple #[]) ∧ ∃ ts : List (Ed n), ts.Perm l ∧ (ts.Pairwise fun a b => a.1.2.2 ≤ b.1.2.2) ∧ w'.ownsRow base 75 3 (.slice (some ⟨g, 0, none⟩) ts.length cap) ts.length (ts.flatMap (encE n)) ∧ Only g w w' := by
  obtain ⟨hH, hg⟩ := holdsK_own (encE_len n) (by omega) h
  have hc : CmpLays Try.prog 38 #[] (encE n) 3 (fun x y : Ed n => Lib.compareInt (x.1.2.2 : Int) (y.1.2.2 : Int)) g 0 l.toArray.size w := fun _ _ _ _ x y => cmpTo x y _
  have hcon := AnyQ.slices_SortFunc Try.sortEdge 3 Try.isAgg75 Try.sizeOf75 (encE n) (encE_len n) (encE_one n) (fun x y : Ed n => Lib.compareInt (x.1.2.2 : Int) (y.1.2.2 : Int)) (swoBy fun x : Ed n => x.1.2.2) 38 #[] g 0 cap l.toArray w eg38 hc hH hg (by simpa using hsz)
  change Calls Try.prog 37 _ _ _ at hcon
  simp only [List.size_toArray] at hcon
  refine hcon.mono ?_
  rintro e w' ⟨rfl, d', m, os, hp, hs, rfl⟩
  have hp2 := permIn_perm (d := l.toArray) (by rw [List.size_toArray]; exact hp)
  have hsz2 : d'.size = l.length := by simpa using hp.1
  refine ⟨rfl, d'.toList, by simpa using hp2, ?_, ?_, only_sorted _⟩
  · have := sortedIn_pair (d := d') (by rw [hsz2]; exact hs)
    refine this.imp fun {a b} hab => ?_
    rw [ltBy (fun x : Ed n => x.1.2.2)] at hab
    simpa using hab
  · have := ownK_sorted (encE_len n) (by omega) (n := m) (os := os) (l := l) (ts := d'.toList) (by simpa using hsz2) h
    simpa using this
def edL (n : Nat) : (E : List Tri) → (∀ e ∈ E, e.2.2 ≤ n) → List (Ed n)
  | [], _ => []
  | e :: r, h => ⟨e, h e (List.mem_cons_self)⟩ :: edL n r (fun x hx => h x (List.mem_cons_of_mem _ hx))
theorem edL_val (n : Nat) : ∀ (E : List Tri) (h : ∀ e ∈ E, e.2.2 ≤ n), (edL n E h).map (fun x => x.1) = E
  | [], _ => rfl
  | e :: r, h => congrArg (e :: ·) (edL_val n r fun x hx => h x (List.mem_cons_of_mem _ hx))
theorem edL_len (n : Nat) : ∀ (E : List Tri) (h : ∀ e ∈ E, e.2.2 ≤ n), (edL n E h).length = E.length
  | [], _ => rfl
  | e :: r, h => congrArg (· + 1) (edL_len n r fun x hx => h x (List.mem_cons_of_mem _ hx))
theorem own_nil {w : World} {base : Nat} {e : TypeId} {size N : Nat} {xs : List Value} (h : w.ownsRow base e size (.slice none 0 0) N xs) : N = 0 := by
  rcases h.2 with ⟨_, h2⟩ | ⟨q, c, cur, hv, _⟩
  · exact h2
  · cases hv
/-- The edges by where they lead, whatever the slice. -/
theorem sortE {w : World} {base : Nat} {v : Value} {E : List Tri} (h : w.ownsRow base 75 3 v E.length (edG E)) (hsz : E.length < 4611686018427387904) (n : Nat) (hE : ∀ e ∈ E, e.2.2 ≤ n) :
    Calls Try.prog 37 #[v, .func (.func 38) #[] #[]] w fun e w' =>
      e = .returned (.tuple #[]) ∧ ∃ E' : List Tri, E'.Perm E ∧ (E'.Pairwise fun a b => a.2.2 ≤ b.2.2) ∧ w'.ownsRow base 75 3 v E'.length (edG E') ∧ w.grownBy w' v.ownBlock := by
  rcases h.2 with ⟨rfl, h0⟩ | ⟨g, cap, cur, rfl, _⟩
  · have he : E = [] := List.length_eq_zero_iff.1 h0
    subst he
    have hc := AnyF.slices_SortFunc_none Try.sortEdge none 0 (.func (.func 38) #[] #[]) w
    change Calls Try.prog 37 _ _ _ at hc
    refine hc.mono ?_
    rintro e w' ⟨rfl, rfl⟩
    exact ⟨rfl, [], List.Perm.refl _, List.Pairwise.nil, h, ⟨rfl, rfl, rfl, Nat.le_refl _, fun _ _ _ => rfl⟩⟩
  · have e1 := edL_val n E hE
    have e2 := edL_len n E hE
    generalize edL n E hE = l at e1 e2
    subst e1
    rw [List.length_map] at h hsz ⊢
    rw [← edG_val] at h
    refine (sortTo l h hsz).mono ?_
    rintro e w' ⟨rfl, ts, h1, h2, h3, h4⟩
    have hl := h1.length_eq
    refine ⟨rfl, ts.map fun x => x.1, h1.map _, List.pairwise_map.2 h2, ?_, ⟨h4.os, h4.tape, h4.output, h4.size, fun k hk hn => h4.block k hk (fun e => hn (by rw [e]; rfl))⟩⟩
    rw [List.length_map, ← edG_val, ← hl]
    exact h3
/-- What the stable sort by depth is to do, of so many edges. -/
def StableAt (N : Nat) : Prop := ∀ (w : World) (base c dg dcap : Nat) (dep : List Nat) (v : Value) (E : List Tri), E.length = N → (∀ e ∈ E, e.2.2 < dep.length) → w.ownsRow base 75 3 v E.length (edG E) →
  w.cell? ⟨c, 0, none⟩ = some (.slice (some ⟨dg, 0, none⟩) dep.length dcap) → (∀ (j d : Nat), dep[j]? = some d → w.cell? ⟨dg, j, none⟩ = some (.int .i64 (d : Int))) → 0 < dep.length → dep.length < 4611686018427387904 → some c ≠ v.ownBlock → some dg ≠ v.ownBlock →
  Calls Try.prog 39 #[v, .func (.func 40) #[] #[.pointer (some ⟨c, 0, none⟩)]] w fun e w' =>
    e = .returned (.tuple #[]) ∧ ∃ E' : List Tri, E'.Perm E ∧ (E'.Pairwise fun a b => dep.getD a.2.2 0 ≤ dep.getD b.2.2 0) ∧ w'.ownsRow base 75 3 v E'.length (edG E') ∧ w.grownBy w' v.ownBlock
end Go.Proofs.Ytpjlkhdolhoeoaa
