/- Walks: the stable sort, where one block is enough (chapter 03). -/
import Derived.Test.YtpjlkhdolhoeoaaFdOrd
namespace Go.Proofs.Ytpjlkhdolhoeoaa
open Go.Shelf Go.RowKit Go.Lib Go.Sort Go.Maps
set_option linter.unusedVariables false
set_option linter.unusedSimpArgs false
set_option maxRecDepth 100000 in
theorem fstable {w : World} {v fv : Value} {N : Nat} {o : Option Addr} {cap : Nat} (hv : v = .slice o N cap) (hN : N < 20) (R : World → Prop)
    (h : Calls Try.prog 63 #[v, .int .i64 0, .int .i64 (N : Int), fv] w fun e w' => e = .returned (.tuple #[]) ∧ R w') :
    Calls Try.prog 39 #[v, fv] w fun e w' => e = .returned (.tuple #[]) ∧ R w' := by
  subst hv
  have H1 : Hid (Calls Try.prog 48 #[.slice o N cap, .int .i64 (N : Int), fv] w fun e w' => e = .returned (.tuple #[]) ∧ R w') := by
    have H := Lib.hid h
    clear h
    have q1 : ¬ (20 : Int) ≤ (N : Int) := by omega
    have q2 : ¬ (20 : Int) < (N : Int) := by omega
    show Calls _ _ _ _ _
    go_enter Try.func48, Try.ntmps48
    go_wp2_with fail
    refine wp_loop_rounds 1 ?_
    rw [rounds_succ]
    go_wp2_with (go_at_call 63; refine H.out.mono ?_; rintro e w' ⟨rfl, hR⟩; have HR := Lib.hid hR; clear hR)
    refine wp_loop_rounds 1 ?_
    rw [rounds_succ]
    go_wp2_with fail
    go_end0
    exact ⟨rfl, HR.out⟩
  clear h
  go_enter Try.func39, Try.ntmps39
  go_wp2_with (go_at_call 48; refine H1.out.mono ?_; rintro e w' ⟨rfl, hR⟩; have HR := Lib.hid hR; clear hR)
  go_end0
  exact ⟨rfl, HR.out⟩
theorem stableSmall (N : Nat) (hN : N < 20) : StableAt N := by
  intro w base c dg dcap dep v E hEN hto h hc hd h0 hbig hcv hdv
  rcases h.2 with ⟨rfl, hn0⟩ | ⟨g, cap, cur, rfl, _⟩
  · have he : E = [] := List.length_eq_zero_iff.1 hn0
    subst he
    refine fstable (N := 0) rfl (by omega) (fun w' => ∃ E' : List Tri, E'.Perm [] ∧ (E'.Pairwise fun a b => dep.getD a.2.2 0 ≤ dep.getD b.2.2 0) ∧ w'.ownsRow base 75 3 (.slice none 0 0) E'.length (edG E') ∧ w.grownBy w' (Value.slice none 0 0).ownBlock) ?_
    have hx := AnyF.insertionSortCmpFunc_none Try.insEdge none 0 (.func (.func 40) #[] #[.pointer (some ⟨c, 0, none⟩)]) w
    change Calls Try.prog 63 _ _ _ at hx
    refine hx.mono ?_
    rintro e w' ⟨rfl, rfl⟩
    exact ⟨rfl, [], List.Perm.refl _, List.Pairwise.nil, h, ⟨rfl, rfl, rfl, Nat.le_refl _, fun _ _ _ => rfl⟩⟩
  · refine fstable (N := E.length) rfl (by omega) (fun w' => ∃ E' : List Tri, E'.Perm E ∧ (E'.Pairwise fun a b => dep.getD a.2.2 0 ≤ dep.getD b.2.2 0) ∧ w'.ownsRow base 75 3 (.slice (some ⟨g, 0, none⟩) E.length cap) E'.length (edG E') ∧ w.grownBy w' (Value.slice (some ⟨g, 0, none⟩) E.length cap).ownBlock) ?_
    have hE : ∀ e ∈ E, e.2.2 ≤ dep.length - 1 := fun e he => by have := hto e he; omega
    have e1 := edL_val (dep.length - 1) E hE
    have e2 := edL_len (dep.length - 1) E hE
    generalize edL (dep.length - 1) E hE = l at e1 e2
    subst e1
    rw [List.length_map] at h ⊢
    rw [← edG_val] at h
    obtain ⟨hH, hg⟩ := holdsK_own (encE_len _) (by omega) h
    have hcg : c ≠ g := fun e => hcv (by rw [e]; rfl)
    have hdg : dg ≠ g := fun e => hdv (by rw [e]; rfl)
    have hcmp : CmpLays Try.prog 40 #[.pointer (some ⟨c, 0, none⟩)] (encE (dep.length - 1)) 3 (fun x y : Ed (dep.length - 1) => Lib.compareInt ((dep.getD x.1.2.2 0 : Nat) : Int) ((dep.getD y.1.2.2 0 : Nat) : Int)) g 0 l.toArray.size w := fun m os dk _ x y => by
      have ho := only_sorted (w := w) (g := g) (m := m) (os := os) dk
      exact cmpDep x y _ ((World.cell?_of_block (ho.block c (lt_cell hc) hcg)).trans hc) (fun j d hj => (World.cell?_of_block (ho.block dg (lt_cell (hd j d hj)) hdg)).trans (hd j d hj)) rfl (by omega) hbig
    have hcon := AnyQ.insertionSortCmpFunc Try.insEdge 3 Try.isAgg75 Try.sizeOf75 (encE _) (encE_len _) (encE_one _) (fun x y : Ed (dep.length - 1) => Lib.compareInt ((dep.getD x.1.2.2 0 : Nat) : Int) ((dep.getD y.1.2.2 0 : Nat) : Int)) 40 #[.pointer (some ⟨c, 0, none⟩)] g 0 cap 0 l.toArray.size l.toArray w eg40 hcmp hH hg (by omega) (Nat.le_refl _) (by simp; omega)
    change Calls Try.prog 63 _ _ _ at hcon
    simp only [List.size_toArray] at hcon
    refine hcon.mono ?_
    rintro e w' ⟨rfl, m, os, rfl⟩
    have hold := insertionSort_holds (lt := ltOf fun x y : Ed (dep.length - 1) => Lib.compareInt ((dep.getD x.1.2.2 0 : Nat) : Int) ((dep.getD y.1.2.2 0 : Nat) : Int)) (swoBy fun x : Ed (dep.length - 1) => dep.getD x.1.2.2 0) l.toArray 0 l.length (Nat.zero_le _) (by simp)
    generalize Sort.insertionSort (ltOf fun x y : Ed (dep.length - 1) => Lib.compareInt ((dep.getD x.1.2.2 0 : Nat) : Int) ((dep.getD y.1.2.2 0 : Nat) : Int)) l.toArray 0 l.length = d' at hold ⊢
    obtain ⟨hp, hs⟩ := hold
    have hp2 := permIn_perm (d := l.toArray) (by rw [List.size_toArray]; exact hp)
    have hsz2 : d'.size = l.length := by simpa using hp.1
    have ho := only_sorted (w := w) (g := g) (m := m) (os := os) d'
    refine ⟨rfl, d'.toList.map fun x => x.1, List.Perm.map _ (by simpa using hp2), List.pairwise_map.2 ?_, ?_, ⟨ho.os, ho.tape, ho.output, ho.size, fun k hk hn => ho.block k hk (fun e => hn (by rw [e]; rfl))⟩⟩
    · have := sortedIn_pair (d := d') (by rw [hsz2]; exact hs)
      refine this.imp fun {a b} hab => ?_
      rw [ltBy (fun x : Ed (dep.length - 1) => dep.getD x.1.2.2 0)] at hab
      simpa using hab
    · have := ownK_sorted (encE_len _) (by omega) (n := m) (os := os) (l := l) (ts := d'.toList) (by simpa using hsz2) h
      rw [show d'.toList.toArray = d' by simp] at this
      rw [List.length_map, ← edG_val]
      rw [show l.length = d'.toList.length by simpa using hsz2.symm]
      exact this
end Go.Proofs.Ytpjlkhdolhoeoaa
