/- Walks: the stable sort by depth, of any number of edges (chapter 03). -/
import Derived.Test.YtpjlkhdolhoeoaaFdStw
import Derived.Test.YtpjlkhdolhoeoaaFdStb
namespace Go.Proofs.Ytpjlkhdolhoeoaa
open Go.Shelf Go.RowKit Go.Lib Go.Sort Go.Maps
set_option linter.unusedVariables false
set_option linter.unusedSimpArgs false
theorem mgTry : MgL Try.prog 3 where
  mixed := by kernel_rfl
  fS := Try.func85
  fR := Try.func82
  fY := Try.func71
  fB := Try.func48
  eI := enters_of Try.func63 (by kernel_rfl) rfl
  t0 := Try.underlying0
  a0 := Try.isAgg0
  z0 := Try.sizeOf0
  v0 := Try.zeroValue0
  t3 := Try.underlying3
  a3 := Try.isAgg3
  z3 := Try.sizeOf3
  v3 := Try.zeroValue3
  t4 := Try.underlying4
  a4 := Try.isAgg4
  z4 := Try.sizeOf4
  v4 := Try.zeroValue4
  t22 := Try.underlying73
  a22 := Try.isAgg73
  z22 := Try.sizeOf73
  v22 := Try.zeroValue73
  t25 := Try.underlying77
  a25 := Try.isAgg77
  z25 := Try.sizeOf77
  v25 := Try.zeroValue77
  t39 := Try.underlying81
  a39 := Try.isAgg81
  z39 := Try.sizeOf81
  v39 := Try.zeroValue81
  aE := Try.isAgg75
  zE := Try.sizeOf75
set_option maxRecDepth 100000 in
theorem fstableBig {w : World} {v fv : Value} {N : Nat} {o : Option Addr} {cap : Nat} (hv : v = .slice o N cap) (R : World → Prop)
    (h : Calls Try.prog 48 #[v, .int .i64 (N : Int), fv] w fun e w' => e = .returned (.tuple #[]) ∧ R w') :
    Calls Try.prog 39 #[v, fv] w fun e w' => e = .returned (.tuple #[]) ∧ R w' := by
  subst hv
  have H1 := Lib.hid h
  clear h
  go_enter Try.func39, Try.ntmps39
  go_wp2_with (go_at_call 48; refine H1.out.mono ?_; rintro e w' ⟨rfl, hR⟩; have HR := Lib.hid hR; clear hR)
  go_end0
  exact ⟨rfl, HR.out⟩
theorem stableAny (N : Nat) (hN : N ≤ 1000000) : StableAt N := by
  by_cases h20 : N < 20
  · exact stableSmall N h20
  intro w base c dg dcap dep v E hEN hto h hc hd h0 hbig hcv hdv
  rcases h.2 with ⟨rfl, hn0⟩ | ⟨g, cap, cur, rfl, _⟩
  · omega
  · refine fstableBig (N := E.length) rfl (fun w' => ∃ E' : List Tri, E'.Perm E ∧ (E'.Pairwise fun a b => dep.getD a.2.2 0 ≤ dep.getD b.2.2 0) ∧ w'.ownsRow base 75 3 (.slice (some ⟨g, 0, none⟩) E.length cap) E'.length (edG E') ∧ w.grownBy w' (Value.slice (some ⟨g, 0, none⟩) E.length cap).ownBlock) ?_
    have hE : ∀ e ∈ E, e.2.2 ≤ dep.length - 1 := fun e he => by have := hto e he; omega
    have e1 := edL_val (dep.length - 1) E hE
    have e2 := edL_len (dep.length - 1) E hE
    generalize edL (dep.length - 1) E hE = l at e1 e2
    subst e1
    rw [List.length_map] at h hEN ⊢
    rw [← edG_val] at h
    obtain ⟨hH, hg⟩ := holdsK_own (encE_len _) (by omega) h
    have hcg : c ≠ g := fun e => hcv (by rw [e]; rfl)
    have hdg : dg ≠ g := fun e => hdv (by rw [e]; rfl)
    have hcmp : CmpLays Try.prog 40 #[.pointer (some ⟨c, 0, none⟩)] (encE (dep.length - 1)) 3 (fun x y : Ed (dep.length - 1) => Lib.compareInt ((dep.getD x.1.2.2 0 : Nat) : Int) ((dep.getD y.1.2.2 0 : Nat) : Int)) g 0 l.toArray.size w := fun m os dk _ x y => by
      have ho := only_sorted (w := w) (g := g) (m := m) (os := os) dk
      exact cmpDep x y _ ((World.cell?_of_block (ho.block c (lt_cell hc) hcg)).trans hc) (fun j d hj => (World.cell?_of_block (ho.block dg (lt_cell (hd j d hj)) hdg)).trans (hd j d hj)) rfl (by omega) hbig
    have hO := swoBy fun x : Ed (dep.length - 1) => dep.getD x.1.2.2 0
    have hR : RowK (encE (dep.length - 1)) 3 w g 0 l.toArray := ⟨encE_len _, encE_one _, hH, hg⟩
    have hcon := stableK mgTry (encE (dep.length - 1)) (fun x y : Ed (dep.length - 1) => Lib.compareInt ((dep.getD x.1.2.2 0 : Nat) : Int) ((dep.getD y.1.2.2 0 : Nat) : Int)) 40 #[.pointer (some ⟨c, 0, none⟩)] hO g 0 cap l.toArray l.toArray w w eg40 hcmp hR (fun a b d W hs S hab hb => by
      have hI := AnyQ.insertionSortCmpFunc_w Try.insEdge 3 Try.isAgg75 Try.sizeOf75 (encE (dep.length - 1)) (fun x y : Ed (dep.length - 1) => Lib.compareInt ((dep.getD x.1.2.2 0 : Nat) : Int) ((dep.getD y.1.2.2 0 : Nat) : Int)) 40 #[.pointer (some ⟨c, 0, none⟩)] g 0 cap a b l.toArray d w W eg40 hcmp hR hs S hO hab hb (by rw [← hs]; simp; omega)
      change Calls Try.prog 63 _ _ _ at hI
      refine hI.mono ?_
      rintro e w' ⟨rfl, hS⟩
      obtain ⟨p1, p2⟩ := insertionSort_holds hO d a b hab hb
      exact ⟨rfl, _, p1, p2, hS⟩) rfl (SWK.start hH) (by simp; omega)
    simp only [List.size_toArray] at hcon
    refine hcon.mono ?_
    rintro e w' ⟨rfl, d', hp, hs, m, os, rfl⟩
    have hp2 := permIn_perm (d := l.toArray) (by rw [List.size_toArray]; exact hp)
    have hsz2 : d'.size = l.length := by simpa using hp.1
    have ho := only_sorted (w := w) (g := g) (m := m) (os := os) d'
    refine ⟨rfl, d'.toList.map fun x => x.1, List.Perm.map _ (by simpa using hp2), List.pairwise_map.2 ?_, ?_, ⟨ho.os, ho.tape, ho.output, ho.size, fun k hk hn => ho.block k hk (fun e => hn (by rw [e]; rfl))⟩⟩
    · have := sortedIn_pair (d := d') (by rw [hsz2]; exact hs)
      refine this.imp fun {a b} hab => ?_
      rw [ltBy (fun x : Ed (dep.length - 1) => dep.getD x.1.2.2 0)] at hab
      simpa using hab
    · have := ownK_sorted (encE_len _) (by omega) (n := m) (os := os) (l := l) (ts := d'.toList) (by simpa using hsz2) h
      rw [show d'.toList.toArray = d' by simp] at this
      rw [List.length_map, ← edG_val]
      rw [show l.length = d'.toList.length by simpa using hsz2.symm]
      exact this
end Go.Proofs.Ytpjlkhdolhoeoaa
