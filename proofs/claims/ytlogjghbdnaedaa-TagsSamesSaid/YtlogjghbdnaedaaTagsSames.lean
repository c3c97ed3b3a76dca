/- The law TagsSames returns true and changes nothing that was there, for every input; no condition. The frame of this text was written by program, after the guide's proof-skeleton. -/
import Derived.Test.YtlogjghbdnaedaaRows
import Derived.WalkKit
import Derived.ProofKit
import Derived.OpenShut
import Derived.ShutString
import Derived.ChangeOld
import Derived.Below
import Derived.SizedLaws
import Derived.Test.YtlogjghbdnaedaaTgK
import Derived.Test.YtlogjghbdnaedaaTgAw
import Derived.Test.YtlogjghbdnaedaaTgO
namespace Go.Proofs.Ytlogjghbdnaedaa.tagsSames
open Go.ChangeShapes Go.WideShapes Go.ChangeAt Go.RowKit
open Go.ChangeMaps (open_string shut_string)
set_option linter.unusedVariables false
set_option linter.unusedSimpArgs false

theorem own : ownKnob Try.prog.godebug = none := by kernel_rfl
theorem laidOut : laidOutB Try.prog = true := by kernel_rfl

theorem walk (z0 : List Tg) (a0 : Option Addr) (len0 cap0 : Nat) (z1 : List Tg) (a1 : Option Addr) (len1 cap1 : Nat) (W : World) (wa0 : TgsV W (fun _ => True) false z0 (.slice a0 len0 cap0)) (wb0 : len0 ≤ cap0) (wc0 : cap0 ≤ maxLen) (wd0 : z0.length = len0) (wf0 : ∀ t ∈ z0, t.atts.length * 48 ≤ 140737488351232) (wa1 : TgsV W (fun _ => True) false z1 (.slice a1 len1 cap1)) (wb1 : len1 ≤ cap1) (wc1 : cap1 ≤ maxLen) (wd1 : z1.length = len1) (wf1 : ∀ t ∈ z1, t.atts.length * 48 ≤ 140737488351232) :
    Calls Try.prog 6 #[.slice a0 len0 cap0, .slice a1 len1 cap1] W fun e w' => e = .returned (.bool true) ∧ Below W.heap.size W w' := by
  unfold maxLen at wc0 wc1
  exact lawSames11 awake11_any z0 z1 a0 a1 len0 cap0 len1 cap1 W wa0 wb0 (by omega) wd0 wf0 wa1 wb1 (by omega) wd1 wf1

set_option maxRecDepth 100000 in
theorem lifted (os : Os) (started : os.Started) (H : Type) (enc : TypeId × Value → H) :
    ReturnsInHanded {} Try.checked os 6 .any (Rows.tagsSamesSpec.pre6 enc Try.prog Try.f6 Rows.tagsSamesRow.domain false) (Rows.tagsSamesSpec.post enc Try.prog Try.f6 false true false false) := by
  refine returnsInHanded_of_change_sized (C := Try.checked) own started (by kernel_rfl) Try.func6
    (ChangeSpec.witness6 (enc := enc) (C := Try.checked) false ⟨#[], #[.slice none 0 0, .slice none 0 0], []⟩ 8 (by kernel_rfl) (by kernel_rfl) (by kernel_rfl) (by kernel_rfl)) ?_
  intro W base args ds gs before hval0 hW hcnd hsz0 _
  have hval : ∀ (j : Nat) t v, Try.f6.params[j]? = some t → args[j]? = some v → Value.okWide Try.prog W .any base t v := hval0
  have hW' := hW
  obtain ⟨p, q, hA0, hV, rfl, hfz, hnd⟩ := hW
  have hA : DataW.TrodAll enc Try.prog W 0 (fun _ => true) true Try.f6.params.toList args.toList ds p := hA0
  have hsz : (DataW.weightsEach Try.prog (Try.f6.params.toList ++ Rows.tagsSamesSpec.plain.varTypes Try.prog) (ds ++ gs)).all (· ≤ reachBytes) = true := hsz0
  rw [Try.params6] at hA hval hsz
  obtain ⟨v0, vs0, d0, ds0, p0, q0, hargs, rfl, rfl, h0, r0⟩ := trodAll_cons hA
  obtain ⟨v1, vs1, d1, ds1, p1, q1, rfl, rfl, rfl, h1, r1⟩ := trodAll_cons r0
  obtain ⟨rfl, rfl, rfl⟩ := trodAll_nil r1
  obtain rfl : args = #[v0, v1] := by cases args; simp_all
  obtain ⟨rfl, rfl⟩ := trodVars_none hV
  obtain ⟨a0, len0, cap0, rfl⟩ := okWide_slice Try.underlying27 (hval 0 27 v0 rfl rfl)
  have k0 := h0
  have lt0 : ∀ x ∈ p0, x.block < W.heap.size := by obtain ⟨m, hm⟩ := k0; exact DataW.trod_lt m _ _ _ hm
  obtain ⟨z0, wa0, wb0, wc0, wd0, we0⟩ := tgs_arg0 h0
  have wf0 : ∀ t ∈ z0, t.atts.length * 48 ≤ 140737488351232 := we0 _ (fun n hn => by
    have hx := List.all_eq_true.1 hsz _ (DataW.weights_mem_each (j := 0) (t := 27) rfl rfl n hn)
    exact of_decide_eq_true hx)
  obtain ⟨a1, len1, cap1, rfl⟩ := okWide_slice Try.underlying27 (hval 1 27 v1 rfl rfl)
  have k1 := h1
  have lt1 : ∀ x ∈ p1, x.block < W.heap.size := by obtain ⟨m, hm⟩ := k1; exact DataW.trod_lt m _ _ _ hm
  obtain ⟨z1, wa1, wb1, wc1, wd1, we1⟩ := tgs_arg0 h1
  have wf1 : ∀ t ∈ z1, t.atts.length * 48 ≤ 140737488351232 := we1 _ (fun n hn => by
    have hx := List.all_eq_true.1 hsz _ (DataW.weights_mem_each (j := 1) (t := 27) rfl rfl n hn)
    exact of_decide_eq_true hx)
  clear hA0 hval0
  refine (walk z0 a0 len0 cap0 z1 a1 len1 cap1 W wa0 wb0 wc0 wd0 wf0 wa1 wb1 wc1 wd1 wf1).mono fun e W' ⟨he, bel⟩ => ?_
  subst he
  exact ⟨_, rfl, _, _, _, [], _, [], hW', trodAll_mk1 (shut_bool Try.underlying4 _), (trodAll_cons_mk (Below.trod laidOut (by kernel_rfl) (of_decide_eq_true (by kernel_rfl)) k0 bel lt0) (trodAll_cons_mk (Below.trod laidOut (by kernel_rfl) (of_decide_eq_true (by kernel_rfl)) k1 bel lt1) trodAll_mk0)), rfl, bel.frame _, fun h => by cases h⟩

theorem over : Rows.tagsSamesRow.holds Try.pinned (OpenSpec.ofChange Rows.tagsSamesSpec) :=
  OpenClaim.holds_of_wide 6 Try.f6 rfl rfl rfl rfl rfl rfl rfl ⟨rfl, rfl, rfl, rfl, rfl⟩ rfl rfl rfl rfl rfl (by kernel_rfl) Try.func6 (by kernel_rfl)
    (of_decide_eq_true (by kernel_rfl)) (by unfold Func.isWrapper; first | (rw [if_pos (by decide +kernel)]; kernel_rfl) | (rw [if_neg (by decide +kernel)]; exact ⟨rfl, rfl⟩))
    (fun os started H enc _ => lifted os started H enc)

/-- The statement. -/
theorem proved : Rows.TagsSamesSaid := over
#print axioms proved
end Go.Proofs.Ytlogjghbdnaedaa.tagsSames
