/-
  No cell of these rows narrows 'for every input' (looked for: loops, veiled, ifaces, maps, wideKeys, modest, calm, conditions, laid).
  DERIVED. THE GIVEN ROWS OF THIS SEAT. 5 by the template 'for every input the law returns true; each argument reads behind the call as it read before'; 0 by the template 'total and deterministic' (their statements: YtmfldffbafamnaaTotals.lean).
  GIVEN WITH THE SEED: the statements are not yours to turn. If you find one false, say at which input.
  Laid BY PROGRAM, IN A SANDBOX (cutbox-rows.mjs): the forced cells as the released guide's own fill.sh prints them over the translation a18531d226d6e203… (all of the seat's roots in one cut). By AI agents, Wed Nov 11 2026. No macro, syntax, notation, axiom, sorry.
-/
import Derived.Test.YtmfldffbafamnaaChecked
import GoSem.Claim
import GoSem.ClaimJoined
import GoSem.ClaimMapViews
import Derived.JoinedTies
import Derived.KernelRfl
namespace Go.Proofs.Ytmfldffbafamnaa
/- THE CELL 'sum', in the pinned program and in every row, IS THE sha256 OF THE DUMP (.gsa) THAT YtmfldffbafamnaaProg.lean LOADS. Nothing in Lean hashes anything: it is a label: what it is worth is what the hold of that sum in a sandbox is worth. -/
noncomputable def Try.pinned : Pinned := { name := "ytmfldffbafamnaa", sum := "a18531d226d6e203076d712a0043abdafaa99350c638c820fbfdb3d237fbf1c4", checked := Try.checked }
namespace Rows
def none {H : Type} : Left H := { results := [], args := [] }

/-- 'nunciolaw25.MemberSteps': WHATEVER THE INPUT: true; the input reads as it did. -/
def memberStepsSpec : ChangeSpec := { name := "memberSteps", fn := fun _ => fun
  | [d1, d2] => { results := [.lit (.bool true)], args := [d1, d2] }
  | _ => none }
def memberStepsRow : OpenClaim := { program := "ytmfldffbafamnaa", sum := "a18531d226d6e203076d712a0043abdafaa99350c638c820fbfdb3d237fbf1c4", func := "nuncio/nunciolaw25.MemberSteps", spec := "memberSteps", inPlace := ["internal/bytealg.IndexByteString"], apart := false }
def MemberStepsSaid : Prop := memberStepsRow.holds Try.pinned (OpenSpec.ofChange memberStepsSpec)

/-- ITS FALSE NEIGHBOUR: 'it returns false'. Refute it at one input. -/
def memberStepsWrong : ChangeSpec := { name := "memberSteps", fn := fun _ => fun
  | [d1, d2] => { results := [.lit (.bool false)], args := [d1, d2] }
  | _ => none }
def MemberStepsWrongFalsely : Prop := memberStepsRow.holds Try.pinned (OpenSpec.ofChange memberStepsWrong)

/-- 'nunciolaw25.MemberEnds': WHATEVER THE INPUT: true; the input reads as it did. -/
def memberEndsSpec : ChangeSpec := { name := "memberEnds", fn := fun _ => fun
  | [d] => { results := [.lit (.bool true)], args := [d] }
  | _ => none }
def memberEndsRow : OpenClaim := { program := "ytmfldffbafamnaa", sum := "a18531d226d6e203076d712a0043abdafaa99350c638c820fbfdb3d237fbf1c4", func := "nuncio/nunciolaw25.MemberEnds", spec := "memberEnds", inPlace := ["internal/bytealg.IndexByteString"], recurses := true, apart := false }
def MemberEndsSaid : Prop := memberEndsRow.holds Try.pinned (OpenSpec.ofChange memberEndsSpec)

/-- ITS FALSE NEIGHBOUR: 'it returns false'. Refute it at one input. -/
def memberEndsWrong : ChangeSpec := { name := "memberEnds", fn := fun _ => fun
  | [d] => { results := [.lit (.bool false)], args := [d] }
  | _ => none }
def MemberEndsWrongFalsely : Prop := memberEndsRow.holds Try.pinned (OpenSpec.ofChange memberEndsWrong)

/-- 'nunciolaw25.MemberHolds': WHATEVER THE INPUT: true; the input reads as it did. -/
def memberHoldsSpec : ChangeSpec := { name := "memberHolds", fn := fun _ => fun
  | [d1, d2, d3] => { results := [.lit (.bool true)], args := [d1, d2, d3] }
  | _ => none }
def memberHoldsRow : OpenClaim := { program := "ytmfldffbafamnaa", sum := "a18531d226d6e203076d712a0043abdafaa99350c638c820fbfdb3d237fbf1c4", func := "nuncio/nunciolaw25.MemberHolds", spec := "memberHolds", inPlace := ["internal/bytealg.IndexByteString"], recurses := true, apart := false }
def MemberHoldsSaid : Prop := memberHoldsRow.holds Try.pinned (OpenSpec.ofChange memberHoldsSpec)

/-- ITS FALSE NEIGHBOUR: 'it returns false'. Refute it at one input. -/
def memberHoldsWrong : ChangeSpec := { name := "memberHolds", fn := fun _ => fun
  | [d1, d2, d3] => { results := [.lit (.bool false)], args := [d1, d2, d3] }
  | _ => none }
def MemberHoldsWrongFalsely : Prop := memberHoldsRow.holds Try.pinned (OpenSpec.ofChange memberHoldsWrong)

/-- 'nunciolaw25.MemberRuns': WHATEVER THE INPUT: true; the input reads as it did. -/
def memberRunsSpec : ChangeSpec := { name := "memberRuns", fn := fun _ => fun
  | [d1, d2] => { results := [.lit (.bool true)], args := [d1, d2] }
  | _ => none }
def memberRunsRow : OpenClaim := { program := "ytmfldffbafamnaa", sum := "a18531d226d6e203076d712a0043abdafaa99350c638c820fbfdb3d237fbf1c4", func := "nuncio/nunciolaw25.MemberRuns", spec := "memberRuns", inPlace := ["internal/bytealg.IndexByteString"], apart := false }
def MemberRunsSaid : Prop := memberRunsRow.holds Try.pinned (OpenSpec.ofChange memberRunsSpec)

/-- ITS FALSE NEIGHBOUR: 'it returns false'. Refute it at one input. -/
def memberRunsWrong : ChangeSpec := { name := "memberRuns", fn := fun _ => fun
  | [d1, d2] => { results := [.lit (.bool false)], args := [d1, d2] }
  | _ => none }
def MemberRunsWrongFalsely : Prop := memberRunsRow.holds Try.pinned (OpenSpec.ofChange memberRunsWrong)

/-- 'nunciolaw25.MemberDeep': WHATEVER THE INPUT: true; the input reads as it did. -/
def memberDeepSpec : ChangeSpec := { name := "memberDeep", fn := fun _ => fun
  | [d1, d2, d3] => { results := [.lit (.bool true)], args := [d1, d2, d3] }
  | _ => none }
def memberDeepRow : OpenClaim := { program := "ytmfldffbafamnaa", sum := "a18531d226d6e203076d712a0043abdafaa99350c638c820fbfdb3d237fbf1c4", func := "nuncio/nunciolaw25.MemberDeep", spec := "memberDeep", inPlace := ["internal/bytealg.IndexByteString"], apart := false }
def MemberDeepSaid : Prop := memberDeepRow.holds Try.pinned (OpenSpec.ofChange memberDeepSpec)

/-- ITS FALSE NEIGHBOUR: 'it returns false'. Refute it at one input. -/
def memberDeepWrong : ChangeSpec := { name := "memberDeep", fn := fun _ => fun
  | [d1, d2, d3] => { results := [.lit (.bool false)], args := [d1, d2, d3] }
  | _ => none }
def MemberDeepWrongFalsely : Prop := memberDeepRow.holds Try.pinned (OpenSpec.ofChange memberDeepWrong)

/- THE SECOND FORM. 'bulk': how many values and letters a reading holds, each counted each time it is reached (what is shared counts as often as it is met; a slice's spare places count too). A statement '..UptoSaid' is the law's where the arguments, and the package variables that the reading takes, are together of bulk at most 1048576: NARROWER than '..Said'. Prove '..Said' where nothing that the law and all that it calls make is longer than what came in: it says more and counts as full. Else prove '..UptoSaid'. A law counts once. -/
mutual
def uptoBulk {H : Type} : DataW H → Nat
  | .lit (.string bytes) => bytes.length + 1
  | .lit _ => 1
  | .nil => 1
  | .ptr d => uptoBulk d + 1
  | .slice elems spare => uptoBulkAll elems + uptoBulkAll spare + 1
  | .agg parts => uptoBulkAll parts + 1
  | .iface _ d => uptoBulk d + 1
  | .map entries => uptoBulkEntries entries + 1
  | .held _ => 1
def uptoBulkAll {H : Type} : List (DataW H) → Nat
  | [] => 0
  | d :: r => uptoBulk d + uptoBulkAll r
def uptoBulkEntries {H : Type} : List (Lit × DataW H) → Nat
  | [] => 0
  | x :: r => uptoBulkEntry x + uptoBulkEntries r
def uptoBulkEntry {H : Type} : Lit × DataW H → Nat
  | (.string bytes, d) => bytes.length + uptoBulk d + 1
  | (_, d) => uptoBulk d + 1
 end
def uptoSmall : (H : Type) → List (DataW H) → Bool := fun _ ds => decide (uptoBulkAll ds ≤ 1048576)
def OpenSpec.upto (s : _root_.Go.ChangeSpec) : _root_.Go.OpenSpec := { _root_.Go.OpenSpec.ofChange s with cond := some uptoSmall }

/-- 'nunciolaw25.MemberSteps', WHERE WHAT IT READS IS OF BULK AT MOST 1048576: true; the input reads as it did. -/
def memberStepsUptoRow : OpenClaim := { program := "ytmfldffbafamnaa", sum := "a18531d226d6e203076d712a0043abdafaa99350c638c820fbfdb3d237fbf1c4", func := "nuncio/nunciolaw25.MemberSteps", spec := "memberSteps", inPlace := ["internal/bytealg.IndexByteString"], apart := false, narrowed := true }
def MemberStepsUptoSaid : Prop := memberStepsUptoRow.holds Try.pinned (OpenSpec.upto memberStepsSpec)

/-- 'nunciolaw25.MemberEnds', WHERE WHAT IT READS IS OF BULK AT MOST 1048576: true; the input reads as it did. -/
def memberEndsUptoRow : OpenClaim := { program := "ytmfldffbafamnaa", sum := "a18531d226d6e203076d712a0043abdafaa99350c638c820fbfdb3d237fbf1c4", func := "nuncio/nunciolaw25.MemberEnds", spec := "memberEnds", inPlace := ["internal/bytealg.IndexByteString"], recurses := true, apart := false, narrowed := true }
def MemberEndsUptoSaid : Prop := memberEndsUptoRow.holds Try.pinned (OpenSpec.upto memberEndsSpec)

/-- 'nunciolaw25.MemberHolds', WHERE WHAT IT READS IS OF BULK AT MOST 1048576: true; the input reads as it did. -/
def memberHoldsUptoRow : OpenClaim := { program := "ytmfldffbafamnaa", sum := "a18531d226d6e203076d712a0043abdafaa99350c638c820fbfdb3d237fbf1c4", func := "nuncio/nunciolaw25.MemberHolds", spec := "memberHolds", inPlace := ["internal/bytealg.IndexByteString"], recurses := true, apart := false, narrowed := true }
def MemberHoldsUptoSaid : Prop := memberHoldsUptoRow.holds Try.pinned (OpenSpec.upto memberHoldsSpec)

/-- 'nunciolaw25.MemberRuns', WHERE WHAT IT READS IS OF BULK AT MOST 1048576: true; the input reads as it did. -/
def memberRunsUptoRow : OpenClaim := { program := "ytmfldffbafamnaa", sum := "a18531d226d6e203076d712a0043abdafaa99350c638c820fbfdb3d237fbf1c4", func := "nuncio/nunciolaw25.MemberRuns", spec := "memberRuns", inPlace := ["internal/bytealg.IndexByteString"], apart := false, narrowed := true }
def MemberRunsUptoSaid : Prop := memberRunsUptoRow.holds Try.pinned (OpenSpec.upto memberRunsSpec)

/-- 'nunciolaw25.MemberDeep', WHERE WHAT IT READS IS OF BULK AT MOST 1048576: true; the input reads as it did. -/
def memberDeepUptoRow : OpenClaim := { program := "ytmfldffbafamnaa", sum := "a18531d226d6e203076d712a0043abdafaa99350c638c820fbfdb3d237fbf1c4", func := "nuncio/nunciolaw25.MemberDeep", spec := "memberDeep", inPlace := ["internal/bytealg.IndexByteString"], apart := false, narrowed := true }
def MemberDeepUptoSaid : Prop := memberDeepUptoRow.holds Try.pinned (OpenSpec.upto memberDeepSpec)

end Rows
end Go.Proofs.Ytmfldffbafamnaa
