/-
  No cell of these rows narrows 'for every input' (looked for: loops, veiled, ifaces, maps, wideKeys, modest, calm, conditions, laid).
  DERIVED. THE GIVEN ROWS OF THIS SEAT. 3 by the template 'for every input the law returns true; each argument reads behind the call as it read before'; 0 by the template 'total and deterministic' (their statements: YtmdibdiddojdhaaTotals.lean).
  GIVEN WITH THE SEED: the statements are not yours to turn. If you find one false, say at which input.
  Laid BY PROGRAM, IN A SANDBOX (cutbox-rows.mjs): the forced cells as the released guide's own fill.sh prints them over the translation c190d3d3af8a8673… (all of the seat's roots in one cut). By AI agents, Wed Nov 11 2026. No macro, syntax, notation, axiom, sorry.
-/
import Derived.Test.YtmdibdiddojdhaaChecked
import GoSem.Claim
import GoSem.ClaimJoined
import GoSem.ClaimMapViews
import Derived.JoinedTies
import Derived.KernelRfl
namespace Go.Proofs.Ytmdibdiddojdhaa
/- THE CELL 'sum', in the pinned program and in every row, IS THE sha256 OF THE DUMP (.gsa) THAT YtmdibdiddojdhaaProg.lean LOADS. Nothing in Lean hashes anything: it is a label: what it is worth is what the hold of that sum in a sandbox is worth. -/
noncomputable def Try.pinned : Pinned := { name := "ytmdibdiddojdhaa", sum := "c190d3d3af8a8673b6872e239ca74f0b201cdd398792a43c665d7bfc6e54ec0a", checked := Try.checked }
namespace Rows
def none {H : Type} : Left H := { results := [], args := [] }

/-- 'nunciolaw29.MeterMore': WHATEVER THE INPUT: true; the input reads as it did. -/
def meterMoreSpec : ChangeSpec := { name := "meterMore", fn := fun _ => fun
  | [d1, d2, d3, d4, d5] => { results := [.lit (.bool true)], args := [d1, d2, d3, d4, d5] }
  | _ => none }
def meterMoreRow : OpenClaim := { program := "ytmdibdiddojdhaa", sum := "c190d3d3af8a8673b6872e239ca74f0b201cdd398792a43c665d7bfc6e54ec0a", func := "nuncio/nunciolaw29.MeterMore", spec := "meterMore", apart := false }
def MeterMoreSaid : Prop := meterMoreRow.holds Try.pinned (OpenSpec.ofChange meterMoreSpec)

/-- ITS FALSE NEIGHBOUR: 'it returns false'. Refute it at one input. -/
def meterMoreWrong : ChangeSpec := { name := "meterMore", fn := fun _ => fun
  | [d1, d2, d3, d4, d5] => { results := [.lit (.bool false)], args := [d1, d2, d3, d4, d5] }
  | _ => none }
def MeterMoreWrongFalsely : Prop := meterMoreRow.holds Try.pinned (OpenSpec.ofChange meterMoreWrong)

/-- 'nunciolaw29.MeterRuns': WHATEVER THE INPUT: true; the input reads as it did. -/
def meterRunsSpec : ChangeSpec := { name := "meterRuns", fn := fun _ => fun
  | [d1, d2, d3] => { results := [.lit (.bool true)], args := [d1, d2, d3] }
  | _ => none }
def meterRunsRow : OpenClaim := { program := "ytmdibdiddojdhaa", sum := "c190d3d3af8a8673b6872e239ca74f0b201cdd398792a43c665d7bfc6e54ec0a", func := "nuncio/nunciolaw29.MeterRuns", spec := "meterRuns", apart := false }
def MeterRunsSaid : Prop := meterRunsRow.holds Try.pinned (OpenSpec.ofChange meterRunsSpec)

/-- ITS FALSE NEIGHBOUR: 'it returns false'. Refute it at one input. -/
def meterRunsWrong : ChangeSpec := { name := "meterRuns", fn := fun _ => fun
  | [d1, d2, d3] => { results := [.lit (.bool false)], args := [d1, d2, d3] }
  | _ => none }
def MeterRunsWrongFalsely : Prop := meterRunsRow.holds Try.pinned (OpenSpec.ofChange meterRunsWrong)

/-- 'nunciolaw29.MeterNobody': WHATEVER THE INPUT: true; the input reads as it did. -/
def meterNobodySpec : ChangeSpec := { name := "meterNobody", fn := fun _ => fun
  | [d] => { results := [.lit (.bool true)], args := [d] }
  | _ => none }
def meterNobodyRow : OpenClaim := { program := "ytmdibdiddojdhaa", sum := "c190d3d3af8a8673b6872e239ca74f0b201cdd398792a43c665d7bfc6e54ec0a", func := "nuncio/nunciolaw29.MeterNobody", spec := "meterNobody", apart := false }
def MeterNobodySaid : Prop := meterNobodyRow.holds Try.pinned (OpenSpec.ofChange meterNobodySpec)

/-- ITS FALSE NEIGHBOUR: 'it returns false'. Refute it at one input. -/
def meterNobodyWrong : ChangeSpec := { name := "meterNobody", fn := fun _ => fun
  | [d] => { results := [.lit (.bool false)], args := [d] }
  | _ => none }
def MeterNobodyWrongFalsely : Prop := meterNobodyRow.holds Try.pinned (OpenSpec.ofChange meterNobodyWrong)

/- THE SECOND FORM. 'bulk': how many values and letters a reading holds, each counted each time it is reached (what is shared counts as often as it is met; a slice's spare places count too). A statement '..UptoSaid' is the law's where the arguments, and the package variables that the reading takes, are together of bulk at most 1048576: NARROWER than '..Said'. Prove '..Said' where nothing that the law and all that it calls make is longer than what came in: it says more and counts as full. Else prove '..UptoSaid'. A law counts once. -/
mutual
def uptoBulk {H : Type} : DataW H → Nat
  | .lit (.string bytes) => bytes.length + 1
  | .lit _ => 1
  | .nil => 1
  | .ptr d => uptoBulk d + 1
  | .slice elems spare => uptoBulkAll elems + uptoBulkAll spare + 1
  | .agg parts => uptoBulkAll parts + 1
  | .iface _ d => uptoBulk d + 1
  | .map entries => uptoBulkEntries entries + 1
  | .held _ => 1
def uptoBulkAll {H : Type} : List (DataW H) → Nat
  | [] => 0
  | d :: r => uptoBulk d + uptoBulkAll r
def uptoBulkEntries {H : Type} : List (Lit × DataW H) → Nat
  | [] => 0
  | x :: r => uptoBulkEntry x + uptoBulkEntries r
def uptoBulkEntry {H : Type} : Lit × DataW H → Nat
  | (.string bytes, d) => bytes.length + uptoBulk d + 1
  | (_, d) => uptoBulk d + 1
 end
def uptoSmall : (H : Type) → List (DataW H) → Bool := fun _ ds => decide (uptoBulkAll ds ≤ 1048576)
def OpenSpec.upto (s : _root_.Go.ChangeSpec) : _root_.Go.OpenSpec := { _root_.Go.OpenSpec.ofChange s with cond := some uptoSmall }

/-- 'nunciolaw29.MeterMore', WHERE WHAT IT READS IS OF BULK AT MOST 1048576: true; the input reads as it did. -/
def meterMoreUptoRow : OpenClaim := { program := "ytmdibdiddojdhaa", sum := "c190d3d3af8a8673b6872e239ca74f0b201cdd398792a43c665d7bfc6e54ec0a", func := "nuncio/nunciolaw29.MeterMore", spec := "meterMore", apart := false, narrowed := true }
def MeterMoreUptoSaid : Prop := meterMoreUptoRow.holds Try.pinned (OpenSpec.upto meterMoreSpec)

/-- 'nunciolaw29.MeterRuns', WHERE WHAT IT READS IS OF BULK AT MOST 1048576: true; the input reads as it did. -/
def meterRunsUptoRow : OpenClaim := { program := "ytmdibdiddojdhaa", sum := "c190d3d3af8a8673b6872e239ca74f0b201cdd398792a43c665d7bfc6e54ec0a", func := "nuncio/nunciolaw29.MeterRuns", spec := "meterRuns", apart := false, narrowed := true }
def MeterRunsUptoSaid : Prop := meterRunsUptoRow.holds Try.pinned (OpenSpec.upto meterRunsSpec)

/-- 'nunciolaw29.MeterNobody', WHERE WHAT IT READS IS OF BULK AT MOST 1048576: true; the input reads as it did. -/
def meterNobodyUptoRow : OpenClaim := { program := "ytmdibdiddojdhaa", sum := "c190d3d3af8a8673b6872e239ca74f0b201cdd398792a43c665d7bfc6e54ec0a", func := "nuncio/nunciolaw29.MeterNobody", spec := "meterNobody", apart := false, narrowed := true }
def MeterNobodyUptoSaid : Prop := meterNobodyUptoRow.holds Try.pinned (OpenSpec.upto meterNobodySpec)

end Rows
end Go.Proofs.Ytmdibdiddojdhaa
