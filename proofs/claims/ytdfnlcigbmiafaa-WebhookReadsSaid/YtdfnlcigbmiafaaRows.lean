/-
  No cell of these rows narrows 'for every input' (looked for: loops, veiled, ifaces, maps, wideKeys, modest, calm, conditions, laid).
  DERIVED. THE GIVEN ROWS OF THIS SEAT. 4 by the template 'for every input the law returns true; each argument reads behind the call as it read before'; 0 by the template 'total and deterministic' (their statements: YtdfnlcigbmiafaaTotals.lean).
  GIVEN WITH THE SEED: the statements are not yours to turn. If you find one false, say at which input.
  Laid BY PROGRAM, IN A SANDBOX (cutbox-rows.mjs): the forced cells as the released guide's own fill.sh prints them over the translation 76a9bc0244ab37b1… (all of the seat's roots in one cut). By AI agents, Wed Nov 11 2026. No macro, syntax, notation, axiom, sorry.
-/
import Derived.Test.YtdfnlcigbmiafaaChecked
import GoSem.Claim
import GoSem.ClaimJoined
import GoSem.ClaimMapViews
import Derived.JoinedTies
import Derived.KernelRfl
namespace Go.Proofs.Ytdfnlcigbmiafaa
/- THE CELL 'sum', in the pinned program and in every row, IS THE sha256 OF THE DUMP (.gsa) THAT YtdfnlcigbmiafaaProg.lean LOADS. Nothing in Lean hashes anything: it is a label: what it is worth is what the hold of that sum in a sandbox is worth. -/
noncomputable def Try.pinned : Pinned := { name := "ytdfnlcigbmiafaa", sum := "76a9bc0244ab37b1ce51b91d4e58072fc7d7a17467b9141a32095f65bf19a26f", checked := Try.checked }
namespace Rows
def none {H : Type} : Left H := { results := [], args := [] }

/-- 'nunciolaw37.WebhookBuilds': WHATEVER THE INPUT: true; the input reads as it did. -/
def webhookBuildsSpec : ChangeSpec := { name := "webhookBuilds", fn := fun _ => fun
  | [d] => { results := [.lit (.bool true)], args := [d] }
  | _ => none }
def webhookBuildsRow : OpenClaim := { program := "ytdfnlcigbmiafaa", sum := "76a9bc0244ab37b1ce51b91d4e58072fc7d7a17467b9141a32095f65bf19a26f", func := "nuncio/nunciolaw37.WebhookBuilds", spec := "webhookBuilds", inPlace := ["internal/bytealg.IndexByteString", "internal/abi.NoEscape"], unfollowed := true, recurses := true, apart := false }
def WebhookBuildsSaid : Prop := webhookBuildsRow.holds Try.pinned (OpenSpec.ofChange webhookBuildsSpec)

/-- ITS FALSE NEIGHBOUR: 'it returns false'. Refute it at one input. -/
def webhookBuildsWrong : ChangeSpec := { name := "webhookBuilds", fn := fun _ => fun
  | [d] => { results := [.lit (.bool false)], args := [d] }
  | _ => none }
def WebhookBuildsWrongFalsely : Prop := webhookBuildsRow.holds Try.pinned (OpenSpec.ofChange webhookBuildsWrong)

/-- 'nunciolaw37.WebhookDeep': WHATEVER THE INPUT: true; the input reads as it did. -/
def webhookDeepSpec : ChangeSpec := { name := "webhookDeep", fn := fun _ => fun
  | [d] => { results := [.lit (.bool true)], args := [d] }
  | _ => none }
def webhookDeepRow : OpenClaim := { program := "ytdfnlcigbmiafaa", sum := "76a9bc0244ab37b1ce51b91d4e58072fc7d7a17467b9141a32095f65bf19a26f", func := "nuncio/nunciolaw37.WebhookDeep", spec := "webhookDeep", inPlace := ["internal/bytealg.IndexByteString", "internal/abi.NoEscape"], unfollowed := true, recurses := true, apart := false }
def WebhookDeepSaid : Prop := webhookDeepRow.holds Try.pinned (OpenSpec.ofChange webhookDeepSpec)

/-- ITS FALSE NEIGHBOUR: 'it returns false'. Refute it at one input. -/
def webhookDeepWrong : ChangeSpec := { name := "webhookDeep", fn := fun _ => fun
  | [d] => { results := [.lit (.bool false)], args := [d] }
  | _ => none }
def WebhookDeepWrongFalsely : Prop := webhookDeepRow.holds Try.pinned (OpenSpec.ofChange webhookDeepWrong)

/-- 'nunciolaw37.WebhookReads': WHATEVER THE INPUT: true; the input reads as it did. -/
def webhookReadsSpec : ChangeSpec := { name := "webhookReads", fn := fun _ => fun
  | [d] => { results := [.lit (.bool true)], args := [d] }
  | _ => none }
def webhookReadsRow : OpenClaim := { program := "ytdfnlcigbmiafaa", sum := "76a9bc0244ab37b1ce51b91d4e58072fc7d7a17467b9141a32095f65bf19a26f", func := "nuncio/nunciolaw37.WebhookReads", spec := "webhookReads", inPlace := ["internal/bytealg.IndexByteString", "internal/bytealg.IndexString", "internal/abi.NoEscape"], unfollowed := true, recurses := true, named := ["internal/bytealg.MaxLen"], apart := false }
def WebhookReadsSaid : Prop := webhookReadsRow.holds Try.pinned (OpenSpec.ofChange webhookReadsSpec)

/-- ITS FALSE NEIGHBOUR: 'it returns false'. Refute it at one input. -/
def webhookReadsWrong : ChangeSpec := { name := "webhookReads", fn := fun _ => fun
  | [d] => { results := [.lit (.bool false)], args := [d] }
  | _ => none }
def WebhookReadsWrongFalsely : Prop := webhookReadsRow.holds Try.pinned (OpenSpec.ofChange webhookReadsWrong)

/-- 'nunciolaw37.WebhookHolds': WHATEVER THE INPUT: true; the input reads as it did. -/
def webhookHoldsSpec : ChangeSpec := { name := "webhookHolds", fn := fun _ => fun
  | [d] => { results := [.lit (.bool true)], args := [d] }
  | _ => none }
def webhookHoldsRow : OpenClaim := { program := "ytdfnlcigbmiafaa", sum := "76a9bc0244ab37b1ce51b91d4e58072fc7d7a17467b9141a32095f65bf19a26f", func := "nuncio/nunciolaw37.WebhookHolds", spec := "webhookHolds", inPlace := ["internal/bytealg.IndexByteString", "internal/abi.NoEscape", "internal/bytealg.IndexString"], unfollowed := true, recurses := true, named := ["internal/bytealg.MaxLen"], apart := false }
def WebhookHoldsSaid : Prop := webhookHoldsRow.holds Try.pinned (OpenSpec.ofChange webhookHoldsSpec)

/-- ITS FALSE NEIGHBOUR: 'it returns false'. Refute it at one input. -/
def webhookHoldsWrong : ChangeSpec := { name := "webhookHolds", fn := fun _ => fun
  | [d] => { results := [.lit (.bool false)], args := [d] }
  | _ => none }
def WebhookHoldsWrongFalsely : Prop := webhookHoldsRow.holds Try.pinned (OpenSpec.ofChange webhookHoldsWrong)

/- THE SECOND FORM. 'bulk': how many values and letters a reading holds, each counted each time it is reached (what is shared counts as often as it is met; a slice's spare places count too). A statement '..UptoSaid' is the law's where the arguments, and the package variables that the reading takes, are together of bulk at most 1048576: NARROWER than '..Said'. Prove '..Said' where nothing that the law and all that it calls make is longer than what came in: it says more and counts as full. Else prove '..UptoSaid'. A law counts once. -/
mutual
def uptoBulk {H : Type} : DataW H → Nat
  | .lit (.string bytes) => bytes.length + 1
  | .lit _ => 1
  | .nil => 1
  | .ptr d => uptoBulk d + 1
  | .slice elems spare => uptoBulkAll elems + uptoBulkAll spare + 1
  | .agg parts => uptoBulkAll parts + 1
  | .iface _ d => uptoBulk d + 1
  | .map entries => uptoBulkEntries entries + 1
  | .held _ => 1
def uptoBulkAll {H : Type} : List (DataW H) → Nat
  | [] => 0
  | d :: r => uptoBulk d + uptoBulkAll r
def uptoBulkEntries {H : Type} : List (Lit × DataW H) → Nat
  | [] => 0
  | x :: r => uptoBulkEntry x + uptoBulkEntries r
def uptoBulkEntry {H : Type} : Lit × DataW H → Nat
  | (.string bytes, d) => bytes.length + uptoBulk d + 1
  | (_, d) => uptoBulk d + 1
 end
def uptoSmall : (H : Type) → List (DataW H) → Bool := fun _ ds => decide (uptoBulkAll ds ≤ 1048576)
def OpenSpec.upto (s : _root_.Go.ChangeSpec) : _root_.Go.OpenSpec := { _root_.Go.OpenSpec.ofChange s with cond := some uptoSmall }

/-- 'nunciolaw37.WebhookBuilds', WHERE WHAT IT READS IS OF BULK AT MOST 1048576: true; the input reads as it did. -/
def webhookBuildsUptoRow : OpenClaim := { program := "ytdfnlcigbmiafaa", sum := "76a9bc0244ab37b1ce51b91d4e58072fc7d7a17467b9141a32095f65bf19a26f", func := "nuncio/nunciolaw37.WebhookBuilds", spec := "webhookBuilds", inPlace := ["internal/bytealg.IndexByteString", "internal/abi.NoEscape"], unfollowed := true, recurses := true, apart := false, narrowed := true }
def WebhookBuildsUptoSaid : Prop := webhookBuildsUptoRow.holds Try.pinned (OpenSpec.upto webhookBuildsSpec)

/-- 'nunciolaw37.WebhookDeep', WHERE WHAT IT READS IS OF BULK AT MOST 1048576: true; the input reads as it did. -/
def webhookDeepUptoRow : OpenClaim := { program := "ytdfnlcigbmiafaa", sum := "76a9bc0244ab37b1ce51b91d4e58072fc7d7a17467b9141a32095f65bf19a26f", func := "nuncio/nunciolaw37.WebhookDeep", spec := "webhookDeep", inPlace := ["internal/bytealg.IndexByteString", "internal/abi.NoEscape"], unfollowed := true, recurses := true, apart := false, narrowed := true }
def WebhookDeepUptoSaid : Prop := webhookDeepUptoRow.holds Try.pinned (OpenSpec.upto webhookDeepSpec)

/-- 'nunciolaw37.WebhookReads', WHERE WHAT IT READS IS OF BULK AT MOST 1048576: true; the input reads as it did. -/
def webhookReadsUptoRow : OpenClaim := { program := "ytdfnlcigbmiafaa", sum := "76a9bc0244ab37b1ce51b91d4e58072fc7d7a17467b9141a32095f65bf19a26f", func := "nuncio/nunciolaw37.WebhookReads", spec := "webhookReads", inPlace := ["internal/bytealg.IndexByteString", "internal/bytealg.IndexString", "internal/abi.NoEscape"], unfollowed := true, recurses := true, named := ["internal/bytealg.MaxLen"], apart := false, narrowed := true }
def WebhookReadsUptoSaid : Prop := webhookReadsUptoRow.holds Try.pinned (OpenSpec.upto webhookReadsSpec)

/-- 'nunciolaw37.WebhookHolds', WHERE WHAT IT READS IS OF BULK AT MOST 1048576: true; the input reads as it did. -/
def webhookHoldsUptoRow : OpenClaim := { program := "ytdfnlcigbmiafaa", sum := "76a9bc0244ab37b1ce51b91d4e58072fc7d7a17467b9141a32095f65bf19a26f", func := "nuncio/nunciolaw37.WebhookHolds", spec := "webhookHolds", inPlace := ["internal/bytealg.IndexByteString", "internal/abi.NoEscape", "internal/bytealg.IndexString"], unfollowed := true, recurses := true, named := ["internal/bytealg.MaxLen"], apart := false, narrowed := true }
def WebhookHoldsUptoSaid : Prop := webhookHoldsUptoRow.holds Try.pinned (OpenSpec.upto webhookHoldsSpec)

end Rows
end Go.Proofs.Ytdfnlcigbmiafaa
