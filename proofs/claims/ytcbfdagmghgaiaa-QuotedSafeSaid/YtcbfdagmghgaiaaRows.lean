/-
  No cell of these rows narrows 'for every input' (looked for: loops, veiled, ifaces, maps, wideKeys, modest, calm, conditions, laid).
  DERIVED. THE GIVEN ROWS OF THIS SEAT. 4 by the template 'for every input the law returns true; each argument reads behind the call as it read before'; 0 by the template 'total and deterministic' (their statements: YtcbfdagmghgaiaaTotals.lean).
  GIVEN WITH THE SEED: the statements are not yours to turn. If you find one false, say at which input.
  Laid BY PROGRAM, IN A SANDBOX (cutbox-rows.mjs): the forced cells as the released guide's own fill.sh prints them over the translation 1bcc1ee83a9e242a… (all of the seat's roots in one cut). By AI agents, Wed Nov 11 2026. No macro, syntax, notation, axiom, sorry.
-/
import Derived.Test.YtcbfdagmghgaiaaChecked
import GoSem.Claim
import GoSem.ClaimJoined
import GoSem.ClaimMapViews
import Derived.JoinedTies
import Derived.KernelRfl
namespace Go.Proofs.Ytcbfdagmghgaiaa
/- THE CELL 'sum', in the pinned program and in every row, IS THE sha256 OF THE DUMP (.gsa) THAT YtcbfdagmghgaiaaProg.lean LOADS. Nothing in Lean hashes anything: it is a label: what it is worth is what the hold of that sum in a sandbox is worth. -/
noncomputable def Try.pinned : Pinned := { name := "ytcbfdagmghgaiaa", sum := "1bcc1ee83a9e242a21ca7939746f27d4d15cdc8c30daa265be83a15e3cc3b8de", checked := Try.checked }
namespace Rows
def none {H : Type} : Left H := { results := [], args := [] }

/-- 'nunciolaw07.QuotedWrites': WHATEVER THE INPUT: true; the input reads as it did. -/
def quotedWritesSpec : ChangeSpec := { name := "quotedWrites", fn := fun _ => fun
  | [d] => { results := [.lit (.bool true)], args := [d] }
  | _ => none }
def quotedWritesRow : OpenClaim := { program := "ytcbfdagmghgaiaa", sum := "1bcc1ee83a9e242a21ca7939746f27d4d15cdc8c30daa265be83a15e3cc3b8de", func := "nuncio/nunciolaw07.QuotedWrites", spec := "quotedWrites", inPlace := ["internal/abi.NoEscape"], unfollowed := true, recurses := true, apart := false }
def QuotedWritesSaid : Prop := quotedWritesRow.holds Try.pinned (OpenSpec.ofChange quotedWritesSpec)

/-- ITS FALSE NEIGHBOUR: 'it returns false'. Refute it at one input. -/
def quotedWritesWrong : ChangeSpec := { name := "quotedWrites", fn := fun _ => fun
  | [d] => { results := [.lit (.bool false)], args := [d] }
  | _ => none }
def QuotedWritesWrongFalsely : Prop := quotedWritesRow.holds Try.pinned (OpenSpec.ofChange quotedWritesWrong)

/-- 'nunciolaw07.QuotedOne': WHATEVER THE INPUT: true; the input reads as it did. -/
def quotedOneSpec : ChangeSpec := { name := "quotedOne", fn := fun _ => fun
  | [d1, d2] => { results := [.lit (.bool true)], args := [d1, d2] }
  | _ => none }
def quotedOneRow : OpenClaim := { program := "ytcbfdagmghgaiaa", sum := "1bcc1ee83a9e242a21ca7939746f27d4d15cdc8c30daa265be83a15e3cc3b8de", func := "nuncio/nunciolaw07.QuotedOne", spec := "quotedOne", inPlace := ["internal/abi.NoEscape"], unfollowed := true, recurses := true, apart := false }
def QuotedOneSaid : Prop := quotedOneRow.holds Try.pinned (OpenSpec.ofChange quotedOneSpec)

/-- ITS FALSE NEIGHBOUR: 'it returns false'. Refute it at one input. -/
def quotedOneWrong : ChangeSpec := { name := "quotedOne", fn := fun _ => fun
  | [d1, d2] => { results := [.lit (.bool false)], args := [d1, d2] }
  | _ => none }
def QuotedOneWrongFalsely : Prop := quotedOneRow.holds Try.pinned (OpenSpec.ofChange quotedOneWrong)

/-- 'nunciolaw07.QuotedReads': WHATEVER THE INPUT: true; the input reads as it did. -/
def quotedReadsSpec : ChangeSpec := { name := "quotedReads", fn := fun _ => fun
  | [d] => { results := [.lit (.bool true)], args := [d] }
  | _ => none }
def quotedReadsRow : OpenClaim := { program := "ytcbfdagmghgaiaa", sum := "1bcc1ee83a9e242a21ca7939746f27d4d15cdc8c30daa265be83a15e3cc3b8de", func := "nuncio/nunciolaw07.QuotedReads", spec := "quotedReads", inPlace := ["internal/abi.NoEscape"], unfollowed := true, recurses := true, apart := false }
def QuotedReadsSaid : Prop := quotedReadsRow.holds Try.pinned (OpenSpec.ofChange quotedReadsSpec)

/-- ITS FALSE NEIGHBOUR: 'it returns false'. Refute it at one input. -/
def quotedReadsWrong : ChangeSpec := { name := "quotedReads", fn := fun _ => fun
  | [d] => { results := [.lit (.bool false)], args := [d] }
  | _ => none }
def QuotedReadsWrongFalsely : Prop := quotedReadsRow.holds Try.pinned (OpenSpec.ofChange quotedReadsWrong)

/-- 'nunciolaw07.QuotedSafe': WHATEVER THE INPUT: true; the input reads as it did. -/
def quotedSafeSpec : ChangeSpec := { name := "quotedSafe", fn := fun _ => fun
  | [d] => { results := [.lit (.bool true)], args := [d] }
  | _ => none }
def quotedSafeRow : OpenClaim := { program := "ytcbfdagmghgaiaa", sum := "1bcc1ee83a9e242a21ca7939746f27d4d15cdc8c30daa265be83a15e3cc3b8de", func := "nuncio/nunciolaw07.QuotedSafe", spec := "quotedSafe", inPlace := ["internal/abi.NoEscape"], unfollowed := true, recurses := true, apart := false }
def QuotedSafeSaid : Prop := quotedSafeRow.holds Try.pinned (OpenSpec.ofChange quotedSafeSpec)

/-- ITS FALSE NEIGHBOUR: 'it returns false'. Refute it at one input. -/
def quotedSafeWrong : ChangeSpec := { name := "quotedSafe", fn := fun _ => fun
  | [d] => { results := [.lit (.bool false)], args := [d] }
  | _ => none }
def QuotedSafeWrongFalsely : Prop := quotedSafeRow.holds Try.pinned (OpenSpec.ofChange quotedSafeWrong)

/- THE SECOND FORM. 'bulk': how many values and letters a reading holds, each counted each time it is reached (what is shared counts as often as it is met; a slice's spare places count too). A statement '..UptoSaid' is the law's where the arguments, and the package variables that the reading takes, are together of bulk at most 1048576: NARROWER than '..Said'. Prove '..Said' where nothing that the law and all that it calls make is longer than what came in: it says more and counts as full. Else prove '..UptoSaid'. A law counts once. -/
mutual
def uptoBulk {H : Type} : DataW H → Nat
  | .lit (.string bytes) => bytes.length + 1
  | .lit _ => 1
  | .nil => 1
  | .ptr d => uptoBulk d + 1
  | .slice elems spare => uptoBulkAll elems + uptoBulkAll spare + 1
  | .agg parts => uptoBulkAll parts + 1
  | .iface _ d => uptoBulk d + 1
  | .map entries => uptoBulkEntries entries + 1
  | .held _ => 1
def uptoBulkAll {H : Type} : List (DataW H) → Nat
  | [] => 0
  | d :: r => uptoBulk d + uptoBulkAll r
def uptoBulkEntries {H : Type} : List (Lit × DataW H) → Nat
  | [] => 0
  | x :: r => uptoBulkEntry x + uptoBulkEntries r
def uptoBulkEntry {H : Type} : Lit × DataW H → Nat
  | (.string bytes, d) => bytes.length + uptoBulk d + 1
  | (_, d) => uptoBulk d + 1
 end
def uptoSmall : (H : Type) → List (DataW H) → Bool := fun _ ds => decide (uptoBulkAll ds ≤ 1048576)
def OpenSpec.upto (s : _root_.Go.ChangeSpec) : _root_.Go.OpenSpec := { _root_.Go.OpenSpec.ofChange s with cond := some uptoSmall }

/-- 'nunciolaw07.QuotedWrites', WHERE WHAT IT READS IS OF BULK AT MOST 1048576: true; the input reads as it did. -/
def quotedWritesUptoRow : OpenClaim := { program := "ytcbfdagmghgaiaa", sum := "1bcc1ee83a9e242a21ca7939746f27d4d15cdc8c30daa265be83a15e3cc3b8de", func := "nuncio/nunciolaw07.QuotedWrites", spec := "quotedWrites", inPlace := ["internal/abi.NoEscape"], unfollowed := true, recurses := true, apart := false, narrowed := true }
def QuotedWritesUptoSaid : Prop := quotedWritesUptoRow.holds Try.pinned (OpenSpec.upto quotedWritesSpec)

/-- 'nunciolaw07.QuotedOne', WHERE WHAT IT READS IS OF BULK AT MOST 1048576: true; the input reads as it did. -/
def quotedOneUptoRow : OpenClaim := { program := "ytcbfdagmghgaiaa", sum := "1bcc1ee83a9e242a21ca7939746f27d4d15cdc8c30daa265be83a15e3cc3b8de", func := "nuncio/nunciolaw07.QuotedOne", spec := "quotedOne", inPlace := ["internal/abi.NoEscape"], unfollowed := true, recurses := true, apart := false, narrowed := true }
def QuotedOneUptoSaid : Prop := quotedOneUptoRow.holds Try.pinned (OpenSpec.upto quotedOneSpec)

/-- 'nunciolaw07.QuotedReads', WHERE WHAT IT READS IS OF BULK AT MOST 1048576: true; the input reads as it did. -/
def quotedReadsUptoRow : OpenClaim := { program := "ytcbfdagmghgaiaa", sum := "1bcc1ee83a9e242a21ca7939746f27d4d15cdc8c30daa265be83a15e3cc3b8de", func := "nuncio/nunciolaw07.QuotedReads", spec := "quotedReads", inPlace := ["internal/abi.NoEscape"], unfollowed := true, recurses := true, apart := false, narrowed := true }
def QuotedReadsUptoSaid : Prop := quotedReadsUptoRow.holds Try.pinned (OpenSpec.upto quotedReadsSpec)

/-- 'nunciolaw07.QuotedSafe', WHERE WHAT IT READS IS OF BULK AT MOST 1048576: true; the input reads as it did. -/
def quotedSafeUptoRow : OpenClaim := { program := "ytcbfdagmghgaiaa", sum := "1bcc1ee83a9e242a21ca7939746f27d4d15cdc8c30daa265be83a15e3cc3b8de", func := "nuncio/nunciolaw07.QuotedSafe", spec := "quotedSafe", inPlace := ["internal/abi.NoEscape"], unfollowed := true, recurses := true, apart := false, narrowed := true }
def QuotedSafeUptoSaid : Prop := quotedSafeUptoRow.holds Try.pinned (OpenSpec.upto quotedSafeSpec)

end Rows
end Go.Proofs.Ytcbfdagmghgaiaa
