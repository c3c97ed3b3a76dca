/-
  No cell of these rows narrows 'for every input' (looked for: loops, veiled, ifaces, maps, wideKeys, modest, calm, conditions, laid).
  DERIVED. THE GIVEN ROWS OF THIS SEAT. 4 by the template 'for every input the law returns true; each argument reads behind the call as it read before'; 0 by the template 'total and deterministic' (their statements: YtdmlciebkilmjaaTotals.lean).
  GIVEN WITH THE SEED: the statements are not yours to turn. If you find one false, say at which input.
  Laid BY PROGRAM, IN A SANDBOX (cutbox-rows.mjs): the forced cells as the released guide's own fill.sh prints them over the translation 1e6b725a72871437… (all of the seat's roots in one cut). By AI agents, Wed Nov 11 2026. No macro, syntax, notation, axiom, sorry.
-/
import Derived.Test.YtdmlciebkilmjaaChecked
import GoSem.Claim
import GoSem.ClaimJoined
import GoSem.ClaimMapViews
import Derived.JoinedTies
import Derived.KernelRfl
namespace Go.Proofs.Ytdmlciebkilmjaa
/- THE CELL 'sum', in the pinned program and in every row, IS THE sha256 OF THE DUMP (.gsa) THAT YtdmlciebkilmjaaProg.lean LOADS. Nothing in Lean hashes anything: it is a label: what it is worth is what the hold of that sum in a sandbox is worth. -/
noncomputable def Try.pinned : Pinned := { name := "ytdmlciebkilmjaa", sum := "1e6b725a72871437a78cbda456a0439b11a0b6e685da3473117847d3e5f0ff1c", checked := Try.checked }
namespace Rows
def none {H : Type} : Left H := { results := [], args := [] }

/-- 'nunciolaw38.ChatBuilds': WHATEVER THE INPUT: true; the input reads as it did. -/
def chatBuildsSpec : ChangeSpec := { name := "chatBuilds", fn := fun _ => fun
  | [d1, d2] => { results := [.lit (.bool true)], args := [d1, d2] }
  | _ => none }
def chatBuildsRow : OpenClaim := { program := "ytdmlciebkilmjaa", sum := "1e6b725a72871437a78cbda456a0439b11a0b6e685da3473117847d3e5f0ff1c", func := "nuncio/nunciolaw38.ChatBuilds", spec := "chatBuilds", inPlace := ["internal/abi.NoEscape"], unfollowed := true, recurses := true, apart := false }
def ChatBuildsSaid : Prop := chatBuildsRow.holds Try.pinned (OpenSpec.ofChange chatBuildsSpec)

/-- ITS FALSE NEIGHBOUR: 'it returns false'. Refute it at one input. -/
def chatBuildsWrong : ChangeSpec := { name := "chatBuilds", fn := fun _ => fun
  | [d1, d2] => { results := [.lit (.bool false)], args := [d1, d2] }
  | _ => none }
def ChatBuildsWrongFalsely : Prop := chatBuildsRow.holds Try.pinned (OpenSpec.ofChange chatBuildsWrong)

/-- 'nunciolaw38.ChatReads': WHATEVER THE INPUT: true; the input reads as it did. -/
def chatReadsSpec : ChangeSpec := { name := "chatReads", fn := fun _ => fun
  | [d] => { results := [.lit (.bool true)], args := [d] }
  | _ => none }
def chatReadsRow : OpenClaim := { program := "ytdmlciebkilmjaa", sum := "1e6b725a72871437a78cbda456a0439b11a0b6e685da3473117847d3e5f0ff1c", func := "nuncio/nunciolaw38.ChatReads", spec := "chatReads", inPlace := ["internal/abi.NoEscape"], unfollowed := true, recurses := true, apart := false }
def ChatReadsSaid : Prop := chatReadsRow.holds Try.pinned (OpenSpec.ofChange chatReadsSpec)

/-- ITS FALSE NEIGHBOUR: 'it returns false'. Refute it at one input. -/
def chatReadsWrong : ChangeSpec := { name := "chatReads", fn := fun _ => fun
  | [d] => { results := [.lit (.bool false)], args := [d] }
  | _ => none }
def ChatReadsWrongFalsely : Prop := chatReadsRow.holds Try.pinned (OpenSpec.ofChange chatReadsWrong)

/-- 'nunciolaw38.ChatHolds': WHATEVER THE INPUT: true; the input reads as it did. -/
def chatHoldsSpec : ChangeSpec := { name := "chatHolds", fn := fun _ => fun
  | [d1, d2] => { results := [.lit (.bool true)], args := [d1, d2] }
  | _ => none }
def chatHoldsRow : OpenClaim := { program := "ytdmlciebkilmjaa", sum := "1e6b725a72871437a78cbda456a0439b11a0b6e685da3473117847d3e5f0ff1c", func := "nuncio/nunciolaw38.ChatHolds", spec := "chatHolds", inPlace := ["internal/abi.NoEscape"], unfollowed := true, recurses := true, apart := false }
def ChatHoldsSaid : Prop := chatHoldsRow.holds Try.pinned (OpenSpec.ofChange chatHoldsSpec)

/-- ITS FALSE NEIGHBOUR: 'it returns false'. Refute it at one input. -/
def chatHoldsWrong : ChangeSpec := { name := "chatHolds", fn := fun _ => fun
  | [d1, d2] => { results := [.lit (.bool false)], args := [d1, d2] }
  | _ => none }
def ChatHoldsWrongFalsely : Prop := chatHoldsRow.holds Try.pinned (OpenSpec.ofChange chatHoldsWrong)

/-- 'nunciolaw38.ChatLong': WHATEVER THE INPUT: true; the input reads as it did. -/
def chatLongSpec : ChangeSpec := { name := "chatLong", fn := fun _ => fun
  | [d1, d2, d3] => { results := [.lit (.bool true)], args := [d1, d2, d3] }
  | _ => none }
def chatLongRow : OpenClaim := { program := "ytdmlciebkilmjaa", sum := "1e6b725a72871437a78cbda456a0439b11a0b6e685da3473117847d3e5f0ff1c", func := "nuncio/nunciolaw38.ChatLong", spec := "chatLong", inPlace := ["internal/abi.NoEscape"], unfollowed := true, recurses := true, apart := false }
def ChatLongSaid : Prop := chatLongRow.holds Try.pinned (OpenSpec.ofChange chatLongSpec)

/-- ITS FALSE NEIGHBOUR: 'it returns false'. Refute it at one input. -/
def chatLongWrong : ChangeSpec := { name := "chatLong", fn := fun _ => fun
  | [d1, d2, d3] => { results := [.lit (.bool false)], args := [d1, d2, d3] }
  | _ => none }
def ChatLongWrongFalsely : Prop := chatLongRow.holds Try.pinned (OpenSpec.ofChange chatLongWrong)

/- THE SECOND FORM. 'bulk': how many values and letters a reading holds, each counted each time it is reached (what is shared counts as often as it is met; a slice's spare places count too). A statement '..UptoSaid' is the law's where the arguments, and the package variables that the reading takes, are together of bulk at most 1048576: NARROWER than '..Said'. Prove '..Said' where nothing that the law and all that it calls make is longer than what came in: it says more and counts as full. Else prove '..UptoSaid'. A law counts once. -/
mutual
def uptoBulk {H : Type} : DataW H → Nat
  | .lit (.string bytes) => bytes.length + 1
  | .lit _ => 1
  | .nil => 1
  | .ptr d => uptoBulk d + 1
  | .slice elems spare => uptoBulkAll elems + uptoBulkAll spare + 1
  | .agg parts => uptoBulkAll parts + 1
  | .iface _ d => uptoBulk d + 1
  | .map entries => uptoBulkEntries entries + 1
  | .held _ => 1
def uptoBulkAll {H : Type} : List (DataW H) → Nat
  | [] => 0
  | d :: r => uptoBulk d + uptoBulkAll r
def uptoBulkEntries {H : Type} : List (Lit × DataW H) → Nat
  | [] => 0
  | x :: r => uptoBulkEntry x + uptoBulkEntries r
def uptoBulkEntry {H : Type} : Lit × DataW H → Nat
  | (.string bytes, d) => bytes.length + uptoBulk d + 1
  | (_, d) => uptoBulk d + 1
 end
def uptoSmall : (H : Type) → List (DataW H) → Bool := fun _ ds => decide (uptoBulkAll ds ≤ 1048576)
def OpenSpec.upto (s : _root_.Go.ChangeSpec) : _root_.Go.OpenSpec := { _root_.Go.OpenSpec.ofChange s with cond := some uptoSmall }

/-- 'nunciolaw38.ChatBuilds', WHERE WHAT IT READS IS OF BULK AT MOST 1048576: true; the input reads as it did. -/
def chatBuildsUptoRow : OpenClaim := { program := "ytdmlciebkilmjaa", sum := "1e6b725a72871437a78cbda456a0439b11a0b6e685da3473117847d3e5f0ff1c", func := "nuncio/nunciolaw38.ChatBuilds", spec := "chatBuilds", inPlace := ["internal/abi.NoEscape"], unfollowed := true, recurses := true, apart := false, narrowed := true }
def ChatBuildsUptoSaid : Prop := chatBuildsUptoRow.holds Try.pinned (OpenSpec.upto chatBuildsSpec)

/-- 'nunciolaw38.ChatReads', WHERE WHAT IT READS IS OF BULK AT MOST 1048576: true; the input reads as it did. -/
def chatReadsUptoRow : OpenClaim := { program := "ytdmlciebkilmjaa", sum := "1e6b725a72871437a78cbda456a0439b11a0b6e685da3473117847d3e5f0ff1c", func := "nuncio/nunciolaw38.ChatReads", spec := "chatReads", inPlace := ["internal/abi.NoEscape"], unfollowed := true, recurses := true, apart := false, narrowed := true }
def ChatReadsUptoSaid : Prop := chatReadsUptoRow.holds Try.pinned (OpenSpec.upto chatReadsSpec)

/-- 'nunciolaw38.ChatHolds', WHERE WHAT IT READS IS OF BULK AT MOST 1048576: true; the input reads as it did. -/
def chatHoldsUptoRow : OpenClaim := { program := "ytdmlciebkilmjaa", sum := "1e6b725a72871437a78cbda456a0439b11a0b6e685da3473117847d3e5f0ff1c", func := "nuncio/nunciolaw38.ChatHolds", spec := "chatHolds", inPlace := ["internal/abi.NoEscape"], unfollowed := true, recurses := true, apart := false, narrowed := true }
def ChatHoldsUptoSaid : Prop := chatHoldsUptoRow.holds Try.pinned (OpenSpec.upto chatHoldsSpec)

/-- 'nunciolaw38.ChatLong', WHERE WHAT IT READS IS OF BULK AT MOST 1048576: true; the input reads as it did. -/
def chatLongUptoRow : OpenClaim := { program := "ytdmlciebkilmjaa", sum := "1e6b725a72871437a78cbda456a0439b11a0b6e685da3473117847d3e5f0ff1c", func := "nuncio/nunciolaw38.ChatLong", spec := "chatLong", inPlace := ["internal/abi.NoEscape"], unfollowed := true, recurses := true, apart := false, narrowed := true }
def ChatLongUptoSaid : Prop := chatLongUptoRow.holds Try.pinned (OpenSpec.upto chatLongSpec)

end Rows
end Go.Proofs.Ytdmlciebkilmjaa
