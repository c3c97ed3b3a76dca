/-
  No cell of these rows narrows 'for every input' (looked for: loops, veiled, ifaces, maps, wideKeys, modest, calm, conditions, laid).
  DERIVED. THE GIVEN ROWS OF THIS SEAT. 4 by the template 'for every input the law returns true; each argument reads behind the call as it read before'; 0 by the template 'total and deterministic' (their statements: YtlogjghbdnaedaaTotals.lean).
  GIVEN WITH THE SEED: the statements are not yours to turn. If you find one false, say at which input.
  Laid BY PROGRAM, IN A SANDBOX (cutbox-rows.mjs): the forced cells as the released guide's own fill.sh prints them over the translation f8fbb41104921f63… (all of the seat's roots in one cut). By AI agents, Wed Nov 11 2026. No macro, syntax, notation, axiom, sorry.
-/
import Derived.Test.YtlogjghbdnaedaaChecked
import GoSem.Claim
import GoSem.ClaimJoined
import GoSem.ClaimMapViews
import Derived.JoinedTies
import Derived.KernelRfl
namespace Go.Proofs.Ytlogjghbdnaedaa
/- THE CELL 'sum', in the pinned program and in every row, IS THE sha256 OF THE DUMP (.gsa) THAT YtlogjghbdnaedaaProg.lean LOADS. Nothing in Lean hashes anything: it is a label: what it is worth is what the hold of that sum in a sandbox is worth. -/
noncomputable def Try.pinned : Pinned := { name := "ytlogjghbdnaedaa", sum := "f8fbb41104921f6346a8b55e5800848822f5ffe8c3756ee6ea69816f43ef73cd", checked := Try.checked }
namespace Rows
def none {H : Type} : Left H := { results := [], args := [] }

/-- 'nunciolaw11.TagsTokens': WHATEVER THE INPUT: true; the input reads as it did. -/
def tagsTokensSpec : ChangeSpec := { name := "tagsTokens", fn := fun _ => fun
  | [d] => { results := [.lit (.bool true)], args := [d] }
  | _ => none }
def tagsTokensRow : OpenClaim := { program := "ytlogjghbdnaedaa", sum := "f8fbb41104921f6346a8b55e5800848822f5ffe8c3756ee6ea69816f43ef73cd", func := "nuncio/nunciolaw11.TagsTokens", spec := "tagsTokens", inPlace := ["internal/abi.NoEscape"], unfollowed := true, recurses := true, apart := false }
def TagsTokensSaid : Prop := tagsTokensRow.holds Try.pinned (OpenSpec.ofChange tagsTokensSpec)

/-- ITS FALSE NEIGHBOUR: 'it returns false'. Refute it at one input. -/
def tagsTokensWrong : ChangeSpec := { name := "tagsTokens", fn := fun _ => fun
  | [d] => { results := [.lit (.bool false)], args := [d] }
  | _ => none }
def TagsTokensWrongFalsely : Prop := tagsTokensRow.holds Try.pinned (OpenSpec.ofChange tagsTokensWrong)

/-- 'nunciolaw11.TagsNests': WHATEVER THE INPUT: true; the input reads as it did. -/
def tagsNestsSpec : ChangeSpec := { name := "tagsNests", fn := fun _ => fun
  | [d1, d2] => { results := [.lit (.bool true)], args := [d1, d2] }
  | _ => none }
def tagsNestsRow : OpenClaim := { program := "ytlogjghbdnaedaa", sum := "f8fbb41104921f6346a8b55e5800848822f5ffe8c3756ee6ea69816f43ef73cd", func := "nuncio/nunciolaw11.TagsNests", spec := "tagsNests", inPlace := ["internal/abi.NoEscape"], unfollowed := true, recurses := true, apart := false }
def TagsNestsSaid : Prop := tagsNestsRow.holds Try.pinned (OpenSpec.ofChange tagsNestsSpec)

/-- ITS FALSE NEIGHBOUR: 'it returns false'. Refute it at one input. -/
def tagsNestsWrong : ChangeSpec := { name := "tagsNests", fn := fun _ => fun
  | [d1, d2] => { results := [.lit (.bool false)], args := [d1, d2] }
  | _ => none }
def TagsNestsWrongFalsely : Prop := tagsNestsRow.holds Try.pinned (OpenSpec.ofChange tagsNestsWrong)

/-- 'nunciolaw11.TagsHolds': WHATEVER THE INPUT: true; the input reads as it did. -/
def tagsHoldsSpec : ChangeSpec := { name := "tagsHolds", fn := fun _ => fun
  | [d] => { results := [.lit (.bool true)], args := [d] }
  | _ => none }
def tagsHoldsRow : OpenClaim := { program := "ytlogjghbdnaedaa", sum := "f8fbb41104921f6346a8b55e5800848822f5ffe8c3756ee6ea69816f43ef73cd", func := "nuncio/nunciolaw11.TagsHolds", spec := "tagsHolds", inPlace := ["internal/abi.NoEscape"], unfollowed := true, recurses := true, apart := false }
def TagsHoldsSaid : Prop := tagsHoldsRow.holds Try.pinned (OpenSpec.ofChange tagsHoldsSpec)

/-- ITS FALSE NEIGHBOUR: 'it returns false'. Refute it at one input. -/
def tagsHoldsWrong : ChangeSpec := { name := "tagsHolds", fn := fun _ => fun
  | [d] => { results := [.lit (.bool false)], args := [d] }
  | _ => none }
def TagsHoldsWrongFalsely : Prop := tagsHoldsRow.holds Try.pinned (OpenSpec.ofChange tagsHoldsWrong)

/-- 'nunciolaw11.TagsSames': WHATEVER THE INPUT: true; the input reads as it did. -/
def tagsSamesSpec : ChangeSpec := { name := "tagsSames", fn := fun _ => fun
  | [d1, d2] => { results := [.lit (.bool true)], args := [d1, d2] }
  | _ => none }
def tagsSamesRow : OpenClaim := { program := "ytlogjghbdnaedaa", sum := "f8fbb41104921f6346a8b55e5800848822f5ffe8c3756ee6ea69816f43ef73cd", func := "nuncio/nunciolaw11.TagsSames", spec := "tagsSames", inPlace := ["internal/abi.NoEscape"], unfollowed := true, recurses := true, apart := false }
def TagsSamesSaid : Prop := tagsSamesRow.holds Try.pinned (OpenSpec.ofChange tagsSamesSpec)

/-- ITS FALSE NEIGHBOUR: 'it returns false'. Refute it at one input. -/
def tagsSamesWrong : ChangeSpec := { name := "tagsSames", fn := fun _ => fun
  | [d1, d2] => { results := [.lit (.bool false)], args := [d1, d2] }
  | _ => none }
def TagsSamesWrongFalsely : Prop := tagsSamesRow.holds Try.pinned (OpenSpec.ofChange tagsSamesWrong)

/- THE SECOND FORM. 'bulk': how many values and letters a reading holds, each counted each time it is reached (what is shared counts as often as it is met; a slice's spare places count too). A statement '..UptoSaid' is the law's where the arguments, and the package variables that the reading takes, are together of bulk at most 1048576: NARROWER than '..Said'. Prove '..Said' where nothing that the law and all that it calls make is longer than what came in: it says more and counts as full. Else prove '..UptoSaid'. A law counts once. -/
mutual
def uptoBulk {H : Type} : DataW H → Nat
  | .lit (.string bytes) => bytes.length + 1
  | .lit _ => 1
  | .nil => 1
  | .ptr d => uptoBulk d + 1
  | .slice elems spare => uptoBulkAll elems + uptoBulkAll spare + 1
  | .agg parts => uptoBulkAll parts + 1
  | .iface _ d => uptoBulk d + 1
  | .map entries => uptoBulkEntries entries + 1
  | .held _ => 1
def uptoBulkAll {H : Type} : List (DataW H) → Nat
  | [] => 0
  | d :: r => uptoBulk d + uptoBulkAll r
def uptoBulkEntries {H : Type} : List (Lit × DataW H) → Nat
  | [] => 0
  | x :: r => uptoBulkEntry x + uptoBulkEntries r
def uptoBulkEntry {H : Type} : Lit × DataW H → Nat
  | (.string bytes, d) => bytes.length + uptoBulk d + 1
  | (_, d) => uptoBulk d + 1
 end
def uptoSmall : (H : Type) → List (DataW H) → Bool := fun _ ds => decide (uptoBulkAll ds ≤ 1048576)
def OpenSpec.upto (s : _root_.Go.ChangeSpec) : _root_.Go.OpenSpec := { _root_.Go.OpenSpec.ofChange s with cond := some uptoSmall }

/-- 'nunciolaw11.TagsTokens', WHERE WHAT IT READS IS OF BULK AT MOST 1048576: true; the input reads as it did. -/
def tagsTokensUptoRow : OpenClaim := { program := "ytlogjghbdnaedaa", sum := "f8fbb41104921f6346a8b55e5800848822f5ffe8c3756ee6ea69816f43ef73cd", func := "nuncio/nunciolaw11.TagsTokens", spec := "tagsTokens", inPlace := ["internal/abi.NoEscape"], unfollowed := true, recurses := true, apart := false, narrowed := true }
def TagsTokensUptoSaid : Prop := tagsTokensUptoRow.holds Try.pinned (OpenSpec.upto tagsTokensSpec)

/-- 'nunciolaw11.TagsNests', WHERE WHAT IT READS IS OF BULK AT MOST 1048576: true; the input reads as it did. -/
def tagsNestsUptoRow : OpenClaim := { program := "ytlogjghbdnaedaa", sum := "f8fbb41104921f6346a8b55e5800848822f5ffe8c3756ee6ea69816f43ef73cd", func := "nuncio/nunciolaw11.TagsNests", spec := "tagsNests", inPlace := ["internal/abi.NoEscape"], unfollowed := true, recurses := true, apart := false, narrowed := true }
def TagsNestsUptoSaid : Prop := tagsNestsUptoRow.holds Try.pinned (OpenSpec.upto tagsNestsSpec)

/-- 'nunciolaw11.TagsHolds', WHERE WHAT IT READS IS OF BULK AT MOST 1048576: true; the input reads as it did. -/
def tagsHoldsUptoRow : OpenClaim := { program := "ytlogjghbdnaedaa", sum := "f8fbb41104921f6346a8b55e5800848822f5ffe8c3756ee6ea69816f43ef73cd", func := "nuncio/nunciolaw11.TagsHolds", spec := "tagsHolds", inPlace := ["internal/abi.NoEscape"], unfollowed := true, recurses := true, apart := false, narrowed := true }
def TagsHoldsUptoSaid : Prop := tagsHoldsUptoRow.holds Try.pinned (OpenSpec.upto tagsHoldsSpec)

/-- 'nunciolaw11.TagsSames', WHERE WHAT IT READS IS OF BULK AT MOST 1048576: true; the input reads as it did. -/
def tagsSamesUptoRow : OpenClaim := { program := "ytlogjghbdnaedaa", sum := "f8fbb41104921f6346a8b55e5800848822f5ffe8c3756ee6ea69816f43ef73cd", func := "nuncio/nunciolaw11.TagsSames", spec := "tagsSames", inPlace := ["internal/abi.NoEscape"], unfollowed := true, recurses := true, apart := false, narrowed := true }
def TagsSamesUptoSaid : Prop := tagsSamesUptoRow.holds Try.pinned (OpenSpec.upto tagsSamesSpec)

end Rows
end Go.Proofs.Ytlogjghbdnaedaa
