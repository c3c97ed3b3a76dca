/-
  No cell of these rows narrows 'for every input' (looked for: loops, veiled, ifaces, maps, wideKeys, modest, calm, conditions, laid).
  DERIVED. THE GIVEN ROWS OF THIS SEAT. 5 by the template 'for every input the law returns true; each argument reads behind the call as it read before'; 0 by the template 'total and deterministic' (their statements: YtmanackgoooldaaTotals.lean).
  GIVEN WITH THE SEED: the statements are not yours to turn. If you find one false, say at which input.
  Laid BY PROGRAM, IN A SANDBOX (cutbox-rows.mjs): the forced cells as the released guide's own fill.sh prints them over the translation 9caab6ae4e3839e5… (all of the seat's roots in one cut). By AI agents, Wed Nov 11 2026. No macro, syntax, notation, axiom, sorry.
-/
import Derived.Test.YtmanackgoooldaaChecked
import GoSem.Claim
import GoSem.ClaimJoined
import GoSem.ClaimMapViews
import Derived.JoinedTies
import Derived.KernelRfl
namespace Go.Proofs.Ytmanackgoooldaa
/- THE CELL 'sum', in the pinned program and in every row, IS THE sha256 OF THE DUMP (.gsa) THAT YtmanackgoooldaaProg.lean LOADS. Nothing in Lean hashes anything: it is a label: what it is worth is what the hold of that sum in a sandbox is worth. -/
noncomputable def Try.pinned : Pinned := { name := "ytmanackgoooldaa", sum := "9caab6ae4e3839e5e9dd6bddbdbe49ec6d38050b67b9ef605258771d26cd36ae", checked := Try.checked }
namespace Rows
def none {H : Type} : Left H := { results := [], args := [] }

/-- 'nunciolaw02.UtfNext': WHATEVER THE INPUT: true; the input reads as it did. -/
def utfNextSpec : ChangeSpec := { name := "utfNext", fn := fun _ => fun
  | [d1, d2] => { results := [.lit (.bool true)], args := [d1, d2] }
  | _ => none }
def utfNextRow : OpenClaim := { program := "ytmanackgoooldaa", sum := "9caab6ae4e3839e5e9dd6bddbdbe49ec6d38050b67b9ef605258771d26cd36ae", func := "nuncio/nunciolaw02.UtfNext", spec := "utfNext", inPlace := ["internal/abi.NoEscape"], unfollowed := true, recurses := true, apart := false }
def UtfNextSaid : Prop := utfNextRow.holds Try.pinned (OpenSpec.ofChange utfNextSpec)

/-- ITS FALSE NEIGHBOUR: 'it returns false'. Refute it at one input. -/
def utfNextWrong : ChangeSpec := { name := "utfNext", fn := fun _ => fun
  | [d1, d2] => { results := [.lit (.bool false)], args := [d1, d2] }
  | _ => none }
def UtfNextWrongFalsely : Prop := utfNextRow.holds Try.pinned (OpenSpec.ofChange utfNextWrong)

/-- 'nunciolaw02.UtfBytes': WHATEVER THE INPUT: true; the input reads as it did. -/
def utfBytesSpec : ChangeSpec := { name := "utfBytes", fn := fun _ => fun
  | [d] => { results := [.lit (.bool true)], args := [d] }
  | _ => none }
def utfBytesRow : OpenClaim := { program := "ytmanackgoooldaa", sum := "9caab6ae4e3839e5e9dd6bddbdbe49ec6d38050b67b9ef605258771d26cd36ae", func := "nuncio/nunciolaw02.UtfBytes", spec := "utfBytes", inPlace := ["internal/abi.NoEscape"], unfollowed := true, recurses := true, apart := false }
def UtfBytesSaid : Prop := utfBytesRow.holds Try.pinned (OpenSpec.ofChange utfBytesSpec)

/-- ITS FALSE NEIGHBOUR: 'it returns false'. Refute it at one input. -/
def utfBytesWrong : ChangeSpec := { name := "utfBytes", fn := fun _ => fun
  | [d] => { results := [.lit (.bool false)], args := [d] }
  | _ => none }
def UtfBytesWrongFalsely : Prop := utfBytesRow.holds Try.pinned (OpenSpec.ofChange utfBytesWrong)

/-- 'nunciolaw02.UtfCleans': WHATEVER THE INPUT: true; the input reads as it did. -/
def utfCleansSpec : ChangeSpec := { name := "utfCleans", fn := fun _ => fun
  | [d] => { results := [.lit (.bool true)], args := [d] }
  | _ => none }
def utfCleansRow : OpenClaim := { program := "ytmanackgoooldaa", sum := "9caab6ae4e3839e5e9dd6bddbdbe49ec6d38050b67b9ef605258771d26cd36ae", func := "nuncio/nunciolaw02.UtfCleans", spec := "utfCleans", inPlace := ["internal/abi.NoEscape"], unfollowed := true, recurses := true, apart := false }
def UtfCleansSaid : Prop := utfCleansRow.holds Try.pinned (OpenSpec.ofChange utfCleansSpec)

/-- ITS FALSE NEIGHBOUR: 'it returns false'. Refute it at one input. -/
def utfCleansWrong : ChangeSpec := { name := "utfCleans", fn := fun _ => fun
  | [d] => { results := [.lit (.bool false)], args := [d] }
  | _ => none }
def UtfCleansWrongFalsely : Prop := utfCleansRow.holds Try.pinned (OpenSpec.ofChange utfCleansWrong)

/-- 'nunciolaw02.UtfFronts': WHATEVER THE INPUT: true; the input reads as it did. -/
def utfFrontsSpec : ChangeSpec := { name := "utfFronts", fn := fun _ => fun
  | [d1, d2] => { results := [.lit (.bool true)], args := [d1, d2] }
  | _ => none }
def utfFrontsRow : OpenClaim := { program := "ytmanackgoooldaa", sum := "9caab6ae4e3839e5e9dd6bddbdbe49ec6d38050b67b9ef605258771d26cd36ae", func := "nuncio/nunciolaw02.UtfFronts", spec := "utfFronts", inPlace := ["internal/abi.NoEscape"], unfollowed := true, recurses := true, apart := false }
def UtfFrontsSaid : Prop := utfFrontsRow.holds Try.pinned (OpenSpec.ofChange utfFrontsSpec)

/-- ITS FALSE NEIGHBOUR: 'it returns false'. Refute it at one input. -/
def utfFrontsWrong : ChangeSpec := { name := "utfFronts", fn := fun _ => fun
  | [d1, d2] => { results := [.lit (.bool false)], args := [d1, d2] }
  | _ => none }
def UtfFrontsWrongFalsely : Prop := utfFrontsRow.holds Try.pinned (OpenSpec.ofChange utfFrontsWrong)

/-- 'nunciolaw02.UtfRunes': WHATEVER THE INPUT: true; the input reads as it did. -/
def utfRunesSpec : ChangeSpec := { name := "utfRunes", fn := fun _ => fun
  | [d] => { results := [.lit (.bool true)], args := [d] }
  | _ => none }
def utfRunesRow : OpenClaim := { program := "ytmanackgoooldaa", sum := "9caab6ae4e3839e5e9dd6bddbdbe49ec6d38050b67b9ef605258771d26cd36ae", func := "nuncio/nunciolaw02.UtfRunes", spec := "utfRunes", inPlace := ["internal/abi.NoEscape"], unfollowed := true, recurses := true, apart := false }
def UtfRunesSaid : Prop := utfRunesRow.holds Try.pinned (OpenSpec.ofChange utfRunesSpec)

/-- ITS FALSE NEIGHBOUR: 'it returns false'. Refute it at one input. -/
def utfRunesWrong : ChangeSpec := { name := "utfRunes", fn := fun _ => fun
  | [d] => { results := [.lit (.bool false)], args := [d] }
  | _ => none }
def UtfRunesWrongFalsely : Prop := utfRunesRow.holds Try.pinned (OpenSpec.ofChange utfRunesWrong)

/- THE SECOND FORM. 'bulk': how many values and letters a reading holds, each counted each time it is reached (what is shared counts as often as it is met; a slice's spare places count too). A statement '..UptoSaid' is the law's where the arguments, and the package variables that the reading takes, are together of bulk at most 1048576: NARROWER than '..Said'. Prove '..Said' where nothing that the law and all that it calls make is longer than what came in: it says more and counts as full. Else prove '..UptoSaid'. A law counts once. -/
mutual
def uptoBulk {H : Type} : DataW H → Nat
  | .lit (.string bytes) => bytes.length + 1
  | .lit _ => 1
  | .nil => 1
  | .ptr d => uptoBulk d + 1
  | .slice elems spare => uptoBulkAll elems + uptoBulkAll spare + 1
  | .agg parts => uptoBulkAll parts + 1
  | .iface _ d => uptoBulk d + 1
  | .map entries => uptoBulkEntries entries + 1
  | .held _ => 1
def uptoBulkAll {H : Type} : List (DataW H) → Nat
  | [] => 0
  | d :: r => uptoBulk d + uptoBulkAll r
def uptoBulkEntries {H : Type} : List (Lit × DataW H) → Nat
  | [] => 0
  | x :: r => uptoBulkEntry x + uptoBulkEntries r
def uptoBulkEntry {H : Type} : Lit × DataW H → Nat
  | (.string bytes, d) => bytes.length + uptoBulk d + 1
  | (_, d) => uptoBulk d + 1
 end
def uptoSmall : (H : Type) → List (DataW H) → Bool := fun _ ds => decide (uptoBulkAll ds ≤ 1048576)
def OpenSpec.upto (s : _root_.Go.ChangeSpec) : _root_.Go.OpenSpec := { _root_.Go.OpenSpec.ofChange s with cond := some uptoSmall }

/-- 'nunciolaw02.UtfNext', WHERE WHAT IT READS IS OF BULK AT MOST 1048576: true; the input reads as it did. -/
def utfNextUptoRow : OpenClaim := { program := "ytmanackgoooldaa", sum := "9caab6ae4e3839e5e9dd6bddbdbe49ec6d38050b67b9ef605258771d26cd36ae", func := "nuncio/nunciolaw02.UtfNext", spec := "utfNext", inPlace := ["internal/abi.NoEscape"], unfollowed := true, recurses := true, apart := false, narrowed := true }
def UtfNextUptoSaid : Prop := utfNextUptoRow.holds Try.pinned (OpenSpec.upto utfNextSpec)

/-- 'nunciolaw02.UtfBytes', WHERE WHAT IT READS IS OF BULK AT MOST 1048576: true; the input reads as it did. -/
def utfBytesUptoRow : OpenClaim := { program := "ytmanackgoooldaa", sum := "9caab6ae4e3839e5e9dd6bddbdbe49ec6d38050b67b9ef605258771d26cd36ae", func := "nuncio/nunciolaw02.UtfBytes", spec := "utfBytes", inPlace := ["internal/abi.NoEscape"], unfollowed := true, recurses := true, apart := false, narrowed := true }
def UtfBytesUptoSaid : Prop := utfBytesUptoRow.holds Try.pinned (OpenSpec.upto utfBytesSpec)

/-- 'nunciolaw02.UtfCleans', WHERE WHAT IT READS IS OF BULK AT MOST 1048576: true; the input reads as it did. -/
def utfCleansUptoRow : OpenClaim := { program := "ytmanackgoooldaa", sum := "9caab6ae4e3839e5e9dd6bddbdbe49ec6d38050b67b9ef605258771d26cd36ae", func := "nuncio/nunciolaw02.UtfCleans", spec := "utfCleans", inPlace := ["internal/abi.NoEscape"], unfollowed := true, recurses := true, apart := false, narrowed := true }
def UtfCleansUptoSaid : Prop := utfCleansUptoRow.holds Try.pinned (OpenSpec.upto utfCleansSpec)

/-- 'nunciolaw02.UtfFronts', WHERE WHAT IT READS IS OF BULK AT MOST 1048576: true; the input reads as it did. -/
def utfFrontsUptoRow : OpenClaim := { program := "ytmanackgoooldaa", sum := "9caab6ae4e3839e5e9dd6bddbdbe49ec6d38050b67b9ef605258771d26cd36ae", func := "nuncio/nunciolaw02.UtfFronts", spec := "utfFronts", inPlace := ["internal/abi.NoEscape"], unfollowed := true, recurses := true, apart := false, narrowed := true }
def UtfFrontsUptoSaid : Prop := utfFrontsUptoRow.holds Try.pinned (OpenSpec.upto utfFrontsSpec)

/-- 'nunciolaw02.UtfRunes', WHERE WHAT IT READS IS OF BULK AT MOST 1048576: true; the input reads as it did. -/
def utfRunesUptoRow : OpenClaim := { program := "ytmanackgoooldaa", sum := "9caab6ae4e3839e5e9dd6bddbdbe49ec6d38050b67b9ef605258771d26cd36ae", func := "nuncio/nunciolaw02.UtfRunes", spec := "utfRunes", inPlace := ["internal/abi.NoEscape"], unfollowed := true, recurses := true, apart := false, narrowed := true }
def UtfRunesUptoSaid : Prop := utfRunesUptoRow.holds Try.pinned (OpenSpec.upto utfRunesSpec)

end Rows
end Go.Proofs.Ytmanackgoooldaa
