/-
  No cell of these rows narrows 'for every input' (looked for: loops, veiled, ifaces, maps, wideKeys, modest, calm, conditions, laid).
  DERIVED. THE GIVEN ROWS OF THIS SEAT. 5 by the template 'for every input the law returns true; each argument reads behind the call as it read before'; 0 by the template 'total and deterministic' (their statements: YtpjlkhdolhoeoaaTotals.lean).
  GIVEN WITH THE SEED: the statements are not yours to turn. If you find one false, say at which input.
  Laid BY PROGRAM, IN A SANDBOX (cutbox-rows.mjs): the forced cells as the released guide's own fill.sh prints them over the translation 8aa67705febbec3d… (all of the seat's roots in one cut). By AI agents, Wed Nov 11 2026. No macro, syntax, notation, axiom, sorry.
-/
import Derived.Test.YtpjlkhdolhoeoaaChecked
import GoSem.Claim
import GoSem.ClaimJoined
import GoSem.ClaimMapViews
import Derived.JoinedTies
import Derived.KernelRfl
namespace Go.Proofs.Ytpjlkhdolhoeoaa
/- THE CELL 'sum', in the pinned program and in every row, IS THE sha256 OF THE DUMP (.gsa) THAT YtpjlkhdolhoeoaaProg.lean LOADS. Nothing in Lean hashes anything: it is a label: what it is worth is what the hold of that sum in a sandbox is worth. -/
noncomputable def Try.pinned : Pinned := { name := "ytpjlkhdolhoeoaa", sum := "8aa67705febbec3d54895205582f927510ac42a1d7b7c0d19cd7c86baabfe4b3", checked := Try.checked }
namespace Rows
def none {H : Type} : Left H := { results := [], args := [] }

/-- 'nunciolaw03.FindFits': WHATEVER THE INPUT: true; the input reads as it did. -/
def findFitsSpec : ChangeSpec := { name := "findFits", fn := fun _ => fun
  | [d1, d2, d3] => { results := [.lit (.bool true)], args := [d1, d2, d3] }
  | _ => none }
def findFitsRow : OpenClaim := { program := "ytpjlkhdolhoeoaa", sum := "8aa67705febbec3d54895205582f927510ac42a1d7b7c0d19cd7c86baabfe4b3", func := "nuncio/nunciolaw03.FindFits", spec := "findFits", unfollowed := true, recurses := true, plainKeys := false, apart := false }
def FindFitsSaid : Prop := findFitsRow.holds Try.pinned (OpenSpec.ofChange findFitsSpec)

/-- ITS FALSE NEIGHBOUR: 'it returns false'. Refute it at one input. -/
def findFitsWrong : ChangeSpec := { name := "findFits", fn := fun _ => fun
  | [d1, d2, d3] => { results := [.lit (.bool false)], args := [d1, d2, d3] }
  | _ => none }
def FindFitsWrongFalsely : Prop := findFitsRow.holds Try.pinned (OpenSpec.ofChange findFitsWrong)

/-- 'nunciolaw03.FindBlots': WHATEVER THE INPUT: true; the input reads as it did. -/
def findBlotsSpec : ChangeSpec := { name := "findBlots", fn := fun _ => fun
  | [d1, d2, d3] => { results := [.lit (.bool true)], args := [d1, d2, d3] }
  | _ => none }
def findBlotsRow : OpenClaim := { program := "ytpjlkhdolhoeoaa", sum := "8aa67705febbec3d54895205582f927510ac42a1d7b7c0d19cd7c86baabfe4b3", func := "nuncio/nunciolaw03.FindBlots", spec := "findBlots", unfollowed := true, recurses := true, plainKeys := false, apart := false }
def FindBlotsSaid : Prop := findBlotsRow.holds Try.pinned (OpenSpec.ofChange findBlotsSpec)

/-- ITS FALSE NEIGHBOUR: 'it returns false'. Refute it at one input. -/
def findBlotsWrong : ChangeSpec := { name := "findBlots", fn := fun _ => fun
  | [d1, d2, d3] => { results := [.lit (.bool false)], args := [d1, d2, d3] }
  | _ => none }
def FindBlotsWrongFalsely : Prop := findBlotsRow.holds Try.pinned (OpenSpec.ofChange findBlotsWrong)

/-- 'nunciolaw03.FindHits': WHATEVER THE INPUT: true; the input reads as it did. -/
def findHitsSpec : ChangeSpec := { name := "findHits", fn := fun _ => fun
  | [d1, d2, d3] => { results := [.lit (.bool true)], args := [d1, d2, d3] }
  | _ => none }
def findHitsRow : OpenClaim := { program := "ytpjlkhdolhoeoaa", sum := "8aa67705febbec3d54895205582f927510ac42a1d7b7c0d19cd7c86baabfe4b3", func := "nuncio/nunciolaw03.FindHits", spec := "findHits", unfollowed := true, recurses := true, plainKeys := false, apart := false }
def FindHitsSaid : Prop := findHitsRow.holds Try.pinned (OpenSpec.ofChange findHitsSpec)

/-- ITS FALSE NEIGHBOUR: 'it returns false'. Refute it at one input. -/
def findHitsWrong : ChangeSpec := { name := "findHits", fn := fun _ => fun
  | [d1, d2, d3] => { results := [.lit (.bool false)], args := [d1, d2, d3] }
  | _ => none }
def FindHitsWrongFalsely : Prop := findHitsRow.holds Try.pinned (OpenSpec.ofChange findHitsWrong)

/-- 'nunciolaw03.FindNobody': WHATEVER THE INPUT: true; the input reads as it did. -/
def findNobodySpec : ChangeSpec := { name := "findNobody", fn := fun _ => fun
  | [d1, d2, d3] => { results := [.lit (.bool true)], args := [d1, d2, d3] }
  | _ => none }
def findNobodyRow : OpenClaim := { program := "ytpjlkhdolhoeoaa", sum := "8aa67705febbec3d54895205582f927510ac42a1d7b7c0d19cd7c86baabfe4b3", func := "nuncio/nunciolaw03.FindNobody", spec := "findNobody", unfollowed := true, recurses := true, plainKeys := false, apart := false }
def FindNobodySaid : Prop := findNobodyRow.holds Try.pinned (OpenSpec.ofChange findNobodySpec)

/-- ITS FALSE NEIGHBOUR: 'it returns false'. Refute it at one input. -/
def findNobodyWrong : ChangeSpec := { name := "findNobody", fn := fun _ => fun
  | [d1, d2, d3] => { results := [.lit (.bool false)], args := [d1, d2, d3] }
  | _ => none }
def FindNobodyWrongFalsely : Prop := findNobodyRow.holds Try.pinned (OpenSpec.ofChange findNobodyWrong)

/-- 'nunciolaw03.FindAt': WHATEVER THE INPUT: true; the input reads as it did. -/
def findAtSpec : ChangeSpec := { name := "findAt", fn := fun _ => fun
  | [d1, d2, d3] => { results := [.lit (.bool true)], args := [d1, d2, d3] }
  | _ => none }
def findAtRow : OpenClaim := { program := "ytpjlkhdolhoeoaa", sum := "8aa67705febbec3d54895205582f927510ac42a1d7b7c0d19cd7c86baabfe4b3", func := "nuncio/nunciolaw03.FindAt", spec := "findAt", inPlace := ["internal/bytealg.IndexByteString", "internal/bytealg.IndexString"], unfollowed := true, recurses := true, named := ["internal/bytealg.MaxLen"], plainKeys := false, apart := false }
def FindAtSaid : Prop := findAtRow.holds Try.pinned (OpenSpec.ofChange findAtSpec)

/-- ITS FALSE NEIGHBOUR: 'it returns false'. Refute it at one input. -/
def findAtWrong : ChangeSpec := { name := "findAt", fn := fun _ => fun
  | [d1, d2, d3] => { results := [.lit (.bool false)], args := [d1, d2, d3] }
  | _ => none }
def FindAtWrongFalsely : Prop := findAtRow.holds Try.pinned (OpenSpec.ofChange findAtWrong)

/- THE SECOND FORM. 'bulk': how many values and letters a reading holds, each counted each time it is reached (what is shared counts as often as it is met; a slice's spare places count too). A statement '..UptoSaid' is the law's where the arguments, and the package variables that the reading takes, are together of bulk at most 1048576: NARROWER than '..Said'. Prove '..Said' where nothing that the law and all that it calls make is longer than what came in: it says more and counts as full. Else prove '..UptoSaid'. A law counts once. -/
mutual
def uptoBulk {H : Type} : DataW H → Nat
  | .lit (.string bytes) => bytes.length + 1
  | .lit _ => 1
  | .nil => 1
  | .ptr d => uptoBulk d + 1
  | .slice elems spare => uptoBulkAll elems + uptoBulkAll spare + 1
  | .agg parts => uptoBulkAll parts + 1
  | .iface _ d => uptoBulk d + 1
  | .map entries => uptoBulkEntries entries + 1
  | .held _ => 1
def uptoBulkAll {H : Type} : List (DataW H) → Nat
  | [] => 0
  | d :: r => uptoBulk d + uptoBulkAll r
def uptoBulkEntries {H : Type} : List (Lit × DataW H) → Nat
  | [] => 0
  | x :: r => uptoBulkEntry x + uptoBulkEntries r
def uptoBulkEntry {H : Type} : Lit × DataW H → Nat
  | (.string bytes, d) => bytes.length + uptoBulk d + 1
  | (_, d) => uptoBulk d + 1
 end
def uptoSmall : (H : Type) → List (DataW H) → Bool := fun _ ds => decide (uptoBulkAll ds ≤ 1048576)
def OpenSpec.upto (s : _root_.Go.ChangeSpec) : _root_.Go.OpenSpec := { _root_.Go.OpenSpec.ofChange s with cond := some uptoSmall }

/-- 'nunciolaw03.FindFits', WHERE WHAT IT READS IS OF BULK AT MOST 1048576: true; the input reads as it did. -/
def findFitsUptoRow : OpenClaim := { program := "ytpjlkhdolhoeoaa", sum := "8aa67705febbec3d54895205582f927510ac42a1d7b7c0d19cd7c86baabfe4b3", func := "nuncio/nunciolaw03.FindFits", spec := "findFits", unfollowed := true, recurses := true, plainKeys := false, apart := false, narrowed := true }
def FindFitsUptoSaid : Prop := findFitsUptoRow.holds Try.pinned (OpenSpec.upto findFitsSpec)

/-- 'nunciolaw03.FindBlots', WHERE WHAT IT READS IS OF BULK AT MOST 1048576: true; the input reads as it did. -/
def findBlotsUptoRow : OpenClaim := { program := "ytpjlkhdolhoeoaa", sum := "8aa67705febbec3d54895205582f927510ac42a1d7b7c0d19cd7c86baabfe4b3", func := "nuncio/nunciolaw03.FindBlots", spec := "findBlots", unfollowed := true, recurses := true, plainKeys := false, apart := false, narrowed := true }
def FindBlotsUptoSaid : Prop := findBlotsUptoRow.holds Try.pinned (OpenSpec.upto findBlotsSpec)

/-- 'nunciolaw03.FindHits', WHERE WHAT IT READS IS OF BULK AT MOST 1048576: true; the input reads as it did. -/
def findHitsUptoRow : OpenClaim := { program := "ytpjlkhdolhoeoaa", sum := "8aa67705febbec3d54895205582f927510ac42a1d7b7c0d19cd7c86baabfe4b3", func := "nuncio/nunciolaw03.FindHits", spec := "findHits", unfollowed := true, recurses := true, plainKeys := false, apart := false, narrowed := true }
def FindHitsUptoSaid : Prop := findHitsUptoRow.holds Try.pinned (OpenSpec.upto findHitsSpec)

/-- 'nunciolaw03.FindNobody', WHERE WHAT IT READS IS OF BULK AT MOST 1048576: true; the input reads as it did. -/
def findNobodyUptoRow : OpenClaim := { program := "ytpjlkhdolhoeoaa", sum := "8aa67705febbec3d54895205582f927510ac42a1d7b7c0d19cd7c86baabfe4b3", func := "nuncio/nunciolaw03.FindNobody", spec := "findNobody", unfollowed := true, recurses := true, plainKeys := false, apart := false, narrowed := true }
def FindNobodyUptoSaid : Prop := findNobodyUptoRow.holds Try.pinned (OpenSpec.upto findNobodySpec)

/-- 'nunciolaw03.FindAt', WHERE WHAT IT READS IS OF BULK AT MOST 1048576: true; the input reads as it did. -/
def findAtUptoRow : OpenClaim := { program := "ytpjlkhdolhoeoaa", sum := "8aa67705febbec3d54895205582f927510ac42a1d7b7c0d19cd7c86baabfe4b3", func := "nuncio/nunciolaw03.FindAt", spec := "findAt", inPlace := ["internal/bytealg.IndexByteString", "internal/bytealg.IndexString"], unfollowed := true, recurses := true, named := ["internal/bytealg.MaxLen"], plainKeys := false, apart := false, narrowed := true }
def FindAtUptoSaid : Prop := findAtUptoRow.holds Try.pinned (OpenSpec.upto findAtSpec)

end Rows
end Go.Proofs.Ytpjlkhdolhoeoaa
