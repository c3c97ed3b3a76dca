/-
  NARROWER THAN 'FOR EVERY INPUT', by the rows' own cells (each row's printed sentence says how): JsonBack: loops · JsonSames: loops.
  DERIVED. THE GIVEN ROWS OF THIS SEAT. 5 by the template 'for every input the law returns true; each argument reads behind the call as it read before'; 0 by the template 'total and deterministic' (their statements: YtjnmcadfaombjaaTotals.lean).
  GIVEN WITH THE SEED: the statements are not yours to turn. If you find one false, say at which input.
  Laid BY PROGRAM, IN A SANDBOX (cutbox-rows.mjs): the forced cells as the released guide's own fill.sh prints them over the translation 9325845deef502a0… (all of the seat's roots in one cut). By AI agents, Wed Nov 11 2026. No macro, syntax, notation, axiom, sorry.
-/
import Derived.Test.YtjnmcadfaombjaaChecked
import GoSem.Claim
import GoSem.ClaimJoined
import GoSem.ClaimMapViews
import Derived.JoinedTies
import Derived.KernelRfl
namespace Go.Proofs.Ytjnmcadfaombjaa
/- THE CELL 'sum', in the pinned program and in every row, IS THE sha256 OF THE DUMP (.gsa) THAT YtjnmcadfaombjaaProg.lean LOADS. Nothing in Lean hashes anything: it is a label: what it is worth is what the hold of that sum in a sandbox is worth. -/
noncomputable def Try.pinned : Pinned := { name := "ytjnmcadfaombjaa", sum := "9325845deef502a0615333bd02ee8f6270eca4808aadcc01221b7d69002ca99c", checked := Try.checked }
namespace Rows
def none {H : Type} : Left H := { results := [], args := [] }

/-- 'nunciolaw10.JsonTokens': WHATEVER THE INPUT: true; the input reads as it did. -/
def jsonTokensSpec : ChangeSpec := { name := "jsonTokens", fn := fun _ => fun
  | [d] => { results := [.lit (.bool true)], args := [d] }
  | _ => none }
def jsonTokensRow : OpenClaim := { program := "ytjnmcadfaombjaa", sum := "9325845deef502a0615333bd02ee8f6270eca4808aadcc01221b7d69002ca99c", func := "nuncio/nunciolaw10.JsonTokens", spec := "jsonTokens", inPlace := ["internal/bytealg.IndexByteString", "internal/abi.NoEscape"], unfollowed := true, recurses := true, apart := false }
def JsonTokensSaid : Prop := jsonTokensRow.holds Try.pinned (OpenSpec.ofChange jsonTokensSpec)

/-- ITS FALSE NEIGHBOUR: 'it returns false'. Refute it at one input. -/
def jsonTokensWrong : ChangeSpec := { name := "jsonTokens", fn := fun _ => fun
  | [d] => { results := [.lit (.bool false)], args := [d] }
  | _ => none }
def JsonTokensWrongFalsely : Prop := jsonTokensRow.holds Try.pinned (OpenSpec.ofChange jsonTokensWrong)

/-- 'nunciolaw10.JsonParses': WHATEVER THE INPUT: true; the input reads as it did. -/
def jsonParsesSpec : ChangeSpec := { name := "jsonParses", fn := fun _ => fun
  | [d] => { results := [.lit (.bool true)], args := [d] }
  | _ => none }
def jsonParsesRow : OpenClaim := { program := "ytjnmcadfaombjaa", sum := "9325845deef502a0615333bd02ee8f6270eca4808aadcc01221b7d69002ca99c", func := "nuncio/nunciolaw10.JsonParses", spec := "jsonParses", inPlace := ["internal/bytealg.IndexByteString", "internal/abi.NoEscape"], unfollowed := true, recurses := true, apart := false }
def JsonParsesSaid : Prop := jsonParsesRow.holds Try.pinned (OpenSpec.ofChange jsonParsesSpec)

/-- ITS FALSE NEIGHBOUR: 'it returns false'. Refute it at one input. -/
def jsonParsesWrong : ChangeSpec := { name := "jsonParses", fn := fun _ => fun
  | [d] => { results := [.lit (.bool false)], args := [d] }
  | _ => none }
def JsonParsesWrongFalsely : Prop := jsonParsesRow.holds Try.pinned (OpenSpec.ofChange jsonParsesWrong)

/-- 'nunciolaw10.JsonDeep': WHATEVER THE INPUT: true; the input reads as it did. -/
def jsonDeepSpec : ChangeSpec := { name := "jsonDeep", fn := fun _ => fun
  | [d1, d2] => { results := [.lit (.bool true)], args := [d1, d2] }
  | _ => none }
def jsonDeepRow : OpenClaim := { program := "ytjnmcadfaombjaa", sum := "9325845deef502a0615333bd02ee8f6270eca4808aadcc01221b7d69002ca99c", func := "nuncio/nunciolaw10.JsonDeep", spec := "jsonDeep", inPlace := ["internal/bytealg.IndexByteString", "internal/abi.NoEscape"], unfollowed := true, recurses := true, apart := false }
def JsonDeepSaid : Prop := jsonDeepRow.holds Try.pinned (OpenSpec.ofChange jsonDeepSpec)

/-- ITS FALSE NEIGHBOUR: 'it returns false'. Refute it at one input. -/
def jsonDeepWrong : ChangeSpec := { name := "jsonDeep", fn := fun _ => fun
  | [d1, d2] => { results := [.lit (.bool false)], args := [d1, d2] }
  | _ => none }
def JsonDeepWrongFalsely : Prop := jsonDeepRow.holds Try.pinned (OpenSpec.ofChange jsonDeepWrong)

/-- 'nunciolaw10.JsonBack': WHATEVER THE INPUT: true; the input reads as it did. -/
def jsonBackSpec : ChangeSpec := { name := "jsonBack", fn := fun _ => fun
  | [d1, d2] => { results := [.lit (.bool true)], args := [d1, d2] }
  | _ => none }
def jsonBackRow : OpenClaim := { program := "ytjnmcadfaombjaa", sum := "9325845deef502a0615333bd02ee8f6270eca4808aadcc01221b7d69002ca99c", func := "nuncio/nunciolaw10.JsonBack", spec := "jsonBack", inPlace := ["internal/bytealg.IndexByteString", "internal/abi.NoEscape"], unfollowed := true, recurses := true, loops := true, apart := false }
def JsonBackSaid : Prop := jsonBackRow.holds Try.pinned (OpenSpec.ofChange jsonBackSpec)

/-- ITS FALSE NEIGHBOUR: 'it returns false'. Refute it at one input. -/
def jsonBackWrong : ChangeSpec := { name := "jsonBack", fn := fun _ => fun
  | [d1, d2] => { results := [.lit (.bool false)], args := [d1, d2] }
  | _ => none }
def JsonBackWrongFalsely : Prop := jsonBackRow.holds Try.pinned (OpenSpec.ofChange jsonBackWrong)

/-- 'nunciolaw10.JsonSames': WHATEVER THE INPUT: true; the input reads as it did. -/
def jsonSamesSpec : ChangeSpec := { name := "jsonSames", fn := fun _ => fun
  | [d1, d2] => { results := [.lit (.bool true)], args := [d1, d2] }
  | _ => none }
def jsonSamesRow : OpenClaim := { program := "ytjnmcadfaombjaa", sum := "9325845deef502a0615333bd02ee8f6270eca4808aadcc01221b7d69002ca99c", func := "nuncio/nunciolaw10.JsonSames", spec := "jsonSames", inPlace := ["internal/bytealg.IndexByteString", "internal/abi.NoEscape"], unfollowed := true, recurses := true, loops := true, apart := false }
def JsonSamesSaid : Prop := jsonSamesRow.holds Try.pinned (OpenSpec.ofChange jsonSamesSpec)

/-- ITS FALSE NEIGHBOUR: 'it returns false'. Refute it at one input. -/
def jsonSamesWrong : ChangeSpec := { name := "jsonSames", fn := fun _ => fun
  | [d1, d2] => { results := [.lit (.bool false)], args := [d1, d2] }
  | _ => none }
def JsonSamesWrongFalsely : Prop := jsonSamesRow.holds Try.pinned (OpenSpec.ofChange jsonSamesWrong)

/- THE SECOND FORM. 'bulk': how many values and letters a reading holds, each counted each time it is reached (what is shared counts as often as it is met; a slice's spare places count too). A statement '..UptoSaid' is the law's where the arguments, and the package variables that the reading takes, are together of bulk at most 1048576: NARROWER than '..Said'. Prove '..Said' where nothing that the law and all that it calls make is longer than what came in: it says more and counts as full. Else prove '..UptoSaid'. A law counts once. -/
mutual
def uptoBulk {H : Type} : DataW H → Nat
  | .lit (.string bytes) => bytes.length + 1
  | .lit _ => 1
  | .nil => 1
  | .ptr d => uptoBulk d + 1
  | .slice elems spare => uptoBulkAll elems + uptoBulkAll spare + 1
  | .agg parts => uptoBulkAll parts + 1
  | .iface _ d => uptoBulk d + 1
  | .map entries => uptoBulkEntries entries + 1
  | .held _ => 1
def uptoBulkAll {H : Type} : List (DataW H) → Nat
  | [] => 0
  | d :: r => uptoBulk d + uptoBulkAll r
def uptoBulkEntries {H : Type} : List (Lit × DataW H) → Nat
  | [] => 0
  | x :: r => uptoBulkEntry x + uptoBulkEntries r
def uptoBulkEntry {H : Type} : Lit × DataW H → Nat
  | (.string bytes, d) => bytes.length + uptoBulk d + 1
  | (_, d) => uptoBulk d + 1
 end
def uptoSmall : (H : Type) → List (DataW H) → Bool := fun _ ds => decide (uptoBulkAll ds ≤ 1048576)
def OpenSpec.upto (s : _root_.Go.ChangeSpec) : _root_.Go.OpenSpec := { _root_.Go.OpenSpec.ofChange s with cond := some uptoSmall }

/-- 'nunciolaw10.JsonTokens', WHERE WHAT IT READS IS OF BULK AT MOST 1048576: true; the input reads as it did. -/
def jsonTokensUptoRow : OpenClaim := { program := "ytjnmcadfaombjaa", sum := "9325845deef502a0615333bd02ee8f6270eca4808aadcc01221b7d69002ca99c", func := "nuncio/nunciolaw10.JsonTokens", spec := "jsonTokens", inPlace := ["internal/bytealg.IndexByteString", "internal/abi.NoEscape"], unfollowed := true, recurses := true, apart := false, narrowed := true }
def JsonTokensUptoSaid : Prop := jsonTokensUptoRow.holds Try.pinned (OpenSpec.upto jsonTokensSpec)

/-- 'nunciolaw10.JsonParses', WHERE WHAT IT READS IS OF BULK AT MOST 1048576: true; the input reads as it did. -/
def jsonParsesUptoRow : OpenClaim := { program := "ytjnmcadfaombjaa", sum := "9325845deef502a0615333bd02ee8f6270eca4808aadcc01221b7d69002ca99c", func := "nuncio/nunciolaw10.JsonParses", spec := "jsonParses", inPlace := ["internal/bytealg.IndexByteString", "internal/abi.NoEscape"], unfollowed := true, recurses := true, apart := false, narrowed := true }
def JsonParsesUptoSaid : Prop := jsonParsesUptoRow.holds Try.pinned (OpenSpec.upto jsonParsesSpec)

/-- 'nunciolaw10.JsonDeep', WHERE WHAT IT READS IS OF BULK AT MOST 1048576: true; the input reads as it did. -/
def jsonDeepUptoRow : OpenClaim := { program := "ytjnmcadfaombjaa", sum := "9325845deef502a0615333bd02ee8f6270eca4808aadcc01221b7d69002ca99c", func := "nuncio/nunciolaw10.JsonDeep", spec := "jsonDeep", inPlace := ["internal/bytealg.IndexByteString", "internal/abi.NoEscape"], unfollowed := true, recurses := true, apart := false, narrowed := true }
def JsonDeepUptoSaid : Prop := jsonDeepUptoRow.holds Try.pinned (OpenSpec.upto jsonDeepSpec)

/-- 'nunciolaw10.JsonBack', WHERE WHAT IT READS IS OF BULK AT MOST 1048576: true; the input reads as it did. -/
def jsonBackUptoRow : OpenClaim := { program := "ytjnmcadfaombjaa", sum := "9325845deef502a0615333bd02ee8f6270eca4808aadcc01221b7d69002ca99c", func := "nuncio/nunciolaw10.JsonBack", spec := "jsonBack", inPlace := ["internal/bytealg.IndexByteString", "internal/abi.NoEscape"], unfollowed := true, recurses := true, loops := true, apart := false, narrowed := true }
def JsonBackUptoSaid : Prop := jsonBackUptoRow.holds Try.pinned (OpenSpec.upto jsonBackSpec)

/-- 'nunciolaw10.JsonSames', WHERE WHAT IT READS IS OF BULK AT MOST 1048576: true; the input reads as it did. -/
def jsonSamesUptoRow : OpenClaim := { program := "ytjnmcadfaombjaa", sum := "9325845deef502a0615333bd02ee8f6270eca4808aadcc01221b7d69002ca99c", func := "nuncio/nunciolaw10.JsonSames", spec := "jsonSames", inPlace := ["internal/bytealg.IndexByteString", "internal/abi.NoEscape"], unfollowed := true, recurses := true, loops := true, apart := false, narrowed := true }
def JsonSamesUptoSaid : Prop := jsonSamesUptoRow.holds Try.pinned (OpenSpec.upto jsonSamesSpec)

end Rows
end Go.Proofs.Ytjnmcadfaombjaa
