/- A builder's text, with what lies above it kept. -/
import Derived.Test.YtlogjghbdnaedaaBuild
import Derived.Shelf.Strings.BuilderK
namespace Go.Proofs.Ytlogjghbdnaedaa
open Go.RowKit
theorem keepsOthers_othersKept {e : TypeId} {b : Nat} {w w' : World} {cs : Array Value} {t : TypeId} (h : Lib.OthersKept e (some b) w w') (hb : Blk w b t cs) (hs : w.heap.size ≤ w'.heap.size) : KeepsOthers w w' := by
  refine ⟨hs, fun k o hk ho => ?_⟩
  refine h k o hk ?_ ?_
  · intro e; cases e
    unfold Blk at hb; rw [hb] at hk; cases hk; cases ho
  · intro c fz e; subst e; cases ho
theorem builder_String_k (n b : Nat) (l : List UInt8) (w : World) (h : Build n b l w) (hb : b ≤ w.heap.size) :
    Calls Try.prog 58 #[.pointer (some ⟨b, 0, none⟩)] w fun e w' => e = .returned (.string ⟨l.toArray⟩) ∧ Below b w w' ∧ KeepsOthers w w' := by
  refine (Any.Builder_String_any_k Try.lays169 Try.Builder_Extra_169 b b l w (Lib.IsBuilderF.of h.isBuilder) hb).mono ?_
  rintro e w' ⟨he, _, hB, ho⟩
  refine ⟨he, hB, ?_⟩
  rcases h with ⟨_, v, hk, _⟩ | ⟨_, v, hk, _⟩
  · exact keepsOthers_othersKept ho hk hB.size
  · exact keepsOthers_othersKept ho hk hB.size
end Go.Proofs.Ytlogjghbdnaedaa
