/- Walks: the reference's Runes. -/
import Derived.Test.YtjnmcadfaombjaaUtfN
namespace Go.Proofs.Ytjnmcadfaombjaa
open Go.RowKit
set_option linter.unusedVariables false
set_option linter.unusedSimpArgs false
theorem ownsRow_ofBelow {w w' : World} {base : Nat} {e : TypeId} {size n : Nat} {v : Value} {xs : List Value} (h : w.ownsRow base e size v n xs) (hb : Below w.heap.size w w') : w'.ownsRow base e size v n xs :=
  ⟨h.1, h.2.elim Or.inl (fun ⟨g, cap, cur, hv, hg, hh, r⟩ => Or.inr ⟨g, cap, cur, hv, hg, (hb.block g (Array.getElem?_eq_some_iff.1 hh).1).trans hh, r⟩)⟩
theorem below_grown {w0 w w' : World} {tmp : Obj} {base : Nat} {e : TypeId} {size n : Nat} {v : Value} {xs : List Value} (hb : Below base w0 w) (hB : base ≤ w.heap.size) (ho : w.ownsRow base e size v n xs) (hg : (w.alloc tmp).grownBy w' v.ownBlock) : Below base w0 w' := by
  refine (hb.alloc hB tmp).grown hg (by simp; omega) fun j ej => ?_
  rcases ho.2 with ⟨rfl, _⟩ | ⟨g, cap, cur, rfl, hb, _, _⟩
  · simp [Value.ownBlock] at ej
  · obtain rfl : g = j := by simpa [Value.ownBlock] using ej
    exact hb
set_option maxHeartbeats 2000000 in
theorem rrunes_any (s : ByteArray) (w : World) (hs : s.size ≤ 60000) :
    Calls Try.prog 53 #[.string s] w fun e W' => ∃ v, e = .returned v ∧ W'.ownsRow w.heap.size 3 1 v (runes s.data.toList).length ((runes s.data.toList).map v64) ∧ Below w.heap.size w W' := by
  obtain ⟨i0, hi, hz0, hz1, hz2⟩ := info_parts infoInt
  go_enter Try.func53, Try.ntmps53
  go_wp2_with fail
  go_loopw [3, 4] (fun o z wr => ∃ (k : Nat) (pre : List Nat), z = .int .i64 k ∧ k ≤ s.size ∧ pre.length ≤ k ∧ runes s.data.toList = pre ++ runes (s.data.toList.drop k) ∧ wr.ownsRow w.heap.size 3 1 o pre.length (pre.map v64) ∧ Below w.heap.size w wr) (fun _ z _ => s.size - (intOf z).toNat)
  case atStart => exact ⟨0, [], rfl, Nat.zero_le _, Nat.le_refl _, by simp, ⟨by simp, .inr ⟨w.heap.size, 0, #[], rfl, Nat.le_refl _, World.alloc_heap_new _ _, by simp⟩⟩, (Below.refl _ w).alloc (Nat.le_refl _) _⟩
  case round =>
    obtain ⟨k, pre, rfl, hk, hpk, hr, ho, hb⟩ := hrel
    have HG := Lib.hid hr
    clear hr
    by_cases hlt : k < s.size
    · obtain ⟨r, n, hn, hr, hn1, hn4, hkn, hne, hdd⟩ := next_at hlt
      have hc := runes_cons hne
      rw [hn] at hc
      dsimp only at hc
      rw [hdd] at hc
      have HN := Lib.hid (fun w => rnext_to s k r n w (by omega) hlt hn)
      have HQ : Hid (runes s.data.toList = (pre ++ [r]) ++ runes (s.data.toList.drop (k + n))) := by
        show _ = _; rw [HG.out, hc]; simp
      clear hn hne hdd hc
      go_wp2_with fail
      refine (HN.out _).mono ?_
      rintro e w2 ⟨rfl, b2⟩
      have ho2 := ownsRow_ofBelow ho b2
      have hb2 := hb.trans (b2.mono hb.size)
      clear ho b2 hb
      have e3 : pre.length + 1 ≤ maxLen := by unfold maxLen; omega
      have e4 : (pre.length + 1) * 8 ≤ 140737488355328 := by omega
      have e5 : w.heap.size ≤ (w2.alloc (.cells #[.int .i64 r] 3)).heap.size := by have := hb2.size; simp; omega
      go_wp2_with (at_builtin; refine wpList_append_own _ rfl _ _ 90 rfl w.heap.size 3 i0 (.int .i64 0) 1 8 Try.underlying90 hi hz0 hz1 hz2 rfl (by decide) _ _ _ rfl (ho2.alloc _) ⟨w2.heap.size, 0, none⟩ 1 1 [.int .i64 r] rfl rfl (cell_one_new _ _ _) (by simp [Value.oneCell']) e3 e4 e5 ?_; intro v' w3 hown' hgrow _)
      go_roundw
      case rel => exact ⟨k + n, pre ++ [r], by go_num, hkn, by simp; omega, HQ.out, by simpa [v64] using hown', below_grown hb2 hb2.size ho2 hgrow⟩
      case measure => simp [intOf]; omega
    · have HE : Hid (runes s.data.toList = pre) := by show _ = _; rw [HG.out, drop_end (by omega), runes_nil, List.append_nil]
      go_wp2_with fail
      go_ret
      exact ⟨_, rfl, by rw [HE.out]; exact ho, hb⟩
end Go.Proofs.Ytjnmcadfaombjaa
