/- Loops over the iterator: Count, Is. -/
import Derived.Test.YtlogjghbdnaedaaUtfI
namespace Go.Proofs.Ytlogjghbdnaedaa
open Go.RowKit Go.Shelf
set_option linter.unusedVariables false
set_option linter.unusedSimpArgs false
attribute [local go_sem] Oper.semAt_some
theorem all_any (s : ByteArray) (w : World) :
    Calls Try.prog 32 #[.string s] w fun e w' => e = .returned (.func (.func 47) #[] #[.pointer (some ⟨w.heap.size, 0, none⟩)]) ∧ w.alloc (.cells #[.string s] 9) = w' := by
  go_enter Try.func32, Try.ntmps32
  go_wp2
  go_ret
  exact ⟨rfl, rfl⟩
theorem all_stops (n b : Nat) (s : ByteArray) (w : World) (hn : 1 ≤ n) (hs : s.size ≤ 9223372036854775807) (hw : b < w.heap.size) (hc : w.cell? ⟨b, 0, none⟩ = some (.string s)) :
    SeqStopsK Fence.wide n Try.prog 47 #[.pointer (some ⟨b, 0, none⟩)] stpV (KB b) (fun xs => xs = stps s.data.toList) (fun pre => pre <+: stps s.data.toList) (stps s.data.toList).length w :=
  fun l J Jx W hW _ _ hY h0 => all1_in n l b s hn hs J Jx hY W ((hW.cell (p := ⟨b, 0, none⟩) hw).trans hc) h0
theorem stps_length_le (l : List UInt8) : (stps l).length ≤ l.length := by
  have h := congrArg List.length (stps_map l)
  rw [List.length_map] at h
  have := runes_length_le l
  unfold runes at this
  rw [List.length_map] at this
  omega
theorem stpV_size (x : Stp) : (stpV x).size = 2 := rfl
theorem cell_at_below {w W : World} {B : Nat} {b o : Nat} {v : Value} (hb : Below B w W) (h : b < B) (hc : w.cell? ⟨b, o, none⟩ = some v) : W.cell? ⟨b, o, none⟩ = some v := (hb.cell (p := ⟨b, o, none⟩) h).trans hc
theorem Blk.kept {W W' : World} {row : Option Nat} {g : Nat} {t : TypeId} {cs : Array Value} (h : Blk W g t cs) (hg : W.grownBy W' row) (hrow : ∀ r, row = some r → ∃ o : Obj, W.heap[r]? = some o ∧ o.isCells = false) : Blk W' g t cs :=
  (grownBy_keeps_cells hg hrow h rfl).trans h
theorem own_blk {β : Type} (g : Nat) (t : TypeId) (f : β → Array Value) (B : Nat) : OwnFrom B (fun (s : β) W => Blk W g t (f s)) := fun s W W' row hs hg hr => Blk.kept hs hg (fun r e => (hr r e).2)
theorem Blk.putObj {W : World} {g D : Nat} {t : TypeId} {cs : Array Value} (h : Blk W g t cs) {o o' : Obj} (hD : W.heap[D]? = some o) (ho : o.isCells = false) : Blk (W.putObj D o') g t cs :=
  h.kept (grownBy_putObj' W D o') (fun r e => by cases e; exact ⟨_, hD, ho⟩)
theorem good_stps (l : List UInt8) : good l = (stps l).all fun p => !(p.r == 65533 && p.n == 1) := by
  unfold good; rw [← stps_map, List.all_map]; rfl
set_option maxRecDepth 100000 in
set_option maxHeartbeats 2000000 in
theorem pis_in (n : Nat) (hn : 3 ≤ n) (s : ByteArray) (w : World) (hs : s.size ≤ 9223372036854775807) :
    CallsIn Fence.wide n Try.prog 23 #[.string s] w fun e W' => e = .returned (.bool (good s.data.toList)) ∧ Below w.heap.size w W' := by
  have h1 : 1 ≤ n := by omega
  have HA := Lib.hid (all_any s)
  refine callsIn_of_wp_marks Try.func23 rfl trivial ?_ rfl
  simp only [Try.ntmps23, List.size_toArray, List.length_cons, List.length_nil, Nat.reduceAdd, Nat.reduceSub, Array.replicate_succ, Array.replicate_zero, List.push_toArray, List.append_toArray, List.nil_append, List.cons_append]
  gi_wp2_with (first | (refine ⟨trivial, ?_⟩; gi_at_call 32; refine (callsIn_wide.2 (HA.out _)).mono ?_; rintro e w' ⟨rfl, rfl⟩) | (gi_at_call 32; refine (callsIn_wide.2 (HA.out _)).mono ?_; rintro e w' ⟨rfl, rfl⟩))
  have hb0 : Blk ((w.alloc (.cells #[.bool false] 4)).alloc (.cells #[.string s] 9)) w.heap.size 4 #[.bool false] := (Blk.new w _ _).alloc _
  have hb1 : Blk ((w.alloc (.cells #[.bool false] 4)).alloc (.cells #[.string s] 9)) (w.heap.size + 1) 9 #[.string s] := by
    have := Blk.new (w.alloc (.cells #[.bool false] 4)) 9 #[.string s]
    rwa [World.size_alloc] at this
  have hB0 : Below w.heap.size w ((w.alloc (.cells #[.bool false] 4)).alloc (.cells #[.string s] 9)) := ((Below.refl _ w).alloc (Nat.le_refl _) _).alloc (by simp) _
  refine wpIn_rangeFunc_ownF rfl h1 (gf := 47) (lb := #[.pointer (some ⟨w.heap.size + 1, 0, none⟩)]) rfl trivial (enters_of Try.func47 (by kernel_rfl) rfl)
    (all_stops (n - 1) (w.heap.size + 1) s _ (by omega) hs (by simp) (hb1.cell 0)) KB.t (KB.b (by simp)) (Below.refl _ _) stpV_size
    (fun pre W => (Blk W w.heap.size 4 #[.bool false] ∧ ∀ p ∈ pre, (p.r == 65533 && p.n == 1) = false) ∧ Below w.heap.size w W)
    (fun c pre W => (Blk W w.heap.size 4 #[.bool false] ∧ c = .ret ∧ ∃ p ∈ pre, (p.r == 65533 && p.n == 1) = true) ∧ Below w.heap.size w W)
    (OwnFrom.and (OwnFrom.and (own_blk _ _ (fun _ => #[.bool false]) _) (ownFrom_pure _ _)) (ownFrom_below (Nat.le_refl _) (by simp; omega)))
    (fun c => OwnFrom.and (OwnFrom.and (own_blk _ _ (fun _ => #[.bool false]) _) (ownFrom_pure _ _)) (ownFrom_below (Nat.le_refl _) (by simp; omega)))
    ⟨⟨hb0, fun p hp => by simp at hp⟩, hB0⟩
    (fun x => { tmps := #[.string s, undef, .pointer (some ⟨w.heap.size, 0, none⟩), .int .i32 x.r, .int .i64 x.n, .string s, .func (.func 47) #[] #[.pointer (some ⟨w.heap.size + 1, 0, none⟩)], .int .i32 x.r, .int .i64 x.n, undef, undef, undef, undef, undef, undef], defers := [] }) ?assign ?body ?done ?stop
  case assign =>
    intro l x W K hK
    unfold stpV
    gi_wp2
    simpa using hK
  case body =>
    rintro l pre ⟨r, m, hr, hm1, hm4⟩ W ⟨⟨hc, hp⟩, hB⟩ hN
    have c0 := hc.cell 0
    have f0 := hc.frozen 0
    clear hN
    have HP := Lib.hid hp
    clear hp
    dsimp only
    have hx : (((r : Int) == 65533) = false ∧ (r == 65533 && m == 1) = false) ∨ (((r : Int) == 65533) = true ∧ ((m : Int) == 1) = false ∧ (r == 65533 && m == 1) = false) ∨ (((r : Int) == 65533) = true ∧ ((m : Int) == 1) = true ∧ (r == 65533 && m == 1) = true) := by
      by_cases h : r = 65533
      · by_cases h2 : m = 1
        · right; right; subst h; subst h2; exact ⟨rfl, rfl, rfl⟩
        · right; left; subst h; exact ⟨rfl, by simp; omega, by simp; omega⟩
      · left; exact ⟨by simp; omega, by simp; omega⟩
    rcases hx with ⟨x1, x2⟩ | ⟨x1, x2, x3⟩ | ⟨x1, x2, x3⟩
    · have X2 := Lib.hid x2
      clear x2
      gi_wp2
      exact ⟨KeepsOthers.refl _, rfl, ⟨hc, fun p hp => by
        rcases List.mem_append.1 hp with h | h
        · exact HP.out p h
        · rw [List.mem_singleton] at h; subst h; exact X2.out⟩, hB⟩
    · have X2 := Lib.hid x3
      clear x3
      gi_wp2
      exact ⟨KeepsOthers.refl _, rfl, ⟨hc, fun p hp => by
        rcases List.mem_append.1 hp with h | h
        · exact HP.out p h
        · rw [List.mem_singleton] at h; subst h; exact X2.out⟩, hB⟩
    · have X2 := Lib.hid x3
      clear x3
      gi_wp2
      exact ⟨KeepsOthers.setCell _ _ _, ⟨hc.set_ 0 _, rfl, ⟨_, List.mem_append.2 (.inr (List.mem_singleton.2 rfl)), X2.out⟩⟩, hB.setCell (p := ⟨w.heap.size, 0, none⟩) (Nat.le_refl _) _⟩
  case done =>
    rintro D ys W hD rfl ⟨⟨hc, hp⟩, hB⟩ hK
    have c0 := hc.cell 0
    have f0 := hc.frozen 0
    have HG : Hid (good s.data.toList = true) := by
      show _ = _
      rw [good_stps, List.all_eq_true]
      intro p hp'
      rw [hp p hp']; rfl
    clear hp
    gi_wp2
    have hK' := (KeepsOthers.setCell W ⟨w.heap.size, 0, none⟩ (.bool true)).same D _ hK rfl
    refine ⟨by simp, .inl ⟨_, _, rfl, run_takeDeferred hK', ?_⟩⟩
    have hc5 := ((hc.set_ 0 (.bool true)).putObj (o' := .deferred none) hK' rfl).cell 0
    refine ⟨.bool true, ?_, by rw [HG.out], (hB.setCell (p := ⟨w.heap.size, 0, none⟩) (Nat.le_refl _) _).trans (belowK_b (w := w) (Nat.le_refl _) _ D _ _ (by simp at hD; omega) hK' rfl rfl)⟩
    simp [results, Try.f23, go_sem, hc5]
  case stop =>
    rintro D c pre W hD hpre ⟨⟨hc, rfl, p, hp, hbad⟩, hB⟩ hK
    have HG : Hid (good s.data.toList = false) := by
      show _ = _
      rw [good_stps, List.all_eq_false]
      exact ⟨p, hpre.subset hp, by rw [hbad]; simp⟩
    clear hp hbad
    gi_wp2
    refine ⟨by simp, .inl ⟨_, _, rfl, run_takeDeferred hK, ?_⟩⟩
    have hc5 := (hc.putObj (o' := .deferred none) hK rfl).cell 0
    refine ⟨.bool false, ?_, by rw [HG.out], hB.trans (belowK_b (w := w) (Nat.le_refl _) W D _ _ (by simp at hD; omega) hK rfl rfl)⟩
    simp [results, Try.f23, go_sem, hc5]
theorem pis_any (s : ByteArray) (w : World) (hs : s.size ≤ 9223372036854775807) :
    Calls Try.prog 23 #[.string s] w fun e W' => e = .returned (.bool (good s.data.toList)) ∧ Below w.heap.size w W' :=
  callsIn_wide.1 (pis_in 3 (Nat.le_refl _) s w hs)
end Go.Proofs.Ytlogjghbdnaedaa
