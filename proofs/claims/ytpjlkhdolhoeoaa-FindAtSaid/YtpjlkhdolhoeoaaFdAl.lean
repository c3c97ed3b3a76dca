/- Walks: the law of a single text (FindAt, chapter 03). -/
import Derived.Test.YtpjlkhdolhoeoaaFdAt
namespace Go.Proofs.Ytpjlkhdolhoeoaa
open Go.Shelf Go.RowKit Go.Lib Go.Maps
set_option linter.unusedVariables false
set_option linter.unusedSimpArgs false
def hitO (o : Option Nat) : Option (Nat × Nat) := o.map fun k => (k, 0)
set_option maxRecDepth 100000 in
set_option maxHeartbeats 8000000 in
theorem fatLaw {w : World} (s what : Bs) (hs : s.length ≤ 9223372036854775807) (hw : what.length ≤ 9223372036854775807) (f : Int) (hm : ∃ m, w.cell? ⟨0, 0, none⟩ = some (.int .i64 m)) :
    Calls Try.prog 7 #[.string (strOf s), .string (strOf what), .int .i64 f] w fun e w' => e = .returned (.bool true) ∧ Below w.heap.size w w' := by
  obtain ⟨m, hm⟩ := hm
  have HS1 := Lib.hid (fun W => fshort s hs W)
  have HS2 := Lib.hid (fun W => fshort what hw W)
  have hy : (s.take 120).length ≤ 120 := by rw [List.length_take]; omega
  have hx : (what.take 120).length ≤ 120 := by rw [List.length_take]; omega
  obtain ⟨y, hyy⟩ : ∃ y, s.take 120 = y := ⟨_, rfl⟩
  obtain ⟨x, hxx⟩ : ∃ x, what.take 120 = x := ⟨_, rfl⟩
  rw [hyy] at HS1 hy
  rw [hxx] at HS2 hx
  have HAT := Lib.hid (fat y x f m w (by omega) (by omega) hm)
  have HRA := Lib.hid (fun W => fatR y x f W (by omega) (by omega))
  have hft : tot [x] ≤ 120 := by simpa [tot] using hx
  have hff : fitN [x] = 0 := by
    unfold fitN
    rw [if_neg (by simp), if_neg (by omega)]
  have hsl : y.length * ([x] : List Bs).length ≤ 1000000 := by simp; omega
  have HN := Lib.hid (fun (W : World) (g : Nat) (h : TxtM W g 0 [x]) => fnew (cap := 1) h hff (fun s hs => by simp at hs; subst hs; omega) (fun N hN => stableAny N (by omega)))
  have hfi := fun (w0 wS : World) (M : Nat) (h : MadeM w0 M [x] wS) => ffirst h (by simp) y (by omega) hsl f
  rw [at_first] at hfi
  have HFI := Lib.hid hfi
  have HTX := Lib.hid (show TxtM (w.alloc (.cells #[.string (strOf x)] 9)) w.heap.size 0 [x] from fun j t ht => by
    have hj : j = 0 := by have := get_lt ht; simp at this; exact this
    subst hj
    simp at ht
    subst ht
    exact (Blk.new w _ _).cell 0)
  have HB1 := Lib.hid ((Below.refl w.heap.size w).alloc (Nat.le_refl _) (.cells #[.string (strOf x)] 9))
  obtain ⟨o, ho⟩ : ∃ o, atO y x f = o := ⟨_, rfl⟩
  rw [ho] at HAT HRA HFI
  have HAW := Lib.hid (fun W => fawake W)
  clear hs hw hyy hxx hx hy hft hff hsl hfi ho hm
  have HNX := Lib.hid (HN.out _ _ HTX.out)
  go_enter Try.func7, Try.ntmps7
  go_upto_region 2 with (first
    | (go_at_call 12; with_reducible refine (HS1.out _).mono ?_; rintro e w1 ⟨rfl, rfl⟩)
    | (go_at_call 12; with_reducible refine (HS2.out _).mono ?_; rintro e w1 ⟨rfl, rfl⟩))
  go_upto_region 3 with (go_at_call 21; refine HAT.out.mono ?_; rintro e w1 ⟨rfl, rfl⟩)
  go_upto_region 4 with (go_at_call 8; refine HNX.out.mono ?_; rintro e w2 ⟨M, rfl, hM⟩; have HM := Lib.hid hM; clear hM)
  have HF1 := Lib.hid (HFI.out _ _ _ HM.out)
  have HB2 := Lib.hid (HB1.out.trans (HM.out.bel.mono HB1.out.size))
  cases o with
  | none =>
    have e1 : (Option.map (fun k => (k, 0)) (none : Option Nat)) = none := rfl
    have e2 : atI none = -1 := rfl
    rw [e1, show fstV none = .tuple #[.agg #[.int .i64 0, .int .i64 0], .bool false] from rfl] at HF1
    rw [e2] at HRA ⊢
    clear e1 e2
    go_upto_region 7 with (go_at_call 19; refine HF1.out.mono ?_; rintro e w3 ⟨rfl, hb3⟩; have HB3 := Lib.hid (HB2.out.trans (hb3.mono HB2.out.size)); clear hb3)
    have k4 := Blk.new w3 45 #[.int .i64 0, .int .i64 0]
    have HB4 := Lib.hid (HB3.out.alloc HB3.out.size (.cells #[.int .i64 0, .int .i64 0] 45))
    generalize w3.alloc (.cells #[.int .i64 0, .int .i64 0] 45) = w4 at k4 HB4 ⊢
    have c0 := k4.cell 0
    have c1 := k4.cell 1
    clear k4
    go_wp2_with (first
      | (go_at_call 22; refine (HRA.out _).mono ?_; rintro e w5 ⟨rfl, rfl⟩)
      | (go_at_call 10; refine (HAW.out _).mono ?_; rintro e w10 ⟨rfl, hb10⟩; have HB10 := Lib.hid hb10; clear hb10))
    go_ret
    exact ⟨rfl, HB4.out.trans (HB10.out.mono HB4.out.size)⟩
  | some k =>
    have e1 : (Option.map (fun k => (k, 0)) (some k : Option Nat)) = some (k, 0) := rfl
    have e2 : atI (some k) = (k : Int) := rfl
    rw [e1, show fstV (some (k, 0)) = .tuple #[.agg #[.int .i64 (k : Int), .int .i64 0], .bool true] from rfl] at HF1
    rw [e2] at HRA ⊢
    have k0 : (0 : Int) ≤ (k : Int) := by omega
    clear e1 e2
    go_upto_region 7 with (go_at_call 19; refine HF1.out.mono ?_; rintro e w3 ⟨rfl, hb3⟩; have HB3 := Lib.hid (HB2.out.trans (hb3.mono HB2.out.size)); clear hb3)
    have k4 := Blk.new w3 45 #[.int .i64 (k : Int), .int .i64 0]
    have HB4 := Lib.hid (HB3.out.alloc HB3.out.size (.cells #[.int .i64 (k : Int), .int .i64 0] 45))
    generalize w3.alloc (.cells #[.int .i64 (k : Int), .int .i64 0] 45) = w4 at k4 HB4 ⊢
    have c0 := k4.cell 0
    have c1 := k4.cell 1
    clear k4
    go_wp2_with (first
      | (go_at_call 22; refine (HRA.out _).mono ?_; rintro e w5 ⟨rfl, rfl⟩)
      | (go_at_call 10; refine (HAW.out _).mono ?_; rintro e w10 ⟨rfl, hb10⟩; have HB10 := Lib.hid hb10; clear hb10))
    go_ret
    exact ⟨rfl, HB4.out.trans (HB10.out.mono HB4.out.size)⟩
theorem fatArg {w : World} (s what : ByteArray) (hs : s.size ≤ maxLen) (hw : what.size ≤ maxLen) (f : Int) (hm : ∃ m, w.cell? ⟨0, 0, none⟩ = some (.int .i64 m)) :
    Calls Try.prog 7 #[.string s, .string what, .int .i64 f] w fun e w' => e = .returned (.bool true) ∧ Below w.heap.size w w' := by
  have h1 := fatLaw s.data.toList what.data.toList (by have : s.data.toList.length = s.size := rfl; unfold maxLen at hs; omega) (by have : what.data.toList.length = what.size := rfl; unfold maxLen at hw; omega) f hm
  rw [strOf_data, strOf_data] at h1
  exact h1
end Go.Proofs.Ytpjlkhdolhoeoaa
