/- Plain: a rotation by exchanges of ranges, and what the merge in place does (chapter 03: the stable sort). -/
import Derived.Sort.Lot0
import Derived.Test.YtpjlkhdolhoeoaaMem
namespace Go.Proofs.Ytpjlkhdolhoeoaa
open Go.Sort
set_option linter.unusedVariables false
set_option linter.unusedSimpArgs false
variable {α : Type} [Inhabited α]
/-- d' is d with n places from x on exchanged with those from y on. -/
structure SwR (x y n : Nat) (d d' : Array α) : Prop where
  size : d'.size = d.size
  left : ∀ i, i < n → d'[x + i]! = d[y + i]!
  right : ∀ i, i < n → d'[y + i]! = d[x + i]!
  out : ∀ k, (k < x ∨ x + n ≤ k) → (k < y ∨ y + n ≤ k) → d'[k]! = d[k]!
  perm : ∀ lo hi, lo ≤ x → y + n ≤ hi → hi ≤ d.size → PermIn lo hi d d'
theorem SwR.zero (x y : Nat) (d : Array α) : SwR x y 0 d d := ⟨rfl, fun i h => absurd h (by omega), fun i h => absurd h (by omega), fun _ _ _ => rfl, fun _ _ _ _ _ => permIn_refl _ _ _⟩
theorem SwR.succ {x y n : Nat} {d d' : Array α} (h : SwR x y n d d') (hxy : x + (n + 1) ≤ y) (hy : y + (n + 1) ≤ d.size) : SwR x y (n + 1) d (swp d' (x + n) (y + n)) := by
  have hs := h.size
  refine ⟨by rw [size_swp, hs], ?_, ?_, ?_, ?_⟩
  · intro i hi
    by_cases e : i = n
    · subst e
      rw [swp_left _ _ _ (by omega) (by omega)]
      exact h.out _ (by omega) (by omega)
    · rw [swp_other _ _ _ _ (by omega) (by omega)]
      exact h.left i (by omega)
  · intro i hi
    by_cases e : i = n
    · subst e
      rw [swp_right _ _ _ (by omega)]
      exact h.out _ (by omega) (by omega)
    · rw [swp_other _ _ _ _ (by omega) (by omega)]
      exact h.right i (by omega)
  · intro k h1 h2
    rw [swp_other _ _ _ _ (by omega) (by omega)]
    exact h.out k (by omega) (by omega)
  · intro lo hi h1 h2 h3
    exact permIn_trans _ _ _ _ _ (h.perm lo hi h1 (by omega) h3) (swp_permIn _ _ _ _ _ (by omega) (by omega) (by omega) (by omega) (by omega))
/-- d' is d with the two ranges [lo, m) and [m, hi) in the other order. -/
structure RotT (lo m hi : Nat) (d d' : Array α) : Prop where
  size : d'.size = d.size
  left : ∀ k, lo ≤ k → k < lo + (hi - m) → d'[k]! = d[k - lo + m]!
  right : ∀ k, lo + (hi - m) ≤ k → k < hi → d'[k]! = d[k - (hi - m)]!
  out : ∀ k, k < lo ∨ hi ≤ k → d'[k]! = d[k]!
  perm : ∀ a b, a ≤ lo → hi ≤ b → b ≤ d.size → PermIn a b d d'
theorem RotT.refl {lo m hi : Nat} (d : Array α) (h : lo ≤ m) (h2 : m ≤ hi) (h3 : lo = m ∨ m = hi) : RotT lo m hi d d := by
  refine ⟨rfl, fun k a b => ?_, fun k a b => ?_, fun _ _ => rfl, fun _ _ _ _ _ => permIn_refl _ _ _⟩
  · congr 1; omega
  · congr 1; omega
theorem rot_gt {m i j : Nat} {d d1 d2 : Array α} (hi : i ≤ m) (hj : 0 < j) (hij : j < i) (hb : m + j ≤ d.size) (h1 : SwR (m - i) m j d d1) (h2 : RotT (m - (i - j)) m (m + j) d1 d2) : RotT (m - i) m (m + j) d d2 := by
  have hs := h1.size
  refine ⟨h2.size.trans hs, ?_, ?_, ?_, ?_⟩
  · intro k a b
    rw [h2.out k (by omega)]
    have := h1.left (k - (m - i)) (by omega)
    rw [show m - i + (k - (m - i)) = k by omega] at this
    rw [this]; congr 1; omega
  · intro k a b
    by_cases hk : k < m - (i - j) + (m + j - m)
    · rw [h2.left k (by omega) hk]
      have := h1.right (k - (m - (i - j))) (by omega)
      rw [show k - (m - (i - j)) + m = m + (k - (m - (i - j))) by omega, this]; congr 1; omega
    · rw [h2.right k (by omega) b]
      exact h1.out _ (by omega) (by omega)
  · intro k hk
    rw [h2.out k (by omega)]
    exact h1.out k (by omega) (by omega)
  · intro a b ha hb' hs'
    exact permIn_trans _ _ _ _ _ (h1.perm a b ha hb' hs') (h2.perm a b (by omega) hb' (by omega))
theorem rot_lt {m i j : Nat} {d d1 d2 : Array α} (hi : i ≤ m) (h0 : 0 < i) (hij : i < j) (hb : m + j ≤ d.size) (h1 : SwR (m - i) (m + j - i) i d d1) (h2 : RotT (m - i) m (m + (j - i)) d1 d2) : RotT (m - i) m (m + j) d d2 := by
  have hs := h1.size
  refine ⟨h2.size.trans hs, ?_, ?_, ?_, ?_⟩
  · intro k a b
    by_cases hk : k < m - i + (m + (j - i) - m)
    · rw [h2.left k a hk]
      by_cases hk2 : k < m
      · by_cases hk3 : k - (m - i) + m < m + j - i
        · exact h1.out _ (by omega) (by omega)
        · exfalso; omega
      · exact h1.out _ (by omega) (by omega)
    · rcases Nat.lt_or_ge k (m + (j - i)) with hk2 | hk2
      · rw [h2.right k (by omega) hk2]
        have := h1.left (k - (m + (j - i) - m) - (m - i)) (by omega)
        rw [show m - i + (k - (m + (j - i) - m) - (m - i)) = k - (m + (j - i) - m) by omega] at this
        rw [this]; congr 1; omega
      · exfalso; omega
  · intro k a b
    rw [h2.out k (by omega)]
    have := h1.right (k - (m + j - i)) (by omega)
    rw [show m + j - i + (k - (m + j - i)) = k by omega] at this
    rw [this]; congr 1; omega
  · intro k hk
    rw [h2.out k (by omega)]
    exact h1.out k (by omega) (by omega)
  · intro a b ha hb' hs'
    exact permIn_trans _ _ _ _ _ (h1.perm a b ha (by omega) hs') (h2.perm a b ha (by omega) (by omega))
theorem rot_eq {m i : Nat} {d d1 : Array α} (hi : i ≤ m) (hb : m + i ≤ d.size) (h1 : SwR (m - i) m i d d1) : RotT (m - i) m (m + i) d d1 := by
  refine ⟨h1.size, ?_, ?_, ?_, ?_⟩
  · intro k a b
    have := h1.left (k - (m - i)) (by omega)
    rw [show m - i + (k - (m - i)) = k by omega] at this
    rw [this]; congr 1; omega
  · intro k a b
    have := h1.right (k - m) (by omega)
    rw [show m + (k - m) = k by omega] at this
    rw [this]; congr 1; omega
  · intro k hk
    exact h1.out k (by omega) (by omega)
  · intro a b ha hb' hs'
    exact h1.perm a b ha hb' hs'
/-- The first of the row is taken up to a place, one by one. -/
theorem RotT.up {a k : Nat} {d d1 : Array α} (hk : a ≤ k) (hb : k + 2 ≤ d.size) (h : RotT a (a + 1) (k + 1) d d1) : RotT a (a + 1) (k + 2) d (swp d1 k (k + 1)) := by
  have hs := h.size
  refine ⟨by rw [size_swp, hs], ?_, ?_, ?_, ?_⟩
  · intro x h1 h2
    by_cases e : x = k
    · subst e
      rw [swp_left _ _ _ (by omega) (by omega), h.out _ (by omega)]
      congr 1; omega
    · rw [swp_other _ _ _ _ e (by omega)]
      exact h.left x h1 (by omega)
  · intro x h1 h2
    have e : x = k + 1 := by omega
    subst e
    rw [swp_right _ _ _ (by omega), h.right k (by omega) (by omega)]
    congr 1; omega
  · intro x hx
    rw [swp_other _ _ _ _ (by omega) (by omega)]
    exact h.out x (by omega)
  · intro x y hx hy hs'
    exact permIn_trans _ _ _ _ _ (h.perm x y hx (by omega) hs') (swp_permIn _ _ _ _ _ (by omega) (by omega) (by omega) (by omega) (by omega))
/-- The last of the row is taken down to a place, one by one. -/
theorem RotT.down {k m : Nat} {d d1 : Array α} (hk : k < m) (hb : m + 1 ≤ d.size) (h : RotT (k + 1) m (m + 1) d d1) : RotT k m (m + 1) d (swp d1 (k + 1) k) := by
  have hs := h.size
  refine ⟨by rw [size_swp, hs], ?_, ?_, ?_, ?_⟩
  · intro x h1 h2
    have e : x = k := by omega
    subst e
    rw [swp_right _ _ _ (by omega), h.left (x + 1) (by omega) (by omega)]
    congr 1; omega
  · intro x h1 h2
    by_cases e : x = k + 1
    · subst e
      rw [swp_left _ _ _ (by omega) (by omega), h.out _ (by omega)]
      congr 1; omega
    · rw [swp_other _ _ _ _ e (by omega)]
      exact h.right x (by omega) (by omega)
  · intro x hx
    rw [swp_other _ _ _ _ (by omega) (by omega)]
    exact h.out x (by omega)
  · intro x y hx hy hs'
    exact permIn_trans _ _ _ _ _ (h.perm x y (by omega) hy hs') (swp_permIn _ _ _ _ _ (by omega) (by omega) (by omega) (by omega) (by omega))
section
variable {lt : α → α → Bool}
omit [Inhabited α] in
theorem swo_asym (O : SWO lt) {x y : α} (h : lt x y = true) : lt y x = false := by
  cases h2 : lt y x
  · rfl
  · have := O.trans _ _ _ h h2
    rw [O.irrefl] at this; cases this
/-- Two sorted ranges that meet in order. -/
theorem srt_join (O : SWO lt) {a x b : Nat} {d : Array α} (h1 : SortedIn lt a x d) (h2 : SortedIn lt x b d) (hj : a < x → x < b → lt d[x]! d[x - 1]! = false) : SortedIn lt a b d := by
  intro i j hi hij hj'
  rcases Nat.lt_or_ge j x with h | h
  · exact h1 i j hi hij h
  · rcases Nat.lt_or_ge i x with h' | h'
    · have e1 := hj (by omega) (by omega)
      have e2 : lt d[x - 1]! d[i]! = false := by
        by_cases e : i = x - 1
        · rw [← e]; exact O.irrefl _
        · exact h1 i (x - 1) hi (by omega) (by omega)
      have e3 : lt d[j]! d[x]! = false := by
        by_cases e : x = j
        · rw [← e]; exact O.irrefl _
        · exact h2 x j (Nat.le_refl _) (by omega) hj'
      exact O.ntrans _ _ _ e3 (O.ntrans _ _ _ e1 e2)
    · exact h2 i j h' hij hj'
theorem srt_sub {a b a' b' : Nat} {d : Array α} (h : SortedIn lt a b d) (h1 : a ≤ a') (h2 : b' ≤ b) : SortedIn lt a' b' d := fun i j hi hij hj => h i j (by omega) hij (by omega)
theorem srt_one (a : Nat) (d : Array α) : SortedIn lt a (a + 1) d := fun i j hi hij hj => absurd hj (by omega)
theorem srt_none {a b : Nat} (d : Array α) (h : b ≤ a) : SortedIn lt a b d := fun i j hi hij hj => absurd hj (by omega)
theorem srt_moved {a b a' b' : Nat} {d d' : Array α} (h : SortedIn lt a b d) (hl : b' - a' ≤ b - a) (he : ∀ k, a' ≤ k → k < b' → d'[k]! = d[k - a' + a]!) : SortedIn lt a' b' d' := by
  intro i j hi hij hj
  rw [he i hi (by omega), he j (by omega) hj]
  exact h _ _ (by omega) (by omega) (by omega)
theorem srt_kept {a b : Nat} {d d' : Array α} (h : SortedIn lt a b d) (he : ∀ k, a ≤ k → k < b → d'[k]! = d[k]!) : SortedIn lt a b d' :=
  srt_moved h (Nat.le_refl _) fun k h1 h2 => by rw [he k h1 h2]; congr 1; omega
/-- What is left to be merged behind the rotation. -/
structure Halves (lt : α → α → Bool) (a s mid e b : Nat) (d d1 : Array α) : Prop where
  s1 : SortedIn lt a s d1
  s2 : SortedIn lt s mid d1
  s3 : SortedIn lt mid e d1
  s4 : SortedIn lt e b d1
  cross : ∀ i j, a ≤ i → i < mid → mid ≤ j → j < b → lt d1[j]! d1[i]! = false
  perm : PermIn a b d d1
  size : d1.size = d.size
theorem halves (O : SWO lt) {a s m e b mid : Nat} {d d1 : Array α} (h1 : SortedIn lt a m d) (h2 : SortedIn lt m b d) (has : a ≤ s) (hsm : s ≤ m) (hme : m ≤ e) (heb : e ≤ b) (hb : b ≤ d.size) (hmid : mid + m = s + e)
    (hr : RotT s m e d d1) (c1 : s = a ∨ e = b ∨ lt d[e]! d[s - 1]! = false) (c2 : e = m ∨ s = m ∨ lt d[e - 1]! d[s]! = true) : Halves lt a s mid e b d d1 := by
  have g1 : ∀ k, k < s → d1[k]! = d[k]! := fun k hk => hr.out k (by omega)
  have g2 : ∀ k, s ≤ k → k < mid → d1[k]! = d[k - s + m]! := fun k hk hk' => hr.left k hk (by omega)
  have g3 : ∀ k, mid ≤ k → k < e → d1[k]! = d[k - mid + s]! := fun k hk hk' => by rw [hr.right k (by omega) hk']; congr 1; omega
  have g4 : ∀ k, e ≤ k → d1[k]! = d[k]! := fun k hk => hr.out k (by omega)
  have le1 : ∀ i j, a ≤ i → i ≤ j → j < m → lt d[j]! d[i]! = false := fun i j hi hij hj => by
    by_cases q : i = j
    · rw [q]; exact O.irrefl _
    · exact h1 i j hi (by omega) hj
  have le2 : ∀ i j, m ≤ i → i ≤ j → j < b → lt d[j]! d[i]! = false := fun i j hi hij hj => by
    by_cases q : i = j
    · rw [q]; exact O.irrefl _
    · exact h2 i j hi (by omega) hj
  refine ⟨srt_kept (srt_sub h1 (Nat.le_refl _) hsm) fun k _ hk => g1 k hk, ?_, ?_, srt_kept (srt_sub h2 hme (Nat.le_refl _)) fun k hk _ => g4 k hk, ?_, hr.perm a b has heb hb, hr.size⟩
  · exact srt_moved (srt_sub h2 (Nat.le_refl _) heb) (by omega) g2
  · exact srt_moved (srt_sub h1 has (Nat.le_refl _)) (by omega) g3
  · intro i j hi hi' hj hj'
    rcases Nat.lt_or_ge i s with q | q <;> rcases Nat.lt_or_ge j e with r | r
    · rw [g1 i q, g3 j hj r]; exact le1 _ _ hi (by omega) (by omega)
    · rw [g1 i q, g4 j r]
      rcases c1 with c | c | c
      · omega
      · omega
      · exact O.ntrans _ _ _ (le2 e j hme r hj') (O.ntrans _ _ _ c (le1 i (s - 1) hi (by omega) (by omega)))
    · rw [g2 i q hi', g3 j hj r]
      rcases c2 with c | c | c
      · omega
      · omega
      · exact O.ntrans _ _ _ (le1 s (j - mid + s) has (by omega) (by omega)) (O.ntrans _ _ _ (swo_asym O c) (le2 (i - s + m) (e - 1) (by omega) (by omega) (by omega)))
    · rw [g2 i q hi', g4 j r]
      exact le2 _ _ (by omega) (by omega) hj'
/-- Both halves are sorted: so is the whole. -/
theorem Halves.whole (O : SWO lt) {a s mid e b : Nat} {d d1 d2 d3 : Array α} (h : Halves lt a s mid e b d d1) (ham : a ≤ mid) (hmb : mid ≤ b) (hb : b ≤ d.size) (p1 : PermIn a mid d1 d2) (o1 : SortedIn lt a mid d2) (p2 : PermIn mid b d2 d3) (o2 : SortedIn lt mid b d3) :
    PermIn a b d d3 ∧ SortedIn lt a b d3 := by
  have hs := h.size
  have hs2 := p1.1
  have pp : PermIn a b d1 d3 := permIn_trans _ _ _ _ _ (permIn_mono _ _ _ _ _ _ (Nat.le_refl _) hmb (by omega) p1) (permIn_mono _ _ _ _ _ _ ham (Nat.le_refl _) (by omega) p2)
  refine ⟨permIn_trans _ _ _ _ _ h.perm pp, srt_join O (srt_kept o1 fun k _ hk => p2.2.1 k (Or.inl hk)) o2 fun q r => ?_⟩
  -- the last of the left is not above the first of the right
  have c2 : ∀ i, a ≤ i → i < mid → ∀ j, mid ≤ j → j < b → lt d1[j]! d2[i]! = false := by
    refine permIn_all d1 d2 a mid (fun x => ∀ j, mid ≤ j → j < b → lt d1[j]! x = false) (by omega) p1 fun i hi hi' j hj hj' => h.cross i j hi hi' hj hj'
  have c3 : ∀ j, mid ≤ j → j < b → lt d3[j]! d2[mid - 1]! = false := by
    refine permIn_all d2 d3 mid b (fun x => lt x d2[mid - 1]! = false) (by omega) p2 fun j hj hj' => ?_
    rw [p1.2.1 j (Or.inr hj)]
    exact c2 (mid - 1) (by omega) (by omega) j hj hj'
  rw [p2.2.1 (mid - 1) (Or.inl (by omega))]
  exact c3 mid (Nat.le_refl _) r
/-- One element ahead of a sorted range. -/
theorem merge_first (O : SWO lt) {a i b : Nat} {d d1 : Array α} (h2 : SortedIn lt (a + 1) b d) (hi : a + 1 ≤ i) (hib : i ≤ b) (hb : b ≤ d.size) (c1 : i = a + 1 ∨ lt d[i - 1]! d[a]! = true) (c2 : i = b ∨ lt d[i]! d[a]! = false) (hr : RotT a (a + 1) i d d1) :
    PermIn a b d d1 ∧ SortedIn lt a b d1 := by
  refine ⟨hr.perm a b (Nat.le_refl _) hib hb, ?_⟩
  have g2 : ∀ k, a ≤ k → k < i - 1 → d1[k]! = d[k + 1]! := fun k hk hk' => by rw [hr.left k hk (by omega)]; congr 1; omega
  have g3 : d1[i - 1]! = d[a]! := by rw [hr.right (i - 1) (by omega) (by omega)]; congr 1; omega
  have g4 : ∀ k, i ≤ k → d1[k]! = d[k]! := fun k hk => hr.out k (by omega)
  refine srt_join O (x := i) (srt_join O (x := i - 1) ?_ ?_ ?_) ?_ ?_
  · exact srt_moved (h := h2) (a := a + 1) (b := b) (by omega) fun k hk hk' => by rw [g2 k hk hk']; congr 1; omega
  · rw [show i = i - 1 + 1 by omega]; exact srt_one _ _
  · intro q r
    rw [g3, g2 (i - 1 - 1) (by omega) (by omega)]
    rcases c1 with c | c
    · omega
    · rw [show i - 1 - 1 + 1 = i - 1 by omega]; exact swo_asym O c
  · exact srt_kept (srt_sub h2 hi (Nat.le_refl _)) fun k hk _ => g4 k hk
  · intro q r
    rw [g3, g4 i (Nat.le_refl _)]
    rcases c2 with c | c
    · omega
    · exact c
/-- One element behind a sorted range. -/
theorem merge_last (O : SWO lt) {a i m : Nat} {d d1 : Array α} (h1 : SortedIn lt a m d) (hi : a ≤ i) (him : i ≤ m) (hb : m + 1 ≤ d.size) (c1 : i = a ∨ lt d[m]! d[i - 1]! = false) (c2 : i = m ∨ lt d[m]! d[i]! = true) (hr : RotT i m (m + 1) d d1) :
    PermIn a (m + 1) d d1 ∧ SortedIn lt a (m + 1) d1 := by
  refine ⟨hr.perm a (m + 1) hi (Nat.le_refl _) hb, ?_⟩
  have g1 : ∀ k, k < i → d1[k]! = d[k]! := fun k hk => hr.out k (by omega)
  have g2 : d1[i]! = d[m]! := by rw [hr.left i (Nat.le_refl _) (by omega)]; congr 1; omega
  have g3 : ∀ k, i + 1 ≤ k → k < m + 1 → d1[k]! = d[k - (i + 1) + i]! := fun k hk hk' => by rw [hr.right k (by omega) (by omega)]; congr 1; omega
  refine srt_join O (x := i) ?_ (srt_join O (x := i + 1) (srt_one _ _) ?_ ?_) ?_
  · exact srt_kept (srt_sub h1 (Nat.le_refl _) him) fun k _ hk => g1 k hk
  · exact srt_moved (srt_sub h1 hi (Nat.le_refl _)) (by omega) g3
  · intro q r
    rw [show i + 1 - 1 = i by omega, g2, g3 (i + 1) (by omega) (by omega)]
    rw [show i + 1 - (i + 1) + i = i by omega]
    rcases c2 with c | c
    · omega
    · exact swo_asym O c
  · intro q r
    rw [g2, g1 (i - 1) (by omega)]
    rcases c1 with c | c
    · omega
    · exact c
/-- Blocks of bs are sorted, up to the t-th. -/
def BlkS (lt : α → α → Bool) (bs t n : Nat) (d : Array α) : Prop := ∀ u, u < t → SortedIn lt (u * bs) (min ((u + 1) * bs) n) d
/-- Blocks of bs are sorted, from the t-th on. -/
def BlkR (lt : α → α → Bool) (bs t n : Nat) (d : Array α) : Prop := ∀ u, t ≤ u → SortedIn lt (u * bs) (min ((u + 1) * bs) n) d
theorem BlkS.step {bs t n b' : Nat} {d d' : Array α} (h : BlkS lt bs t n d) (hb : b' = min ((t + 1) * bs) n) (hp : PermIn (t * bs) b' d d') (ho : SortedIn lt (t * bs) b' d') : BlkS lt bs (t + 1) n d' := by
  intro u hu
  by_cases e : u = t
  · subst e; rw [← hb]; exact ho
  · have h1 : (u + 1) * bs ≤ t * bs := Nat.mul_le_mul_right _ (by omega)
    exact srt_kept (h u (by omega)) fun k hk hk' => hp.2.1 k (Or.inl (by omega))
theorem BlkS.all {bs t n : Nat} {d : Array α} (h : BlkS lt bs t n d) (ht : n ≤ t * bs) : BlkR lt bs 0 n d := by
  intro u _
  by_cases e : u < t
  · exact h u e
  · have h1 : t * bs ≤ u * bs := Nat.mul_le_mul_right _ (by omega)
    exact srt_none _ (by omega)
theorem BlkR.step {bs t n : Nat} {d d' : Array α} (h : BlkR lt bs (2 * t) n d) {x : Nat} (hp : PermIn x ((t + 1) * (2 * bs)) d d') : BlkR lt bs (2 * (t + 1)) n d' := by
  intro u hu
  have h1 : 2 * (t + 1) * bs ≤ u * bs := Nat.mul_le_mul_right _ hu
  have h2 : 2 * (t + 1) * bs = (t + 1) * (2 * bs) := by rw [Nat.mul_comm 2 (t + 1), Nat.mul_assoc]
  exact srt_kept (h u (by omega)) fun k hk hk' => hp.2.1 k (Or.inr (by omega))
end
end Go.Proofs.Ytpjlkhdolhoeoaa
