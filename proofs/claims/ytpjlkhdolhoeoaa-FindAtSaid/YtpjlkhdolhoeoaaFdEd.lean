/- Plain: the edges of the states' tree, collected out of the map and put in order (chapter 03). -/
import Derived.Test.YtpjlkhdolhoeoaaFdCmp
namespace Go.Proofs.Ytpjlkhdolhoeoaa
open Go.Maps
set_option linter.unusedVariables false
set_option linter.unusedSimpArgs false
abbrev Tri := Nat × UInt8 × Nat
/-- What the edge says is so. -/
def EdOk (P : List Bs) (e : Tri) : Prop := ∃ x, P[e.1]? = some x ∧ P[e.2.2]? = some (x ++ [e.2.1])
/-- All edges that are no longer left are collected. -/
structure EdP (P : List Bs) (left : Lit → Bool) (E : List Tri) : Prop where
  ok : ∀ e ∈ E, EdOk P e ∧ left (keyL e.1 e.2.1.toNat) = false
  all : ∀ (a : Nat) (x : Bs) (c : UInt8) (i : Nat), P[a]? = some x → P[i]? = some (x ++ [c]) → left (keyL a c.toNat) = true ∨ (a, c, i) ∈ E
  nd : E.Nodup
theorem EdP.start {D : DataW Unit} {P : List Bs} (h : MapP D P) : EdP P (Maps.has D) [] where
  ok e he := by simp at he
  all a x c i h1 h2 := .inl (h.all i a x c h2 h1).1
  nd := List.nodup_nil
theorem sameKey_eq {z : Lit} {a c : Int} (h : z.sameKey (keyL a c) = true) : z = keyL a c := by
  unfold keyL at h ⊢
  cases z <;> simp [Lit.sameKey] at h
  rw [h]
theorem EdP.step {D : DataW Unit} {P : List Bs} {left : Lit → Bool} {E : List Tri} (h : EdP P left E) (hM : MapP D P) (hT : Trie P) (hP : P.length ≤ 1000000) {p : Int × Int} {kl : Lit} {cv : Int} (hk : keyOf Try.prog 68 (.agg #[.int .i64 p.1, .int .i64 p.2]) = some kl)
    (hl : left kl = true) (hat : ∀ zd, D.atKey kl zd = .lit (.int .i64 cv)) :
    ∃ (a : Nat) (c : UInt8) (i : Nat), p.1 = (a : Int) ∧ p.2 = (c.toNat : Int) ∧ cv = (i : Int) ∧ a < P.length ∧ i < P.length ∧ EdP P (fun z => left z && !z.sameKey kl) (E ++ [(a, c, i)]) := by
  have hh : Maps.has D kl = true := by
    cases hx : Maps.has D kl with
    | true => rfl
    | false =>
      exfalso
      have h1 := hat (.lit (.int .i64 (cv + 1)))
      rw [atKey_of_not_has hx] at h1
      simp at h1
      omega
  obtain ⟨i, a, x, c, h1, h2, rfl⟩ := hM.only kl hh
  have hal := get_lt h2
  have e1 := lawStep.inj hk (keyOf_step a c.toNat (wfN (by omega)) (wfN (u8_le c)))
  simp only [Value.agg.injEq, Array.mk.injEq, List.cons.injEq, Value.int.injEq, true_and, and_true] at e1
  have e2 := (hat (.lit (.int .i64 0))).symm.trans (hM.all i a x c h1 h2).2
  simp only [DataW.lit.injEq, Lit.int.injEq, true_and] at e2
  refine ⟨a, c, i, e1.1, e1.2, e2, hal, get_lt h1, ?_, ?_, ?_⟩
  · intro e he
    rcases List.mem_append.1 he with h3 | h3
    · obtain ⟨k1, k2⟩ := h.ok e h3
      exact ⟨k1, by rw [k2]; rfl⟩
    · simp at h3
      subst h3
      exact ⟨⟨x, h2, h1⟩, by simp [keyL, Lit.sameKey]⟩
  · intro a' x' c' i' h3 h4
    rcases h.all a' x' c' i' h3 h4 with h5 | h5
    · by_cases hs : (keyL a' c'.toNat).sameKey (keyL a c.toNat) = true
      · obtain ⟨rfl, rfl⟩ := keyN_inj (by have := get_lt h3; omega) (by omega) (sameKey_eq hs)
        rw [h2] at h3
        cases h3
        have := (idx_of hT.nodup h1).symm.trans (idx_of hT.nodup h4)
        cases this
        exact .inr (List.mem_append_right _ (by simp))
      · exact .inl (by rw [h5]; simpa using hs)
    · exact .inr (List.mem_append_left _ h5)
  · rw [List.nodup_append]
    refine ⟨h.nd, by simp, ?_⟩
    intro e he e' he' hee
    simp at he'
    subst he' hee
    have := (h.ok _ he).2
    rw [hl] at this
    cases this
theorem nodup_lt : ∀ (n : Nat) (l : List Nat), l.Nodup → (∀ x ∈ l, x < n) → l.length ≤ n
  | 0, l, _, h => by
    cases l with
    | nil => exact Nat.le_refl _
    | cons a r => exact absurd (h a (by simp)) (by omega)
  | n + 1, l, hd, h => by
    have h1 := nodup_lt n (l.erase n) (hd.erase n) (fun x hx => by
      have h2 := h x (List.mem_of_mem_erase hx)
      have h3 : x ≠ n := fun e => by subst e; exact absurd hx (by rw [hd.mem_erase_iff]; simp)
      omega)
    by_cases hm : n ∈ l
    · rw [List.length_erase_of_mem hm] at h1; omega
    · rw [List.erase_of_not_mem hm] at h1; omega
theorem EdOk.to_inj {P : List Bs} {e e' : Tri} (h : EdOk P e) (h' : EdOk P e') (hT : Trie P) (he : e.2.2 = e'.2.2) : e = e' := by
  obtain ⟨a, c, i⟩ := e
  obtain ⟨a', c', i'⟩ := e'
  obtain ⟨x, h1, h2⟩ := h
  obtain ⟨x', h1', h2'⟩ := h'
  simp only at *
  subst he
  rw [h2] at h2'
  have h3 := Option.some.inj h2'
  obtain ⟨rfl, h4⟩ := List.append_inj' h3 rfl
  simp at h4
  subst h4
  have := (idx_of hT.nodup h1).symm.trans (idx_of hT.nodup h1')
  cases this
  rfl
theorem EdP.len {P : List Bs} {left : Lit → Bool} {E : List Tri} (h : EdP P left E) (hT : Trie P) : E.length ≤ P.length := by
  have h1 := nodup_lt P.length (E.map fun e => e.2.2) ?_ ?_
  · simpa using h1
  · have hnd := h.nd
    have hok := h.ok
    clear h
    induction E with
    | nil => simp
    | cons e r ih =>
      rw [List.map_cons, List.nodup_cons]
      rw [List.nodup_cons] at hnd
      refine ⟨fun hm => ?_, ih hnd.2 (fun e' he' => hok e' (List.mem_cons_of_mem _ he'))⟩
      obtain ⟨e', he', hee⟩ := List.mem_map.1 hm
      have := EdOk.to_inj (hok e' (List.mem_cons_of_mem _ he')).1 (hok e (by simp)).1 hT hee
      subst this
      exact hnd.1 he'
  · intro x hx
    obtain ⟨e, he, rfl⟩ := List.mem_map.1 hx
    obtain ⟨y, _, h2⟩ := (h.ok e he).1
    exact get_lt h2
/-- All edges, each once. -/
structure EdAll (P : List Bs) (E : List Tri) : Prop where
  ok : ∀ e ∈ E, EdOk P e
  all : ∀ (a : Nat) (x : Bs) (c : UInt8) (i : Nat), P[a]? = some x → P[i]? = some (x ++ [c]) → (a, c, i) ∈ E
theorem EdP.done {P : List Bs} {left : Lit → Bool} {E : List Tri} (h : EdP P left E) (hl : ∀ kl, left kl = false) : EdAll P E :=
  ⟨fun e he => (h.ok e he).1, fun a x c i h1 h2 => (h.all a x c i h1 h2).resolve_left (by rw [hl]; simp)⟩
theorem EdAll.perm {P : List Bs} {E E' : List Tri} (h : EdAll P E) (hp : E'.Perm E) : EdAll P E' :=
  ⟨fun e he => h.ok e (hp.mem_iff.1 he), fun a x c i h1 h2 => hp.mem_iff.2 (h.all a x c i h1 h2)⟩
theorem EdOk.lt {P : List Bs} {e : Tri} (h : EdOk P e) (hT : Trie P) : e.1 < e.2.2 := by
  obtain ⟨x, h1, h2⟩ := h
  obtain ⟨j, hj, h3⟩ := hT.pre _ _ _ h2
  have := (idx_of hT.nodup h1).symm.trans (idx_of hT.nodup h3)
  cases this
  exact hj
/-- The depths, so far as the edges are told. -/
def DepP (P : List Bs) (dep : List Nat) (E : List Tri) : Prop := dep.length = P.length ∧ dep[0]? = some 0 ∧ ∀ e ∈ E, ∀ x, P[e.2.2]? = some x → dep[e.2.2]? = some x.length
theorem DepP.start {P : List Bs} (hT : Trie P) : DepP P (List.replicate P.length 0) [] := ⟨by simp, by simp [hT.pos], fun e he => by simp at he⟩
/-- In the order of their ends, each edge's beginning has its depth already. -/
theorem DepP.step {P : List Bs} {dep : List Nat} {E A B : List Tri} {e : Tri} (h : DepP P dep A) (hT : Trie P) (hE : EdAll P E) (hs : E = A ++ e :: B) (ho : E.Pairwise fun a b => a.2.2 ≤ b.2.2) :
    ∃ x, P[e.1]? = some x ∧ dep[e.1]? = some x.length ∧ x.length + 1 ≤ P.length ∧ DepP P (dep.set e.2.2 (x.length + 1)) (A ++ [e]) := by
  subst hs
  have hok := hE.ok e (by simp)
  have hlt := hok.lt hT
  obtain ⟨x, h1, h2⟩ := hok
  have hel := get_lt h2
  have hd : dep[e.1]? = some x.length := by
    rcases snoc_cases x with rfl | ⟨y, c, rfl⟩
    · have := Option.some.inj ((idx_of hT.nodup h1).symm.trans hT.idx0)
      rw [this]
      exact h.2.1
    · obtain ⟨j, hj, h3⟩ := hT.pre _ _ _ h1
      have hm := hE.all j y c e.1 h3 h1
      rcases List.mem_append.1 hm with h4 | h4
      · exact h.2.2 _ h4 _ h1
      · exfalso
        rcases List.mem_cons.1 h4 with h5 | h5
        · have h6 : (j, c, e.1).2.2 = e.2.2 := congrArg (fun t : Tri => t.2.2) h5
          simp only at h6
          omega
        · have := (List.pairwise_append.1 ho).2.1
          have h6 := (List.pairwise_cons.1 this).1 _ h5
          simp at h6
          omega
  have hxl : x.length + 1 ≤ P.length := by
    have : ∀ (n : Nat) (i : Nat) (z : Bs), z.length = n → P[i]? = some z → n ≤ i := by
      intro n
      induction n with
      | zero => intro i z _ _; omega
      | succ n ih =>
        intro i z hz hi
        rcases snoc_cases z with rfl | ⟨y, c, rfl⟩
        · simp at hz
        · obtain ⟨j, hj, h3⟩ := hT.pre _ _ _ hi
          have := ih j y (by simpa using hz) h3
          omega
    have := this _ _ _ rfl h1
    have := get_lt h1
    omega
  refine ⟨x, h1, hd, hxl, by simpa using h.1, ?_, ?_⟩
  · rw [List.getElem?_set_ne (by omega)]; exact h.2.1
  · intro e' he' z hz
    by_cases hee : e'.2.2 = e.2.2
    · rw [hee] at hz ⊢
      rw [h2] at hz
      cases hz
      rw [List.getElem?_set_self (by rw [h.1]; exact hel)]
      simp
    · rw [List.getElem?_set_ne (fun h5 => hee h5.symm)]
      rcases List.mem_append.1 he' with h4 | h4
      · exact h.2.2 _ h4 _ hz
      · simp at h4
        subst h4
        exact absurd rfl hee
/-- All states' depths are told. -/
theorem DepP.done {P : List Bs} {dep : List Nat} {E : List Tri} (h : DepP P dep E) (hT : Trie P) (hE : EdAll P E) : dep = P.map List.length := by
  apply List.ext_getElem?
  intro i
  cases hi : P[i]? with
  | none => rw [List.getElem?_map, hi, List.getElem?_eq_none (by rw [h.1]; exact List.getElem?_eq_none_iff.1 hi)]; rfl
  | some z =>
    rw [List.getElem?_map, hi]
    rcases snoc_cases z with rfl | ⟨y, c, rfl⟩
    · have := (idx_of hT.nodup hi).symm.trans hT.idx0
      cases this
      exact h.2.1
    · obtain ⟨j, hj, h3⟩ := hT.pre _ _ _ hi
      exact h.2.2 _ (hE.all j y c i h3 hi) _ hi
/-- The backs are right, of the states to which these edges lead. -/
def BkP (P : List Bs) (bk : List Nat) (A : List Tri) : Prop := bk.length = P.length ∧ ∀ (k : Nat) (x : Bs), P[k]? = some x → bk[k]? = some (backI P k) ∨ (bk[k]? = some 0 ∧ ∀ e ∈ A, e.2.2 ≠ k)
theorem BkP.start {P : List Bs} (hT : Trie P) : BkP P (List.replicate P.length 0) [] :=
  ⟨by simp, fun k x hk => .inr ⟨by rw [List.getElem?_replicate, if_pos (get_lt hk)], fun e he => by simp at he⟩⟩
theorem BkP.before {P : List Bs} {bk : List Nat} {E A B : List Tri} {e : Tri} (h : BkP P bk A) (hT : Trie P) (hE : EdAll P E) (hs : E = A ++ e :: B) (ho : E.Pairwise fun a b => (P.getD a.2.2 []).length ≤ (P.getD b.2.2 []).length) {k : Nat} {y : Bs} (hk : P[k]? = some y) (hk0 : k ≠ 0) (hy : y.length < (P.getD e.2.2 []).length) : bk[k]? = some (backI P k) := by
  rcases h.2 k y hk with h1 | ⟨_, h2⟩
  · exact h1
  · exfalso
    rcases snoc_cases y with rfl | ⟨t, c, rfl⟩
    · exact hk0 (Option.some.inj ((idx_of hT.nodup hk).symm.trans hT.idx0))
    · obtain ⟨j, hj, h3⟩ := hT.pre _ _ _ hk
      have hm := hE.all j t c k h3 hk
      have hg : (P.getD k []).length = (t ++ [c]).length := by rw [List.getD_eq_getElem?_getD, hk]; rfl
      subst hs
      rcases List.mem_append.1 hm with h4 | h4
      · exact h2 _ h4 rfl
      · rcases List.mem_cons.1 h4 with h5 | h5
        · have h6 : (j, c, k).2.2 = e.2.2 := congrArg (fun t : Tri => t.2.2) h5
          simp only at h6
          rw [← h6, hg] at hy
          omega
        · have := (List.pairwise_append.1 ho).2.1
          have h6 := (List.pairwise_cons.1 this).1 _ h5
          simp only at h6
          rw [hg] at h6
          omega
theorem BkP.step0 {P : List Bs} {bk : List Nat} {A : List Tri} {e : Tri} (h : BkP P bk A) (hT : Trie P) (hok : EdOk P e) (h0 : e.1 = 0) : BkP P bk (A ++ [e]) := by
  refine ⟨h.1, fun k x hk => ?_⟩
  rcases h.2 k x hk with h1 | ⟨h1, h2⟩
  · exact .inl h1
  · by_cases hke : e.2.2 = k
    · left
      obtain ⟨y, h3, h4⟩ := hok
      rw [h0, hT.root] at h3
      cases h3
      rw [hke] at h4
      rw [h1, backI_cons h4]
      rfl
    · refine .inr ⟨h1, fun e' he' => ?_⟩
      rcases List.mem_append.1 he' with h5 | h5
      · exact h2 e' h5
      · simp at h5; subst h5; exact hke
theorem BkP.step1 {P : List Bs} {bk : List Nat} {E A B : List Tri} {e : Tri} (h : BkP P bk A) (hT : Trie P) (hE : EdAll P E) (hs : E = A ++ e :: B) (ho : E.Pairwise fun a b => (P.getD a.2.2 []).length ≤ (P.getD b.2.2 []).length) (h0 : e.1 ≠ 0) :
    ∃ z, P[backI P e.1]? = some z ∧ bk[e.1]? = some (backI P e.1) ∧ BackP P bk z.length ∧ BkP P (bk.set e.2.2 (sufI P (z ++ [e.2.1]))) (A ++ [e]) := by
  have hok : EdOk P e := hE.ok e (by rw [hs]; simp)
  obtain ⟨x, h1, h2⟩ := hok
  have hgl : (P.getD e.2.2 []).length = x.length + 1 := by rw [List.getD_eq_getElem?_getD, h2]; simp
  have hb := h.before hT hE hs ho h1 h0 (by omega)
  cases x with
  | nil => exact absurd (Option.some.inj ((idx_of hT.nodup h1).symm.trans hT.idx0)) h0
  | cons d t =>
    have e1 := backI_cons h1
    obtain ⟨z, hz⟩ : ∃ z, P[backI P e.1]? = some z := ⟨_, List.getElem?_eq_getElem (by rw [e1]; exact sufI_lt hT t)⟩
    have hzl := back_short hT h1 h0 hz
    refine ⟨z, hz, hb, fun k y hk hk0 hy => h.before hT hE hs ho hk hk0 (by omega), by simpa using h.1, fun k y hk => ?_⟩
    by_cases hke : e.2.2 = k
    · left
      have h3 : backI P k = sufI P (t ++ [e.2.1]) := by rw [← hke]; exact backI_cons h2
      rw [e1] at hz
      rw [h3, sufI_snoc hT hz, ← hke, List.getElem?_set_self (by rw [h.1]; exact get_lt h2)]
    · rw [List.getElem?_set_ne hke]
      rcases h.2 k y hk with h4 | ⟨h4, h5⟩
      · exact .inl h4
      · refine .inr ⟨h4, fun e' he' => ?_⟩
        rcases List.mem_append.1 he' with h6 | h6
        · exact h5 e' h6
        · simp at h6; subst h6; exact hke
theorem BkP.done {P : List Bs} {bk : List Nat} {E : List Tri} (h : BkP P bk E) (hT : Trie P) (hE : EdAll P E) (k : Nat) (x : Bs) (hk : P[k]? = some x) : bk[k]? = some (backI P k) := by
  rcases h.2 k x hk with h1 | ⟨h1, h2⟩
  · exact h1
  · rcases snoc_cases x with rfl | ⟨t, c, rfl⟩
    · have h3 := Option.some.inj ((idx_of hT.nodup hk).symm.trans hT.idx0)
      subst h3
      rw [h1, backI_root hT]
    · obtain ⟨j, hj, h3⟩ := hT.pre _ _ _ hk
      exact absurd rfl (h2 _ (hE.all j t c k h3 hk))
end Go.Proofs.Ytpjlkhdolhoeoaa
