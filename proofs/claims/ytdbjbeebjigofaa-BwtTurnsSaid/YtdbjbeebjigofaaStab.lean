import Derived.Sort.WalkA
import Derived.Sort.Lot0
/-! slices.SortStableFunc in plain Lean: rows as lists, the exchanges, the orders. -/
namespace Go.Proofs.Try.Stab
set_option linter.unusedVariables false
set_option linter.unusedSimpArgs false
open Go.Sort Go.Proofs
variable {α : Type} [Inhabited α]
set_option linter.unusedSectionVars false

theorem get_mid (A : List α) (x : α) (B : List α) : (A ++ x :: B).toArray[A.length]! = x := by
  rw [getElem!_pos _ _ (by simp)]; simp

theorem set_mid (A : List α) (x y : α) (B : List α) : (A ++ x :: B).toArray.setIfInBounds A.length y = (A ++ y :: B).toArray := by
  rw [List.setIfInBounds_toArray]; simp

theorem swp_mid (A : List α) (x : α) (B : List α) (y : α) (C : List α) (i j : Nat) (hi : i = A.length) (hj : j = A.length + 1 + B.length) :
    swp (A ++ x :: (B ++ y :: C)).toArray i j = (A ++ y :: (B ++ x :: C)).toArray := by
  subst hi hj
  have e (u v : α) : A ++ u :: (B ++ v :: C) = (A ++ u :: B) ++ v :: C := by simp
  have ly (u : α) : (A ++ u :: B).length = A.length + 1 + B.length := by simp; omega
  unfold swp
  rw [get_mid, set_mid]
  rw [show (A ++ x :: (B ++ y :: C)).toArray[A.length + 1 + B.length]! = y from by rw [e, ← ly x, get_mid]]
  rw [e y y, ← ly y, set_mid, e]

/-- The two places the other way round. -/
theorem swp_mid' (A : List α) (x : α) (B : List α) (y : α) (C : List α) (i j : Nat) (hi : i = A.length) (hj : j = A.length + 1 + B.length) :
    swp (A ++ x :: (B ++ y :: C)).toArray j i = (A ++ y :: (B ++ x :: C)).toArray := by
  subst hi hj
  have e (u v : α) : A ++ u :: (B ++ v :: C) = (A ++ u :: B) ++ v :: C := by simp
  have ly (u : α) : (A ++ u :: B).length = A.length + 1 + B.length := by simp; omega
  unfold swp
  rw [get_mid]
  rw [show (A ++ x :: (B ++ y :: C)).toArray[A.length + 1 + B.length]! = y from by rw [e, ← ly x, get_mid]]
  rw [e x y, ← ly x, set_mid, ← e, set_mid]

/-! ### swapRange -/
/-- The row after i exchanges. -/
def swapped (P X M Y S : List α) (i : Nat) : List α := P ++ (Y.take i ++ X.drop i) ++ M ++ (X.take i ++ Y.drop i) ++ S

theorem swapped_zero (P X M Y S : List α) : swapped P X M Y S 0 = P ++ X ++ M ++ Y ++ S := by simp [swapped]
theorem swapped_all (P X M Y S : List α) (n : Nat) (hx : X.length = n) (hy : Y.length = n) : swapped P X M Y S n = P ++ Y ++ M ++ X ++ S := by
  have e1 : Y.take n = Y := List.take_of_length_le (by omega)
  have e2 : X.take n = X := List.take_of_length_le (by omega)
  have e3 : Y.drop n = [] := List.drop_of_length_le (by omega)
  have e4 : X.drop n = [] := List.drop_of_length_le (by omega)
  simp [swapped, e1, e2, e3, e4]
theorem swapped_len (P X M Y S : List α) (n i : Nat) (hx : X.length = n) (hy : Y.length = n) : (swapped P X M Y S i).length = (P ++ X ++ M ++ Y ++ S).length := by
  simp [swapped, hx, hy]; omega

theorem swapped_succ (P X M Y S : List α) (n i a b : Nat) (hx : X.length = n) (hy : Y.length = n) (hi : i < n) (ha : a = P.length) (hb : b = P.length + n + M.length) :
    swp (swapped P X M Y S i).toArray (a + i) (b + i) = (swapped P X M Y S (i + 1)).toArray := by
  subst ha hb
  obtain ⟨x, X', ex⟩ : ∃ x X', X.drop i = x :: X' := ⟨_, _, List.drop_eq_getElem_cons (by omega)⟩
  obtain ⟨y, Y', ey⟩ : ∃ y Y', Y.drop i = y :: Y' := ⟨_, _, List.drop_eq_getElem_cons (by omega)⟩
  have ex1 : X.drop (i + 1) = X' := by rw [← List.drop_drop, ex]; rfl
  have ey1 : Y.drop (i + 1) = Y' := by rw [← List.drop_drop, ey]; rfl
  have ex2 : X.take (i + 1) = X.take i ++ [x] := by
    rw [List.take_add_one, ← List.head?_drop, ex]; rfl
  have ey2 : Y.take (i + 1) = Y.take i ++ [y] := by
    rw [List.take_add_one, ← List.head?_drop, ey]; rfl
  have lx : X'.length = n - i - 1 := by have := congrArg List.length ex; simp at this; omega
  unfold swapped
  rw [ex, ey, ex1, ey1, ex2, ey2]
  have h := swp_mid (P ++ Y.take i) x (X' ++ M ++ X.take i) y (Y' ++ S) (P.length + i) (P.length + n + M.length + i) (by simp; omega) (by simp; omega)
  simpa using h

/-! ### the orders -/
/-- What the sort asks: 'less' and the order of all. -/
structure Ord (lt : α → α → Bool) (at_ : α → Nat) : Prop where
  trans : ∀ x y z, lt x y = true → lt y z = true → lt x z = true
  irr : ∀ x, lt x x = false
  ntrans : ∀ x y z, lt x y = false → lt y z = false → lt x z = false
  inj : ∀ x y, at_ x = at_ y → x = y

def R (lt : α → α → Bool) (at_ : α → Nat) (x y : α) : Prop := lt x y = true ∨ lt y x = false ∧ at_ x < at_ y

variable {lt : α → α → Bool} {at_ : α → Nat}

theorem Ord.asym (O : Ord lt at_) (x y : α) (h : lt x y = true) : lt y x = false := by
  cases e : lt y x with
  | false => rfl
  | true => have := O.trans x y x h e; rw [O.irr] at this; exact this.symm ▸ rfl

theorem R.trans (O : Ord lt at_) {x y z : α} (h1 : R lt at_ x y) (h2 : R lt at_ y z) : R lt at_ x z := by
  rcases h1 with h1 | ⟨h1, i1⟩ <;> rcases h2 with h2 | ⟨h2, i2⟩
  · exact Or.inl (O.trans _ _ _ h1 h2)
  · left
    cases e : lt x z with
    | true => rfl
    | false => have := O.ntrans x z y e h2; rw [h1] at this; exact this.symm
  · left
    cases e : lt x z with
    | true => rfl
    | false => have := O.ntrans y x z h1 e; rw [h2] at this; exact this.symm
  · exact Or.inr ⟨O.ntrans _ _ _ h2 h1, by omega⟩

theorem R.asym (O : Ord lt at_) {x y : α} (h1 : R lt at_ x y) (h2 : R lt at_ y x) : False := by
  rcases h1 with h1 | ⟨h1, i1⟩ <;> rcases h2 with h2 | ⟨h2, i2⟩
  · rw [O.asym _ _ h1] at h2; cases h2
  · rw [h1] at h2; cases h2
  · rw [h2] at h1; cases h1
  · omega

/-- The later of two, against the earlier: 'less' tells the order. -/
theorem R.of_lt {x y : α} (h : lt y x = true) : R lt at_ y x := Or.inl h
theorem R.of_not {x y : α} (ha : at_ x < at_ y) (h : lt y x = false) : R lt at_ x y := Or.inr ⟨h, ha⟩
theorem R.lt_of {x y : α} (ha : at_ x < at_ y) (h : R lt at_ y x) : lt y x = true := by
  rcases h with h | ⟨h, i⟩
  · exact h
  · omega

/-- A run: the places from i to j, in order. -/
structure Run (lt : α → α → Bool) (at_ : α → Nat) (i j : Nat) (L : List α) : Prop where
  len : L.length = j - i
  lo : ∀ x ∈ L, i ≤ at_ x ∧ at_ x < j
  sorted : L.Pairwise (R lt at_)

/-- Two runs that are one run's parts: what the later one's elements are to the earlier one's. -/
def Cross (at_ : α → Nat) (A B : List α) : Prop := ∀ x ∈ A, ∀ y ∈ B, at_ x < at_ y

theorem Cross.tells (lt : α → α → Bool) {A B : List α} (h : Cross at_ A B) {x y : α} (hx : x ∈ A) (hy : y ∈ B) : (lt y x = true ∧ R lt at_ y x) ∨ (lt y x = false ∧ R lt at_ x y) := by
  cases e : lt y x with
  | true => exact Or.inl ⟨rfl, Or.inl e⟩
  | false => exact Or.inr ⟨rfl, R.of_not (h x hx y hy) e⟩

theorem Cross.sub {A B A' B' : List α} (h : Cross at_ A B) (ha : ∀ x ∈ A', x ∈ A) (hb : ∀ x ∈ B', x ∈ B) : Cross at_ A' B' :=
  fun x hx y hy => h x (ha x hx) y (hb y hy)

/-- One element put into a run. -/
theorem put_sorted (O : Ord lt at_) (A B : List α) (x : α) (h : (A ++ B).Pairwise (R lt at_)) (ha : A ≠ [] → R lt at_ (A.getLast?.getD x) x) (hb : B ≠ [] → R lt at_ x (B.head?.getD x)) :
    (A ++ x :: B).Pairwise (R lt at_) := by
  rw [List.pairwise_append] at h ⊢
  obtain ⟨h1, h2, h3⟩ := h
  have hA : ∀ a ∈ A, R lt at_ a x := by
    intro a hm
    have hne : A ≠ [] := by intro e; rw [e] at hm; cases hm
    have hl := ha hne
    obtain ⟨A', z, rfl⟩ : ∃ A' z, A = A' ++ [z] := ⟨A.dropLast, A.getLast hne, (List.dropLast_concat_getLast hne).symm⟩
    simp at hl
    rcases List.mem_append.1 hm with hm | hm
    · exact R.trans O ((List.pairwise_append.1 h1).2.2 a hm z (by simp)) hl
    · simp at hm; rw [hm]; exact hl
  have hB : ∀ b ∈ B, R lt at_ x b := by
    intro b hm
    cases B with
    | nil => cases hm
    | cons z B' =>
      have hl := hb (by simp)
      simp at hl
      rcases List.mem_cons.1 hm with rfl | hm
      · exact hl
      · exact R.trans O hl ((List.pairwise_cons.1 h2).1 b hm)
  refine ⟨h1, List.pairwise_cons.2 ⟨hB, h2⟩, ?_⟩
  intro a hm b hb'
  rcases List.mem_cons.1 hb' with rfl | hb'
  · exact hA a hm
  · exact R.trans O (hA a hm) (hB b hb')

/-- The two halves of a merge, behind the rotation: all of the left one is ahead of all of the right one. -/
theorem halves (O : Ord lt at_) (A1 A2 B1 B2 : List α) (hA : (A1 ++ A2).Pairwise (R lt at_)) (hB : (B1 ++ B2).Pairwise (R lt at_))
    (h12 : ∀ x y, A1.getLast? = some x → B2.head? = some y → R lt at_ x y) (h21 : ∀ x y, B1.getLast? = some y → A2.head? = some x → R lt at_ y x) :
    ∀ x ∈ A1 ++ B1, ∀ y ∈ A2 ++ B2, R lt at_ x y := by
  rw [List.pairwise_append] at hA hB
  have go : ∀ (X Y : List α), X.Pairwise (R lt at_) → Y.Pairwise (R lt at_) → (∀ x y, X.getLast? = some x → Y.head? = some y → R lt at_ x y) → ∀ x ∈ X, ∀ y ∈ Y, R lt at_ x y := by
    intro X Y hX hY h x hx y hy
    have hne : X ≠ [] := by intro e; rw [e] at hx; cases hx
    obtain ⟨X', z, rfl⟩ : ∃ X' z, X = X' ++ [z] := ⟨X.dropLast, X.getLast hne, (List.dropLast_concat_getLast hne).symm⟩
    cases Y with
    | nil => cases hy
    | cons u Y' =>
      have hzu := h z u (by simp) (by simp)
      have hxu : R lt at_ x u := by
        rcases List.mem_append.1 hx with hx | hx
        · exact R.trans O ((List.pairwise_append.1 hX).2.2 x hx z (by simp)) hzu
        · simp at hx; rw [hx]; exact hzu
      rcases List.mem_cons.1 hy with rfl | hy
      · exact hxu
      · exact R.trans O hxu ((List.pairwise_cons.1 hY).1 y hy)
  intro x hx y hy
  rcases List.mem_append.1 hx with hx | hx <;> rcases List.mem_append.1 hy with hy | hy
  · exact hA.2.2 x hx y hy
  · exact go A1 B2 hA.1 hB.2.1 h12 x hx y hy
  · exact go B1 A2 hB.1 hA.2.1 (fun x y h1 h2 => h21 y x h1 h2) x hx y hy
  · exact hB.2.2 x hx y hy

theorem get_part (P L S : List α) (h t : Nat) (hh : h = P.length + t) (ht : t < L.length) : (P ++ L ++ S).toArray[h]! = L[t]! := by
  subst hh
  rw [getElem!_pos (P ++ L ++ S).toArray (P.length + t) (by simp; omega), getElem!_pos L t ht]
  simp [List.getElem_append_right, List.getElem_append_left, ht]

theorem last_take (B : List α) (j : Nat) (hj : j ≤ B.length) (h0 : 0 < j) (x : α) : (B.take j).getLast?.getD x = B[j - 1]! := by
  rw [getElem!_pos B (j - 1) (by omega), List.getLast?_eq_getElem?]
  simp [Nat.min_eq_left hj]
  rw [List.getElem?_eq_getElem (by simp; omega)]
  simp

theorem head_drop (B : List α) (j : Nat) (hj : j < B.length) (x : α) : (B.drop j).head?.getD x = B[j]! := by
  rw [getElem!_pos B j hj, List.head?_drop, List.getElem?_eq_getElem hj]; rfl

theorem one_sorted (O : Ord lt at_) (x : α) (B : List α) (j : Nat) (hj : j ≤ B.length) (hB : B.Pairwise (R lt at_)) (hC : Cross at_ [x] B)
    (h1 : j = 0 ∨ lt B[j - 1]! x = true) (h2 : j = B.length ∨ lt B[j]! x = false) : (B.take j ++ x :: B.drop j).Pairwise (R lt at_) := by
  refine put_sorted O _ _ x (by rw [List.take_append_drop]; exact hB) ?_ ?_
  · intro hne
    have h0 : 0 < j := Nat.pos_of_ne_zero (fun e => hne (by simp [e]))
    rw [last_take B j hj h0]
    rcases h1 with h1 | h1
    · omega
    · exact Or.inl h1
  · intro hne
    have hl : j < B.length := by
      rcases Nat.lt_or_ge j B.length with h | h
      · exact h
      · exact absurd (List.drop_of_length_le h) hne
    rw [head_drop B j hl]
    rcases h2 with h2 | h2
    · omega
    · exact R.of_not (hC x (by simp) _ (by rw [getElem!_pos B j hl]; exact List.getElem_mem hl)) h2

theorem last_sorted (O : Ord lt at_) (y : α) (A : List α) (j : Nat) (hj : j ≤ A.length) (hA : A.Pairwise (R lt at_)) (hC : Cross at_ A [y])
    (h1 : j = 0 ∨ lt y A[j - 1]! = false) (h2 : j = A.length ∨ lt y A[j]! = true) : (A.take j ++ y :: A.drop j).Pairwise (R lt at_) := by
  refine put_sorted O _ _ y (by rw [List.take_append_drop]; exact hA) ?_ ?_
  · intro hne
    have h0 : 0 < j := Nat.pos_of_ne_zero (fun e => hne (by simp [e]))
    rw [last_take A j hj h0]
    rcases h1 with h1 | h1
    · omega
    · exact R.of_not (hC _ (by rw [getElem!_pos A (j - 1) (by omega)]; exact List.getElem_mem _) y (by simp)) h1
  · intro hne
    have hl : j < A.length := by
      rcases Nat.lt_or_ge j A.length with h | h
      · exact h
      · exact absurd (List.drop_of_length_le h) hne
    rw [head_drop A j hl]
    rcases h2 with h2 | h2
    · omega
    · exact Or.inl h2

theorem perm_put (B : List α) (x : α) (j : Nat) : (B.take j ++ x :: B.drop j).Perm (x :: B) := by
  have h := (List.perm_middle (a := x) (l₁ := B.take j) (l₂ := B.drop j))
  rwa [List.take_append_drop] at h

/-- An element goes one to the right. -/
theorem right_step (P B S : List α) (x : α) (t k : Nat) (hk : k = P.length + t) (ht : t < B.length) :
    swp (P ++ (B.take t ++ x :: B.drop t) ++ S).toArray k (k + 1) = (P ++ (B.take (t + 1) ++ x :: B.drop (t + 1)) ++ S).toArray := by
  obtain ⟨y, B', ey⟩ : ∃ y B', B.drop t = y :: B' := ⟨_, _, List.drop_eq_getElem_cons ht⟩
  have e1 : B.drop (t + 1) = B' := by rw [← List.drop_drop, ey]; rfl
  have e2 : B.take (t + 1) = B.take t ++ [y] := by rw [List.take_add_one, ← List.head?_drop, ey]; rfl
  rw [ey, e1, e2]
  have h := swp_mid (P ++ B.take t) x [] y (B' ++ S) k (k + 1) (by simp; omega) (by simp; omega)
  simpa using h

/-- An element goes one to the left. -/
theorem left_step (P A S : List α) (y : α) (t k : Nat) (hk : k = P.length + t + 1) (ht : t < A.length) :
    swp (P ++ (A.take (t + 1) ++ y :: A.drop (t + 1)) ++ S).toArray k (k - 1) = (P ++ (A.take t ++ y :: A.drop t) ++ S).toArray := by
  obtain ⟨z, A', ez⟩ : ∃ z A', A.drop t = z :: A' := ⟨_, _, List.drop_eq_getElem_cons ht⟩
  have e1 : A.drop (t + 1) = A' := by rw [← List.drop_drop, ez]; rfl
  have e2 : A.take (t + 1) = A.take t ++ [z] := by rw [List.take_add_one, ← List.head?_drop, ez]; rfl
  rw [ez, e1, e2]
  have h := swp_mid' (P ++ A.take t) z [] y (A' ++ S) (k - 1) k (by simp; omega) (by simp; omega)
  simpa using h

end Go.Proofs.Try.Stab

/-! slices.SortStableFunc in plain Lean: the insertion, the chunks. -/
namespace Go.Proofs.Try.Stab
set_option linter.unusedVariables false
set_option linter.unusedSimpArgs false
open Go.Sort Go.Proofs
variable {α : Type} [Inhabited α] {lt : α → α → Bool} {at_ : α → Nat}
set_option linter.unusedSectionVars false

/-- One element goes into a run. -/
theorem insInner_list (P A S : List α) (y : α) (t : Nat) (ht : t ≤ A.length) (h2 : t = A.length ∨ lt y A[t]! = true) :
    ∃ u, u ≤ A.length ∧ insInner lt P.length (P.length + t) (P ++ (A.take t ++ y :: A.drop t) ++ S).toArray = (P ++ (A.take u ++ y :: A.drop u) ++ S).toArray ∧
      (u = 0 ∨ lt y A[u - 1]! = false) ∧ (u = A.length ∨ lt y A[u]! = true) := by
  induction t with
  | zero =>
    refine ⟨0, ht, ?_, Or.inl rfl, h2⟩
    cases hp : P.length with
    | zero => rfl
    | succ n =>
      show insInner lt (n + 1) (n + 1) _ = _
      rw [insInner]
      simp
  | succ t ih =>
    have hy : (P ++ (A.take (t + 1) ++ y :: A.drop (t + 1)) ++ S).toArray[P.length + t + 1]! = y := by
      have e : P ++ (A.take (t + 1) ++ y :: A.drop (t + 1)) ++ S = (P ++ A.take (t + 1)) ++ y :: (A.drop (t + 1) ++ S) := by simp
      rw [e, show P.length + t + 1 = (P ++ A.take (t + 1)).length from by simp; omega]
      exact get_mid _ _ _
    have hz : (P ++ (A.take (t + 1) ++ y :: A.drop (t + 1)) ++ S).toArray[P.length + t]! = A[t]! := by
      rw [show P ++ (A.take (t + 1) ++ y :: A.drop (t + 1)) ++ S = P ++ A.take (t + 1) ++ (y :: (A.drop (t + 1) ++ S)) from by simp, get_part P (A.take (t + 1)) _ _ t rfl (by simp; omega)]
      rw [getElem!_pos _ t (by simp; omega), getElem!_pos A t (by omega)]
      simp
    rw [show P.length + (t + 1) = (P.length + t) + 1 from rfl, insInner, hy, hz]
    cases hc : lt y A[t]! with
    | true =>
      rw [if_pos (by simp; omega)]
      have hl := left_step P A S y t (P.length + t + 1) rfl (by omega)
      rw [show P.length + t + 1 - 1 = P.length + t from rfl] at hl
      rw [hl]
      exact ih (by omega) (Or.inr hc)
    | false =>
      rw [if_neg (by simp)]
      exact ⟨t + 1, ht, rfl, Or.inr (by simpa using hc), h2⟩

theorem Cross.of_perm {A A' B B' : List α} (h : Cross at_ A B) (ha : A'.Perm A) (hb : B'.Perm B) : Cross at_ A' B' :=
  h.sub (fun x hx => ha.mem_iff.1 hx) (fun x hx => hb.mem_iff.1 hx)

/-- slices.insertionSortCmpFunc over a part. -/
theorem insOuter_list (O : Ord lt at_) (P S : List α) (b : Nat) : ∀ (k : Nat) (A B : List α), B.length = k → b = P.length + A.length + B.length → A.Pairwise (R lt at_) → Cross at_ A B → B.Pairwise (fun x y => at_ x < at_ y) →
    ∃ M, insOuter lt P.length b (P.length + A.length) (P ++ (A ++ B) ++ S).toArray = (P ++ M ++ S).toArray ∧ M.Perm (A ++ B) ∧ M.Pairwise (R lt at_) := by
  intro k
  induction k with
  | zero =>
    intro A B hB hb hA hC _
    obtain rfl := List.eq_nil_of_length_eq_zero hB
    refine ⟨A, ?_, by simp, hA⟩
    rw [insOuter, if_neg (by simp at hb; omega)]
    simp
  | succ k ih =>
    intro A B hB hb hA hC hB2
    obtain ⟨y, B', rfl⟩ : ∃ y B', B = y :: B' := by cases B with | nil => simp at hB | cons y B' => exact ⟨y, B', rfl⟩
    obtain ⟨hy, hB'⟩ := List.pairwise_cons.1 hB2
    rw [insOuter, if_pos (by rw [hb]; simp)]
    obtain ⟨u, hu, he, h1, h2⟩ := insInner_list (lt := lt) P A (B' ++ S) y A.length (Nat.le_refl _) (Or.inl rfl)
    rw [show P ++ (A ++ y :: B') ++ S = P ++ (A.take A.length ++ y :: A.drop A.length) ++ (B' ++ S) from by simp, he]
    have hs := last_sorted O y A u hu hA (hC.sub (fun _ h => h) (fun x hx => by simp at hx; simp [hx])) h1 h2
    have hp := perm_put A y u
    have hl := hp.length_eq
    simp at hl
    obtain ⟨M, hM, hMp, hMs⟩ := ih (A.take u ++ y :: A.drop u) B' (by simpa using hB) (by rw [hb, hp.length_eq]; simp; omega) hs
      (fun x hx z hz => by
        rcases List.mem_cons.1 (hp.mem_iff.1 hx) with rfl | hx
        · exact hy z hz
        · exact hC x hx z (List.mem_cons_of_mem _ hz)) hB'
    refine ⟨M, ?_, ?_, hMs⟩
    · rw [← hM]
      congr 1
      · rw [hp.length_eq]; simp; omega
      · simp
    · refine hMp.trans ((hp.append_right B').trans ?_)
      exact (List.perm_middle (l₁ := A) (a := y) (l₂ := B')).symm

theorem insertion_list (O : Ord lt at_) (P A S : List α) (a b : Nat) (ha : a = P.length) (hb : b = P.length + A.length) (hA : A.Pairwise (fun x y => at_ x < at_ y)) :
    ∃ M, insertionSort lt (P ++ A ++ S).toArray a b = (P ++ M ++ S).toArray ∧ M.Perm A ∧ M.Pairwise (R lt at_) := by
  subst ha hb
  cases A with
  | nil =>
    refine ⟨[], ?_, List.Perm.refl _, List.Pairwise.nil⟩
    unfold insertionSort
    rw [insOuter, if_neg (by simp)]
  | cons x A =>
    obtain ⟨hx, hA'⟩ := List.pairwise_cons.1 hA
    obtain ⟨M, hM, hp, hs⟩ := insOuter_list O P S (P.length + (x :: A).length) A.length [x] A rfl (by simp; omega) (by simp) (fun u hu z hz => by simp at hu; subst hu; exact hx z hz) hA'
    refine ⟨M, ?_, hp, hs⟩
    unfold insertionSort
    exact hM

/-! ### the chunks -/
/-- Chunks of so many elements, but the last one. -/
def Chunky (bs : Nat) : List (List α) → Prop
  | [] => True
  | [A] => A ≠ [] ∧ A.length ≤ bs
  | A :: B :: T => A.length = bs ∧ Chunky bs (B :: T)

/-- All chunks are in order, each is ahead of those behind it. -/
structure Good (lt : α → α → Bool) (at_ : α → Nat) (Ls : List (List α)) : Prop where
  sorted : ∀ A ∈ Ls, A.Pairwise (R lt at_)
  cross : Ls.Pairwise (Cross at_)

theorem Chunky.two {bs : Nat} (h0 : 0 < bs) {Ls : List (List α)} (h : Chunky bs Ls) (hl : 2 * bs ≤ Ls.flatten.length) : ∃ A B T, Ls = A :: B :: T ∧ A.length = bs ∧ B.length = bs ∧ Chunky bs T := by
  match Ls, h with
  | [], _ => simp at hl; omega
  | [A], h => simp at hl; have := h.2; omega
  | [A, B], h =>
    have h1 : A.length = bs := h.1
    have h2 : B.length ≤ bs := h.2.2
    simp at hl
    exact ⟨A, B, [], rfl, h1, by omega, trivial⟩
  | A :: B :: C :: T, h => exact ⟨A, B, C :: T, rfl, h.1, h.2.1, h.2.2⟩

theorem Chunky.few {bs : Nat} (h0 : 0 < bs) {Ls : List (List α)} (h : Chunky bs Ls) (hl : Ls.flatten.length < 2 * bs) : Ls = [] ∨ (∃ A, Ls = [A] ∧ A ≠ [] ∧ A.length ≤ bs) ∨ ∃ A B, Ls = [A, B] ∧ A.length = bs ∧ B ≠ [] ∧ B.length < bs := by
  match Ls, h with
  | [], _ => exact Or.inl rfl
  | [A], h => exact Or.inr (Or.inl ⟨A, rfl, h.1, h.2⟩)
  | [A, B], h =>
    have h1 : A.length = bs := h.1
    simp at hl
    exact Or.inr (Or.inr ⟨A, B, rfl, h1, h.2.1, by omega⟩)
  | A :: B :: C :: T, h =>
    have h1 : A.length = bs := h.1
    have h2 : B.length = bs := h.2.1
    simp at hl
    omega

theorem Chunky.one {bs : Nat} {Ls : List (List α)} (h : Chunky bs Ls) (hl : Ls.flatten.length ≤ bs) : Ls = [] ∨ ∃ A, Ls = [A] := by
  match Ls, h with
  | [], _ => exact Or.inl rfl
  | [A], _ => exact Or.inr ⟨A, rfl⟩
  | A :: B :: T, h =>
    exfalso
    have h1 : A.length = bs := h.1
    have h2 : 0 < (B :: T).flatten.length := by
      have h := h.2
      match T, h with
      | [], h => have := List.length_pos_iff.2 h.1; simpa using this
      | C :: T, h =>
        have h3 : B.length = bs := h.1
        simp at hl
        have h4 : bs = 0 := by omega
        have hz : ∀ (L : List (List α)), L ≠ [] → Chunky bs L → 0 < L.flatten.length ∨ False := by
          intro L
          induction L with
          | nil => intro h; exact absurd rfl h
          | cons X L ihL =>
            intro _ hc
            cases L with
            | nil => left; have := List.length_pos_iff.2 hc.1; simpa using this
            | cons Y L => rcases ihL (by simp) hc.2 with h | h
                          · left; simp at h ⊢; omega
                          · exact h.elim
        rcases hz (C :: T) (by simp) h.2 with h | h
        · simp at h ⊢; omega
        · exact h.elim
    simp at hl h2
    omega

/-- Chunks of the new size, with a last one behind. -/
theorem chunky_of_full {bs : Nat} (Ls T : List (List α)) (h : ∀ A ∈ Ls, A.length = bs) (h0 : 0 < bs) (hT : Chunky bs T) : Chunky bs (Ls ++ T) := by
  induction Ls with
  | nil => exact hT
  | cons A Ls ih =>
    have hA := h A (by simp)
    have ih := ih (fun B hB => h B (by simp [hB]))
    cases e : Ls ++ T with
    | nil =>
      show Chunky bs (A :: (Ls ++ T))
      rw [e]
      exact ⟨by intro e; rw [e] at hA; simp at hA; omega, by omega⟩
    | cons B U =>
      show Chunky bs (A :: (Ls ++ T))
      rw [e] at ih ⊢
      exact ⟨hA, ih⟩

theorem full_len {bs : Nat} (Ls : List (List α)) (h : ∀ A ∈ Ls, A.length = bs) : Ls.flatten.length = Ls.length * bs := by
  induction Ls with
  | nil => simp
  | cons A Ls ih => rw [List.flatten_cons, List.length_append, ih (fun B hB => h B (by simp [hB])), h A (by simp), List.length_cons, Nat.succ_mul]; omega

/-- Two neighbours become one. -/
theorem Good.merged {D T : List (List α)} {A B M : List α} (h : Good lt at_ (D ++ A :: B :: T)) (hp : M.Perm (A ++ B)) (hs : M.Pairwise (R lt at_)) : Good lt at_ (D ++ M :: T) := by
  obtain ⟨h1, h2⟩ := h
  refine ⟨?_, ?_⟩
  · intro X hX
    rcases List.mem_append.1 hX with hX | hX
    · exact h1 X (by simp [hX])
    · rcases List.mem_cons.1 hX with rfl | hX
      · exact hs
      · exact h1 X (by simp [hX])
  · rw [List.pairwise_append] at h2 ⊢
    obtain ⟨c1, c2, c3⟩ := h2
    obtain ⟨d1, d2⟩ := List.pairwise_cons.1 c2
    obtain ⟨d3, d4⟩ := List.pairwise_cons.1 d2
    refine ⟨c1, List.pairwise_cons.2 ⟨fun X hX x hx y hy => ?_, d4⟩, fun X hX Y hY => ?_⟩
    · rcases List.mem_append.1 (hp.mem_iff.1 hx) with hx | hx
      · exact d1 X (by simp [hX]) x hx y hy
      · exact d3 X hX x hx y hy
    · rcases List.mem_cons.1 hY with rfl | hY
      · intro x hx y hy
        rcases List.mem_append.1 (hp.mem_iff.1 hy) with hy | hy
        · exact c3 X hX A (by simp) x hx y hy
        · exact c3 X hX B (by simp) x hx y hy
      · exact c3 X hX Y (by simp [hY])

theorem Good.pair {D T : List (List α)} {A B : List α} (h : Good lt at_ (D ++ A :: B :: T)) : A.Pairwise (R lt at_) ∧ B.Pairwise (R lt at_) ∧ Cross at_ A B := by
  refine ⟨h.sorted A (by simp), h.sorted B (by simp), ?_⟩
  have := (List.pairwise_append.1 h.cross).2.1
  exact (List.pairwise_cons.1 this).1 B (by simp)

/-- One raw part becomes a chunk: the parts behind it are all of what is raw. -/
theorem Good.put {D : List (List α)} {A B M : List α} (h : Good lt at_ D) (hc : ∀ X ∈ D, Cross at_ X (A ++ B)) (hp : M.Perm A) (hs : M.Pairwise (R lt at_)) : Good lt at_ (D ++ [M]) := by
  obtain ⟨h1, h2⟩ := h
  refine ⟨fun X hX => ?_, List.pairwise_append.2 ⟨h2, by simp, fun X hX Y hY => ?_⟩⟩
  · rcases List.mem_append.1 hX with hX | hX
    · exact h1 X hX
    · simp at hX; rw [hX]; exact hs
  · simp at hY; rw [hY]
    exact (hc X hX).sub (fun _ h => h) (fun x hx => List.mem_append_left _ (hp.mem_iff.1 hx))

end Go.Proofs.Try.Stab
