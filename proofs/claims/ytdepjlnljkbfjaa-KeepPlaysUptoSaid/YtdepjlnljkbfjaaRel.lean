/- The reference's row of files, in order by names, against the disk's map: what each operation makes of both. -/
import Derived.Test.YtdepjlnljkbfjaaRefI
namespace Go.Proofs.Ytdepjlnljkbfjaa.Hand
open Go.RowKit Go.Proofs.Ytdepjlnljkbfjaa.MapP
set_option linter.unusedVariables false
set_option linter.unusedSimpArgs false
abbrev KL := List (Key × (List Int × Nat))
def SortedK (L : KL) : Prop := L.Pairwise fun a b => a.1 < b.1
theorem klt_of_not {a k : Key} (h : ¬ a < k) (hn : a ≠ k) : k < a := by
  rcases List.le_total a k with h1 | h1
  · exact absurd (Decidable.byContradiction fun h2 => hn (List.le_antisymm h1 (List.not_lt.1 h2))) h
  · exact Decidable.byContradiction fun h2 => hn (List.le_antisymm (List.not_lt.1 h2) h1)
theorem klt_ne {a k : Key} (h : a < k) : a ≠ k := fun e => List.lt_irrefl k (e ▸ h)
theorem takeWhile_all {α : Type} (f : α → Bool) : ∀ (l : List α) (x : α), x ∈ l.takeWhile f → f x = true
  | [], x, h => by cases h
  | y :: l, x, h => by
    rw [List.takeWhile_cons] at h
    split at h
    · rename_i hy
      rcases List.mem_cons.1 h with rfl | h
      · exact hy
      · exact takeWhile_all f l x h
    · cases h
theorem spot_split {L : KL} (hs : SortedK L) (k : Key) : ∃ L1 L2, L = L1 ++ L2 ∧ L.take (spotN L k) = L1 ∧ L.drop (spotN L k) = L2 ∧ (∀ p ∈ L1, p.1 < k) ∧ ((spotB L k = false ∧ ∀ p ∈ L2, k < p.1) ∨ ∃ x L3, L2 = (k, x) :: L3 ∧ spotB L k = true ∧ getR L k = x ∧ ∀ p ∈ L3, k < p.1) := by
  have h1 : L.take (spotN L k) = L.takeWhile fun p => decide (p.1 < k) := by
    unfold spotN
    exact (List.prefix_iff_eq_take.1 (List.takeWhile_prefix _)).symm
  have h2 : ∀ p ∈ L.take (spotN L k), p.1 < k := by
    rw [h1]
    intro p hp
    exact of_decide_eq_true (takeWhile_all _ L p hp)
  have h3 : ∀ p, L[spotN L k]? = some p → ¬ p.1 < k := by
    intro p hp
    have h4 : L.dropWhile (fun p => decide (p.1 < k)) = L.drop (spotN L k) := by
      have h5 := List.takeWhile_append_dropWhile (p := fun p : Key × (List Int × Nat) => decide (p.1 < k)) (l := L)
      have h6 : L = L.take (spotN L k) ++ L.drop (spotN L k) := (List.take_append_drop _ _).symm
      rw [← h1] at h5
      exact List.append_cancel_left (h5.trans h6)
    have h7 := List.head?_dropWhile_not (fun p : Key × (List Int × Nat) => decide (p.1 < k)) L
    rw [h4, List.head?_drop, hp] at h7
    simpa using h7
  refine ⟨_, _, (List.take_append_drop (spotN L k) L).symm, rfl, rfl, h2, ?_⟩
  cases hd : L.drop (spotN L k) with
  | nil =>
    left
    have : L[spotN L k]? = none := by rw [← List.head?_drop, hd]; rfl
    exact ⟨by unfold spotB; rw [this], fun p hp => by cases hp⟩
  | cons q L3 =>
    have hq : L[spotN L k]? = some q := by rw [← List.head?_drop, hd]; rfl
    have hn := h3 q hq
    have hs2 : SortedK (q :: L3) := by rw [← hd]; exact List.Pairwise.sublist (List.drop_sublist _ _) hs
    have ht : ∀ p ∈ L3, q.1 < p.1 := fun p hp => (List.pairwise_cons.1 hs2).1 p hp
    by_cases he : q.1 = k
    · right
      obtain ⟨q1, q2⟩ := q
      obtain rfl : q1 = k := he
      refine ⟨q2, L3, rfl, by unfold spotB; rw [hq]; simp, by unfold getR; rw [List.getD_eq_getElem?_getD, hq]; rfl, ht⟩
    · left
      have hk := klt_of_not hn he
      refine ⟨by unfold spotB; rw [hq]; simpa using he, fun p hp => ?_⟩
      rcases List.mem_cons.1 hp with rfl | hp
      · exact hk
      · exact List.lt_trans hk (ht p hp)
theorem sorted_once {L : KL} (hs : SortedK L) : Once L := by
  unfold Once
  refine List.Pairwise.map _ (fun a b h => ?_) hs
  exact klt_ne h
theorem once_perm {M N : KL} (hM : Once M) (hN : Once N) (h : ∀ k, at_ M k = at_ N k) : M.Perm N := by
  have nd : ∀ {K : KL}, Once K → K.Nodup := fun {K} hK => List.Pairwise.of_map _ (fun a b hab e => hab (congrArg Prod.fst e)) hK
  refine (List.perm_ext_iff_of_nodup (nd hM) (nd hN)).2 (fun p => ⟨fun hp => ?_, fun hp => ?_⟩)
  · exact at_mem ((h p.1).symm.trans (hM.at_of_mem hp))
  · exact at_mem ((h p.1).trans (hN.at_of_mem hp))
theorem perm_at {M N : KL} (hM : Once M) (h : M.Perm N) (k : Key) : at_ M k = at_ N k := by
  have hN : Once N := (h.map _).nodup_iff.1 hM
  cases hk : at_ M k with
  | some x => exact (hN.at_of_mem (h.mem_iff.1 (at_mem hk))).symm
  | none =>
    cases hk2 : at_ N k with
    | none => rfl
    | some x =>
      have := hM.at_of_mem (h.mem_iff.2 (at_mem hk2))
      rw [hk] at this
      cases this
theorem perm_total {M N : KL} (h : M.Perm N) : total M = total N := by
  induction h with
  | nil => rfl
  | cons a _ ih => simp only [total, ih]
  | swap a b l => simp only [total]; omega
  | trans _ _ h1 h2 => exact h1.trans h2
theorem at_append {M N : KL} {k : Key} (h : ∀ p ∈ M, p.1 ≠ k) : at_ (M ++ N) k = at_ N k := by
  unfold at_
  rw [List.find?_append, List.find?_eq_none.2 (fun p hp => by simpa using h p hp)]
  rfl
theorem at_cons_ne {N : KL} {k k' : Key} {x : List Int × Nat} (h : k' ≠ k) : at_ ((k', x) :: N) k = at_ N k := at_append (M := [(k', x)]) (fun p hp => by rw [List.mem_singleton.1 hp]; exact h)
theorem at_cons_eq {N : KL} {k : Key} {x : List Int × Nat} : at_ ((k, x) :: N) k = some x := by simp [at_]
theorem at_gone {N : KL} {k : Key} (h : ∀ p ∈ N, p.1 ≠ k) : at_ N k = none := by
  have := at_append (N := []) h
  rw [List.append_nil] at this
  exact this
/-- The place of a name says what the map says. -/
theorem spot_at {L : KL} (hs : SortedK L) (k : Key) : at_ L k = if spotB L k = true then some (getR L k) else none := by
  obtain ⟨L1, L2, h1, _, _, h2, h3⟩ := spot_split hs k
  rw [h1, at_append (fun p hp => klt_ne (h2 p hp))]
  rcases h3 with ⟨h3, h4⟩ | ⟨x, L3, rfl, h3, h4, _⟩
  · rw [← h1, h3, if_neg (by simp)]
    exact at_gone (fun p hp => fun e => klt_ne (h4 p hp) e.symm)
  · rw [← h1, h3, if_pos rfl, h4]
    exact at_cons_eq
/-- What stands with a name laid between. -/
theorem lay_at {L1 L3 : KL} {k : Key} {x : List Int × Nat} (h1 : ∀ p ∈ L1, p.1 < k) (h3 : ∀ p ∈ L3, k < p.1) (k' : Key) : at_ (L1 ++ (k, x) :: L3) k' = if k' = k then some x else at_ (L1 ++ L3) k' := by
  by_cases hk : k' = k
  · subst hk
    rw [if_pos rfl, at_append (fun p hp => klt_ne (h1 p hp)), at_cons_eq]
  · rw [if_neg hk]
    unfold at_
    rw [List.find?_append, List.find?_append, List.find?_cons_of_neg (by simpa using fun e => hk e.symm)]
theorem lay_sorted {L1 L3 : KL} {k : Key} {x : List Int × Nat} (hs : SortedK (L1 ++ L3)) (h1 : ∀ p ∈ L1, p.1 < k) (h3 : ∀ p ∈ L3, k < p.1) : SortedK (L1 ++ (k, x) :: L3) := by
  unfold SortedK at hs ⊢
  rw [List.pairwise_append] at hs ⊢
  refine ⟨hs.1, List.pairwise_cons.2 ⟨h3, hs.2.1⟩, fun a ha b hb => ?_⟩
  rcases List.mem_cons.1 hb with rfl | hb
  · exact h1 a ha
  · exact hs.2.2 a ha b hb
/-- Other bytes under a name that is there. -/
theorem set_rel {L : KL} (hs : SortedK L) {k : Key} (hb : spotB L k = true) (y : List Int × Nat) : SortedK (L.set (spotN L k) (k, y)) ∧ ∀ k', at_ (L.set (spotN L k) (k, y)) k' = if k' = k then some y else at_ L k' := by
  obtain ⟨L1, L2, h1, ht, hd, h2, h3⟩ := spot_split hs k
  rcases h3 with ⟨h3, _⟩ | ⟨x, L3, rfl, _, _, h4⟩
  · rw [h3] at hb; cases hb
  · have hl : spotN L k < L.length := spot_lt hb
    have e1 : L.set (spotN L k) (k, y) = L1 ++ (k, y) :: L3 := by
      rw [List.set_eq_take_append_cons_drop, if_pos hl, ht, ← List.drop_drop, hd]
      rfl
    have hs1 : SortedK (L1 ++ L3) := by
      rw [h1] at hs
      exact List.Pairwise.sublist (List.Sublist.append (List.Sublist.refl _) (List.sublist_cons_self _ _)) hs
    rw [e1]
    refine ⟨lay_sorted hs1 h2 h4, fun k' => ?_⟩
    rw [lay_at h2 h4]
    by_cases hk : k' = k
    · rw [if_pos hk, if_pos hk]
    · rw [if_neg hk, if_neg hk]
      have := lay_at (x := x) h2 h4 k'
      rw [if_neg hk, ← h1] at this
      exact this.symm
/-- A name that is not there laid into its place. -/
theorem ins_rel {L : KL} (hs : SortedK L) {k : Key} (hb : spotB L k = false) (y : List Int × Nat) : SortedK (L.take (spotN L k) ++ (k, y) :: L.drop (spotN L k)) ∧ ∀ k', at_ (L.take (spotN L k) ++ (k, y) :: L.drop (spotN L k)) k' = if k' = k then some y else at_ L k' := by
  obtain ⟨L1, L2, h1, ht, hd, h2, h3⟩ := spot_split hs k
  rw [ht, hd]
  rcases h3 with ⟨_, h4⟩ | ⟨x, L3, _, h3, _⟩
  · refine ⟨lay_sorted (h1 ▸ hs) h2 h4, fun k' => ?_⟩
    rw [lay_at h2 h4, ← h1]
  · rw [h3] at hb; cases hb
theorem putR_rel {L : KL} (hs : SortedK L) (k : Key) (y : List Int × Nat) : SortedK (putR L k y) ∧ ∀ k', at_ (putR L k y) k' = if k' = k then some y else at_ L k' := by
  unfold putR
  cases hb : spotB L k with
  | true => rw [if_pos rfl]; exact set_rel hs hb y
  | false => rw [if_neg (by simp)]; exact ins_rel hs hb y
theorem delR_rel {L : KL} (hs : SortedK L) (k : Key) : SortedK (delR L k) ∧ ∀ k', at_ (delR L k) k' = if k' = k then none else at_ L k' := by
  refine ⟨List.Pairwise.sublist (delR_sub L k) hs, fun k' => ?_⟩
  obtain ⟨L1, L2, h1, ht, hd, h2, h3⟩ := spot_split hs k
  unfold delR
  rcases h3 with ⟨h3, h4⟩ | ⟨x, L3, rfl, h3, h4, h5⟩
  · rw [h3, if_neg (by simp)]
    by_cases hk : k' = k
    · rw [if_pos hk, hk, spot_at hs, h3]; rfl
    · rw [if_neg hk]
  · have e1 : L.take (spotN L k) ++ L.drop (spotN L k + 1) = L1 ++ L3 := by rw [ht, ← List.drop_drop, hd]; rfl
    rw [h3, if_pos rfl, e1]
    have := lay_at (x := x) h2 h5 k'
    rw [← h1] at this
    by_cases hk : k' = k
    · rw [if_pos hk, hk]
      refine at_gone (fun p hp => ?_)
      rcases List.mem_append.1 hp with hp | hp
      · exact klt_ne (h2 p hp)
      · exact fun e => klt_ne (h5 p hp) e.symm
    · rw [if_neg hk] at this ⊢
      exact this.symm
theorem put_at (M : KL) (k : Key) (y : List Int × Nat) (k' : Key) : at_ (put M k y) k' = if k' = k then some y else at_ M k' := by
  by_cases hk : k' = k
  · rw [if_pos hk, hk]; exact at_put_same
  · rw [if_neg hk]; exact at_put_other hk
theorem del_at (M : KL) (k k' : Key) : at_ (del M k) k' = if k' = k then none else at_ M k' := by
  by_cases hk : k' = k
  · rw [if_pos hk, hk]; exact at_del_same
  · rw [if_neg hk]; exact at_del_other hk
/-- The reference's row and the disk's map are of one. -/
structure Rel (S : DV) (R : RV) : Prop where
  room : R.room = S.room
  left : R.left = if S.fused = true then S.left else -1
  sorted : SortedK R.L
  perm : R.L.Perm S.L
  fine : S.Fine
section
variable {S : DV} {R : RV} {k : Key}
theorem Rel.once (h : Rel S R) : Once S.L := (h.perm.map _).nodup_iff.1 (sorted_once h.sorted)
theorem Rel.at_ (h : Rel S R) (k : Key) : MapP.at_ S.L k = if spotB R.L k = true then some (getR R.L k) else none := by rw [← perm_at (sorted_once h.sorted) h.perm, spot_at h.sorted]
theorem Rel.total (h : Rel S R) : total R.L = total S.L := perm_total h.perm
theorem Rel.len (h : Rel S R) : R.L.length = S.L.length := h.perm.length_eq
theorem Rel.may (h : Rel S R) (l : List ByteArray) : mayV S.fused S.left l = mayR R.left l := by
  unfold mayV mayR
  rw [h.left]
  have h0 := h.fine.l0
  cases S.fused
  · simp
  · simp
theorem Rel.done (h : Rel S R) {l : List ByteArray} (hm : mayV S.fused S.left l = 0) : didR R.left = if S.fused = true then doneL S.fused S.left else -1 := by
  unfold didR doneL
  rw [h.left]
  have h0 := h.fine.l0
  unfold mayV at hm
  cases hf : S.fused
  · simp
  · rw [hf] at hm
    have : S.left ≠ 0 := by
      intro e
      rw [e] at hm
      simp at hm
    simp only [if_true]
    rw [if_pos (by omega)]
end
end Go.Proofs.Ytdepjlnljkbfjaa.Hand

/- Each step tells the same of the disk and of the reference's, and leaves them of one. -/
namespace Go.Proofs.Ytdepjlnljkbfjaa.Hand
open Go.RowKit Go.Proofs.Ytdepjlnljkbfjaa.MapP
set_option linter.unusedVariables false
set_option linter.unusedSimpArgs false
section
variable {S S' : DV} {R R' : RV} {k : Key}
theorem Rel.make (h0 : R'.room = S'.room) (h1 : R'.left = if S'.fused = true then S'.left else -1) (h2 : SortedK R'.L) (ho : Once S'.L) (ha : ∀ k, MapP.at_ R'.L k = MapP.at_ S'.L k) (hf : S'.Fine) : Rel S' R' :=
  ⟨h0, h1, h2, once_perm (sorted_once h2) ho ha, hf⟩
theorem Rel.getD (h : Rel S R) (k : Key) : oldR R.L k = (MapP.at_ S.L k).getD ([], 0) := by
  rw [h.at_ k]
  unfold oldR
  cases spotB R.L k <;> rfl
theorem rel_append (h : Rel S R) (s : ByteArray) (xs : List Int) : (appendR R s xs).1 = (appendV S s xs).1 ∧ Rel (appendV S s xs).2 (appendR R s xs).2 := by
  have hf := appendV_fine h.fine s xs
  unfold appendV at hf ⊢
  unfold appendR
  rw [← h.may]
  by_cases hm : mayV S.fused S.left [s] = 0
  · rw [hm] at hf ⊢
    simp only [ne_eq, not_true_eq_false, if_false] at hf ⊢
    have hc : (R.room < total R.L + xs.length ∨ (spotB R.L s.data.toList = false ∧ 4096 ≤ R.L.length)) ↔ (S.room - total S.L < xs.length ∨ (MapP.at_ S.L s.data.toList = none ∧ 4096 ≤ S.L.length)) := by
      rw [h.room, h.total, h.len, h.at_]
      refine or_congr ⟨fun h => by omega, fun h => by omega⟩ (and_congr_left' ?_)
      cases spotB R.L s.data.toList <;> simp
    by_cases hq : S.room - total S.L < xs.length ∨ (MapP.at_ S.L s.data.toList = none ∧ 4096 ≤ S.L.length)
    · rw [if_pos hq, if_pos (hc.2 hq)]
      exact ⟨rfl, h⟩
    · rw [if_neg hq] at hf ⊢
      rw [if_neg (fun e => hq (hc.1 e))]
      refine ⟨rfl, Rel.make h.room (h.done hm) (putR_rel h.sorted _ _).1 h.once.put (fun k => ?_) hf⟩
      show MapP.at_ (putR _ _ _) k = MapP.at_ (put _ _ _) k
      rw [(putR_rel h.sorted _ _).2, put_at, h.getD, perm_at (sorted_once h.sorted) h.perm]
  · rw [if_pos hm, if_pos hm]
    exact ⟨rfl, h⟩
theorem rel_sync (h : Rel S R) (s : ByteArray) : (syncR R s).1 = (oneV syncX S s).1 ∧ Rel (oneV syncX S s).2 (syncR R s).2 := by
  have hf := sync_fine h.fine s
  unfold oneV at hf ⊢
  unfold syncR
  rw [← h.may]
  by_cases hm : mayV S.fused S.left [s] = 0
  · rw [hm] at hf ⊢
    simp only [ne_eq, not_true_eq_false, if_false] at hf ⊢
    have ha := h.at_ s.data.toList
    cases hb : spotB R.L s.data.toList with
    | false =>
      rw [hb, if_neg (by simp)] at ha
      rw [ha, if_neg (by simp)]
      exact ⟨rfl, h⟩
    | true =>
      rw [hb, if_pos rfl] at ha
      rw [ha] at hf ⊢
      rw [if_pos rfl]
      simp only [syncX] at hf ⊢
      refine ⟨by first | trivial | rfl, Rel.make h.room (h.done hm) (set_rel h.sorted hb _).1 h.once.put (fun k => ?_) hf⟩
      show MapP.at_ (R.L.set _ _) k = MapP.at_ (put _ _ _) k
      rw [(set_rel h.sorted hb _).2, put_at, perm_at (sorted_once h.sorted) h.perm]
  · rw [if_pos hm, if_pos hm]
    exact ⟨rfl, h⟩
theorem rel_remove (h : Rel S R) (s : ByteArray) : (removeR R s).1 = (oneV removeX S s).1 ∧ Rel (oneV removeX S s).2 (removeR R s).2 := by
  have hf := remove_fine h.fine s
  unfold oneV at hf ⊢
  unfold removeR
  rw [← h.may]
  by_cases hm : mayV S.fused S.left [s] = 0
  · rw [hm] at hf ⊢
    simp only [ne_eq, not_true_eq_false, if_false] at hf ⊢
    have ha := h.at_ s.data.toList
    cases hb : spotB R.L s.data.toList with
    | false =>
      rw [hb, if_neg (by simp)] at ha
      rw [ha, if_neg (by simp)]
      exact ⟨rfl, h⟩
    | true =>
      rw [hb, if_pos rfl] at ha
      rw [ha] at hf ⊢
      rw [if_pos rfl]
      simp only [removeX] at hf ⊢
      refine ⟨by first | trivial | rfl, Rel.make h.room (h.done hm) (delR_rel h.sorted _).1 (h.once.del _) (fun k => ?_) hf⟩
      show MapP.at_ (delR _ _) k = MapP.at_ (del _ _) k
      rw [(delR_rel h.sorted _).2, del_at, perm_at (sorted_once h.sorted) h.perm]
  · rw [if_pos hm, if_pos hm]
    exact ⟨rfl, h⟩
theorem spot_gone {L : KL} (hs : SortedK L) (h : MapP.at_ L k = none) : spotB L k = false := by
  have := spot_at hs k
  rw [h] at this
  cases hb : spotB L k with
  | false => rfl
  | true => rw [hb, if_pos rfl] at this; cases this
theorem rel_rename (h : Rel S R) (s t : ByteArray) : (renR R s t).1 = (renameV S s t).1 ∧ Rel (renameV S s t).2 (renR R s t).2 := by
  have hf := rename_fine h.fine s t
  unfold renameV at hf ⊢
  unfold renR
  rw [← h.may]
  by_cases hm : mayV S.fused S.left [s, t] = 0
  · rw [hm] at hf ⊢
    simp only [ne_eq, not_true_eq_false, if_false] at hf ⊢
    have ha := h.at_ s.data.toList
    cases hb : spotB R.L s.data.toList with
    | false =>
      rw [hb, if_neg (by simp)] at ha
      rw [ha, if_neg (by simp)]
      exact ⟨rfl, h⟩
    | true =>
      rw [hb, if_pos rfl] at ha
      rw [ha] at hf ⊢
      rw [if_pos rfl]
      simp only at hf ⊢
      by_cases hst : s = t
      · subst hst
        rw [if_pos rfl]
        refine ⟨rfl, Rel.make h.room (h.done hm) h.sorted (h.once.del _).put (fun k => ?_) hf⟩
        show MapP.at_ R.L k = MapP.at_ (put _ _ _) k
        rw [put_at, del_at, perm_at (sorted_once h.sorted) h.perm]
        by_cases hk : k = s.data.toList
        · rw [if_pos hk, hk, ha]
        · rw [if_neg hk, if_neg hk]
      · rw [if_neg hst]
        have h1 := delR_rel h.sorted s.data.toList
        have h2 := delR_rel h1.1 t.data.toList
        have hg := spot_gone h2.1 (k := t.data.toList) (by rw [h2.2, if_pos rfl])
        have h3 := ins_rel h2.1 hg (getR R.L s.data.toList)
        refine ⟨rfl, Rel.make h.room (h.done hm) h3.1 (h.once.del _).put (fun k => ?_) hf⟩
        show MapP.at_ (insR _ _ _) k = MapP.at_ (put _ _ _) k
        unfold insR
        rw [h3.2, put_at, h2.2, h1.2, del_at, perm_at (sorted_once h.sorted) h.perm]
        by_cases hk : k = t.data.toList
        · rw [if_pos hk, if_pos hk]
        · rw [if_neg hk, if_neg hk, if_neg hk]
  · rw [if_pos hm, if_pos hm]
    exact ⟨rfl, h⟩
theorem at_mapX (f : List Int × Nat → List Int × Nat) (L : KL) (k : Key) : MapP.at_ (L.map fun p => (p.1, f p.2)) k = (MapP.at_ L k).map f := by
  unfold MapP.at_
  rw [List.find?_map]
  simp only [Function.comp_def]
  cases L.find? (fun p => p.1 == k) <;> rfl
theorem rel_crash (h : Rel S R) (draw : Int) : Rel (crashV draw S) (crashR draw R) := by
  have hf := crash_fine h.fine draw
  have ho : Once (crashV draw S).L := by
    unfold Once crashV
    rw [List.map_map]
    exact h.once
  refine Rel.make h.room rfl ?_ ho (fun k => ?_) hf
  · exact List.Pairwise.map _ (fun a b hab => hab) h.sorted
  · show MapP.at_ (R.L.map _) k = MapP.at_ (S.L.map _) k
    rw [at_mapX, at_mapX, perm_at (sorted_once h.sorted) h.perm]
theorem rel_read (h : Rel S R) (s : ByteArray) : readV S s = readRV R s.data.toList := by
  unfold readV readRV
  rw [h.at_]
  cases spotB R.L s.data.toList <;> rfl
theorem rel_names (h : Rel S R) : namesOf S = namesR R := by
  unfold namesOf namesK namesR
  rw [← sort_perm (h.perm.map (·.1))]
  have hs : (R.L.map (·.1)).Pairwise fun a b => leK a b = true := List.Pairwise.map _ (fun a b hab => by
    show decide (a.1 ≤ b.1) = true
    exact decide_eq_true (List.le_of_lt hab)) h.sorted
  rw [List.mergeSort_of_pairwise hs, List.map_map]
  rfl
end
end Go.Proofs.Ytdepjlnljkbfjaa.Hand
