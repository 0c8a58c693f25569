/- The reference's doubling, in plain words. -/
import Derived.Test.YtenmgimhgdhgmaaRef
namespace Go.Proofs.Ytenmgimhgdhgmaa.Hand
open Go.RowKit Go.Proofs.Ytenmgimhgdhgmaa.Sfx Go.Proofs.YtenmgimhgdhgmaaW.PrintWords Go.Proofs.YtenmgimhgdhgmaaW.PrintLast Go.Proofs.YtenmgimhgdhgmaaW.PrintMore
set_option linter.unusedVariables false
/-- How many symbols are looked at behind a round of step st. -/
def stepN (st : Nat) : Nat := max 1 (2 * st)
/-- At the head of a round. -/
structure RInv (l : List Int) (st : Nat) (sa rk : List Int) : Prop where
  perm : sa.Perm (iota l.length)
  lr : rk.length = l.length
  first : st = 0 → rk = l
  up : 0 < st → sa.Pairwise (fun a b => leL (pre l st a) (pre l st b) = true)
  ranked : 0 < st → ∃ many, Ranked l st (rd rk) many
theorem RInv.la {l sa rk : List Int} {st : Nat} (h : RInv l st sa rk) : sa.length = l.length := by rw [h.perm.length_eq, iota_len]
theorem bef_pre {l sa rk : List Int} {st : Nat} (h : RInv l st sa rk) (a b : Int) (ha : 0 ≤ a) (ha2 : a < l.length) (hb : 0 ≤ b) (hb2 : b < l.length) : befB rk st a b = ltL (pre l (stepN st) a) (pre l (stepN st) b) := by
  unfold befB stepN
  by_cases h0 : st = 0
  · subst h0
    rw [if_pos rfl, h.first rfl]
    rw [show max 1 (2 * 0) = 1 from rfl, pre_one l a ha ha2, pre_one l b hb hb2]
    simp only [ltL]
    split
    · rename_i e; rw [e]; simp
    · rfl
  · obtain ⟨many, hr⟩ := h.ranked (by omega)
    rw [if_neg h0, show max 1 (2 * st) = 2 * st from by omega, pre_double l st a b ha hb]
    have e1 := hr.eq ha ha2 hb hb2
    by_cases e : rd rk a = rd rk b
    · rw [if_pos e]
      have e2 := e1.1 e
      rw [e2, ltL_irrefl]
      simp only [decide_true, Bool.true_and, Bool.false_or]
      have hs : ∀ x, secR rk st x = second l st (rd rk) x := fun x => by unfold secR second; rw [h.lr]
      rw [hs, hs]
      unfold second
      by_cases h1 : a + st < l.length <;> by_cases h2 : b + st < l.length
      · rw [if_pos h1, if_pos h2]
        have := hr.lt (a + st) (b + st) (by omega) h1 (by omega) h2
        rw [Bool.eq_iff_iff, decide_eq_true_eq]; exact this
      · rw [if_pos h1, if_neg h2, pre_behind l st (b + st) (by omega)]
        have := hr.lo (a + st) (by omega) h1
        have hn := pre_here l st (a + st) (by omega) h1 (by omega)
        cases hq : pre l st (a + st) with
        | nil => exact absurd hq hn
        | cons x xs => simp [ltL]; omega
      · rw [if_neg h1, if_pos h2, pre_behind l st (a + st) (by omega)]
        have := hr.lo (b + st) (by omega) h2
        have hn := pre_here l st (b + st) (by omega) h2 (by omega)
        cases hq : pre l st (b + st) with
        | nil => exact absurd hq hn
        | cons x xs => simp [ltL]; omega
      · rw [if_neg h1, if_neg h2, pre_behind l st (a + st) (by omega), pre_behind l st (b + st) (by omega)]
        simp [ltL]
    · rw [if_neg e]
      have e2 : ¬ pre l st a = pre l st b := fun h => e (e1.2 h)
      simp only [e2, decide_false, Bool.false_and, Bool.or_false]
      rw [Bool.eq_iff_iff, decide_eq_true_eq]
      exact hr.lt a b ha ha2 hb hb2
theorem sorted_pre {l sa rk r : List Int} {st : Nat} (h : RInv l st sa rk) (hp : r.Perm sa) (hs : r.Pairwise (fun a b => leB rk st a b = true)) : r.Perm (iota l.length) ∧ r.Pairwise (fun a b => leL (pre l (stepN st) a) (pre l (stepN st) b) = true) := by
  have hp2 := hp.trans h.perm
  refine ⟨hp2, List.Pairwise.imp_of_mem ?_ hs⟩
  intro a b ha hb hab
  have ma := mem_iota.1 (hp2.subset ha)
  have mb := mem_iota.1 (hp2.subset hb)
  unfold leB at hab
  rw [bef_pre h b a mb.1 mb.2 ma.1 ma.2] at hab
  exact hab
/-- One more round of ranks. -/
theorem climb_bef {l sa rk r : List Int} {st : Nat} (h : RInv l st sa rk) (hp : r.Perm (iota l.length)) (hu : r.Pairwise (fun a b => leL (pre l (stepN st) a) (pre l (stepN st) b) = true)) {i : Nat} (hi : 1 ≤ i) (hil : i < l.length) {p q : Nat} (hpp : rd r ((i - 1 : Nat) : Int) = p) (hqq : rd r (i : Nat) = q) (hpn : p < l.length) (hqn : q < l.length) :
    climb l (stepN st) r i = climb l (stepN st) r (i - 1) + if befB rk st p q = true then 1 else 0 := by
  have hl : r.length = l.length := by rw [hp.length_eq, iota_len]
  obtain ⟨j, rfl⟩ : ∃ j, i = j + 1 := ⟨i - 1, by omega⟩
  rw [Nat.add_sub_cancel] at hpp ⊢
  show climb l (stepN st) r j + (if pre l (stepN st) (rd r (j : Nat)) = pre l (stepN st) (rd r ((j + 1 : Nat) : Int)) then 0 else 1) = _
  have hg := List.pairwise_iff_getElem.1 hu j (j + 1) (by omega) (by omega) (by omega)
  rw [← rd_at (show j < r.length by omega), ← rd_at (show j + 1 < r.length by omega)] at hg
  rw [hpp, hqq] at hg ⊢
  rw [bef_pre h (p : Int) (q : Int) (by omega) (by omega) (by omega) (by omega)]
  by_cases e : pre l (stepN st) (p : Int) = pre l (stepN st) (q : Int)
  · rw [if_pos e, e, ltL_irrefl]; simp
  · rw [if_neg e, leL_lt hg e]; simp
theorem RInv.next {l sa rk r nx : List Int} {st : Nat} (h : RInv l st sa rk) (hp : r.Perm (iota l.length)) (hu : r.Pairwise (fun a b => leL (pre l (stepN st) a) (pre l (stepN st) b) = true)) (lx : nx.length = l.length)
    (hc : ∀ i : Nat, i < l.length → rd nx (rd r (i : Nat)) = climb l (stepN st) r i) : RInv l (stepN st) r nx := by
  have hl : r.length = l.length := by rw [hp.length_eq, iota_len]
  exact ⟨hp, lx, fun h => by unfold stepN at h; omega, fun _ => hu, fun _ => ⟨_, ranked_climb hp hu (fun i hi => hc i (by omega))⟩⟩
theorem RInv.done {l sa rk : List Int} {st : Nat} (h : RInv l st sa rk) (hn : l.length ≤ st) : IsSA l sa := by
  refine ⟨h.perm, ?_⟩
  rcases Nat.eq_zero_or_pos st with h0 | h0
  · have : sa.length = 0 := by rw [h.la]; omega
    rw [List.eq_nil_of_length_eq_zero this]; exact List.Pairwise.nil
  · have hnd : sa.Nodup := h.perm.symm.nodup (iota_nodup _)
    rw [List.pairwise_iff_getElem]
    intro i j hi hj hij
    have hg := List.pairwise_iff_getElem.1 (h.up h0) i j hi hj hij
    rw [pre_full l st _ hn, pre_full l st _ hn] at hg
    refine leL_lt hg (fun e => ?_)
    have m1 := mem_iota.1 (h.perm.subset (List.getElem_mem hi))
    have m2 := mem_iota.1 (h.perm.subset (List.getElem_mem hj))
    exact List.pairwise_iff_getElem.1 hnd i j hi hj hij (suf_inj m1.1 m1.2 m2.1 m2.2 e)
theorem sa_of_full {l r : List Int} {k : Nat} (hp : r.Perm (iota l.length)) (hu : r.Pairwise (fun a b => leL (pre l k a) (pre l k b) = true)) (hc : climb l k r (l.length - 1) = (l.length : Int) - 1) : IsSA l r :=
  isSA_of_strict hp (strict_of_climb hp hu (by omega))
end Go.Proofs.Ytenmgimhgdhgmaa.Hand
