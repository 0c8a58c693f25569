import Derived.Test.YtenmgimhgdhgmaaPlainA
import Derived.Test.YtenmgimhgdhgmaaPBx2
namespace Go.Proofs.Ytenmgimhgdhgmaa.Pure
open Go.RowKit Go.Proofs.Ytenmgimhgdhgmaa.Hand Go.Proofs.Ytenmgimhgdhgmaa.Sfx Go.Proofs.Ytenmgimhgdhgmaa.PB Go.Proofs.YtenmgimhgdhgmaaW.PrintWords Go.Proofs.YtenmgimhgdhgmaaW.PrintLast
set_option linter.unusedVariables false
theorem order_from (s : List Int) (hn : s.length ≤ 200) (sa : List Int) (hs : IsSA s sa) (d : Nat) : ∀ (i : Nat) (seen : List Bool), i + d = sa.length → seen.length = s.length → (∀ p : Nat, p < s.length → rdOf false seen (p : Nat) = true → (p : Int) ∈ sa.take i) →
    Ev (fun k => haystacklaw5_SuffixOrder.l1 k s sa seen (i : Int)) true := by
  have hl := hs.len
  induction d with
  | zero =>
    intro i seen hi hse h3
    refine Ev.step (f := fun k => (haystacklaw5_known.f k).bind fun t => some t) (fun k => ?_) (Ev.bind (f := fun _ t => some t) known_ev (Ev.now _))
    simp only [haystacklaw5_SuffixOrder.l1]; rw [if_neg (by omega)]
  | succ d ih =>
    intro i seen hi hse h3
    have hil : i < sa.length := by omega
    obtain ⟨m0, m1⟩ := mem_iota.1 (hs.perm.subset (List.getElem_mem hil))
    obtain ⟨p, hp⟩ : ∃ p : Nat, sa[i] = p := ⟨sa[i].toNat, by omega⟩
    have hpn : p < s.length := by omega
    have hnd : sa.Nodup := hs.perm.symm.nodup (iota_nodup _)
    have hfalse : rdOf false seen (p : Int) = false := by
      rcases hb : rdOf false seen (p : Int) with _ | _
      · rfl
      · have hm := h3 p hpn hb
        obtain ⟨j, hj, e⟩ := List.mem_take_iff_getElem.1 hm
        exact absurd (by omega) (List.pairwise_iff_getElem.1 hnd j i (by omega) hil (by omega))
    have g3 : ∀ q : Nat, q < s.length → rdOf false (seen.set p true) (q : Nat) = true → (q : Int) ∈ sa.take (i + 1) := by
      intro q hq h
      rw [List.take_succ_eq_append_getElem hil, List.mem_append, List.mem_singleton, hp]
      by_cases e : q = p
      · right; rw [e]
      · left
        refine h3 q hq ?_
        rw [← h]
        unfold rdOf
        simp only [Int.toNat_natCast, List.getD_eq_getElem?_getD, List.getElem?_set]
        rw [if_neg (fun h => e h.symm)]
    have hnext := ih (i + 1) (seen.set p true) (by omega) (by rw [List.length_set]; exact hse) g3
    refine Ev.step (f := fun k => haystacklaw5_SuffixOrder.j3 k s sa seen (i : Int) false) (fun k => ?_) ?_
    · simp only [haystacklaw5_SuffixOrder.l1]
      rw [if_pos (by omega), if_pos (by omega), rd_at hil, if_neg (by omega), if_neg (by omega), if_pos (by omega), if_pos (by omega), hp, hfalse]
    · rcases Nat.eq_zero_or_pos i with h0 | h0
      · subst h0
        refine Ev.step (fun k => ?_) hnext
        simp only [haystacklaw5_SuffixOrder.j3]
        rw [rd_at hil, hp]
        rw [if_neg (by simp), if_pos (by omega), if_pos (by omega), if_pos (by omega), if_pos (by omega), Option.bind_some, if_neg (by omega), wr1 (by omega) (by omega), Int.toNat_natCast]
        rfl
      · have hi1 : i - 1 < sa.length := by omega
        obtain ⟨a0, a1⟩ := mem_iota.1 (hs.perm.subset (List.getElem_mem hi1))
        have hup := List.pairwise_iff_getElem.1 hs.up (i - 1) i hi1 hil (by omega)
        have hrp : rd sa ((i : Int) - 1) = sa[i - 1] := by
          rw [show (i : Int) - 1 = ((i - 1 : Nat) : Int) from by omega]; exact rd_at hi1
        have ha := ahead_ev (s.drop (sa[i - 1]).toNat) (s.drop (p : Int).toNat) (by simp; omega) (by simp; omega)
        rw [show ltL (s.drop (sa[i - 1]).toNat) (s.drop (p : Int).toNat) = true from by rw [hp] at hup; exact hup] at ha
        refine Ev.step (f := fun k => (haystacklaw5_ahead.f k (s.drop (sa[i - 1]).toNat) (s.drop (p : Int).toNat)).bind fun t => if t = true then haystacklaw5_SuffixOrder.l1 k s sa (seen.set p true) ((i + 1 : Nat) : Int) else some false) (fun k => ?_) (Ev.bind (f := fun k t => if t = true then haystacklaw5_SuffixOrder.l1 k s sa (seen.set p true) ((i + 1 : Nat) : Int) else some false) ha (by simp only [if_true]; exact hnext))
        simp only [haystacklaw5_SuffixOrder.j3]
        rw [wr1 (x := (i : Int) - 1) (by omega) (by omega), hrp, rd_at hil, hp]
        rw [if_neg (by simp), if_pos (by omega), if_pos (by omega), if_pos (by omega), if_pos (by omega), Option.bind_some, if_pos (by omega), if_pos (by omega), if_pos (by omega), if_pos (by omega), if_pos (by omega), if_pos (by omega), wr1 (x := (i : Int) + 1) (by omega) (by omega), Int.toNat_natCast]
        rfl
theorem order_start (s : List Int) (hn : s.length ≤ 200) (d : Nat) : ∀ i : Nat, i + d = s.length → (∀ x ∈ s.take i, 0 ≤ x) → Ev (fun k => haystacklaw5_SuffixOrder.l0 k s (i : Int)) true := by
  induction d with
  | zero =>
    intro i hi hp
    obtain rfl : i = s.length := by omega
    rw [List.take_length] at hp
    have hsa := saOf_isSA s
    refine Ev.step (f := fun k => haystacklaw5_SuffixOrder.j1 k s (saOf s) false) (fun k => ?_) ?_
    · simp only [haystacklaw5_SuffixOrder.l0]
      rw [if_neg (by omega), array_some s (by omega) hp, Option.bind_some]
      simp only [if_true]
      rw [show (((saOf s).length : Int) != (s.length : Int)) = false from by rw [hsa.len]; simp]
    · refine Ev.step (fun k => ?_) (order_from s hn (saOf s) hsa (saOf s).length 0 (List.replicate s.length false) (by omega) (by simp) (by intro p hp h; simp [rdOf, List.getD_eq_getElem?_getD, hp] at h))
      simp only [haystacklaw5_SuffixOrder.j1]
      rw [if_neg (by simp), if_pos (by omega), if_pos (by omega), Int.toNat_natCast]
      rfl
  | succ d ih =>
    intro i hi hp
    have hil : i < s.length := by omega
    by_cases c : s[i] < 0
    · refine Ev.step (f := fun k => (haystacklaw5_known.f k).bind fun t => some t) (fun k => ?_) (Ev.bind (f := fun _ t => some t) known_ev (Ev.now _))
      simp only [haystacklaw5_SuffixOrder.l0]; rw [if_pos (by omega), if_pos (by omega), rd_at hil, if_pos c]
    · refine Ev.step (fun k => ?_) (ih (i + 1) (by omega) (fun x hx => ?_))
      · simp only [haystacklaw5_SuffixOrder.l0]; rw [if_pos (by omega), if_pos (by omega), rd_at hil, if_neg c, wr1 (by omega) (by omega)]; rfl
      · rw [List.take_succ_eq_append_getElem hil] at hx
        rcases List.mem_append.1 hx with hx | hx
        · exact hp x hx
        · simp only [List.mem_singleton] at hx; omega
theorem SuffixOrder : haystacklaw5_SuffixOrder.Pure := by
  intro l0 _ _ _
  refine Ev.rounds ?_
  unfold haystacklaw5_SuffixOrder.f
  by_cases hl : (l0.length : Int) > 200
  · simp only [if_pos hl]; exact Ev.now _
  · simp only [if_neg hl]
    exact order_start l0 (by omega) l0.length 0 (by omega) (by simp)
end Go.Proofs.Ytenmgimhgdhgmaa.Pure
