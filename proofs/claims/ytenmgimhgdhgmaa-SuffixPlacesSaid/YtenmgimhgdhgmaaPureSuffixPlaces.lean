import Derived.Test.YtenmgimhgdhgmaaPlainP
import Derived.Test.YtenmgimhgdhgmaaPBx4
namespace Go.Proofs.Ytenmgimhgdhgmaa.Pure
open Go.RowKit Go.Proofs.Ytenmgimhgdhgmaa.Hand Go.Proofs.Ytenmgimhgdhgmaa.Sfx Go.Proofs.Ytenmgimhgdhgmaa.PB Go.Proofs.YtenmgimhgdhgmaaW.PrintWords Go.Proofs.YtenmgimhgdhgmaaW.PrintLast
theorem places_loop (t inv : List Int) (hl : inv.length ≤ 1000000) (h : inv = [] ∨ Inv2 t inv) (d : Nat) : ∀ i : Nat, i + d = inv.length → Ev (fun k => haystacklaw5_SuffixPlaces.l0 k t inv (i : Int)) true := by
  induction d with
  | zero =>
    intro i hi
    refine Ev.step (f := fun k => (haystacklaw5_known.f k).bind fun t181 => some t181) (fun k => ?_) (Ev.bind (f := fun _ t => some t) known_ev (Ev.now _))
    simp only [haystacklaw5_SuffixPlaces.l0]; rw [if_neg (by omega)]
  | succ d ih =>
    intro i hi
    rcases h with rfl | h
    · simp at hi
    · obtain ⟨j, hj, e1, e2⟩ := h.back i (by rw [← h.len]; omega)
      refine Ev.step (fun k => ?_) (ih (i + 1) (by omega))
      simp only [haystacklaw5_SuffixPlaces.l0]
      rw [if_pos (by omega), if_pos (by omega), e2, if_pos (by omega), if_pos (by omega), e1, if_pos rfl, wr1 (by omega) (by omega)]
      rfl
theorem SuffixPlaces : haystacklaw5_SuffixPlaces.Pure := by
  intro l0 _ _ _
  refine Ev.rounds ?_
  unfold haystacklaw5_SuffixPlaces.f
  by_cases hl : (l0.length : Int) > 600
  · simp only [if_pos hl]; exact Ev.now _
  · simp only [if_neg hl, Option.bind_some, List.length_nil, List.nil_append]
    simp only [show 0 + l0.length < 17592186044416 from by omega, if_true]
    obtain ⟨r, e1, e2, h⟩ := places_ev l0 (by omega)
    have hr : r.1.length ≤ 1000000 ∧ (r.1 = [] ∨ Inv2 l0 r.1) := by
      rcases h with ⟨rfl, _⟩ | ⟨inv, rfl, h⟩
      · exact ⟨by simp, .inl rfl⟩
      · exact ⟨by show inv.length ≤ _; rw [h.len]; omega, .inr h⟩
    refine Ev.bind (a := r) (f := fun k bt169 => (haystackref5_Places.f k l0).bind fun bt173 => _) e1 ?_
    refine Ev.bind (a := r) (f := fun k bt173 => (haystacklaw5_ints.f k r.1 bt173.1).bind fun t177 => _) e2 ?_
    refine Ev.bind (a := true) (f := fun k t177 => _) (Ev.ret (ints_ev r.1 r.1 hr.1) (by simp)) ?_
    simp only [if_true]
    refine Ev.bind (a := true) (f := fun k t178 => haystacklaw5_SuffixPlaces.j0 k l0 r.1 (!t178)) (Ev.ret (ints_ev l0 l0 (by omega)) (by simp)) ?_
    refine Ev.step (f := fun k => haystacklaw5_SuffixPlaces.l0 k l0 r.1 0) (fun k => ?_) (places_loop l0 r.1 hr.1 hr.2 r.1.length 0 (by omega))
    simp [haystacklaw5_SuffixPlaces.j0]
end Go.Proofs.Ytenmgimhgdhgmaa.Pure
