import Derived.Test.YtenmgimhgdhgmaaPlainC
namespace Go.Proofs.Ytenmgimhgdhgmaa.Pure
open Go.RowKit Go.Proofs.Ytenmgimhgdhgmaa.Hand Go.Proofs.Ytenmgimhgdhgmaa.Sfx Go.Proofs.Ytenmgimhgdhgmaa.PC Go.Proofs.YtenmgimhgdhgmaaW.PrintWords Go.Proofs.YtenmgimhgdhgmaaW.PrintLast
theorem reps_inner (s : List Int) (t : Int) (x6 : Int) (B : Nat) (hB : B ≤ 100000) (hs : s.length ≤ 8) (hnext : ∀ x5 : List Int, x5.length ≤ B → Ev (fun k => haystacklaw5_SuffixRepeats.l0 k s t x5 (wrap64 (x6 + 1))) true) (d : Nat) : ∀ (i : Nat) (x5 : List Int), i + d = s.length → x5.length + d ≤ B →
    Ev (fun k => haystacklaw5_SuffixRepeats.l1 k s t x5 x6 (i : Int)) true := by
  induction d with
  | zero =>
    intro i x5 hi hx
    refine Ev.step (fun k => ?_) (hnext x5 (by omega))
    simp only [haystacklaw5_SuffixRepeats.l1]; rw [if_neg (by omega)]
  | succ d ih =>
    intro i x5 hi hx
    refine Ev.step (fun k => ?_) (ih (i + 1) (x5 ++ [Go.bits .and .i64 (rd s (i : Nat)) 3]) (by omega) (by simp; omega))
    simp only [haystacklaw5_SuffixRepeats.l1]
    rw [if_pos (by omega), if_pos (by omega), if_pos (by omega), wr1 (by omega) (by omega)]
    rfl
theorem reps_outer (s : List Int) (t : Nat) (hs : s.length ≤ 8) (ht : t ≤ 200) (d : Nat) : ∀ (j : Nat) (x5 : List Int), j + d = t → x5.length ≤ 8 * j → Ev (fun k => haystacklaw5_SuffixRepeats.l0 k s (t : Int) x5 (j : Int)) true := by
  induction d with
  | zero =>
    intro j x5 hj hx
    have hr := res_len x5
    refine Ev.step (f := fun k => (haystacklaw5_ints.f k (resOf x5).1 (resOf x5).1).bind fun t144 => (if t144 = true then ((haystacklaw5_known.f k).bind fun t145 => (some t145)) else (some false))) (fun k => ?_) ?_
    · simp only [haystacklaw5_SuffixRepeats.l0, haystackref5_Array.f, array_res, Option.bind_some, if_true]
      rw [if_neg (by omega)]
    · refine Ev.bind (a := true) (f := fun k t144 => if t144 = true then ((haystacklaw5_known.f k).bind fun t145 => (some t145)) else (some false)) (Ev.ret (ints_ev (resOf x5).1 (resOf x5).1 (by omega)) (by simp)) ?_
      simp only [if_true]
      exact Ev.bind (f := fun _ t => some t) known_ev (Ev.now _)
  | succ d ih =>
    intro j x5 hj hx
    refine Ev.step (f := fun k => haystacklaw5_SuffixRepeats.l1 k s (t : Int) x5 (j : Int) 0) (fun k => ?_) ?_
    · simp only [haystacklaw5_SuffixRepeats.l0]; rw [if_pos (by omega)]
    · refine reps_inner s (t : Int) (j : Int) (8 * (j + 1)) (by omega) hs (fun x5' hx' => ?_) s.length 0 x5 (by omega) (by omega)
      rw [wr1 (by omega) (by omega)]
      exact ih (j + 1) x5' (by omega) hx'
theorem SuffixRepeats : haystacklaw5_SuffixRepeats.Pure := by
  intro l0 a1 _ _ _
  try intro _
  refine Ev.rounds ?_
  unfold haystacklaw5_SuffixRepeats.f
  have hk : Ev (fun k => haystacklaw5_SuffixRepeats.j0 k l0 a1 true) true := by
    refine Ev.step (f := fun k => (haystacklaw5_known.f k).bind fun t => some t) (fun k => ?_) (Ev.bind (f := fun _ t => some t) known_ev (Ev.now _))
    simp [haystacklaw5_SuffixRepeats.j0]
  by_cases h1 : (l0.length : Int) < 1
  · simp only [if_pos h1]; exact hk
  · by_cases h2 : (l0.length : Int) > 8
    · simp only [if_neg h1, if_pos h2]; exact hk
    · by_cases h3 : a1 < 1
      · simp only [if_neg h1, if_neg h2, if_pos h3]; exact hk
      · simp only [if_neg h1, if_neg h2, if_neg h3]
        by_cases h4 : a1 > 200
        · simp only [decide_eq_true h4]; exact hk
        · simp only [decide_eq_false h4]
          obtain ⟨t, rfl⟩ := Int.eq_ofNat_of_zero_le (show 0 ≤ a1 by omega)
          refine Ev.step (f := fun k => haystacklaw5_SuffixRepeats.l0 k l0 (t : Int) [] 0) (fun k => ?_) (reps_outer l0 t (by omega) (by omega) t 0 [] (by omega) (by simp))
          simp [haystacklaw5_SuffixRepeats.j0]
end Go.Proofs.Ytenmgimhgdhgmaa.Pure
