import Derived.Test.YtenmgimhgdhgmaaPlainC
namespace Go.Proofs.Ytenmgimhgdhgmaa.Pure
open Go.RowKit Go.Proofs.Ytenmgimhgdhgmaa.Hand Go.Proofs.Ytenmgimhgdhgmaa.Sfx Go.Proofs.Ytenmgimhgdhgmaa.PC Go.Proofs.YtenmgimhgdhgmaaW.PrintWords Go.Proofs.YtenmgimhgdhgmaaW.PrintLast
theorem SuffixSorts : haystacklaw5_SuffixSorts.Pure := by
  intro l0 _ _ _
  refine Ev.rounds ?_
  unfold haystacklaw5_SuffixSorts.f
  by_cases hl : (l0.length : Int) > 600
  · simp only [if_pos hl]; exact Ev.now _
  · simp only [if_neg hl, Option.bind_some, List.length_nil, List.nil_append]
    have hr := res_len l0
    simp only [show 0 + l0.length < 17592186044416 from by omega, if_true, haystackref5_Array.f, array_res, Option.bind_some]
    refine Ev.bind (a := true) (f := fun k t128 => _) (Ev.ret (ints_ev (resOf l0).1 (resOf l0).1 (by omega)) (by simp)) ?_
    simp only [if_true]
    refine Ev.bind (a := true) (f := fun k t129 => if t129 = true then ((haystacklaw5_known.f k).bind fun t130 => (some t130)) else (some false)) (Ev.ret (ints_ev l0 l0 (by omega)) (by simp)) ?_
    simp only [if_true]
    exact Ev.bind (f := fun _ t => some t) known_ev (Ev.now _)
end Go.Proofs.Ytenmgimhgdhgmaa.Pure
