import Derived.Test.YtdbjbeebjigofaaPBwtTurnsx1
import Derived.Test.YtdbjbeebjigofaaPlainB
namespace Go.Proofs.Ytdbjbeebjigofaa.Pure
open Go.RowKit Go.Proofs.Ytdbjbeebjigofaa.Hand Go.Proofs.Ytdbjbeebjigofaa.Sfx Go.Proofs.Ytdbjbeebjigofaa.BwtP Go.Proofs.Ytdbjbeebjigofaa.PT Go.Proofs.Ytdbjbeebjigofaa.PK Go.Proofs.Ytdbjbeebjigofaa.PBwtTurns Go.Proofs.YtdbjbeebjigofaaW.PrintWords Go.Proofs.YtdbjbeebjigofaaW.PrintLast
theorem BwtTurns : haystacklaw6_BwtTurns.Pure := by
  intro l0 _ _ _
  refine Ev.rounds ?_
  unfold haystacklaw6_BwtTurns.f
  by_cases hl : (l0.length : Int) > 500
  · simp only [if_pos hl]; exact Ev.now _
  · simp only [if_neg hl, Option.bind_some, List.length_nil, List.nil_append]
    simp only [show 0 + l0.length < 17592186044416 from by omega, if_true]
    refine Ev.bind (turn_ev l0 (by omega)) ?_
    refine Ev.bind (rturn_ev l0 (by omega)) ?_
    refine Ev.bind (a := true) (Ev.ret (ints_ev _ _ (by have := turnV_len l0; omega)) (by simp)) ?_
    simp only [if_true]
    refine Ev.bind (a := true) (Ev.ret (ints_ev l0 l0 (by omega)) (by simp)) ?_
    simp only [if_true]
    exact Ev.bind (f := fun _ t => some t) known_ev (Ev.now _)
end Go.Proofs.Ytdbjbeebjigofaa.Pure
