import Derived.Test.YtdbjbeebjigofaaPBwtCountsx1
import Derived.Test.YtdbjbeebjigofaaPlainC
namespace Go.Proofs.Ytdbjbeebjigofaa.Pure
open Go.RowKit Go.Proofs.Ytdbjbeebjigofaa.Hand Go.Proofs.Ytdbjbeebjigofaa.Sfx Go.Proofs.Ytdbjbeebjigofaa.BwtP Go.Proofs.Ytdbjbeebjigofaa.PT Go.Proofs.Ytdbjbeebjigofaa.PK Go.Proofs.Ytdbjbeebjigofaa.PBwtCounts Go.Proofs.YtdbjbeebjigofaaW.PrintWords Go.Proofs.YtdbjbeebjigofaaW.PrintLast
theorem BwtCounts : haystacklaw6_BwtCounts.Pure := by
  intro l0 a1 _ _ hw _
  refine Ev.rounds ?_
  unfold haystacklaw6_BwtCounts.f
  by_cases hl : (l0.length : Int) > 500
  · simp only [if_pos hl]; exact Ev.now _
  · simp only [if_neg hl]
    have hlow : ∀ x ∈ l0, -9223372036854775808 ≤ x := fun x hx => (low_of_wf (hw x hx)).1
    refine Ev.bind (counts_ev l0 (by omega) hlow a1) ?_
    refine Ev.bind (rcounts_ev l0 (by omega) hlow a1) ?_
    refine Ev.bind (a := true) (Ev.ret (ints_ev _ _ (by have := (mostOf_le a1).2; rw [countsV, rowN_len]; omega)) (by simp)) ?_
    simp only [if_true]
    exact Ev.bind (f := fun _ t => some t) known_ev (Ev.now _)
end Go.Proofs.Ytdbjbeebjigofaa.Pure
