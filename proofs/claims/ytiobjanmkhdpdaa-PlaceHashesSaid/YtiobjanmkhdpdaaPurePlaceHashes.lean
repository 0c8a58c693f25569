/- PlaceHashes, its plain part: for every key of at most 1000 bytes and every number of shards the program's digest and shard are the reference's. No condition beyond the statement's. -/
import Derived.Test.YtiobjanmkhdpdaaPlain
namespace Go.Proofs.Ytiobjanmkhdpdaa.Pure
open Go.RowKit Go.Proofs.Ytiobjanmkhdpdaa.Hand Go.Proofs.Ytiobjanmkhdpdaa.PPl Go.Proofs.YtiobjanmkhdpdaaW.PrintWords Go.Proofs.YtiobjanmkhdpdaaW.PrintLast

theorem PlaceHashes : haystacklaw20_PlaceHashes.Pure := by
  intro s n hs _
  obtain ⟨r, hr, hR⟩ := shards_eq s hs n
  refine Ev.rounds (g := fun k => haystacklaw20_PlaceHashes.f k s n) ?_
  unfold haystacklaw20_PlaceHashes.f
  by_cases h : (s.size : Int) > 1000
  · simp only [if_pos h]; exact Ev.now _
  · simp only [if_neg h, hr, Option.bind_some, hash_some s hs]
    refine Ev.bind hR ?_
    refine Ev.bind (refHash s hs) ?_
    simp only [if_true]
    exact Ev.bind known_true (Ev.now _)

end Go.Proofs.Ytiobjanmkhdpdaa.Pure
