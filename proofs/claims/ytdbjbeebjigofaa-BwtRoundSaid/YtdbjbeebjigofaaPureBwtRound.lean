import Derived.Test.YtdbjbeebjigofaaPBwtRoundx1
import Derived.Test.YtdbjbeebjigofaaPlainC
namespace Go.Proofs.Ytdbjbeebjigofaa.Pure
open Go.RowKit Go.Proofs.Ytdbjbeebjigofaa.Hand Go.Proofs.Ytdbjbeebjigofaa.Sfx Go.Proofs.Ytdbjbeebjigofaa.BwtP Go.Proofs.Ytdbjbeebjigofaa.PT Go.Proofs.Ytdbjbeebjigofaa.PK Go.Proofs.Ytdbjbeebjigofaa.PBwtRound Go.Proofs.YtdbjbeebjigofaaW.PrintWords Go.Proofs.YtdbjbeebjigofaaW.PrintLast
set_option linter.unusedVariables false
set_option linter.unusedSimpArgs false
theorem round_from (l : List Int) (hl : l.length ≤ 500) (d : Nat) : ∀ i : Nat, i + d = l.length →
    Ev (fun k => haystacklaw6_BwtRound.l0 k l ((l.take i).map (up 1023)) (i : Int)) true := by
  induction d with
  | zero =>
    intro i hi
    rw [List.take_of_length_le (by omega)]
    obtain ⟨c, hcdef⟩ : ∃ c, c = l.map (up 1023) ++ [0] := ⟨_, rfl⟩
    have hc : BwtP.Closed c := by rw [hcdef]; exact closed_up l 1023 (by omega)
    have hcl : c.length = l.length + 1 := by rw [hcdef]; simp
    have hnn := closed_nonneg hc
    have hp := turn_perm hc.pos (saOf_isSA c)
    have hll : (turnL c (saOf c)).length = c.length := turnL_saOf_len c
    refine Ev.step (f := fun k => (bwt_Turn.f k c).bind fun bt225 => ((bwt_Back.f bt225.1).bind fun bt229 => (if bt225.2 = 0 then (if bt229.2 = 0 then ((haystacklaw6_ints.f k bt229.1 c).bind fun t233 => (haystacklaw6_BwtRound.j1 k c bt225.1 (!t233))) else (haystacklaw6_BwtRound.j1 k c bt225.1 true)) else (haystacklaw6_BwtRound.j1 k c bt225.1 true)))) (fun k => ?_) ?_
    · simp only [haystacklaw6_BwtRound.l0]
      rw [if_neg (by omega), if_pos (by simp; omega)]
      simp only [Option.bind_some]
      rw [← hcdef]
    · refine Ev.bind (turn_ev c (by omega)) ?_
      rw [turnV_closed (by omega) hc]
      simp only [bwt_Back.f, Option.bind_some, backV_turn (by omega) hc, if_true]
      refine Ev.bind (a := true) (Ev.ret (ints_ev c c (by omega)) (by simp)) ?_
      refine Ev.step (fun k => by simp only [haystacklaw6_BwtRound.j1]; rw [if_neg (by simp)]) ?_
      have hlow : ∀ x ∈ c, -9223372036854775808 ≤ x := fun x hx => by have := hnn x hx; omega
      have hlow2 : ∀ x ∈ turnL c (saOf c), -9223372036854775808 ≤ x := fun x hx => hlow x (hp.mem_iff.1 hx)
      have e := countsV_perm (mostOf 11) hp
      have h1 := counts_ev (turnL c (saOf c)) (by omega) hlow2 11
      rw [e] at h1
      have hcs : (countsV (mostOf 11) c).length ≤ 1000000 := by have := (mostOf_le 11).2; rw [countsV, rowN_len]; omega
      refine Ev.bind h1 ?_
      refine Ev.bind (counts_ev c (by omega) hlow 11) ?_
      refine Ev.bind (a := true) (Ev.ret (ints_ev _ _ hcs) (by simp)) ?_
      simp only [if_true]
      refine Ev.bind h1 ?_
      refine Ev.bind (rcounts_ev c (by omega) hlow 11) ?_
      refine Ev.bind (a := true) (Ev.ret (ints_ev _ _ hcs) (by simp)) ?_
      simp only [if_true]
      exact Ev.bind (f := fun _ t => some t) known_ev (Ev.now _)
  | succ d ih =>
    intro i hi
    have h : i < l.length := by omega
    refine Ev.step (fun k => ?_) (ih (i + 1) (by omega))
    simp only [haystacklaw6_BwtRound.l0]
    rw [if_pos (by omega), if_pos (by omega), if_pos (by simp; omega), wr1 (x := (i : Int) + 1) (by omega) (by omega), List.take_succ_eq_append_getElem h, List.map_append, rd_at h]
    rfl
theorem BwtRound : haystacklaw6_BwtRound.Pure := by
  intro l0 _ _ _
  refine Ev.rounds ?_
  unfold haystacklaw6_BwtRound.f
  by_cases hl : (l0.length : Int) > 500
  · simp only [if_pos hl]; exact Ev.now _
  · simp only [if_neg hl]
    exact round_from l0 (by omega) l0.length 0 (by omega)
end Go.Proofs.Ytdbjbeebjigofaa.Pure
