import Derived.Test.YtdbjbeebjigofaaPBwtMovedx1
import Derived.Test.YtdbjbeebjigofaaPlainB
namespace Go.Proofs.Ytdbjbeebjigofaa.Pure
open Go.RowKit Go.Proofs.Ytdbjbeebjigofaa.Hand Go.Proofs.Ytdbjbeebjigofaa.Sfx Go.Proofs.Ytdbjbeebjigofaa.BwtP Go.Proofs.Ytdbjbeebjigofaa.PT Go.Proofs.Ytdbjbeebjigofaa.PK Go.Proofs.Ytdbjbeebjigofaa.PBwtMoved Go.Proofs.YtdbjbeebjigofaaW.PrintWords Go.Proofs.YtdbjbeebjigofaaW.PrintLast
set_option linter.unusedVariables false
set_option linter.unusedSimpArgs false
theorem turn_inj {x y : List Int} (hx : BwtP.Closed x) (hy : BwtP.Closed y) (lx : x.length ≤ 65536) (ly : y.length ≤ 65536) (h : turnL x (saOf x) = turnL y (saOf y)) : x = y := by
  have h1 := backV_turn lx hx
  rw [h, backV_turn ly hy] at h1
  injection h1 with h1
  exact h1.symm
theorem moved_two (a b : List Int) (ha : a.length ≤ 500) (hb : b.length ≤ 500) (d : Nat) : ∀ i : Nat, i + d = b.length →
    Ev (fun k => haystacklaw6_BwtMoved.l1 k b (a.map (up 3)) ((b.take i).map (up 3)) (i : Int)) true := by
  induction d with
  | zero =>
    intro i hi
    rw [List.take_of_length_le (by omega)]
    obtain ⟨x, hx⟩ : ∃ c, c = a.map (up 3) ++ [0] := ⟨_, rfl⟩
    obtain ⟨y, hy⟩ : ∃ c, c = b.map (up 3) ++ [0] := ⟨_, rfl⟩
    have cx : BwtP.Closed x := by rw [hx]; exact closed_up a 3 (by omega)
    have cy : BwtP.Closed y := by rw [hy]; exact closed_up b 3 (by omega)
    have lx : x.length = a.length + 1 := by rw [hx]; simp
    have ly : y.length = b.length + 1 := by rw [hy]; simp
    refine Ev.step (f := fun k => (bwt_Turn.f k x).bind fun bt207 => ((bwt_Turn.f k y).bind fun bt211 => (if bt207.2 = 0 then (if bt211.2 = 0 then ((haystacklaw6_ints.f k bt207.1 bt211.1).bind fun t215 => ((haystacklaw6_ints.f k x y).bind fun t216 => (if (t215 == t216) = true then ((haystacklaw6_known.f k).bind fun t217 => (some t217)) else (some false)))) else (some false)) else (some false)))) (fun k => ?_) ?_
    · simp only [haystacklaw6_BwtMoved.l1]
      rw [if_neg (by omega), if_pos (by simp; omega)]
      simp only [Option.bind_some]
      rw [if_pos (by simp; omega)]
      try simp only [Option.bind_some]
      rw [← hx, ← hy]
    · refine Ev.bind (turn_ev x (by omega)) ?_
      rw [turnV_closed (by omega) cx]
      refine Ev.bind (turn_ev y (by omega)) ?_
      rw [turnV_closed (by omega) cy]
      simp only [if_true]
      refine Ev.bind (ints_ev (turnL x (saOf x)) (turnL y (saOf y)) (by rw [turnL_saOf_len]; omega)) ?_
      refine Ev.bind (ints_ev x y (by omega)) ?_
      have e : (decide (turnL x (saOf x) = turnL y (saOf y)) == decide (x = y)) = true := by
        rw [beq_iff_eq, decide_eq_decide]
        exact ⟨fun h => turn_inj cx cy (by omega) (by omega) h, fun h => by rw [h]⟩
      simp only [e, if_true]
      exact Ev.bind (f := fun _ t => some t) known_ev (Ev.now _)
  | succ d ih =>
    intro i hi
    have h : i < b.length := by omega
    refine Ev.step (fun k => ?_) (ih (i + 1) (by omega))
    simp only [haystacklaw6_BwtMoved.l1]
    rw [if_pos (by omega), if_pos (by omega), if_pos (by simp; omega), wr1 (x := (i : Int) + 1) (by omega) (by omega), List.take_succ_eq_append_getElem h, List.map_append, rd_at h]
    rfl
theorem moved_one (a b : List Int) (ha : a.length ≤ 500) (hb : b.length ≤ 500) (d : Nat) : ∀ i : Nat, i + d = a.length →
    Ev (fun k => haystacklaw6_BwtMoved.l0 k a b ((a.take i).map (up 3)) (i : Int)) true := by
  induction d with
  | zero =>
    intro i hi
    rw [List.take_of_length_le (by omega)]
    refine Ev.step (fun k => ?_) (moved_two a b ha hb b.length 0 (by omega))
    simp only [haystacklaw6_BwtMoved.l0]
    rw [if_neg (by omega)]
    rfl
  | succ d ih =>
    intro i hi
    have h : i < a.length := by omega
    refine Ev.step (fun k => ?_) (ih (i + 1) (by omega))
    simp only [haystacklaw6_BwtMoved.l0]
    rw [if_pos (by omega), if_pos (by omega), if_pos (by simp; omega), wr1 (x := (i : Int) + 1) (by omega) (by omega), List.take_succ_eq_append_getElem h, List.map_append, rd_at h]
    rfl
theorem BwtMoved : haystacklaw6_BwtMoved.Pure := by
  intro a b ha ha2 _ hb hb2 _
  refine Ev.rounds ?_
  unfold haystacklaw6_BwtMoved.f
  rw [wr1 (x := (a.length : Int) + b.length) (by omega) (by omega)]
  by_cases hl : (a.length : Int) + b.length > 500
  · simp only [if_pos hl]; exact Ev.now _
  · simp only [if_neg hl]
    exact moved_one a b (by omega) (by omega) a.length 0 (by omega)
end Go.Proofs.Ytdbjbeebjigofaa.Pure
