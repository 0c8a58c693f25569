/- Turned and back again, in plain words; what every law of the chapter asks besides (known). -/
import Derived.Test.YtdbjbeebjigofaaPKx1
namespace Go.Proofs.Ytdbjbeebjigofaa.Hand
open Go.RowKit Go.Proofs.Ytdbjbeebjigofaa.Sfx Go.Proofs.Ytdbjbeebjigofaa.BwtP Go.Proofs.Ytdbjbeebjigofaa.PT Go.Proofs.Ytdbjbeebjigofaa.PK Go.Proofs.YtdbjbeebjigofaaW.PrintWords Go.Proofs.YtdbjbeebjigofaaW.PrintLast
set_option linter.unusedVariables false
set_option linter.unusedSimpArgs false
theorem turnV_closed {s : List Int} (hl : s.length ≤ 65536) (hc : BwtP.Closed s) : turnV s = (turnL s (saOf s), 0) := by
  unfold turnV
  rw [if_neg (by omega), if_pos ((closedB_iff s).2 hc)]
theorem turnV_ok {s l : List Int} (h : turnV s = (l, 0)) : BwtP.Closed s ∧ l = turnL s (saOf s) ∧ s.length ≤ 65536 := by
  unfold turnV at h
  split at h
  · injection h with _ h; omega
  · split at h
    · rename_i h1 h2
      injection h with h _
      exact ⟨(closedB_iff s).1 h2, h.symm, by omega⟩
    · injection h with _ h; omega
theorem turnV_len (s : List Int) : (turnV s).1.length ≤ 65536 := by
  unfold turnV
  split
  · simp
  · split
    · rw [turnL_len, (saOf_isSA s).len]; omega
    · simp
theorem turnL_saOf_len (s : List Int) : (turnL s (saOf s)).length = s.length := by rw [turnL_len, (saOf_isSA s).len]
theorem backV_turn {s : List Int} (hl : s.length ≤ 65536) (hc : BwtP.Closed s) : backV (turnL s (saOf s)) = (s, 0) := by
  obtain ⟨h1, _⟩ := back_turn hc (saOf_isSA s) (ordOf_isOrd _) (toOf_isTo (turnL s (saOf s)))
  unfold backV
  rw [if_neg (by rw [turnL_saOf_len]; omega), h1, turnV_closed hl hc, if_pos ⟨rfl, rfl⟩]
theorem backV_len (l : List Int) : (backV l).1.length ≤ l.length := by
  unfold backV
  split
  · simp
  · split
    · rw [backRow_len]; exact Nat.le_refl _
    · simp
theorem sa_known : saOf [2, 1, 3, 1, 3, 1, 0] = [6, 5, 3, 1, 0, 4, 2] := by
  refine (saOf_isSA _).uniq ⟨?_, ?_⟩
  · rw [List.perm_iff_count]
    intro a
    simp only [iota, List.length_cons, List.length_nil]
    have : (List.range 7).map (fun i : Nat => (i : Int)) = [0, 1, 2, 3, 4, 5, 6] := by decide
    rw [show 0 + 1 + 1 + 1 + 1 + 1 + 1 + 1 = 7 from rfl, this]
    simp only [List.count_cons, List.count_nil]
    omega
  · decide
theorem known_ev : Ev (fun k => haystacklaw6_known.f k) true := by
  have hc : BwtP.Closed [2, 1, 3, 1, 3, 1, 0] := (closedB_iff _).1 (by decide)
  have h1 : turnV [2, 1, 3, 1, 3, 1, 0] = ([1, 3, 3, 2, 0, 1, 1], 0) := by
    rw [turnV_closed (by decide) hc, sa_known]
    decide
  have h2 : backV [1, 3, 3, 2, 0, 1, 1] = ([2, 1, 3, 1, 3, 1, 0], 0) := by
    have := backV_turn (by decide) hc
    have e : turnL [2, 1, 3, 1, 3, 1, 0] (saOf [2, 1, 3, 1, 3, 1, 0]) = [1, 3, 3, 2, 0, 1, 1] := by rw [sa_known]; decide
    rwa [e] at this
  unfold haystacklaw6_known.f
  refine Ev.bind (turn_ev [2, 1, 3, 1, 3, 1, 0] (by decide)) ?_
  rw [h1]
  simp only [bwt_Back.f, h2, Option.bind_some, if_true]
  refine Ev.bind (a := true) (Ev.ret (ints_ev [1, 3, 3, 2, 0, 1, 1] [1, 3, 3, 2, 0, 1, 1] (by decide)) (by decide)) ?_
  simp only [if_true]
  exact Ev.bind (f := fun _ t => some t) (Ev.ret (ints_ev [2, 1, 3, 1, 3, 1, 0] [2, 1, 3, 1, 3, 1, 0] (by decide)) (by decide)) (Ev.now _)
/-- Symbols above 0. -/
def up (m : Int) (x : Int) : Int := wrap64 (1 + Go.bits .and .i64 x m)
theorem bits_and_small (x : Int) (n : Nat) (hn : n < 1073741824) : 0 ≤ Go.bits .and .i64 x (n : Int) ∧ Go.bits .and .i64 x (n : Int) ≤ n := by
  have key : (BitVec.ofInt 64 x &&& BitVec.ofInt 64 (n : Int)).toNat ≤ n := by
    rw [BitVec.toNat_and]
    refine Nat.le_trans Nat.and_le_right ?_
    rw [BitVec.ofInt_natCast, BitVec.toNat_ofNat]
    exact Nat.mod_le _ _
  show 0 ≤ IntKind.i64.wrap ((BitVec.ofInt 64 x &&& BitVec.ofInt 64 (n : Int)).toNat : Int) ∧ IntKind.i64.wrap ((BitVec.ofInt 64 x &&& BitVec.ofInt 64 (n : Int)).toNat : Int) ≤ n
  rw [IntKind.wrap_i64]
  omega
theorem up_pos (x : Int) (n : Nat) (hn : n < 1073741824) : 0 < up n x := by
  obtain ⟨h1, h2⟩ := bits_and_small x n hn
  unfold up
  rw [wr1 (by omega) (by omega)]
  omega
theorem closed_up (l : List Int) (n : Nat) (hn : n < 1073741824) : BwtP.Closed (l.map (up n) ++ [0]) :=
  ⟨_, rfl, fun x hx => by obtain ⟨y, _, rfl⟩ := List.mem_map.1 hx; exact up_pos y n hn⟩
end Go.Proofs.Ytdbjbeebjigofaa.Hand
