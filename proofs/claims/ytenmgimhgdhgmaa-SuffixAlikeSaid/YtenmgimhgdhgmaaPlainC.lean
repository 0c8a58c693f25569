/- The law's own helpers (ints, known) in plain words. -/
import Derived.Test.YtenmgimhgdhgmaaPCx1
namespace Go.Proofs.Ytenmgimhgdhgmaa.Pure
open Go.RowKit Go.Proofs.Ytenmgimhgdhgmaa.Hand Go.Proofs.Ytenmgimhgdhgmaa.Sfx Go.Proofs.Ytenmgimhgdhgmaa.PC Go.Proofs.YtenmgimhgdhgmaaW.PrintWords Go.Proofs.YtenmgimhgdhgmaaW.PrintLast
set_option linter.unusedVariables false
set_option linter.unusedSimpArgs false
theorem Ev.ret {α : Type} {f : Nat → Option α} {r a : α} (h : Ev f r) (e : r = a) : Ev f a := e ▸ h
theorem ints_from (a b : List Int) (hab : a.length = b.length) (hl : a.length ≤ 1000000) (d : Nat) : ∀ i : Nat, i + d = a.length → Ev (fun k => haystacklaw5_ints.l0 k a b (i : Int)) (decide (a.drop i = b.drop i)) := by
  induction d with
  | zero =>
    intro i hi
    refine Ev.step (f := fun _ => some true) (fun k => ?_) ?_
    · simp only [haystacklaw5_ints.l0]; rw [if_neg (by omega)]
    · rw [List.drop_eq_nil_of_le (by omega), List.drop_eq_nil_of_le (by omega)]; exact Ev.now _
  | succ d ih =>
    intro i hi
    have ha : i < a.length := by omega
    have hb : i < b.length := by omega
    rw [List.drop_eq_getElem_cons ha, List.drop_eq_getElem_cons hb]
    by_cases e : a[i] = b[i]
    · refine Ev.ret (Ev.step (fun k => ?_) (ih (i + 1) (by omega))) ?_
      · simp only [haystacklaw5_ints.l0]
        rw [if_pos (by omega), if_pos (by omega), if_pos (by omega), rd_at ha, rd_at hb, if_pos e, wr1 (by omega) (by omega)]
        rfl
      · simp only [e, List.cons.injEq, true_and]
    · refine Ev.step (f := fun _ => some false) (fun k => ?_) ?_
      · simp only [haystacklaw5_ints.l0]
        rw [if_pos (by omega), if_pos (by omega), if_pos (by omega), rd_at ha, rd_at hb, if_neg e]
      · simp only [List.cons.injEq, e, false_and, decide_false]; exact Ev.now _
theorem ints_ev (a b : List Int) (hl : a.length ≤ 1000000) : Ev (fun k => haystacklaw5_ints.f k a b) (decide (a = b)) := by
  unfold haystacklaw5_ints.f
  by_cases h : a.length = b.length
  · simp only [h, if_true]
    exact ints_from a b h hl a.length 0 (by omega)
  · simp only [show ¬ ((a.length : Int) = (b.length : Int)) from by omega, if_false]
    refine Ev.ret (Ev.now false) ?_
    symm
    rw [decide_eq_false_iff_not]
    rintro rfl
    exact h rfl
theorem array_some (l : List Int) (hl : l.length ≤ 65536) (hp : ∀ x ∈ l, 0 ≤ x) : suffix_Array.f l = some (saOf l, 0) := by
  unfold suffix_Array.f
  rw [if_neg (by omega), if_neg (by rintro ⟨x, hx, h⟩; have := hp x hx; omega)]
theorem sa_banana : saOf [98, 97, 110, 97, 110, 97] = [5, 3, 1, 0, 4, 2] := by
  refine (saOf_isSA _).uniq ⟨?_, ?_⟩
  · rw [List.perm_iff_count]
    intro a
    simp only [iota, List.length_cons, List.length_nil]
    have : (List.range 6).map (fun i : Nat => (i : Int)) = [0, 1, 2, 3, 4, 5] := by decide
    rw [show 0 + 1 + 1 + 1 + 1 + 1 + 1 = 6 from rfl, this]
    simp only [List.count_cons, List.count_nil]
    omega
  · decide
theorem known_ev : Ev (fun k => haystacklaw5_known.f k) true := by
  unfold haystacklaw5_known.f
  rw [array_some _ (by decide) (by decide), sa_banana]
  simp only [Option.bind_some, if_true]
  exact Ev.bind (f := fun _ t => some t) (ints_ev [5, 3, 1, 0, 4, 2] [5, 3, 1, 0, 4, 2] (by decide)) (Ev.now _)
def resOf (l : List Int) : List Int × Int := if 65536 < l.length then ([], 5) else if ∃ x ∈ l, x < 0 then ([], 1) else (saOf l, 0)
theorem array_res (l : List Int) : suffix_Array.f l = some (resOf l) := by
  unfold suffix_Array.f resOf
  split
  · rfl
  · split <;> rfl
theorem res_len (l : List Int) : (resOf l).1.length ≤ 65536 := by
  unfold resOf
  split
  · simp
  · split
    · simp
    · show (saOf l).length ≤ 65536
      rw [(saOf_isSA l).len]; omega
end Go.Proofs.Ytenmgimhgdhgmaa.Pure
