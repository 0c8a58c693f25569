/- The printed functions of chapter 6 in plain words: what is closed, what is turned, rows that are alike. -/
import Derived.Test.YtdbjbeebjigofaaPTx2
import Derived.Test.YtdbjbeebjigofaaBwtP
namespace Go.Proofs.Ytdbjbeebjigofaa.Hand
open Go.RowKit Go.Proofs.Ytdbjbeebjigofaa.Sfx Go.Proofs.Ytdbjbeebjigofaa.BwtP Go.Proofs.Ytdbjbeebjigofaa.PT Go.Proofs.YtdbjbeebjigofaaW.PrintWords Go.Proofs.YtdbjbeebjigofaaW.PrintLast
set_option linter.unusedVariables false
set_option linter.unusedSimpArgs false
theorem Ev.ret {α : Type} {f : Nat → Option α} {r a : α} (h : Ev f r) (e : r = a) : Ev f a := e ▸ h
theorem ints_from (a b : List Int) (hab : a.length = b.length) (hl : a.length ≤ 1000000) (d : Nat) : ∀ i : Nat, i + d = a.length → Ev (fun k => haystacklaw6_ints.l0 k a b (i : Int)) (decide (a.drop i = b.drop i)) := by
  induction d with
  | zero =>
    intro i hi
    refine Ev.step (f := fun _ => some true) (fun k => ?_) ?_
    · simp only [haystacklaw6_ints.l0]; rw [if_neg (by omega)]
    · rw [List.drop_eq_nil_of_le (by omega), List.drop_eq_nil_of_le (by omega)]; exact Ev.now _
  | succ d ih =>
    intro i hi
    have ha : i < a.length := by omega
    have hb : i < b.length := by omega
    rw [List.drop_eq_getElem_cons ha, List.drop_eq_getElem_cons hb]
    by_cases e : a[i] = b[i]
    · refine Ev.ret (Ev.step (fun k => ?_) (ih (i + 1) (by omega))) ?_
      · simp only [haystacklaw6_ints.l0]
        rw [if_pos (by omega), if_pos (by omega), if_pos (by omega), rd_at ha, rd_at hb, if_pos e, wr1 (by omega) (by omega)]
        rfl
      · simp only [e, List.cons.injEq, true_and]
    · refine Ev.step (f := fun _ => some false) (fun k => ?_) ?_
      · simp only [haystacklaw6_ints.l0]
        rw [if_pos (by omega), if_pos (by omega), if_pos (by omega), rd_at ha, rd_at hb, if_neg e]
      · simp only [List.cons.injEq, e, false_and, decide_false]; exact Ev.now _
theorem ints_ev (a b : List Int) (hl : a.length ≤ 1000000) : Ev (fun k => haystacklaw6_ints.f k a b) (decide (a = b)) := by
  unfold haystacklaw6_ints.f
  by_cases h : a.length = b.length
  · simp only [h, if_true]
    exact ints_from a b h hl a.length 0 (by omega)
  · simp only [show ¬ ((a.length : Int) = (b.length : Int)) from by omega, if_false]
    refine Ev.ret (Ev.now false) ?_
    symm
    rw [decide_eq_false_iff_not]
    rintro rfl
    exact h rfl
theorem equal_from (a b : List Int) (hab : a.length = b.length) (hl : a.length ≤ 1000000) (d : Nat) : ∀ i : Nat, i + d = a.length → Ev (fun k => slices_Equal_int_int.l0 k a b (a.length : Int) (i : Int)) (decide (a.drop i = b.drop i)) := by
  induction d with
  | zero =>
    intro i hi
    refine Ev.step (f := fun _ => some true) (fun k => ?_) ?_
    · simp only [slices_Equal_int_int.l0]; rw [if_neg (by omega)]
    · rw [List.drop_eq_nil_of_le (by omega), List.drop_eq_nil_of_le (by omega)]; exact Ev.now _
  | succ d ih =>
    intro i hi
    have ha : i < a.length := by omega
    have hb : i < b.length := by omega
    rw [List.drop_eq_getElem_cons ha, List.drop_eq_getElem_cons hb]
    by_cases e : a[i] = b[i]
    · refine Ev.ret (Ev.step (fun k => ?_) (ih (i + 1) (by omega))) ?_
      · simp only [slices_Equal_int_int.l0]
        rw [if_pos (by omega), if_pos (by omega), if_pos (by omega), if_pos (by omega), rd_at ha, rd_at hb, if_pos e, wr1 (by omega) (by omega)]
        rfl
      · simp only [e, List.cons.injEq, true_and]
    · refine Ev.step (f := fun _ => some false) (fun k => ?_) ?_
      · simp only [slices_Equal_int_int.l0]
        rw [if_pos (by omega), if_pos (by omega), if_pos (by omega), if_pos (by omega), rd_at ha, rd_at hb, if_neg e]
      · simp only [List.cons.injEq, e, false_and, decide_false]; exact Ev.now _
theorem equal_ev (a b : List Int) (hl : a.length ≤ 1000000) : Ev (fun k => slices_Equal_int_int.f k a b) (decide (a = b)) := by
  unfold slices_Equal_int_int.f
  by_cases h : a.length = b.length
  · simp only [h, if_true]
    have := equal_from a b h hl a.length 0 (by omega)
    rw [h] at this
    exact this
  · simp only [show ¬ ((a.length : Int) = (b.length : Int)) from by omega, if_false]
    refine Ev.ret (Ev.now false) ?_
    symm
    rw [decide_eq_false_iff_not]
    rintro rfl
    exact h rfl

/-! ### closed rows -/
def closedB : List Int → Bool
  | [] => false
  | [x] => x == 0
  | x :: y :: s => decide (0 < x) && closedB (y :: s)
theorem closedB_iff (s : List Int) : closedB s = true ↔ BwtP.Closed s := by
  induction s with
  | nil => simp [closedB, BwtP.Closed]
  | cons x s ih =>
    cases s with
    | nil =>
      simp only [closedB, beq_iff_eq]
      constructor
      · rintro rfl; exact ⟨[], rfl, by simp⟩
      · rintro ⟨t, e, ht⟩
        cases t with
        | nil => simpa using e
        | cons a t => simp at e
    | cons y s =>
      simp only [closedB, Bool.and_eq_true, decide_eq_true_eq, ih]
      constructor
      · rintro ⟨h, t, e, ht⟩
        exact ⟨x :: t, by rw [e]; rfl, by simpa using ⟨h, ht⟩⟩
      · rintro ⟨t, e, ht⟩
        cases t with
        | nil => simp at e
        | cons a t =>
          simp at e
          obtain ⟨rfl, e⟩ := e
          exact ⟨ht _ (by simp), t, e, fun x hx => ht x (by simp [hx])⟩
theorem closedB_len {s : List Int} (h : closedB s = true) : 0 < s.length := ((closedB_iff s).1 h).pos
theorem closed_from (s : List Int) (hl : s.length ≤ 1000000) (d : Nat) : ∀ i : Nat, i + d + 1 = s.length → Ev (fun k => bwt_isClosed.l0 k s s (s.length : Int) (i : Int)) (closedB (s.drop i)) := by
  have hlast : ∀ n : Nat, n + 1 = s.length → Ev (fun k => bwt_isClosed.l0 k s s (s.length : Int) ((n + 1 : Nat) : Int)) (rd s (n : Nat) == 0) := by
    intro n hn
    refine Ev.step (f := fun _ => some (rd s (n : Nat) == 0)) (fun k => ?_) (Ev.now _)
    simp only [bwt_isClosed.l0]
    rw [if_neg (by omega), if_pos (by omega), show (s.length : Int) - 1 = (n : Nat) from by omega, wr1 (by omega) (by omega), if_pos (by omega), if_pos (by omega)]
  induction d with
  | zero =>
    intro i hi
    have h : i < s.length := by omega
    rw [List.drop_eq_getElem_cons h, List.drop_eq_nil_of_le (by omega)]
    by_cases hx : rd s (i : Nat) < 0
    · refine Ev.ret (Ev.step (f := fun _ => some false) (fun k => ?_) (Ev.now _)) ?_
      · simp only [bwt_isClosed.l0]
        rw [if_pos (by omega), if_pos (by omega), if_pos (by omega), if_pos hx]
      · rw [rd_at h] at hx
        simp only [closedB]
        symm; rw [beq_eq_false_iff_ne]; omega
    · refine Ev.ret (Ev.step (fun k => ?_) (hlast i (by omega))) ?_
      · simp only [bwt_isClosed.l0]
        rw [if_pos (by omega), if_pos (by omega), if_pos (by omega), if_neg hx, wr1 (x := (i : Int) + 1) (by omega) (by omega), wr1 (x := (s.length : Int) - 1) (by omega) (by omega), if_neg (show ¬ (i : Int) < (s.length : Int) - 1 by omega)]
        split <;> rfl
      · rw [rd_at h]; rfl
  | succ d ih =>
    intro i hi
    have h : i < s.length := by omega
    have h2 : i + 1 < s.length := by omega
    rw [List.drop_eq_getElem_cons h, List.drop_eq_getElem_cons h2, closedB, ← List.drop_eq_getElem_cons h2]
    by_cases hx : rd s (i : Nat) < 0
    · refine Ev.ret (Ev.step (f := fun _ => some false) (fun k => ?_) (Ev.now _)) ?_
      · simp only [bwt_isClosed.l0]
        rw [if_pos (by omega), if_pos (by omega), if_pos (by omega), if_pos hx]
      · rw [rd_at h] at hx
        rw [decide_eq_false (by omega), Bool.false_and]
    · by_cases hx0 : rd s (i : Nat) = 0
      · refine Ev.ret (Ev.step (f := fun _ => some false) (fun k => ?_) (Ev.now _)) ?_
        · simp only [bwt_isClosed.l0]
          rw [if_pos (by omega), if_pos (by omega), if_pos (by omega), if_neg hx, if_pos hx0, wr1 (x := (s.length : Int) - 1) (by omega) (by omega), if_pos (by omega)]
        · rw [rd_at h] at hx0
          rw [decide_eq_false (by omega), Bool.false_and]
      · refine Ev.ret (Ev.step (fun k => ?_) (ih (i + 1) (by omega))) ?_
        · simp only [bwt_isClosed.l0]
          rw [if_pos (by omega), if_pos (by omega), if_pos (by omega), if_neg hx, if_neg hx0, wr1 (x := (i : Int) + 1) (by omega) (by omega)]
          rfl
        · rw [rd_at h] at hx hx0
          rw [decide_eq_true (by omega), Bool.true_and]
theorem closed_ev (s : List Int) (hl : s.length ≤ 1000000) : Ev (fun k => bwt_isClosed.f k s) (closedB s) := by
  unfold bwt_isClosed.f
  cases s with
  | nil =>
    refine Ev.step (f := fun _ => some false) (fun k => ?_) (Ev.now _)
    simp only [bwt_isClosed.l0]; rw [if_neg (by simp), if_neg (by simp)]
  | cons x s => exact closed_from (x :: s) hl s.length 0 (by simp)
theorem rclosed_from (s : List Int) (hl : s.length ≤ 1000000) (d : Nat) : ∀ i : Nat, i + d + 1 = s.length → Ev (fun k => haystackref6_closed.l0 k s (i : Int)) (closedB (s.drop i)) := by
  have hlast : Ev (fun k => haystackref6_closed.l0 k s (s.length : Int)) (decide (0 < s.length)) := by
    refine Ev.step (f := fun _ => some (decide (0 < s.length))) (fun k => ?_) (Ev.now _)
    simp only [haystackref6_closed.l0]
    rw [if_neg (by omega)]
    congr 2
    simp
  induction d with
  | zero =>
    intro i hi
    have h : i < s.length := by omega
    rw [List.drop_eq_getElem_cons h, List.drop_eq_nil_of_le (by omega)]
    have hi2 : ((i : Int) == wrap64 ((s.length : Int) - 1)) = true := by rw [wr1 (by omega) (by omega), beq_iff_eq]; omega
    by_cases hx : rd s (i : Nat) = 0
    · refine Ev.ret (Ev.step (fun k => ?_) hlast) ?_
      · simp only [haystackref6_closed.l0]
        rw [if_pos (by omega), if_pos (by omega), if_neg (by omega), hi2, hx, if_neg (by simp), wr1 (x := (i : Int) + 1) (by omega) (by omega), show (i : Int) + 1 = s.length from by omega]
      · rw [rd_at h] at hx
        simp only [closedB, hx]
        simp; omega
    · refine Ev.ret (Ev.step (f := fun _ => some false) (fun k => ?_) (Ev.now _)) ?_
      · simp only [haystackref6_closed.l0]
        rw [if_pos (by omega), if_pos (by omega), hi2, show (rd s (i : Nat) == 0) = false from by simpa using hx]
        split <;> rfl
      · rw [rd_at h] at hx
        simp only [closedB]
        symm; rw [beq_eq_false_iff_ne]; omega
  | succ d ih =>
    intro i hi
    have h : i < s.length := by omega
    have h2 : i + 1 < s.length := by omega
    have hi2 : ((i : Int) == wrap64 ((s.length : Int) - 1)) = false := by rw [wr1 (by omega) (by omega), beq_eq_false_iff_ne]; omega
    rw [List.drop_eq_getElem_cons h, List.drop_eq_getElem_cons h2, closedB, ← List.drop_eq_getElem_cons h2]
    by_cases hx : rd s (i : Nat) < 0
    · refine Ev.ret (Ev.step (f := fun _ => some false) (fun k => ?_) (Ev.now _)) ?_
      · simp only [haystackref6_closed.l0]
        rw [if_pos (by omega), if_pos (by omega), if_pos hx]
      · rw [rd_at h] at hx
        rw [decide_eq_false (by omega), Bool.false_and]
    · by_cases hx0 : rd s (i : Nat) = 0
      · refine Ev.ret (Ev.step (f := fun _ => some false) (fun k => ?_) (Ev.now _)) ?_
        · simp only [haystackref6_closed.l0]
          rw [if_pos (by omega), if_pos (by omega), if_neg hx, hi2, hx0, if_pos (by simp)]
        · rw [rd_at h] at hx0
          rw [decide_eq_false (by omega), Bool.false_and]
      · refine Ev.ret (Ev.step (fun k => ?_) (ih (i + 1) (by omega))) ?_
        · simp only [haystackref6_closed.l0]
          rw [if_pos (by omega), if_pos (by omega), if_neg hx, hi2, show (rd s (i : Nat) == 0) = false from by simpa using hx0, if_neg (by simp), wr1 (x := (i : Int) + 1) (by omega) (by omega)]
          rfl
        · rw [rd_at h] at hx hx0
          rw [decide_eq_true (by omega), Bool.true_and]
theorem rclosed_ev (s : List Int) (hl : s.length ≤ 1000000) : Ev (fun k => haystackref6_closed.f k s) (closedB s) := by
  unfold haystackref6_closed.f
  cases s with
  | nil =>
    refine Ev.step (f := fun _ => some false) (fun k => ?_) (Ev.now _)
    simp only [haystackref6_closed.l0]; rw [if_neg (by simp)]; rfl
  | cons x s => exact rclosed_from (x :: s) hl s.length 0 (by simp)

/-! ### rows turned -/
def turnV (s : List Int) : List Int × Int := if 65536 < s.length then ([], 5) else if closedB s = true then (turnL s (saOf s), 0) else ([], 1)
theorem closed_nonneg {s : List Int} (h : BwtP.Closed s) : ∀ x ∈ s, 0 ≤ x := by
  obtain ⟨t, rfl, ht⟩ := h
  intro x hx
  rcases List.mem_append.1 hx with hx | hx
  · have := ht x hx; omega
  · simp at hx; omega
theorem array_some (l : List Int) (hl : l.length ≤ 65536) (hp : ∀ x ∈ l, 0 ≤ x) : suffix_Array.f l = some (saOf l, 0) := by
  unfold suffix_Array.f
  rw [if_neg (by omega), if_neg (by rintro ⟨x, hx, h⟩; have := hp x hx; omega)]
theorem place_eq {n : Nat} {p : Int} (hn : n ≤ 65536) (h0 : 0 ≤ p) (h1 : p < n) : Int.tmod (wrap64 (wrap64 (p + n) - 1)) n = (p + n - 1) % n ∧ 0 ≤ (p + n - 1) % n ∧ (p + (n : Int) - 1) % n < n := by
  refine ⟨?_, Int.emod_nonneg _ (by omega), Int.emod_lt_of_pos _ (by omega)⟩
  rw [wr1 (x := p + n) (by omega) (by omega), wr1 (by omega) (by omega), Int.tmod_eq_emod_of_nonneg (by omega)]
theorem turn_from (s sa : List Int) (hl : s.length ≤ 65536) (hp : sa.Perm (iota s.length)) (d : Nat) : ∀ (i : Nat) (out : List Int), i + d = sa.length → out.length = i → Ev (fun k => bwt_Turn.l0 k s out sa (sa.length : Int) (i : Int)) (out ++ turnL s (sa.drop i), 0) := by
  have hsl : sa.length = s.length := by rw [hp.length_eq, iota_len]
  induction d with
  | zero =>
    intro i out hi ho
    refine Ev.ret (Ev.step (f := fun _ => some (out, 0)) (fun k => ?_) (Ev.now _)) ?_
    · simp only [bwt_Turn.l0]; rw [if_neg (by omega)]
    · rw [List.drop_eq_nil_of_le (by omega)]; simp [turnL]
  | succ d ih =>
    intro i out hi ho
    have h : i < sa.length := by omega
    obtain ⟨r0, r1⟩ := rd_mem hp (i := i) (by omega)
    obtain ⟨e1, e2, e3⟩ := place_eq hl r0 r1
    refine Ev.ret (Ev.step (fun k => ?_) (ih (i + 1) (out ++ [rd s ((rd sa (i : Nat) + s.length - 1) % s.length)]) (by omega) (by simp; omega))) ?_
    · simp only [bwt_Turn.l0]
      rw [if_pos (by omega), if_pos (by omega), if_pos (by omega), if_neg (by omega), e1, if_pos e2, if_pos e3, if_pos (by omega), wr1 (x := (i : Int) + 1) (by omega) (by omega)]
      rfl
    · rw [List.drop_eq_getElem_cons h, rd_at h, List.append_assoc]
      rfl
theorem turn_ev (s : List Int) (hl : s.length ≤ 1000000) : Ev (fun k => bwt_Turn.f k s) (turnV s) := by
  unfold bwt_Turn.f turnV
  by_cases h1 : 65536 < s.length
  · simp only [show (s.length : Int) > 65536 from by omega, if_true, h1]; exact Ev.now _
  · simp only [show ¬ (s.length : Int) > 65536 from by omega, if_false, h1]
    refine Ev.bind (closed_ev s hl) ?_
    cases hc : closedB s with
    | false => simp only [Bool.false_eq_true, if_false]; exact Ev.now _
    | true =>
      simp only [if_true]
      have hC := (closedB_iff s).1 hc
      rw [array_some s (by omega) (closed_nonneg hC)]
      simp only [Option.bind_some, if_true]
      have := turn_from s (saOf s) (by omega) (saOf_isSA s).perm (saOf s).length 0 [] (by omega) (by simp)
      simpa using this
theorem rturn_from (s sa : List Int) (hl : s.length ≤ 65536) (hp : sa.Perm (iota s.length)) (d : Nat) : ∀ (i : Nat) (out rest : List Int), i + d = sa.length → out.length = i → rest.length = d → Ev (fun k => haystackref6_Turn.l0 k s sa (out ++ rest) (i : Int)) (out ++ turnL s (sa.drop i), 0) := by
  have hsl : sa.length = s.length := by rw [hp.length_eq, iota_len]
  induction d with
  | zero =>
    intro i out rest hi ho hr
    obtain rfl := List.eq_nil_of_length_eq_zero hr
    refine Ev.ret (Ev.step (f := fun _ => some (out ++ [], 0)) (fun k => ?_) (Ev.now _)) ?_
    · simp only [haystackref6_Turn.l0]; rw [if_neg (by omega)]
    · rw [List.drop_eq_nil_of_le (by omega)]; simp [turnL]
  | succ d ih =>
    intro i out rest hi ho hr
    obtain ⟨z, rest, rfl⟩ : ∃ z r, rest = z :: r := by cases rest with | nil => simp at hr | cons z r => exact ⟨z, r, rfl⟩
    have h : i < sa.length := by omega
    obtain ⟨r0, r1⟩ := rd_mem hp (i := i) (by omega)
    obtain ⟨e1, e2, e3⟩ := place_eq hl r0 r1
    refine Ev.ret (Ev.step (fun k => ?_) (ih (i + 1) (out ++ [rd s ((rd sa (i : Nat) + s.length - 1) % s.length)]) rest (by omega) (by simp; omega) (by simpa using hr))) ?_
    · simp only [haystackref6_Turn.l0]
      rw [if_pos (by omega), if_pos (by omega), if_pos (by omega), if_neg (by omega), e1, if_pos e2, if_pos e3, if_pos (by simp; omega), wr1 (x := (i : Int) + 1) (by omega) (by omega)]
      congr 1
      subst ho
      simp
    · rw [List.drop_eq_getElem_cons h, rd_at h, List.append_assoc]
      rfl
theorem rturn_ev (s : List Int) (hl : s.length ≤ 1000000) : Ev (fun k => haystackref6_Turn.f k s) (turnV s) := by
  unfold haystackref6_Turn.f turnV
  by_cases h1 : 65536 < s.length
  · simp only [show (s.length : Int) > 65536 from by omega, if_true, h1]; exact Ev.now _
  · simp only [show ¬ (s.length : Int) > 65536 from by omega, if_false, h1]
    refine Ev.bind (rclosed_ev s hl) ?_
    cases hc : closedB s with
    | false => simp only [Bool.false_eq_true, if_false]; exact Ev.now _
    | true =>
      simp only [if_true]
      have hC := (closedB_iff s).1 hc
      unfold haystackref5_Array.f
      rw [array_some s (by omega) (closed_nonneg hC)]
      simp only [Option.bind_some, show (0 : Int) ≤ (s.length : Int) from by omega, if_true, show ((s.length : Int)).toNat = s.length from by omega, show s.length ≤ 35184372088832 from by omega]
      have hsl := (saOf_isSA s).len
      have := rturn_from s (saOf s) (by omega) (saOf_isSA s).perm (saOf s).length 0 [] (List.replicate s.length 0) (by omega) (by simp) (by simp [hsl])
      simpa using this
end Go.Proofs.Ytdbjbeebjigofaa.Hand
