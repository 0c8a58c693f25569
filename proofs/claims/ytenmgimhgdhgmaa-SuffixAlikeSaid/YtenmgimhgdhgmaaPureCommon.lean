/- Common, the program's and the reference's: they tell the same. -/
import Derived.Test.YtenmgimhgdhgmaaPlainQ
namespace Go.Proofs.Ytenmgimhgdhgmaa.Pure
open Go.RowKit Go.Proofs.Ytenmgimhgdhgmaa.Hand Go.Proofs.Ytenmgimhgdhgmaa.Sfx Go.Proofs.Ytenmgimhgdhgmaa.PC Go.Proofs.YtenmgimhgdhgmaaW.PrintWords Go.Proofs.YtenmgimhgdhgmaaW.PrintLast
set_option linter.unusedVariables false
theorem mx_pred (h : Nat) (hh : h ≤ 1000000) : mx 0 (wrap64 ((h : Int) - 1)) = ((h - 1 : Nat) : Int) := by
  rw [wr1 (by omega) (by omega)]; unfold mx; omega
def Both (s sa inv : List Int) (n : Nat) (out : List Int) (h : Int) (i : Int) : Prop :=
  ∃ r : List Int × Int, Ev (fun k => suffix_Common.l0 k s sa out h inv (n : Int) i) r ∧ Ev (fun k => haystackref5_Common.l1 k s sa out inv h i) r ∧ r.2 = 0 ∧ r.1.length = n
theorem common_inner (s sa inv : List Int) (n : Nat) (hn : n ≤ 65536) (hs : s.length = n) (hinv : inv.length = n) (i j kk : Nat) (hi : i < n) (hj : j < n) (hkk : kk < n) (hij : rd inv (i : Nat) = j) (out : List Int) (ho : out.length = n)
    (hnext : ∀ h' : Nat, i + h' ≤ n → Both s sa inv n (out.set j (h' : Int)) ((h' - 1 : Nat) : Int) ((i + 1 : Nat) : Int)) (d : Nat) : ∀ h : Nat, i + h + d = n →
    ∃ r : List Int × Int, Ev (fun k => suffix_Common.l1 k s sa out (h : Int) (i : Int) (j : Int) (kk : Int) inv (n : Int) (i : Int)) r ∧ Ev (fun k => haystackref5_Common.l2 k s sa out inv (h : Int) (i : Int) (kk : Int)) r ∧ r.2 = 0 ∧ r.1.length = n := by
  induction d with
  | zero =>
    intro h hh
    obtain ⟨r, e1, e2, e3, e4⟩ := hnext h (by omega)
    refine ⟨r, Ev.step (fun k => ?_) e1, Ev.step (fun k => ?_) e2, e3, e4⟩
    · simp only [suffix_Common.l1]
      rw [wr1 (x := (i : Int) + h) (by omega) (by omega), if_neg (by omega), if_pos (by omega), if_pos (by omega), mx_pred h (by omega), wr1 (x := (i : Int) + 1) (by omega) (by omega), Int.toNat_natCast]; rfl
    · simp only [haystackref5_Common.l2]
      rw [wr1 (x := (i : Int) + h) (by omega) (by omega), if_neg (by omega), if_pos (by omega), if_pos (by omega), hij, if_pos (by omega), if_pos (by omega), mx_pred h (by omega), wr1 (x := (i : Int) + 1) (by omega) (by omega), Int.toNat_natCast]; rfl
  | succ d ih =>
    intro h hh
    by_cases c1 : kk + h < n
    · by_cases c2 : rd s ((i : Int) + h) = rd s ((kk : Int) + h)
      · obtain ⟨r, e1, e2, e3, e4⟩ := ih (h + 1) (by omega)
        refine ⟨r, Ev.step (fun k => ?_) e1, Ev.step (fun k => ?_) e2, e3, e4⟩
        · simp only [suffix_Common.l1]
          rw [wr1 (x := (i : Int) + h) (by omega) (by omega), wr1 (x := (kk : Int) + h) (by omega) (by omega), if_pos (by omega), if_pos (by omega), if_pos (by omega), if_pos (by omega), if_pos c2, wr1 (x := (h : Int) + 1) (by omega) (by omega)]; rfl
        · simp only [haystackref5_Common.l2]
          rw [wr1 (x := (i : Int) + h) (by omega) (by omega), wr1 (x := (kk : Int) + h) (by omega) (by omega), if_pos (by omega), if_pos (by omega), if_pos (by omega), if_pos (by omega), if_pos c2, wr1 (x := (h : Int) + 1) (by omega) (by omega)]; rfl
      · obtain ⟨r, e1, e2, e3, e4⟩ := hnext h (by omega)
        refine ⟨r, Ev.step (fun k => ?_) e1, Ev.step (fun k => ?_) e2, e3, e4⟩
        · simp only [suffix_Common.l1]
          rw [wr1 (x := (i : Int) + h) (by omega) (by omega), wr1 (x := (kk : Int) + h) (by omega) (by omega), if_pos (by omega), if_pos (by omega), if_pos (by omega), if_pos (by omega), if_neg c2, if_pos (by omega), if_pos (by omega), mx_pred h (by omega), wr1 (x := (i : Int) + 1) (by omega) (by omega), Int.toNat_natCast]; rfl
        · simp only [haystackref5_Common.l2]
          rw [wr1 (x := (i : Int) + h) (by omega) (by omega), wr1 (x := (kk : Int) + h) (by omega) (by omega), if_pos (by omega), if_pos (by omega), if_pos (by omega), if_pos (by omega), if_neg c2, if_pos (by omega), if_pos (by omega), hij, if_pos (by omega), if_pos (by omega), mx_pred h (by omega), wr1 (x := (i : Int) + 1) (by omega) (by omega), Int.toNat_natCast]; rfl
    · obtain ⟨r, e1, e2, e3, e4⟩ := hnext h (by omega)
      refine ⟨r, Ev.step (fun k => ?_) e1, Ev.step (fun k => ?_) e2, e3, e4⟩
      · simp only [suffix_Common.l1]
        rw [wr1 (x := (i : Int) + h) (by omega) (by omega), wr1 (x := (kk : Int) + h) (by omega) (by omega), if_pos (by omega), if_neg (by omega), if_pos (by omega), if_pos (by omega), mx_pred h (by omega), wr1 (x := (i : Int) + 1) (by omega) (by omega), Int.toNat_natCast]; rfl
      · simp only [haystackref5_Common.l2]
        rw [wr1 (x := (i : Int) + h) (by omega) (by omega), wr1 (x := (kk : Int) + h) (by omega) (by omega), if_pos (by omega), if_neg (by omega), if_pos (by omega), if_pos (by omega), hij, if_pos (by omega), if_pos (by omega), mx_pred h (by omega), wr1 (x := (i : Int) + 1) (by omega) (by omega), Int.toNat_natCast]; rfl
theorem common_outer (s sa inv : List Int) (n : Nat) (hn : n ≤ 65536) (hs : s.length = n) (hsa : sa.length = n) (h2 : Inv2 sa inv) (d : Nat) : ∀ (i h : Nat) (out : List Int), i + d = n → i + h ≤ n → out.length = n → Both s sa inv n out (h : Int) (i : Int) := by
  have hinv : inv.length = n := by rw [h2.len, hsa]
  induction d with
  | zero =>
    intro i h out hi hh ho
    refine ⟨(out, 0), Ev.step (f := fun _ => some (out, 0)) (fun k => ?_) (Ev.now _), Ev.step (f := fun _ => some (out, 0)) (fun k => ?_) (Ev.now _), rfl, ho⟩
    · simp only [suffix_Common.l0]; rw [if_neg (by omega)]
    · simp only [haystackref5_Common.l1]; rw [if_neg (by omega)]
  | succ d ih =>
    intro i h out hi hh ho
    obtain ⟨j, hj, e1, e2⟩ := h2.back i (by rw [hsa]; omega)
    rw [hsa] at hj
    by_cases c : j = 0
    · subst c
      obtain ⟨r, g1, g2, g3, g4⟩ := ih (i + 1) 0 out (by omega) (by omega) ho
      refine ⟨r, Ev.step (fun k => ?_) g1, Ev.step (fun k => ?_) g2, g3, g4⟩
      · simp only [suffix_Common.l0]; rw [if_pos (by omega), if_pos (by omega), if_pos (by omega), e2, if_pos (by omega), wr1 (by omega) (by omega)]; rfl
      · simp only [haystackref5_Common.l1]; rw [if_pos (by omega), if_pos (by omega), if_pos (by omega), e2, if_pos (by omega), wr1 (by omega) (by omega)]; rfl
    · obtain ⟨kk, hkk⟩ : ∃ kk : Nat, rd sa (((j : Int) - 1)) = kk ∧ kk < n := by
        have hm := h2.rng (sa[j - 1]'(by omega)) (List.getElem_mem _)
        rw [show (j : Int) - 1 = ((j - 1 : Nat) : Int) from by omega, rd_at (by omega)]
        exact ⟨(sa[j - 1]'(by omega)).toNat, by omega, by omega⟩
      obtain ⟨r, g1, g2, g3, g4⟩ := common_inner s sa inv n hn hs hinv i j kk (by omega) hj hkk.2 e2 out ho (fun h' hh' => ih (i + 1) (h' - 1) (out.set j (h' : Int)) (by omega) (by omega) (by rw [List.length_set]; exact ho)) (n - (i + h)) h (by omega)
      refine ⟨r, Ev.step (fun k => ?_) g1, Ev.step (fun k => ?_) g2, g3, g4⟩
      · simp only [suffix_Common.l0]; rw [if_pos (by omega), if_pos (by omega), if_pos (by omega), e2, if_neg (by omega), wr1 (x := (j : Int) - 1) (by omega) (by omega), if_pos (by omega), if_pos (by omega), hkk.1]
      · simp only [haystackref5_Common.l1]; rw [if_pos (by omega), if_pos (by omega), if_pos (by omega), e2, if_neg (by omega), wr1 (x := (j : Int) - 1) (by omega) (by omega), if_pos (by omega), if_pos (by omega), hkk.1]
theorem equal_from (a b : List Int) (hab : a.length = b.length) (hl : a.length ≤ 1000000) (d : Nat) : ∀ i : Nat, i + d = a.length → Ev (fun k => slices_Equal_int_int.l0 k a b (a.length : Int) (i : Int)) (decide (a.drop i = b.drop i)) := by
  induction d with
  | zero =>
    intro i hi
    refine Ev.step (f := fun _ => some true) (fun k => ?_) ?_
    · simp only [slices_Equal_int_int.l0]; rw [if_neg (by omega)]
    · rw [List.drop_eq_nil_of_le (by omega), List.drop_eq_nil_of_le (by omega)]; exact Ev.now _
  | succ d ih =>
    intro i hi
    have ha : i < a.length := by omega
    have hb : i < b.length := by omega
    rw [List.drop_eq_getElem_cons ha, List.drop_eq_getElem_cons hb]
    by_cases e : a[i] = b[i]
    · refine Ev.ret (Ev.step (fun k => ?_) (ih (i + 1) (by omega))) ?_
      · simp only [slices_Equal_int_int.l0]
        rw [if_pos (by omega), if_pos (by omega), if_pos (by omega), if_pos (by omega), rd_at ha, rd_at hb, if_pos e, wr1 (by omega) (by omega)]
        rfl
      · simp only [e, List.cons.injEq, true_and]
    · refine Ev.step (f := fun _ => some false) (fun k => ?_) ?_
      · simp only [slices_Equal_int_int.l0]
        rw [if_pos (by omega), if_pos (by omega), if_pos (by omega), if_pos (by omega), rd_at ha, rd_at hb, if_neg e]
      · simp only [List.cons.injEq, e, false_and, decide_false]; exact Ev.now _
theorem equal_ev (a b : List Int) (hl : a.length ≤ 1000000) : Ev (fun k => slices_Equal_int_int.f k a b) (decide (a = b)) := by
  unfold slices_Equal_int_int.f
  by_cases h : a.length = b.length
  · simp only [h, if_true]
    have := equal_from a b h hl a.length 0 (by omega)
    rw [h] at this
    exact this
  · simp only [show ¬ ((a.length : Int) = (b.length : Int)) from by omega, if_false]
    refine Ev.ret (Ev.now false) ?_
    symm
    rw [decide_eq_false_iff_not]
    rintro rfl
    exact h rfl
theorem refeq_from (s sa right : List Int) (hab : right.length = sa.length) (hl : sa.length ≤ 1000000) (d : Nat) : ∀ i : Nat, i + d = sa.length → ∀ r : List Int × Int, (sa.drop i = right.drop i → Ev (fun k => haystackref5_Common.l0 k s sa right (sa.length : Int)) r) → (sa.drop i ≠ right.drop i → r = ([], 1)) → Ev (fun k => haystackref5_Common.l0 k s sa right (i : Int)) r := by
  induction d with
  | zero =>
    intro i hi r h1 h2
    obtain rfl : i = sa.length := by omega
    exact h1 (by rw [List.drop_length, List.drop_eq_nil_of_le (by omega)])
  | succ d ih =>
    intro i hi r h1 h2
    have ha : i < sa.length := by omega
    have hb : i < right.length := by omega
    rw [List.drop_eq_getElem_cons ha, List.drop_eq_getElem_cons hb] at h1 h2
    by_cases e : sa[i] = right[i]
    · simp only [e, List.cons.injEq, true_and, ne_eq] at h1 h2
      refine Ev.step (fun k => ?_) (ih (i + 1) (by omega) r h1 h2)
      simp only [haystackref5_Common.l0]
      rw [if_pos (by omega), if_pos (by omega), if_pos (by omega), rd_at ha, rd_at hb, if_pos e, wr1 (by omega) (by omega)]
      rfl
    · rw [h2 (fun h => e (List.cons.inj h).1)]
      refine Ev.step (f := fun _ => some ([], 1)) (fun k => ?_) (Ev.now _)
      simp only [haystackref5_Common.l0]
      rw [if_pos (by omega), if_pos (by omega), if_pos (by omega), rd_at ha, rd_at hb, if_neg e]
theorem common_same (s sa : List Int) (hn : s.length ≤ 65536) (hl : sa.length ≤ 65536) : ∃ r : List Int × Int, Ev (fun k => suffix_Common.f k s sa) r ∧ Ev (fun k => haystackref5_Common.f k s sa) r ∧ r.1.length ≤ 65536 := by
  unfold suffix_Common.f haystackref5_Common.f
  simp only [haystackref5_Array.f, array_res, Option.bind_some]
  have hr : (resOf s).2 = 0 → resOf s = (saOf s, 0) := by
    unfold resOf
    rw [if_neg (by omega)]
    split
    · intro h; cases h
    · intro _; rfl
  by_cases c0 : (resOf s).2 = 0
  · rw [hr c0]
    simp only [if_true]
    have hlen := (saOf_isSA s).len
    by_cases c : sa = saOf s
    · subst c
      have hp := (saOf_isSA s).perm
      obtain ⟨inv, i1, i2, i3⟩ := places_ok (saOf s) (by omega) (hp.symm.nodup (iota_nodup _)) (fun x hx => by rw [hlen]; exact mem_iota.1 (hp.subset hx))
      obtain ⟨r, g1, g2, g3, g4⟩ := common_outer s (saOf s) inv s.length hn rfl hlen i1 s.length 0 0 (List.replicate s.length 0) (by omega) (by omega) (by simp)
      refine ⟨r, ?_, ?_, by omega⟩
      · refine Ev.bind (a := true) (f := fun k t162 => if t162 = true then ((suffix_Places.f k (saOf s)).bind fun bt163 => (if 0 ≤ (s.length : Int) then (if ((s.length : Int) : Int).toNat ≤ 35184372088832 then (suffix_Common.l0 k s (saOf s) (List.replicate ((s.length : Int) : Int).toNat 0) 0 bt163.1 (bt163.1.length : Int) 0) else (none)) else (none))) else (some (([] : List Int), 1))) (Ev.ret (equal_ev (saOf s) (saOf s) (by omega)) (by simp)) ?_
        simp only [if_true]
        refine Ev.bind (a := (inv, 0)) (f := fun k bt163 => (if 0 ≤ (s.length : Int) then (if ((s.length : Int) : Int).toNat ≤ 35184372088832 then (suffix_Common.l0 k s (saOf s) (List.replicate ((s.length : Int) : Int).toNat 0) 0 bt163.1 (bt163.1.length : Int) 0) else (none)) else (none))) i2 ?_
        refine Ev.congr (fun k => ?_) g1
        rw [if_pos (by omega), if_pos (by omega), Int.toNat_natCast, i1.len, hlen]; rfl
      · simp only [if_true]
        refine refeq_from s (saOf s) (saOf s) rfl (by omega) (saOf s).length 0 (by omega) r (fun _ => ?_) (fun h => absurd rfl h)
        refine Ev.step (f := fun k => (haystackref5_Places.f k (saOf s)).bind fun bt200 => haystackref5_Common.l1 k s (saOf s) (List.replicate s.length 0) bt200.1 0 0) (fun k => ?_) (Ev.bind (a := (inv, 0)) (f := fun k bt200 => haystackref5_Common.l1 k s (saOf s) (List.replicate s.length 0) bt200.1 0 0) i3 g2)
        simp only [haystackref5_Common.l0]
        rw [if_neg (by omega), if_pos (by omega), if_pos (by omega), Int.toNat_natCast]
    · refine ⟨([], 1), ?_, ?_, by simp⟩
      · refine Ev.bind (a := false) (f := fun k t162 => if t162 = true then ((suffix_Places.f k sa).bind fun bt163 => (if 0 ≤ (s.length : Int) then (if ((s.length : Int) : Int).toNat ≤ 35184372088832 then (suffix_Common.l0 k s sa (List.replicate ((s.length : Int) : Int).toNat 0) 0 bt163.1 (bt163.1.length : Int) 0) else (none)) else (none))) else (some (([] : List Int), 1))) (Ev.ret (equal_ev sa (saOf s) (by omega)) (by simp [c])) ?_
        simp only [Bool.false_eq_true, if_false]
        exact Ev.now _
      · by_cases cl : (saOf s).length = sa.length
        · simp only [show ((saOf s).length : Int) = (sa.length : Int) from by omega, if_true]
          exact refeq_from s sa (saOf s) cl (by omega) sa.length 0 (by omega) ([], 1) (fun h => absurd (by simpa using h) c) (fun _ => rfl)
        · simp only [show ¬ ((saOf s).length : Int) = (sa.length : Int) from by omega, if_false]
          exact Ev.now _
  · simp only [if_neg c0]
    exact ⟨([], (resOf s).2), Ev.now _, Ev.now _, by simp⟩
end Go.Proofs.Ytenmgimhgdhgmaa.Pure
