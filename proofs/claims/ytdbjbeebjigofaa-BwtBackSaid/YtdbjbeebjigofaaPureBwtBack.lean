import Derived.Test.YtdbjbeebjigofaaPBwtBackx2
import Derived.Test.YtdbjbeebjigofaaPlainB
namespace Go.Proofs.Ytdbjbeebjigofaa.Pure
open Go.RowKit Go.Proofs.Ytdbjbeebjigofaa.Hand Go.Proofs.Ytdbjbeebjigofaa.Sfx Go.Proofs.Ytdbjbeebjigofaa.BwtP Go.Proofs.Ytdbjbeebjigofaa.PT Go.Proofs.Ytdbjbeebjigofaa.PK Go.Proofs.Ytdbjbeebjigofaa.PBwtBack Go.Proofs.YtdbjbeebjigofaaW.PrintWords Go.Proofs.YtdbjbeebjigofaaW.PrintLast
set_option linter.unusedVariables false
set_option linter.unusedSimpArgs false
/-- The document's way back. -/
def refV (l : List Int) : List Int × Int :=
  if (∀ x ∈ l, 0 ≤ x) ∧ l.count 0 = 1 then (if (turnV (refRow l (toOf l))).2 = 0 ∧ (turnV (refRow l (toOf l))).1 = l then (refRow l (toOf l), 0) else ([], 3)) else ([], 3)
theorem back_ref_same (l : List Int) (hl : l.length ≤ 65536) : backV l = refV l := by
  unfold backV refV
  rw [if_neg (by omega)]
  have hord := ordOf_isOrd l
  have hto := toOf_isTo l
  by_cases h : (turnV (backRow l (toOf l))).2 = 0 ∧ (turnV (backRow l (toOf l))).1 = l
  · rw [if_pos h]
    obtain ⟨hc, he, _⟩ := turnV_ok (s := backRow l (toOf l)) (l := l) (Prod.ext h.2 h.1)
    have hp := turn_perm hc.pos (saOf_isSA (backRow l (toOf l)))
    rw [← he] at hp
    obtain ⟨_, h2⟩ := back_turn (ord := ordOf l) (tos := toOf l) hc (saOf_isSA (backRow l (toOf l))) (by rw [← he]; exact hord) hto
    rw [← he] at h2
    have h3 : (∀ x ∈ l, 0 ≤ x) ∧ l.count 0 = 1 := by
      refine ⟨fun x hx => closed_nonneg hc x (hp.mem_iff.1 hx), ?_⟩
      rw [hp.count_eq]
      obtain ⟨t, et, ht⟩ := hc
      rw [et, List.count_append, List.count_eq_zero.2 (fun hm => by have := ht 0 hm; omega)]
      rfl
    rw [if_pos h3, h2, if_pos h]
  · rw [if_neg h]
    by_cases h3 : (∀ x ∈ l, 0 ≤ x) ∧ l.count 0 = 1
    · rw [if_pos h3]
      by_cases h4 : (turnV (refRow l (toOf l))).2 = 0 ∧ (turnV (refRow l (toOf l))).1 = l
      · exfalso
        obtain ⟨hc, he, _⟩ := turnV_ok (s := refRow l (toOf l)) (l := l) (Prod.ext h4.2 h4.1)
        obtain ⟨h2, _⟩ := back_turn (ord := ordOf l) (tos := toOf l) hc (saOf_isSA (refRow l (toOf l))) (by rw [← he]; exact hord) hto
        rw [← he] at h2
        rw [h2] at h
        exact h h4
      · rw [if_neg h4]
    · rw [if_neg h3]

theorem l3_from (l s t : List Int) (hl : l.length ≤ 65536) (ht : t.length = l.length) (d : Nat) : ∀ i : Nat, i + d = l.length → Ev (fun k => haystackref6_Back.l3 k l (l.length : Int) s t (i : Int)) (if t.drop i = l.drop i then (s, 0) else ([], 3)) := by
  induction d with
  | zero =>
    intro i hi
    refine Ev.ret (Ev.step (f := fun _ => some (s, 0)) (fun k => ?_) (Ev.now _)) ?_
    · simp only [haystackref6_Back.l3]; rw [if_neg (by omega)]
    · rw [if_pos (by rw [List.drop_eq_nil_of_le (by omega), List.drop_eq_nil_of_le (by omega)])]
  | succ d ih =>
    intro i hi
    have h1 : i < l.length := by omega
    have h2 : i < t.length := by omega
    rw [List.drop_eq_getElem_cons h1, List.drop_eq_getElem_cons h2]
    by_cases e : t[i] = l[i]
    · refine Ev.ret (Ev.step (fun k => ?_) (ih (i + 1) (by omega))) ?_
      · simp only [haystackref6_Back.l3]
        rw [if_pos (by omega), if_pos (by omega), if_pos (by omega), if_pos (by omega), rd_at h1, rd_at h2, if_pos e, wr1 (by omega) (by omega)]
        rfl
      · simp only [e, List.cons.injEq, true_and]
    · refine Ev.ret (Ev.step (f := fun _ => some ([], 3)) (fun k => ?_) (Ev.now _)) ?_
      · simp only [haystackref6_Back.l3]
        rw [if_pos (by omega), if_pos (by omega), if_pos (by omega), if_pos (by omega), rd_at h1, rd_at h2, if_neg e]
      · simp only [e, List.cons.injEq, false_and, if_false]
/-- What has been gone through, and what is still noughts. -/
def part (l tos : List Int) (k : Nat) : List Int := (List.range l.length).map fun i => if i + 1 = l.length then 0 else if l.length ≤ i + 1 + k then rd l (tk tos (l.length - 2 - i)) else 0
theorem part_len (l tos : List Int) (k : Nat) : (part l tos k).length = l.length := by simp [part]
theorem part_at (l tos : List Int) (k i : Nat) (hi : i < l.length) : rd (part l tos k) (i : Nat) = if i + 1 = l.length then 0 else if l.length ≤ i + 1 + k then rd l (tk tos (l.length - 2 - i)) else 0 := by
  rw [rd_at (by rw [part_len]; exact hi)]
  simp [part]
theorem rd_set2 (l : List Int) (i j : Nat) (v : Int) (hi : i < l.length) : rd (l.set i v) (j : Nat) = if j = i then v else rd l (j : Nat) := by
  by_cases hj : j < l.length
  · rw [rd_at (by rw [List.length_set]; exact hj), rd_at hj, List.getElem_set]
    by_cases e : i = j
    · rw [if_pos e, if_pos e.symm]
    · rw [if_neg e, if_neg (Ne.symm e)]
  · rw [if_neg (by omega)]
    unfold rd
    simp [List.getD_eq_getElem?_getD, hj]
theorem l2_from (l : List Int) (hl : l.length ≤ 65536) (h0 : 0 < l.length) (d : Nat) : ∀ k0 : Nat, k0 + d + 1 = l.length →
    Ev (fun k => haystackref6_Back.l2 k l (l.length : Int) (toOf l) (part l (toOf l) k0) (tk (toOf l) k0) ((l.length : Int) - 2 - k0)) (if (turnV (refRow l (toOf l))).2 = 0 ∧ (turnV (refRow l (toOf l))).1 = l then (refRow l (toOf l), 0) else ([], 3)) := by
  have hp := (ordOf_isOrd l).perm
  have hto := toOf_isTo l
  have htl : (toOf l).length = l.length := by simp [toOf, iota_len]
  induction d with
  | zero =>
    intro k0 hk
    have hr : part l (toOf l) k0 = refRow l (toOf l) := by
      refine ext_rd (by rw [part_len, refRow_len]) fun i hi => ?_
      rw [part_len] at hi
      rw [part_at l _ k0 i hi, refRow_at l _ i hi]
      split
      · rfl
      · rw [if_pos (by omega)]
    rw [hr]
    refine Ev.step (f := fun k => (haystackref6_Turn.f k (refRow l (toOf l))).bind fun bt => if bt.2 = 0 then haystackref6_Back.l3 k l (l.length : Int) (refRow l (toOf l)) bt.1 0 else some ([], 3)) (fun k => ?_) ?_
    · simp only [haystackref6_Back.l2]; rw [if_neg (by omega)]
    · refine Ev.bind (rturn_ev _ (by rw [refRow_len]; omega)) ?_
      by_cases h : (turnV (refRow l (toOf l))).2 = 0
      · simp only [h, if_true, true_and]
        have hlen : (turnV (refRow l (toOf l))).1.length = l.length := by
          obtain ⟨hc, he, _⟩ := turnV_ok (s := refRow l (toOf l)) (l := (turnV (refRow l (toOf l))).1) (by rw [← h])
          rw [he, turnL_saOf_len, refRow_len]
        exact l3_from l (refRow l (toOf l)) _ hl hlen l.length 0 (by omega)
      · simp only [h, if_false, false_and]; exact Ev.now _
  | succ d ih =>
    intro k0 hk
    obtain ⟨t0, t1⟩ := tk_lt hp hto h0 k0
    obtain ⟨i, hi⟩ : ∃ i : Nat, (l.length : Int) - 2 - k0 = i := ⟨l.length - 2 - k0, by omega⟩
    refine Ev.step (fun k => ?_) (ih (k0 + 1) (by omega))
    simp only [haystackref6_Back.l2]
    rw [hi, if_pos (by omega), if_pos t0, if_pos t1, if_pos (by omega), if_pos (by rw [part_len]; omega), if_pos (by rw [htl]; exact t1), wr1 (x := (i : Int) - 1) (by omega) (by omega), show (i : Int) - 1 = (l.length : Int) - 2 - ((k0 + 1 : Nat) : Int) from by omega]
    congr 1
    refine ext_rd (by rw [List.length_set, part_len, part_len]) fun j hj => ?_
    rw [List.length_set, part_len] at hj
    rw [Int.toNat_natCast, rd_set2 _ _ _ _ (by rw [part_len]; omega), part_at l _ _ j hj, part_at l _ _ j hj]
    by_cases e : j = i
    · subst e
      rw [if_pos rfl, if_neg (by omega), if_pos (by omega), show l.length - 2 - j = k0 from by omega]
    · rw [if_neg e]
      by_cases e2 : j + 1 = l.length
      · rw [if_pos e2, if_pos e2]
      · rw [if_neg e2, if_neg e2]
        by_cases e3 : l.length ≤ j + 1 + k0
        · rw [if_pos e3, if_pos (by omega)]
        · rw [if_neg e3, if_neg (by omega)]
theorem l1_from (l : List Int) (hl : l.length ≤ 65536) (h0 : 0 < l.length) (d : Nat) : ∀ (i : Nat) (t : List Int), i + d = l.length → t.length = l.length → (∀ j : Nat, j < i → rd t (rd (ordOf l) (j : Nat)) = j) →
    Ev (fun k => haystackref6_Back.l1 k l (l.length : Int) (ordOf l) t (i : Int)) (if (turnV (refRow l (toOf l))).2 = 0 ∧ (turnV (refRow l (toOf l))).1 = l then (refRow l (toOf l), 0) else ([], 3)) := by
  have hp := (ordOf_isOrd l).perm
  have hol := (ordOf_isOrd l).len
  induction d with
  | zero =>
    intro i t hi ht hI
    have e : t = toOf l := IsTo.uniq hp ⟨by rw [ht, hol], fun j hj => hI j (by omega)⟩ (toOf_isTo l)
    subst e
    refine Ev.step (fun k => ?_) (l2_from l hl h0 (l.length - 1) 0 (by omega))
    simp only [haystackref6_Back.l1]
    rw [if_neg (by omega), if_pos (by omega), if_pos (by omega), wr1 (x := (l.length : Int) - 2) (by omega) (by omega)]
    congr 1
    · refine ext_rd (by rw [part_len]; simp) fun j hj => ?_
      have hj2 : j < l.length := by simpa using hj
      rw [part_at l _ 0 j hj2, rd_at hj]
      simp only [List.getElem_replicate]
      split
      · rfl
      · rw [if_neg (by omega)]
    · simp
  | succ d ih =>
    intro i t hi ht hI
    obtain ⟨r0, r1⟩ := rd_mem hp (i := i) (by omega)
    obtain ⟨p, hpe⟩ : ∃ p : Nat, rd (ordOf l) (i : Nat) = p := ⟨(rd (ordOf l) (i : Nat)).toNat, by omega⟩
    refine Ev.step (fun k => ?_) (ih (i + 1) (t.set p i) (by omega) (by rw [List.length_set]; exact ht) ?_)
    · simp only [haystackref6_Back.l1]
      rw [if_pos (by omega), if_pos (by omega), if_pos (by omega), if_pos r0, if_pos (by omega), hpe, wr1 (x := (i : Int) + 1) (by omega) (by omega)]
      rfl
    · intro j hj
      obtain ⟨q0, q1⟩ := rd_mem hp (i := j) (by omega)
      obtain ⟨q, hq⟩ : ∃ q : Nat, rd (ordOf l) (j : Nat) = q := ⟨(rd (ordOf l) (j : Nat)).toNat, by omega⟩
      rw [hq, rd_set2 _ _ _ _ (by omega)]
      by_cases e : j = i
      · subst e
        rw [if_pos (by omega)]
      · have hne : q ≠ p := fun e2 => e (rd_inj hp (by omega) (by omega) (by rw [hq, hpe, e2]))
        rw [if_neg hne, ← hq]
        exact hI j (by omega)
theorem l0_from (l : List Int) (hl : l.length ≤ 65536) (d : Nat) : ∀ (i c : Nat), i + d = l.length → c ≤ i → (∀ x ∈ l.take i, 0 ≤ x) → c = (l.take i).count 0 →
    Ev (fun k => haystackref6_Back.l0 k l (l.length : Int) (c : Int) (i : Int)) (refV l) := by
  induction d with
  | zero =>
    intro i c hi hci hpos hc
    rw [List.take_of_length_le (by omega)] at hpos hc
    unfold refV
    by_cases h1 : c = 1
    · have h0 : 0 < l.length := by
        rcases Nat.eq_zero_or_pos l.length with h | h
        · rw [List.eq_nil_of_length_eq_zero h] at hc; simp at hc; omega
        · exact h
      rw [if_pos ⟨hpos, by omega⟩]
      refine Ev.step (fun k => ?_) (l1_from l hl h0 l.length 0 (List.replicate l.length 0) (by omega) (by simp) (fun j hj => by omega))
      simp only [haystackref6_Back.l0]
      rw [if_neg (by omega), if_pos (by omega)]
      unfold haystackref6_stable.f
      rw [if_neg (by omega)]
      simp only [Option.bind_some]
      rw [if_pos (by omega), if_pos (by omega)]
      rfl
    · rw [if_neg (by omega)]
      refine Ev.step (f := fun _ => some ([], 3)) (fun k => ?_) (Ev.now _)
      simp only [haystackref6_Back.l0]
      rw [if_neg (by omega), if_neg (by omega)]
  | succ d ih =>
    intro i c hi hci hpos hc
    have h : i < l.length := by omega
    by_cases hx : rd l (i : Nat) < 0
    · refine Ev.ret (Ev.step (f := fun _ => some ([], 3)) (fun k => ?_) (Ev.now _)) ?_
      · simp only [haystackref6_Back.l0]
        rw [if_pos (by omega), if_pos (by omega), if_pos (by omega), if_pos hx]
      · unfold refV
        rw [if_neg]
        rintro ⟨h1, _⟩
        have := h1 _ (List.getElem_mem h)
        rw [rd_at h] at hx
        omega
    · have hpos' : ∀ x ∈ l.take (i + 1), 0 ≤ x := by
        rw [List.take_succ_eq_append_getElem h]
        intro x hm
        rcases List.mem_append.1 hm with hm | hm
        · exact hpos x hm
        · simp only [List.mem_singleton] at hm
          rw [hm, ← rd_at h]; omega
      by_cases hx0 : rd l (i : Nat) = 0
      · refine Ev.step (fun k => ?_) (ih (i + 1) (c + 1) (by omega) (by omega) hpos' ?_)
        · simp only [haystackref6_Back.l0]
          rw [if_pos (by omega), if_pos (by omega), if_pos (by omega), if_neg hx, if_pos hx0, wr1 (x := (c : Int) + 1) (by omega) (by omega), wr1 (x := (i : Int) + 1) (by omega) (by omega)]
          rfl
        · rw [List.take_succ_eq_append_getElem h, List.count_append, ← hc, ← rd_at h, hx0]
          rfl
      · refine Ev.step (fun k => ?_) (ih (i + 1) c (by omega) (by omega) hpos' ?_)
        · simp only [haystackref6_Back.l0]
          rw [if_pos (by omega), if_pos (by omega), if_pos (by omega), if_neg hx, if_neg hx0, wr1 (x := (i : Int) + 1) (by omega) (by omega)]
          rfl
        · rw [List.take_succ_eq_append_getElem h, List.count_append, ← hc, ← rd_at h]
          simp [List.count_cons, hx0]
theorem refBack_ev (l : List Int) (hl : l.length ≤ 65536) : Ev (fun k => haystackref6_Back.f k l) (refV l) := by
  unfold haystackref6_Back.f
  simp only [show ¬ (l.length : Int) > 65536 from by omega, if_false]
  exact l0_from l hl l.length 0 0 (by omega) (by omega) (by simp) (by simp)
theorem BwtBack : haystacklaw6_BwtBack.Pure := by
  intro l0 _ _ _
  refine Ev.rounds ?_
  unfold haystacklaw6_BwtBack.f
  by_cases hl : (l0.length : Int) > 500
  · simp only [if_pos hl]; exact Ev.now _
  · simp only [if_neg hl, Option.bind_some, List.length_nil, List.nil_append, bwt_Back.f]
    simp only [show 0 + l0.length < 17592186044416 from by omega, if_true]
    refine Ev.bind (refBack_ev l0 (by omega)) ?_
    rw [back_ref_same l0 (by omega)]
    refine Ev.bind (a := true) (Ev.ret (ints_ev _ _ (by have := backV_len l0; rw [back_ref_same l0 (by omega)] at this; omega)) (by simp)) ?_
    simp only [if_true]
    refine Ev.bind (a := true) (Ev.ret (ints_ev l0 l0 (by omega)) (by simp)) ?_
    simp only [if_true]
    exact Ev.bind (f := fun _ t => some t) known_ev (Ev.now _)
end Go.Proofs.Ytdbjbeebjigofaa.Pure
