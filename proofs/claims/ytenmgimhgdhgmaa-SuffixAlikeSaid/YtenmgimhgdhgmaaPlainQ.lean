/- Places, the program's and the reference's, in plain words. -/
import Derived.Test.YtenmgimhgdhgmaaPlainC
import Derived.Test.YtenmgimhgdhgmaaPCx3
import Derived.Test.YtenmgimhgdhgmaaPCx4
namespace Go.Proofs.Ytenmgimhgdhgmaa.Pure
open Go.RowKit Go.Proofs.Ytenmgimhgdhgmaa.Hand Go.Proofs.Ytenmgimhgdhgmaa.Sfx Go.Proofs.Ytenmgimhgdhgmaa.PC Go.Proofs.YtenmgimhgdhgmaaW.PrintWords Go.Proofs.YtenmgimhgdhgmaaW.PrintLast
set_option linter.unusedVariables false
set_option linter.unusedSimpArgs false
theorem nodup_len : ∀ (l m : List Int), l.Nodup → (∀ x ∈ l, x ∈ m) → l.length ≤ m.length
  | [], _, _, _ => Nat.zero_le _
  | a :: l, m, hn, hs => by
    rw [List.nodup_cons] at hn
    have ha : a ∈ m := hs a List.mem_cons_self
    have h := nodup_len l (m.erase a) hn.2 (fun x hx => by
      rw [List.mem_erase_of_ne (show x ≠ a from fun e => hn.1 (e ▸ hx))]
      exact hs x (List.mem_cons_of_mem _ hx))
    rw [List.length_erase_of_mem ha] at h
    have := List.length_pos_of_mem ha
    simp only [List.length_cons]; omega
/-- What is in range and of which there are as many as can be: all of them. -/
theorem onto {l : List Int} {n : Nat} (hn : l.Nodup) (hr : ∀ x ∈ l, 0 ≤ x ∧ x < n) (hl : l.length = n) {i : Int} (h0 : 0 ≤ i) (h1 : i < n) : i ∈ l := by
  refine Classical.byContradiction fun hi => ?_
  have h := nodup_len l ((iota n).erase i) hn (fun x hx => by
    rw [List.mem_erase_of_ne (show x ≠ i from fun e => hi (e ▸ hx))]
    exact mem_iota.2 (hr x hx))
  rw [List.length_erase_of_mem (mem_iota.2 ⟨h0, h1⟩), iota_len] at h
  omega
theorem perm_iota {l : List Int} {n : Nat} (hn : l.Nodup) (hr : ∀ x ∈ l, 0 ≤ x ∧ x < n) (hl : l.length = n) : l.Perm (iota n) := by
  rw [List.perm_ext_iff_of_nodup hn (iota_nodup n)]
  intro a
  rw [mem_iota]
  exact ⟨fun h => hr a h, fun h => onto hn hr hl h.1 h.2⟩
/-- inv says at which place of t each number stands. -/
structure Inv2 (t inv : List Int) : Prop where
  len : inv.length = t.length
  nd : t.Nodup
  rng : ∀ x ∈ t, 0 ≤ x ∧ x < t.length
  at_ : ∀ j : Nat, j < t.length → rd inv (rd t (j : Nat)) = j
theorem Inv2.perm {t inv : List Int} (h : Inv2 t inv) : t.Perm (iota t.length) := perm_iota h.nd h.rng rfl
theorem Inv2.back {t inv : List Int} (h : Inv2 t inv) (i : Nat) (hi : i < t.length) : ∃ j : Nat, j < t.length ∧ rd t (j : Nat) = i ∧ rd inv (i : Nat) = j := by
  obtain ⟨j, hj, e⟩ := at_of_mem h.perm (a := (i : Int)) (by omega) (by omega)
  exact ⟨j, hj, e, by rw [← e]; exact h.at_ j hj⟩
theorem Inv2.self {t inv : List Int} (h : Inv2 t inv) : inv.Nodup ∧ ∀ x ∈ inv, 0 ≤ x ∧ x < inv.length := by
  constructor
  · rw [List.Nodup, List.pairwise_iff_getElem]
    intro i j hi hj hij e
    rw [h.len] at hi hj
    obtain ⟨a, ha, e1, e2⟩ := h.back i hi
    obtain ⟨b, hb, e3, e4⟩ := h.back j hj
    rw [rd_at (by rw [h.len]; exact hi)] at e2
    rw [rd_at (by rw [h.len]; exact hj)] at e4
    have : a = b := by omega
    subst this
    omega
  · intro x hx
    obtain ⟨i, hi, rfl⟩ := List.mem_iff_getElem.1 hx
    have hi' : i < t.length := by rw [h.len] at hi; exact hi
    obtain ⟨a, ha, e1, e2⟩ := h.back i hi'
    rw [rd_at hi] at e2
    rw [e2, h.len]; omega
theorem Inv2.twice {t inv t2 : List Int} (h : Inv2 t inv) (h2 : Inv2 inv t2) : t2 = t := by
  apply List.ext_getElem
  · rw [h2.len, h.len]
  · intro i h1 h3
    obtain ⟨j, hj, e⟩ : ∃ j : Nat, j < t.length ∧ rd t (i : Nat) = j := by
      have := h.rng _ (List.getElem_mem h3)
      rw [rd_at h3]
      exact ⟨t[i].toNat, by omega, by omega⟩
    have e2 := h.at_ i h3
    rw [e] at e2
    have e3 := h2.at_ j (by rw [h.len]; exact hj)
    rw [e2] at e3
    rw [rd_at h1] at e3
    rw [rd_at h3] at e
    omega
theorem rdOf_set (l : List Bool) (i j : Nat) (hi : i < l.length) : rdOf false (l.set i true) ((j : Nat) : Int) = if j = i then true else rdOf false l ((j : Nat) : Int) := by
  unfold rdOf
  simp only [Int.toNat_natCast, List.getD_eq_getElem?_getD, List.getElem?_set]
  by_cases e : i = j
  · subst e; simp [hi]
  · rw [if_neg e, if_neg (Ne.symm e)]
theorem places_from (t : List Int) (hn : t.length ≤ 1000000) (d : Nat) : ∀ (i : Nat) (out : List Int) (seen : List Bool), i + d = t.length → out.length = t.length → seen.length = t.length →
    (∀ x ∈ t.take i, 0 ≤ x ∧ x < t.length) → (t.take i).Nodup → (∀ p : Nat, p < t.length → (rdOf false seen (p : Nat) = true ↔ (p : Int) ∈ t.take i)) → (∀ j : Nat, j < i → rd out (rd t (j : Nat)) = j) →
    ∃ r, Ev (fun k => suffix_Places.l0 k t out seen t (t.length : Int) (i : Int)) r ∧ Ev (fun k => haystackref5_Places.l0 k t out seen (i : Int)) r ∧ ((r = ([], 1) ∧ ¬ (t.Nodup ∧ ∀ x ∈ t, 0 ≤ x ∧ x < t.length)) ∨ ∃ inv, r = (inv, 0) ∧ Inv2 t inv) := by
  induction d with
  | zero =>
    intro i out seen hi ho hs h1 h2 h3 h4
    obtain rfl : i = t.length := by omega
    rw [List.take_length] at h1 h2
    refine ⟨(out, 0), Ev.step (f := fun _ => some (out, 0)) (fun k => ?_) (Ev.now _), Ev.step (f := fun _ => some (out, 0)) (fun k => ?_) (Ev.now _), .inr ⟨out, rfl, ⟨ho, h2, h1, h4⟩⟩⟩
    · simp only [suffix_Places.l0]; rw [if_neg (by omega)]
    · simp only [haystackref5_Places.l0]; rw [if_neg (by omega)]
  | succ d ih =>
    intro i out seen hi ho hs h1 h2 h3 h4
    have hil : i < t.length := by omega
    have hmem : t[i] ∈ t := List.getElem_mem hil
    by_cases c1 : t[i] < 0
    · refine ⟨([], 1), Ev.step (f := fun _ => some ([], 1)) (fun k => ?_) (Ev.now _), Ev.step (f := fun _ => some ([], 1)) (fun k => ?_) (Ev.now _), .inl ⟨rfl, fun h => by have := h.2 _ hmem; omega⟩⟩
      · simp only [suffix_Places.l0]; rw [if_pos (by omega), if_pos (by omega), if_pos (by omega), rd_at hil, if_pos c1]
      · simp only [haystackref5_Places.l0]; rw [if_pos (by omega), if_pos (by omega), rd_at hil, if_pos c1]
    · by_cases c2 : t[i] ≥ (t.length : Int)
      · refine ⟨([], 1), Ev.step (f := fun _ => some ([], 1)) (fun k => ?_) (Ev.now _), Ev.step (f := fun _ => some ([], 1)) (fun k => ?_) (Ev.now _), .inl ⟨rfl, fun h => by have := h.2 _ hmem; omega⟩⟩
        · simp only [suffix_Places.l0]; rw [if_pos (by omega), if_pos (by omega), if_pos (by omega), rd_at hil, if_neg c1, if_pos c2]
        · simp only [haystackref5_Places.l0]; rw [if_pos (by omega), if_pos (by omega), rd_at hil, if_neg c1, if_pos c2]
      · obtain ⟨p, hp⟩ : ∃ p : Nat, t[i] = p := ⟨t[i].toNat, by omega⟩
        have hpn : p < t.length := by omega
        by_cases c3 : rdOf false seen (p : Int) = true
        · refine ⟨([], 1), Ev.step (f := fun _ => some ([], 1)) (fun k => ?_) (Ev.now _), Ev.step (f := fun _ => some ([], 1)) (fun k => ?_) (Ev.now _), .inl ⟨rfl, fun h => ?_⟩⟩
          · simp only [suffix_Places.l0]; rw [if_pos (by omega), if_pos (by omega), if_pos (by omega), rd_at hil, if_neg c1, if_neg c2, if_pos (by omega), if_pos (by omega), hp, if_pos c3]
          · simp only [haystackref5_Places.l0]; rw [if_pos (by omega), if_pos (by omega), rd_at hil, if_neg c1, if_neg c2, if_pos (by omega), if_pos (by omega), hp, if_pos c3]
          · have hm := (h3 p hpn).1 c3
            obtain ⟨j, hj, e⟩ := List.mem_take_iff_getElem.1 hm
            have hj2 : j < i := by omega
            exact List.pairwise_iff_getElem.1 h.1 j i (by omega) hil hj2 (by omega)
        · have hnm : (p : Int) ∉ t.take i := fun h => c3 ((h3 p hpn).2 h)
          have htk := List.take_succ_eq_append_getElem hil
          have g1 : ∀ x ∈ t.take (i + 1), 0 ≤ x ∧ x < t.length := by
            intro x hx
            rw [htk] at hx
            rcases List.mem_append.1 hx with hx | hx
            · exact h1 x hx
            · simp only [List.mem_singleton] at hx; subst hx; omega
          have g2 : (t.take (i + 1)).Nodup := by
            rw [htk, List.nodup_append]
            refine ⟨h2, by simp, ?_⟩
            intro a ha b hb
            simp only [List.mem_singleton] at hb
            rintro rfl
            rw [hb, hp] at ha
            exact hnm ha
          have g3 : ∀ q : Nat, q < t.length → (rdOf false (seen.set p true) (q : Nat) = true ↔ (q : Int) ∈ t.take (i + 1)) := by
            intro q hq
            rw [rdOf_set _ _ _ (by omega), htk, List.mem_append, List.mem_singleton, hp]
            by_cases e : q = p
            · subst e; simp
            · rw [if_neg e, h3 q hq]
              constructor
              · exact .inl
              · rintro (h | h)
                · exact h
                · omega
          have g4 : ∀ j : Nat, j < i + 1 → rd (out.set p (i : Int)) (rd t (j : Nat)) = j := by
            intro j hj
            have hjl : j < t.length := by omega
            obtain ⟨q, hq⟩ : ∃ q : Nat, rd t (j : Nat) = q ∧ (j < i → (q : Int) ∈ t.take i) := by
              by_cases hji : j < i
              · have hm : t[j] ∈ t.take i := List.mem_take_iff_getElem.2 ⟨j, by omega, rfl⟩
                have := h1 _ hm
                refine ⟨t[j].toNat, by rw [rd_at hjl]; omega, fun _ => ?_⟩
                rw [show ((t[j].toNat : Nat) : Int) = t[j] from by omega]; exact hm
              · obtain rfl : j = i := by omega
                exact ⟨p, by rw [rd_at hjl]; exact hp, fun h => by omega⟩
            rw [hq.1, rd_set _ _ _ _ (by omega)]
            by_cases e : j = i
            · subst e
              have := hq.1
              rw [rd_at hjl, hp] at this
              rw [if_pos (by omega)]
            · have hm := hq.2 (by omega)
              rw [if_neg (show ¬ q = p from fun e2 => hnm (e2 ▸ hm)), ← hq.1]
              exact h4 j (by omega)
          obtain ⟨r, e1, e2, e3⟩ := ih (i + 1) (out.set p (i : Int)) (seen.set p true) (by omega) (by rw [List.length_set]; exact ho) (by rw [List.length_set]; exact hs) g1 g2 g3 g4
          refine ⟨r, Ev.step (fun k => ?_) e1, Ev.step (fun k => ?_) e2, e3⟩
          · simp only [suffix_Places.l0]; rw [if_pos (by omega), if_pos (by omega), if_pos (by omega), rd_at hil, if_neg c1, if_neg c2, if_pos (by omega), if_pos (by omega), hp, if_neg c3, if_pos (by omega), wr1 (by omega) (by omega), Int.toNat_natCast]; rfl
          · simp only [haystackref5_Places.l0]; rw [if_pos (by omega), if_pos (by omega), rd_at hil, if_neg c1, if_neg c2, if_pos (by omega), if_pos (by omega), hp, if_neg c3, if_pos (by omega), wr1 (by omega) (by omega), Int.toNat_natCast]; rfl
theorem places_ev (t : List Int) (hn : t.length ≤ 1000000) : ∃ r, Ev (fun k => suffix_Places.f k t) r ∧ Ev (fun k => haystackref5_Places.f k t) r ∧ ((r = ([], 1) ∧ ¬ (t.Nodup ∧ ∀ x ∈ t, 0 ≤ x ∧ x < t.length)) ∨ ∃ inv, r = (inv, 0) ∧ Inv2 t inv) := by
  obtain ⟨r, h1, h2, h3⟩ := places_from t hn t.length 0 (List.replicate t.length 0) (List.replicate t.length false) (by omega) (by simp) (by simp) (by simp) (by simp) (by intro p hp; simp [rdOf, List.getD_eq_getElem?_getD, hp]) (by intro j hj; omega)
  refine ⟨r, ?_, ?_, h3⟩
  · refine Ev.congr (fun k => ?_) h1
    unfold suffix_Places.f
    rw [if_pos (by omega), if_pos (by omega), if_pos (by omega), Int.toNat_natCast]; rfl
  · refine Ev.congr (fun k => ?_) h2
    unfold haystackref5_Places.f
    rw [if_pos (by omega), if_pos (by omega), if_pos (by omega), Int.toNat_natCast]; rfl
theorem places_ok (t : List Int) (hn : t.length ≤ 1000000) (h1 : t.Nodup) (h2 : ∀ x ∈ t, 0 ≤ x ∧ x < t.length) : ∃ inv, Inv2 t inv ∧ Ev (fun k => suffix_Places.f k t) (inv, 0) ∧ Ev (fun k => haystackref5_Places.f k t) (inv, 0) := by
  obtain ⟨r, e1, e2, h⟩ := places_ev t hn
  rcases h with ⟨_, h⟩ | ⟨inv, rfl, h⟩
  · exact absurd ⟨h1, h2⟩ h
  · exact ⟨inv, h, e1, e2⟩
end Go.Proofs.Ytenmgimhgdhgmaa.Pure
