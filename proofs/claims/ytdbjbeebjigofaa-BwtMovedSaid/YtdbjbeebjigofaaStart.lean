/- The first order of a row's endings: by the place of the first symbol among all symbols. Plain lists. -/
import Derived.Test.YtdbjbeebjigofaaByKey
import Derived.Lib.SlicesCompact
namespace Go.Proofs.Ytdbjbeebjigofaa.Sfx
open Go.RowKit Go.Proofs.YtdbjbeebjigofaaW.PrintWords Go.Proofs.YtdbjbeebjigofaaW.PrintLast
set_option linter.unusedVariables false
set_option linter.unusedSimpArgs false

abbrev sortI (s : List Int) : List Int := s.mergeSort fun x y => decide (x ≤ y)
theorem sortI_perm (s : List Int) : (sortI s).Perm s := List.mergeSort_perm _ _
theorem sortI_pairwise (s : List Int) : (sortI s).Pairwise (· ≤ ·) := by
  have := List.pairwise_mergeSort (le := fun x y : Int => decide (x ≤ y)) (by intro a b c h1 h2; simp at *; omega) (by intro a b; simp; omega) s
  exact this.imp (by intro a b h; simpa using h)

theorem arr_get (d : List Int) (j : Nat) (h : j < d.length) : d.toArray[j]! = d[j] := by simp [h]
theorem compact_upto (d : List Int) (hs : d.Pairwise (· ≤ ·)) : ∀ m, m ≤ d.length → (Lib.compactUpTo d.toArray m).Pairwise (· < ·) ∧ (∀ x, x ∈ Lib.compactUpTo d.toArray m ↔ x ∈ d.take m) ∧ (Lib.compactUpTo d.toArray m).length ≤ m ∧ ((Lib.compactUpTo d.toArray m).length = m → Lib.compactUpTo d.toArray m = d.take m)
  | 0, _ => by simp [Lib.compactUpTo]
  | m + 1, h => by
    obtain ⟨h1, h2, h3, h4⟩ := compact_upto d hs m (by omega)
    have hg := List.pairwise_iff_getElem.1 hs
    rw [Lib.compactUpTo_succ, List.take_succ_eq_append_getElem (show m < d.length by omega)]
    have hm := arr_get d m (by omega)
    by_cases hk : Lib.keeps d.toArray m = true
    · rw [if_pos hk, hm]
      refine ⟨?_, fun x => ?_, ?_, fun e => ?_⟩
      · rw [List.pairwise_append]
        refine ⟨h1, by simp, fun a ha b hb => ?_⟩
        simp only [List.mem_singleton] at hb
        subst hb
        rw [h2] at ha
        rcases Nat.eq_zero_or_pos m with h0 | h0
        · subst h0; simp at ha
        · have hm1 := arr_get d (m - 1) (by omega)
          obtain ⟨j, hj, e⟩ := List.mem_iff_getElem.1 ha
          rw [List.getElem_take] at e
          rw [List.length_take] at hj
          have hle : a ≤ d[m - 1] := by
            rw [← e]
            rcases Nat.lt_or_ge j (m - 1) with h | h
            · exact hg j (m - 1) (by omega) (by omega) h
            · have : j = m - 1 := by omega
              subst this; exact Int.le_refl _
          have hle2 := hg (m - 1) m (by omega) (by omega) (by omega)
          unfold Lib.keeps at hk
          rw [hm, hm1] at hk
          simp only [decide_eq_true_eq] at hk
          rcases hk with hk | hk <;> omega
      · rw [List.mem_append, List.mem_append, h2]
      · simp; omega
      · rw [List.length_append, List.length_singleton] at e
        rw [h4 (by omega)]
    · rw [if_neg hk, List.append_nil]
      have h0 : 0 < m := by
        rcases Nat.eq_zero_or_pos m with h0 | h0
        · subst h0; exact absurd (Lib.keeps_lt_one _ 0 (by omega)) hk
        · exact h0
      have hm1 := arr_get d (m - 1) (by omega)
      have e : d[m] = d[m - 1] := by
        unfold Lib.keeps at hk
        rw [hm, hm1] at hk
        simp only [decide_eq_true_eq] at hk
        exact Classical.byContradiction fun h => hk (.inr h)
      refine ⟨h1, fun x => ?_, by omega, fun e => by omega⟩
      rw [h2, List.mem_append, List.mem_singleton]
      refine ⟨.inl, ?_⟩
      rintro (hx | hx)
      · exact hx
      · rw [hx, e]
        rw [List.mem_take_iff_getElem]
        exact ⟨m - 1, by omega, rfl⟩
theorem compact_sorted (s : List Int) : (Lib.compact (sortI s)).Pairwise (· < ·) ∧ (∀ x, x ∈ Lib.compact (sortI s) ↔ x ∈ s) ∧ (Lib.compact (sortI s)).length ≤ s.length ∧ ((Lib.compact (sortI s)).length = s.length → s.Nodup) := by
  have hl : (sortI s).length = s.length := (sortI_perm s).length_eq
  obtain ⟨h1, h2, h3, h4⟩ := compact_upto (sortI s) (sortI_pairwise s) (sortI s).length (Nat.le_refl _)
  rw [List.take_length] at h2 h4
  refine ⟨h1, fun x => (h2 x).trans (sortI_perm s).mem_iff, by rw [← hl]; exact h3, fun e => ?_⟩
  have e2 := h4 (e.trans hl.symm)
  have h1' : (sortI s).Pairwise (· < ·) := by
    have := h1
    rw [e2] at this
    exact this
  exact (sortI_perm s).nodup (h1'.imp (by intro a b h; omega))

theorem countP_lt_mono (C : List Int) {x y : Int} (h : x ≤ y) : C.countP (fun c => decide (c < x)) ≤ C.countP (fun c => decide (c < y)) :=
  List.countP_mono_left (by intro c _ hc; simp at *; omega)
theorem countP_lt_strict (C : List Int) {x y : Int} (hm : x ∈ C) (h : x < y) : C.countP (fun c => decide (c < x)) < C.countP (fun c => decide (c < y)) := by
  induction C with
  | nil => cases hm
  | cons c C ih =>
    rw [List.countP_cons, List.countP_cons]
    rcases List.mem_cons.1 hm with e | hm
    · subst e
      have := countP_lt_mono C (Int.le_of_lt h)
      rw [if_neg (by simp), if_pos (by simpa using h)]
      omega
    · have := ih hm
      by_cases hc : c < x
      · rw [if_pos (by simpa using hc), if_pos (by simp; omega)]; omega
      · rw [if_neg (by simpa using hc)]; omega
theorem countP_lt_len (C : List Int) {x : Int} (hm : x ∈ C) : C.countP (fun c => decide (c < x)) < C.length := by
  induction C with
  | nil => cases hm
  | cons c C ih =>
    rw [List.countP_cons, List.length_cons]
    rcases List.mem_cons.1 hm with e | hm
    · subst e
      have := List.countP_le_length (p := fun c => decide (c < x)) (l := C)
      rw [if_neg (by simp)]; omega
    · have := ih hm
      split <;> omega
theorem pre_one (s : List Int) (p : Int) (h0 : 0 ≤ p) (h1 : p < s.length) : pre s 1 p = [rd s p] := by
  obtain ⟨i, rfl⟩ := Int.eq_ofNat_of_zero_le h0
  have hi : i < s.length := by omega
  show (s.drop ((i : Int).toNat)).take 1 = [rd s (i : Int)]
  rw [rd_at hi, Int.toNat_natCast, List.drop_eq_getElem_cons hi]
  rfl
theorem rd_mem {s : List Int} {p : Int} (h0 : 0 ≤ p) (h1 : p < s.length) : rd s p ∈ s := by
  obtain ⟨i, rfl⟩ := Int.eq_ofNat_of_zero_le h0
  have hi : i < s.length := by omega
  show rd s (i : Int) ∈ s
  rw [rd_at hi]
  exact List.getElem_mem _
/-- The place of a symbol among all that there are. -/
def rank0 (s : List Int) (p : Int) : Int := ((Lib.compact (sortI s)).countP (fun c => decide (c < rd s p)) : Nat)
theorem ranked0 (s : List Int) : Ranked s 1 (rank0 s) (Lib.compact (sortI s)).length := by
  obtain ⟨h1, h2, _, _⟩ := compact_sorted s
  refine ⟨fun a b ha ha2 hb hb2 => ?_, fun a _ _ => by unfold rank0; omega, fun a ha ha2 => ?_⟩
  · rw [pre_one s a ha ha2, pre_one s b hb hb2]
    unfold rank0
    have e : ltL [rd s a] [rd s b] = true ↔ rd s a < rd s b := by
      simp only [ltL]
      split
      · rename_i e; rw [e]; simp
      · simp
    rw [e]
    constructor
    · intro h
      rcases Int.lt_or_le (rd s a) (rd s b) with h3 | h3
      · exact h3
      · have := countP_lt_mono (Lib.compact (sortI s)) h3
        omega
    · intro h
      have := countP_lt_strict (Lib.compact (sortI s)) ((h2 _).2 (rd_mem ha ha2)) h
      omega
  · have := countP_lt_len (Lib.compact (sortI s)) ((h2 _).2 (rd_mem ha ha2))
    unfold rank0
    omega
/-- What holds at the head of each doubling. -/
structure Inv (s : List Int) (k : Nat) (sa : List Int) (rank : Int → Int) (many : Int) : Prop where
  perm : sa.Perm (iota s.length)
  up : sa.Pairwise (fun a b => leL (pre s k a) (pre s k b) = true)
  ranked : Ranked s k rank many
  many0 : 0 ≤ many
  manyn : many ≤ s.length
  full : (s.length : Int) ≤ many → sa.Pairwise (fun a b => ltL (pre s k a) (pre s k b) = true)
  pos : 0 < k
theorem Inv.len {s : List Int} {k : Nat} {sa : List Int} {rank : Int → Int} {many : Int} (h : Inv s k sa rank many) : sa.length = s.length := by rw [h.perm.length_eq, iota_len]
theorem inv0 (s : List Int) : Inv s 1 (bucket (iota s.length) (rank0 s) (Lib.compact (sortI s)).length) (rank0 s) (Lib.compact (sortI s)).length := by
  obtain ⟨h1, h2, h3, h4⟩ := compact_sorted s
  have hr := ranked0 s
  have hp := bucket_perm (iota s.length) (rank0 s) (Lib.compact (sortI s)).length (fun p hp => by
    have := mem_iota.1 hp
    exact ⟨hr.lo p this.1 this.2, hr.hi p this.1 this.2⟩)
  have hu := bucket_pairwise (iota s.length) (rank0 s) (iota_pairwise s.length) (Lib.compact (sortI s)).length
  refine ⟨hp, ?_, hr, by omega, by omega, fun hf => ?_, by omega⟩
  · refine List.Pairwise.imp_of_mem ?_ hu
    intro a b ha hb hab
    have ma := mem_iota.1 (hp.subset ha)
    have mb := mem_iota.1 (hp.subset hb)
    rcases hab with hab | ⟨e, _⟩
    · exact leL_of_lt ((hr.lt a b ma.1 ma.2 mb.1 mb.2).1 hab)
    · rw [(hr.eq ma.1 ma.2 mb.1 mb.2).1 e]; exact leL_refl _
  · have hnd := h4 (by omega)
    refine List.Pairwise.imp_of_mem ?_ hu
    intro a b ha hb hab
    have ma := mem_iota.1 (hp.subset ha)
    have mb := mem_iota.1 (hp.subset hb)
    rcases hab with hab | ⟨e, hlt⟩
    · exact (hr.lt a b ma.1 ma.2 mb.1 mb.2).1 hab
    · exfalso
      have e2 := (hr.eq ma.1 ma.2 mb.1 mb.2).1 e
      rw [pre_one s a ma.1 ma.2, pre_one s b mb.1 mb.2] at e2
      have e3 : rd s a = rd s b := by simpa using e2
      obtain ⟨i, rfl⟩ := Int.eq_ofNat_of_zero_le ma.1
      obtain ⟨j, rfl⟩ := Int.eq_ofNat_of_zero_le mb.1
      have hi : i < s.length := by omega
      have hj : j < s.length := by omega
      have e4 : rd s (i : Int) = rd s (j : Int) := e3
      rw [rd_at hi, rd_at hj] at e4
      exact List.pairwise_iff_getElem.1 hnd i j hi hj (by omega) e4
/-- One doubling: the new order, the new ranks. -/
theorem Inv.next {s : List Int} {k : Nat} {sa : List Int} {rank : Int → Int} {m : Nat} (h : Inv s k sa rank m) (hk : k ≤ s.length) (hn : 0 < s.length) (rank' : Int → Int)
    (hr : ∀ i : Nat, i < s.length → rank' (rd (bucket (bySecond s.length k sa) rank m) (i : Nat)) = climb s (2 * k) (bucket (bySecond s.length k sa) rank m) i) :
    Inv s (2 * k) (bucket (bySecond s.length k sa) rank m) rank' (climb s (2 * k) (bucket (bySecond s.length k sa) rank m) (s.length - 1) + 1) := by
  obtain ⟨hp, hu⟩ := sorted_double h.ranked hk h.perm h.up m rfl
  have hl : (bucket (bySecond s.length k sa) rank m).length = s.length := by rw [hp.length_eq, iota_len]
  have hc := climb_lo s (2 * k) (bucket (bySecond s.length k sa) rank m) (s.length - 1)
  exact ⟨hp, hu, ranked_climb hp hu (fun i hi => hr i (by omega)), by omega, by omega, fun hf => strict_of_climb hp hu hf, by have := h.pos; omega⟩
theorem Inv.small {s : List Int} {k : Nat} {sa : List Int} {rank : Int → Int} {many : Int} (h : Inv s k sa rank many) (hf : many < s.length) : k < s.length := lt_of_few h.ranked h.perm h.up h.many0 hf
theorem Inv.done {s : List Int} {k : Nat} {sa : List Int} {rank : Int → Int} {many : Int} (h : Inv s k sa rank many) (hf : (s.length : Int) ≤ many) : IsSA s sa := isSA_of_strict h.perm (h.full hf)
end Go.Proofs.Ytdbjbeebjigofaa.Sfx
