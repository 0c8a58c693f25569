/- How many symbols are less than each: both functions tell the same row. -/
import Derived.Test.YtdbjbeebjigofaaPlainB
import Derived.Test.YtdbjbeebjigofaaPTx3
namespace Go.Proofs.Ytdbjbeebjigofaa.Hand
open Go.RowKit Go.Proofs.Ytdbjbeebjigofaa.Sfx Go.Proofs.Ytdbjbeebjigofaa.BwtP Go.Proofs.Ytdbjbeebjigofaa.PT Go.Proofs.Ytdbjbeebjigofaa.PK Go.Proofs.YtdbjbeebjigofaaW.PrintWords Go.Proofs.YtdbjbeebjigofaaW.PrintLast Go.Proofs.YtdbjbeebjigofaaW.PrintMore
set_option linter.unusedVariables false
set_option linter.unusedSimpArgs false
/-- A row of m + 1 numbers. -/
def rowN (m : Nat) (f : Nat → Int) : List Int := (List.range (m + 1)).map f
theorem rowN_len (m : Nat) (f : Nat → Int) : (rowN m f).length = m + 1 := by simp [rowN]
theorem rowN_at (m : Nat) (f : Nat → Int) (i : Nat) (hi : i ≤ m) : rd (rowN m f) (i : Nat) = f i := by
  rw [rd_at (by rw [rowN_len]; omega)]
  simp [rowN]
theorem rowN_set (m : Nat) (f : Nat → Int) (i : Nat) (v : Int) : (rowN m f).set i v = rowN m (fun j => if j = i then v else f j) := by
  refine List.ext_getElem (by simp [rowN]) fun j h1 h2 => ?_
  rw [List.getElem_set]
  simp only [rowN, List.getElem_map, List.getElem_range]
  by_cases e : i = j
  · rw [if_pos e, if_pos e.symm]
  · rw [if_neg e, if_neg (Ne.symm e)]
theorem rowN_congr (m : Nat) (f g : Nat → Int) (h : ∀ j, j ≤ m → f j = g j) : rowN m f = rowN m g := by
  unfold rowN
  refine List.map_congr_left fun j hj => h j ?_
  have := List.mem_range.1 hj
  omega
/-- Where a symbol is counted. -/
def bin (c : Int) : Nat := (c + 1).toNat
def hist (m : Nat) (q : List Int) (j : Nat) : Int := (q.countP fun c => decide (c < (m : Int) ∧ bin c = j) : Nat)
def less (m : Nat) (q : List Int) (j : Nat) : Int := (q.countP fun c => decide (c < (j : Int)) : Nat)
/-- The numbers of symbols that are less. -/
def countsV (m : Nat) (q : List Int) : List Int := rowN m (less m q)
theorem hist_le (m : Nat) (q : List Int) (j : Nat) : 0 ≤ hist m q j ∧ hist m q j ≤ q.length := by
  unfold hist
  have := List.countP_le_length (p := fun c => decide (c < (m : Int) ∧ bin c = j)) (l := q)
  omega
theorem less_le (m : Nat) (q : List Int) (j : Nat) : 0 ≤ less m q j ∧ less m q j ≤ q.length := by
  unfold less
  have := List.countP_le_length (p := fun c => decide (c < (j : Int))) (l := q)
  omega
theorem hist_snoc (m : Nat) (q : List Int) (c : Int) (j : Nat) : hist m (q ++ [c]) j = hist m q j + if c < (m : Int) ∧ bin c = j then 1 else 0 := by
  unfold hist
  rw [List.countP_append, List.countP_singleton]
  split <;> split <;> simp_all
theorem less_zero (m : Nat) (q : List Int) : less m q 0 = hist m q 0 := by
  unfold less hist
  congr 1
  refine List.countP_congr fun c _ => ?_
  show decide _ = true ↔ decide _ = true
  rw [decide_eq_true_iff, decide_eq_true_iff]
  unfold bin
  omega
theorem less_succ (m : Nat) (q : List Int) (j : Nat) (hj : j + 1 ≤ m) : less m q (j + 1) = less m q j + hist m q (j + 1) := by
  unfold less hist bin
  induction q with
  | nil => rfl
  | cons c q ih =>
    simp only [List.countP_cons]
    by_cases h1 : c < (j : Int)
    · have h2 : c < ((j + 1 : Nat) : Int) := by omega
      have h3 : ¬ (c < (m : Int) ∧ (c + 1).toNat = j + 1) := by omega
      simp only [h1, h2, h3, decide_true, decide_false, if_true, Bool.false_eq_true, if_false]
      omega
    · by_cases h2 : c < ((j + 1 : Nat) : Int)
      · have h3 : c < (m : Int) ∧ (c + 1).toNat = j + 1 := by omega
        simp only [h1, h2, h3, decide_true, decide_false, if_true, Bool.false_eq_true, if_false, and_self]
        omega
      · have h3 : ¬ (c < (m : Int) ∧ (c + 1).toNat = j + 1) := by omega
        simp only [h1, h2, h3, decide_false, Bool.false_eq_true, if_false]
        omega
theorem countsV_perm (m : Nat) {a b : List Int} (h : a.Perm b) : countsV m a = countsV m b := by
  unfold countsV less
  refine rowN_congr m _ _ fun j _ => ?_
  rw [h.countP_eq]
/-- While the sums are made. -/
def mid (m : Nat) (q : List Int) (i : Nat) : List Int := rowN m fun j => if j < i then less m q j else hist m q j
theorem mid_one (m : Nat) (q : List Int) : mid m q 1 = rowN m (hist m q) := by
  refine rowN_congr m _ _ fun j _ => ?_
  by_cases e : j < 1
  · rw [if_pos e, show j = 0 from by omega, less_zero]
  · rw [if_neg e]
theorem mid_all (m : Nat) (q : List Int) : mid m q (m + 1) = countsV m q := rowN_congr m _ _ fun j hj => by rw [if_pos (by omega)]
theorem mid_step (m : Nat) (q : List Int) (i : Nat) (hi : 1 ≤ i) (him : i ≤ m) : (mid m q i).set i (rd (mid m q i) (i : Nat) + rd (mid m q i) ((i - 1 : Nat) : Int)) = mid m q (i + 1) := by
  unfold mid
  rw [rowN_at _ _ _ him, rowN_at _ _ _ (by omega), rowN_set]
  refine rowN_congr m _ _ fun j hj => ?_
  by_cases e : j = i
  · subst e
    rw [if_pos rfl, if_neg (by omega), if_pos (by omega), if_pos (by omega)]
    obtain ⟨i, rfl⟩ : ∃ n, j = n + 1 := ⟨j - 1, by omega⟩
    rw [less_succ m q i him, Nat.add_sub_cancel]
    omega
  · rw [if_neg e]
    by_cases e2 : j < i
    · rw [if_pos e2, if_pos (by omega)]
    · rw [if_neg e2, if_neg (by omega)]
theorem hist_set (m : Nat) (q : List Int) (c : Int) (hc : c < m) : (rowN m (hist m q)).set (bin c) (hist m q (bin c) + 1) = rowN m (hist m (q ++ [c])) := by
  rw [rowN_set]
  refine rowN_congr m _ _ fun j hj => ?_
  rw [hist_snoc]
  by_cases e : j = bin c
  · rw [if_pos e, if_pos ⟨hc, e.symm⟩, e]
  · rw [if_neg e, if_neg (fun h => e h.2.symm)]; omega
theorem hist_skip (m : Nat) (q : List Int) (c : Int) (hc : ¬ c < m) : rowN m (hist m q) = rowN m (hist m (q ++ [c])) :=
  rowN_congr m _ _ fun j hj => by rw [hist_snoc, if_neg (fun h => hc h.1)]; omega
theorem hist_nil (m : Nat) : rowN m (hist m []) = List.replicate (m + 1) 0 := by
  refine List.ext_getElem (by simp [rowN]) fun j h1 h2 => ?_
  simp [rowN, hist]

theorem sums_ev (l : List Int) (hl : l.length ≤ 1000000) (m : Nat) (hm : m ≤ 65536) (d : Nat) : ∀ i : Nat, 1 ≤ i → i + d = m + 1 → Ev (fun k => bwt_Counts.l1 k (m : Int) (mid m l i) (i : Int)) (countsV m l) := by
  induction d with
  | zero =>
    intro i h1 hi
    refine Ev.ret (Ev.step (f := fun _ => some (mid m l i)) (fun k => ?_) (Ev.now _)) ?_
    · simp only [bwt_Counts.l1]; rw [if_neg (by omega)]
    · rw [show i = m + 1 from by omega, mid_all]
  | succ d ih =>
    intro i h1 hi
    refine Ev.step (fun k => ?_) (ih (i + 1) (by omega) (by omega))
    have hlen : (mid m l i).length = m + 1 := rowN_len _ _
    have b1 := less_le m l (i - 1)
    have b2 := hist_le m l i
    simp only [bwt_Counts.l1]
    rw [if_pos (by omega), if_pos (by omega), if_pos (by omega), wr1 (x := (i : Int) - 1) (by omega) (by omega), if_pos (by omega), if_pos (by omega), wr1 (x := (i : Int) + 1) (by omega) (by omega), show (i : Int) - 1 = ((i - 1 : Nat) : Int) from by omega]
    have hv : rd (mid m l i) (i : Nat) + rd (mid m l i) ((i - 1 : Nat) : Int) = hist m l i + less m l (i - 1) := by
      unfold mid
      rw [rowN_at _ _ _ (by omega), rowN_at _ _ _ (by omega), if_neg (by omega), if_pos (by omega)]
    rw [wr1 (x := rd (mid m l i) (i : Nat) + rd (mid m l i) ((i - 1 : Nat) : Int)) (by rw [hv]; omega) (by rw [hv]; omega), Int.toNat_natCast, mid_step m l i h1 (by omega)]
    rfl
theorem counts_from (l : List Int) (hl : l.length ≤ 1000000) (hw : ∀ x ∈ l, -9223372036854775808 ≤ x) (m : Nat) (hm : m ≤ 65536) (hm1 : 1 ≤ m) (d : Nat) : ∀ i : Nat, i + d = l.length →
    Ev (fun k => bwt_Counts.l0 k (m : Int) (rowN m (hist m (l.take i))) l (l.length : Int) (i : Int)) (countsV m l) := by
  induction d with
  | zero =>
    intro i hi
    rw [List.take_of_length_le (by omega)]
    refine Ev.step (fun k => ?_) (sums_ev l hl m hm m 1 (by omega) (by omega))
    simp only [bwt_Counts.l0]
    rw [if_neg (by omega), mid_one]
    rfl
  | succ d ih =>
    intro i hi
    have h : i < l.length := by omega
    have hlow := hw _ (List.getElem_mem h)
    refine Ev.step (fun k => ?_) (ih (i + 1) (by omega))
    simp only [bwt_Counts.l0]
    rw [if_pos (by omega), if_pos (by omega), if_pos (by omega), List.take_succ_eq_append_getElem h, rd_at h, wr1 (x := (i : Int) + 1) (by omega) (by omega)]
    by_cases hc : l[i] < (m : Int)
    · have hb : mx 0 (l[i] + 1) = (bin l[i] : Int) := by unfold mx bin; split <;> omega
      have hbm : bin l[i] ≤ m := by unfold bin; omega
      have b2 := hist_le m (l.take i) (bin l[i])
      have hlt : (l.take i).length ≤ 1000000 := by simp; omega
      rw [if_pos hc, wr1 (x := l[i] + 1) (by omega) (by omega), hb, if_pos (by omega), if_pos (by rw [rowN_len]; omega), Int.toNat_natCast, rowN_at _ _ _ hbm, wr1 (x := hist m (l.take i) (bin l[i]) + 1) (by omega) (by omega), hist_set m _ _ hc]
      rfl
    · rw [if_neg hc, hist_skip m _ _ hc]
      rfl
/-- How many symbols there are. -/
def mostOf (width : Int) : Nat := 2 ^ (mx 0 (mn 16 width)).toNat
theorem mostOf_le (w : Int) : 1 ≤ mostOf w ∧ mostOf w ≤ 65536 := by
  unfold mostOf
  have h : (mx 0 (mn 16 w)).toNat ≤ 16 := by unfold mx mn; split <;> split <;> omega
  exact ⟨Nat.one_le_two_pow, Nat.le_trans (Nat.pow_le_pow_right (by omega) h) (by decide)⟩
theorem counts_ev (l : List Int) (hl : l.length ≤ 1000000) (hw : ∀ x ∈ l, -9223372036854775808 ≤ x) (w : Int) : Ev (fun k => bwt_Counts.f k l w) (countsV (mostOf w) l) := by
  obtain ⟨h1, h2⟩ := mostOf_le w
  have e2 : (2 : Int) ^ (mx 0 (mn 16 w)).toNat = (mostOf w : Int) := by
    unfold mostOf
    rw [Int.natCast_pow]
    rfl
  have e : wrap64 (2 ^ (mx 0 (mn 16 w)).toNat) = (mostOf w : Int) := by
    rw [e2, wr1 (by omega) (by omega)]
  unfold bwt_Counts.f
  rw [e, wr1 (x := (mostOf w : Int) + 1) (by omega) (by omega)]
  simp only [show (0 : Int) ≤ (mostOf w : Int) + 1 from by omega, if_true, show ((mostOf w : Int) + 1).toNat = mostOf w + 1 from by omega, show mostOf w + 1 ≤ 35184372088832 from by omega]
  rw [← hist_nil]
  exact counts_from l hl hw (mostOf w) h2 h1 l.length 0 (by omega)

/-! ### the document's -/
theorem rsums_ev (l : List Int) (hl : l.length ≤ 1000000) (m : Nat) (hm : m ≤ 65536) (d : Nat) : ∀ i : Nat, 1 ≤ i → i + d = m + 1 → Ev (fun k => haystackref6_Counts.l1 k (mid m l i) (i : Int)) (countsV m l) := by
  induction d with
  | zero =>
    intro i h1 hi
    have hlen : (mid m l i).length = m + 1 := rowN_len _ _
    refine Ev.ret (Ev.step (f := fun _ => some (mid m l i)) (fun k => ?_) (Ev.now _)) ?_
    · simp only [haystackref6_Counts.l1]; rw [if_neg (by omega)]
    · rw [show i = m + 1 from by omega, mid_all]
  | succ d ih =>
    intro i h1 hi
    refine Ev.step (fun k => ?_) (ih (i + 1) (by omega) (by omega))
    have hlen : (mid m l i).length = m + 1 := rowN_len _ _
    have b1 := less_le m l (i - 1)
    have b2 := hist_le m l i
    simp only [haystackref6_Counts.l1]
    rw [if_pos (by omega), if_pos (by omega), wr1 (x := (i : Int) - 1) (by omega) (by omega), if_pos (by omega), if_pos (by omega), wr1 (x := (i : Int) + 1) (by omega) (by omega), show (i : Int) - 1 = ((i - 1 : Nat) : Int) from by omega]
    have hv : rd (mid m l i) (i : Nat) + rd (mid m l i) ((i - 1 : Nat) : Int) = hist m l i + less m l (i - 1) := by
      unfold mid
      rw [rowN_at _ _ _ (by omega), rowN_at _ _ _ (by omega), if_neg (by omega), if_pos (by omega)]
    rw [wr1 (x := rd (mid m l i) (i : Nat) + rd (mid m l i) ((i - 1 : Nat) : Int)) (by rw [hv]; omega) (by rw [hv]; omega), Int.toNat_natCast, mid_step m l i h1 (by omega)]
    rfl
theorem rcounts_from (l : List Int) (hl : l.length ≤ 1000000) (hw : ∀ x ∈ l, -9223372036854775808 ≤ x) (w : Int) (m : Nat) (hm : m ≤ 65536) (hm1 : 1 ≤ m) (hu : 0 ≤ IntKind.u64.wrap w) (hs : shl .i64 1 (IntKind.u64.wrap w) = m) (d : Nat) : ∀ i : Nat, i + d = l.length →
    Ev (fun k => haystackref6_Counts.l0 k l w (rowN m (hist m (l.take i))) (i : Int)) (countsV m l) := by
  induction d with
  | zero =>
    intro i hi
    rw [List.take_of_length_le (by omega)]
    refine Ev.step (fun k => ?_) (rsums_ev l hl m hm m 1 (by omega) (by omega))
    simp only [haystackref6_Counts.l0]
    rw [if_neg (by omega), mid_one]
    rfl
  | succ d ih =>
    intro i hi
    have h : i < l.length := by omega
    have hlow := hw _ (List.getElem_mem h)
    have hlt : (l.take i).length ≤ 1000000 := by simp; omega
    have b2 := hist_le m (l.take i) (bin l[i])
    refine Ev.step (fun k => ?_) (ih (i + 1) (by omega))
    simp only [haystackref6_Counts.l0]
    rw [if_pos (by omega), if_pos (by omega), List.take_succ_eq_append_getElem h, rd_at h, wr1 (x := (i : Int) + 1) (by omega) (by omega)]
    by_cases hneg : l[i] < 0
    · have hb : bin l[i] = 0 := by unfold bin; omega
      have hr : rd (rowN m (hist m (l.take i))) 0 = hist m (l.take i) 0 := rowN_at m _ 0 (by omega)
      rw [hb] at b2
      rw [if_pos hneg, if_pos (by rw [rowN_len]; omega), hr, wr1 (x := hist m (l.take i) 0 + 1) (by omega) (by omega), ← hist_set m _ _ (show l[i] < (m : Int) by omega), hb]
      rfl
    · rw [if_neg hneg, if_pos hu, hs]
      by_cases hc : l[i] < (m : Int)
      · have hb : l[i] + 1 = (bin l[i] : Int) := by unfold bin; omega
        have hbm : bin l[i] ≤ m := by unfold bin; omega
        rw [if_pos hc, wr1 (x := l[i] + 1) (by omega) (by omega), hb, if_pos (by omega), if_pos (by rw [rowN_len]; omega), Int.toNat_natCast, rowN_at _ _ _ hbm, wr1 (x := hist m (l.take i) (bin l[i]) + 1) (by omega) (by omega), hist_set m _ _ hc]
        rfl
      · rw [if_neg hc, hist_skip m _ _ hc]
        rfl
theorem shl_small (n : Nat) (hn : n ≤ 16) : 0 ≤ IntKind.u64.wrap (n : Int) ∧ shl .i64 1 (IntKind.u64.wrap (n : Int)) = ((2 ^ n : Nat) : Int) := by
  have h : n = 0 ∨ n = 1 ∨ n = 2 ∨ n = 3 ∨ n = 4 ∨ n = 5 ∨ n = 6 ∨ n = 7 ∨ n = 8 ∨ n = 9 ∨ n = 10 ∨ n = 11 ∨ n = 12 ∨ n = 13 ∨ n = 14 ∨ n = 15 ∨ n = 16 := by omega
  rcases h with rfl | rfl | rfl | rfl | rfl | rfl | rfl | rfl | rfl | rfl | rfl | rfl | rfl | rfl | rfl | rfl | rfl <;> exact ⟨by decide, by decide⟩
theorem rcounts_ev (l : List Int) (hl : l.length ≤ 1000000) (hw : ∀ x ∈ l, -9223372036854775808 ≤ x) (w : Int) : Ev (fun k => haystackref6_Counts.f k l w) (countsV (mostOf w) l) := by
  obtain ⟨h1, h2⟩ := mostOf_le w
  have e0 : mx 0 (mn w 16) = mx 0 (mn 16 w) := by unfold mx mn; repeat (first | omega | split)
  have e2 : (2 : Int) ^ (mx 0 (mn 16 w)).toNat = (mostOf w : Int) := by
    unfold mostOf
    rw [Int.natCast_pow]
    rfl
  have e : wrap64 (2 ^ (mx 0 (mn 16 w)).toNat) = (mostOf w : Int) := by
    rw [e2, wr1 (by omega) (by omega)]
  have hr : 0 ≤ mx 0 (mn 16 w) ∧ (mx 0 (mn 16 w)).toNat ≤ 16 := by unfold mx mn; split <;> split <;> omega
  obtain ⟨s1, s2⟩ := shl_small _ hr.2
  rw [Int.toNat_of_nonneg hr.1] at s1 s2
  unfold haystackref6_Counts.f
  rw [e0, e, wr1 (x := (mostOf w : Int) + 1) (by omega) (by omega)]
  simp only [show (0 : Int) ≤ (mostOf w : Int) + 1 from by omega, if_true, show ((mostOf w : Int) + 1).toNat = mostOf w + 1 from by omega, show mostOf w + 1 ≤ 35184372088832 from by omega]
  rw [← hist_nil]
  exact rcounts_from l hl hw _ (mostOf w) h2 h1 s1 s2 l.length 0 (by omega)
theorem low_of_wf {x : Int} (h : (Lit.int .i64 x).wf = true) : -9223372036854775808 ≤ x ∧ x ≤ 9223372036854775807 := by
  simp [Lit.wf, IntKind.min, IntKind.max, IntKind.signed, IntKind.bits] at h
  omega
end Go.Proofs.Ytdbjbeebjigofaa.Hand
