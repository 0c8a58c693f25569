/- PlaceSpreads, its plain part: for every number of shards, of replicas, and every list of at most 100 nodes the program's Spread is the reference's. No condition beyond the statement's. -/
import Derived.Test.YtiobjanmkhdpdaaSpread
import Derived.Test.YtiobjanmkhdpdaaPPlx4
namespace Go.Proofs.Ytiobjanmkhdpdaa.Pure
open Go.RowKit Go.Proofs.Ytiobjanmkhdpdaa.Hand Go.Proofs.Ytiobjanmkhdpdaa.PPl Go.Proofs.YtiobjanmkhdpdaaW.PrintWords Go.Proofs.YtiobjanmkhdpdaaW.PrintLast

theorem isort_snoc (l : List Int) (x : Int) : isort (l ++ [x]) = ins (isort l) x := by simp [isort]
theorem ins_length (l : List Int) (x : Int) : (ins l x).length = l.length + 1 := by simpa using (ins_perm l x).length_eq
theorem isort_length (l : List Int) : (isort l).length = l.length := by simpa [isort] using (foldl_ins_perm l []).length_eq
theorem ins_at (x : Int) : ∀ (l : List Int) (j : Nat), (∀ i, i < j → l.getD i 0 < x) → j ≤ l.length → (j = l.length ∨ ¬ l.getD j 0 < x) → ins l x = (l.take j ++ [x]) ++ l.drop j
  | [], j, _, hj, _ => by
    obtain rfl : j = 0 := by simpa using hj
    rfl
  | y :: l, 0, _, _, h => by
    have hy : ¬ y < x := by
      rcases h with h | h
      · simp at h
      · simpa using h
    unfold ins
    rw [List.takeWhile_cons, List.dropWhile_cons]
    simp [hy]
  | y :: l, j + 1, hlt, hj, h => by
    have hy : y < x := by simpa using hlt 0 (by omega)
    have ih := ins_at x l j (fun i hi => by simpa using hlt (i + 1) (by omega)) (by simpa using hj) (by simpa using h)
    unfold ins at ih ⊢
    rw [List.takeWhile_cons, List.dropWhile_cons]
    simp only [hy, decide_true, if_true, List.cons_append, List.take_succ_cons, List.drop_succ_cons]
    rw [ih]

theorem ref_l4 (l : List Int) (S r s m : Int) (out : List (List Int)) (a : List Int) (ha : a.length ≤ 100) (x : Int) (R : List (List Int) × Int)
    (h : Ev (fun k => haystackref20_Spread.l3 k S r l out s (ins a x) (wrap64 (m + 1))) R) (d : Nat) : ∀ j, j + d = a.length → (∀ i, i < j → a.getD i 0 < x) →
    Ev (fun k => haystackref20_Spread.l4 k S r l out s a m x (j : Int)) R := by
  induction d with
  | zero =>
    intro j hj hlt
    refine Ev.step (fun k => ?_) h
    simp only [haystackref20_Spread.l4]
    rw [if_neg (by omega)]
    simp only [Option.bind_some, List.nil_append, Int.toNat_natCast, List.length_take, List.length_append, List.length_drop, List.length_cons, List.length_nil]
    rw [if_pos (by omega), if_pos (by omega), if_pos (by omega), if_pos (by omega), if_pos (by omega), ins_at x a j hlt (by omega) (.inl (by omega))]
  | succ d ih =>
    intro j hj hlt
    by_cases hx : a.getD j 0 < x
    · refine Ev.step (fun k => ?_) (ih (j + 1) (by omega) (fun i hi => ?_))
      · simp only [haystackref20_Spread.l4]
        rw [if_pos (by omega), if_pos (by omega), rd_nat, if_pos hx, wrap_next j (by omega)]
      · rcases Nat.lt_or_ge i j with hij | hij
        · exact hlt i hij
        · obtain rfl : i = j := by omega
          exact hx
    · refine Ev.step (fun k => ?_) h
      simp only [haystackref20_Spread.l4]
      rw [if_pos (by omega), if_pos (by omega), rd_nat, if_neg hx]
      simp only [Option.bind_some, List.nil_append, Int.toNat_natCast, List.length_take, List.length_append, List.length_drop, List.length_cons, List.length_nil]
      rw [if_pos (by omega), if_pos (by omega), if_pos (by omega), if_pos (by omega), ins_at x a j hlt (by omega) (.inr hx)]
theorem ref_l3 (l : List Int) (hl : 1 ≤ l.length) (hl7 : l.length ≤ 7) (S r s : Nat) (hS : S ≤ 8) (hr : r ≤ l.length) (hs : s < S) (out : List (List Int)) (ho : out.length ≤ 8) (R : List (List Int) × Int)
    (h : Ev (fun k => haystackref20_Spread.l2 k (S : Int) (r : Int) l (out ++ [isort (taken l s r)]) ((s + 1 : Nat) : Int)) R) (d : Nat) : ∀ m, m + d = r →
    Ev (fun k => haystackref20_Spread.l3 k (S : Int) (r : Int) l out (s : Int) (isort (taken l s m)) (m : Int)) R := by
  induction d with
  | zero =>
    intro m hm
    obtain rfl : m = r := by omega
    refine Ev.step (fun k => ?_) h
    simp only [haystackref20_Spread.l3]
    rw [if_neg (by omega), if_pos (by omega), wrap_next s (by omega)]
  | succ d ih =>
    intro m hm
    have hlen := taken_length l s m
    have hlt := Nat.mod_lt (s + m) (show 0 < l.length by omega)
    have h4 := ref_l4 l (S : Int) (r : Int) (s : Int) (m : Int) out (isort (taken l s m)) (by rw [isort_length, hlen]; omega) (l.getD ((s + m) % l.length) 0) R (by
      have := ih (m + 1) (by omega)
      rw [show taken l s (m + 1) = taken l s m ++ [l.getD ((s + m) % l.length) 0] from rfl, isort_snoc] at this
      rw [wrap_next m (by omega)]
      exact this) _ 0 (Nat.zero_add _) (fun i hi => absurd hi (by omega))
    refine Ev.step (fun k => ?_) h4
    simp only [haystackref20_Spread.l3]
    rw [if_pos (by omega), if_neg (by omega), tmod_at l s m (by omega) (by omega), if_pos (by omega), if_pos (by omega), rd_nat]
    rfl
theorem ref_l2 (l : List Int) (hl : 1 ≤ l.length) (hl7 : l.length ≤ 7) (S r : Nat) (hS : S ≤ 8) (hr : r ≤ l.length) (d : Nat) : ∀ s, s + d = S →
    Ev (fun k => haystackref20_Spread.l2 k (S : Int) (r : Int) l (shardsOf l r s) (s : Int)) (shardsOf l r S, 0) := by
  induction d with
  | zero =>
    intro s hs
    obtain rfl : s = S := by omega
    refine Ev.step (f := fun _ => some (shardsOf l r s, 0)) (fun k => ?_) (Ev.now _)
    simp only [haystackref20_Spread.l2]
    rw [if_neg (by omega)]
  | succ d ih =>
    intro s hs
    refine Ev.step (fun k => ?_) (ref_l3 l hl hl7 S r s hS hr (by omega) (shardsOf l r s) (by rw [shardsOf_length]; omega) _ (ih (s + 1) (by omega)) r 0 (by omega))
    simp only [haystackref20_Spread.l2]
    rw [if_pos (by omega)]
    rfl
/-- Is node i found among those from j on, ahead of i? -/
theorem ref_l1 (l : List Int) (hl7 : l.length ≤ 7) (S r : Int) (i : Nat) (hi : i < l.length) (R : List (List Int) × Int)
    (h : (l.take i).contains (l.getD i 0) = false → Ev (fun k => haystackref20_Spread.l0 k S r l ((i + 1 : Nat) : Int)) R) (hbad : (l.take i).contains (l.getD i 0) = true → R = ([], 1)) (d : Nat) :
    ∀ j, j + d = i → (∀ q, q < j → l.getD q 0 ≠ l.getD i 0) → Ev (fun k => haystackref20_Spread.l1 k S r l (i : Int) (j : Int)) R := by
  induction d with
  | zero =>
    intro j hj hne
    refine Ev.step (fun k => ?_) (h ?_)
    · simp only [haystackref20_Spread.l1]
      rw [if_neg (by omega), wrap_next i (by omega)]
    · rw [Bool.eq_false_iff]
      intro hc
      rw [List.contains_iff_mem] at hc
      obtain ⟨q, hq, he⟩ := List.mem_iff_getElem.1 hc
      rw [List.getElem_take] at he
      have hq' : q < i := by simp at hq; omega
      exact hne q (by omega) (by rw [← he]; simp [List.getD, show q < l.length by omega])
  | succ d ih =>
    intro j hj hne
    by_cases hx : l.getD j 0 = l.getD i 0
    · have hc : (l.take i).contains (l.getD i 0) = true := by
        rw [List.contains_iff_mem]
        refine List.mem_iff_getElem.2 ⟨j, by simp; omega, ?_⟩
        rw [List.getElem_take, ← hx]
        simp [List.getD, show j < l.length by omega]
      obtain rfl := hbad hc
      refine Ev.step (f := fun _ => some ([], 1)) (fun k => ?_) (Ev.now _)
      simp only [haystackref20_Spread.l1]
      rw [if_pos (by omega), if_pos (by omega), if_pos (by omega), if_pos (by omega), if_pos (by omega), rd_nat, rd_nat, if_pos hx]
    · refine Ev.step (fun k => ?_) (ih (j + 1) (by omega) (fun q hq => ?_))
      · simp only [haystackref20_Spread.l1]
        rw [if_pos (by omega), if_pos (by omega), if_pos (by omega), if_pos (by omega), if_pos (by omega), rd_nat, rd_nat, if_neg hx, wrap_next j (by omega)]
      · rcases Nat.lt_or_ge q j with hqj | hqj
        · exact hne q hqj
        · obtain rfl : q = j := by omega
          exact hx
theorem ref_j2_bad (l : List Int) (S r i : Int) : Ev (fun k => haystackref20_Spread.j2 k S r l i true) ([], 1) :=
  Ev.step (f := fun _ => some ([], 1)) (fun k => by simp only [haystackref20_Spread.j2, if_true]) (Ev.now _)
theorem ref_l0 (l : List Int) (hl7 : l.length ≤ 7) (S r : Int) (R : List (List Int) × Int) (h : goodFrom l l.length 0 = true → Ev (fun k => haystackref20_Spread.l2 k S r l [] 0) R) (hbad : goodFrom l l.length 0 = false → R = ([], 1)) (d : Nat) :
    ∀ i, i + d = l.length → goodFrom l d i = goodFrom l l.length 0 → Ev (fun k => haystackref20_Spread.l0 k S r l (i : Int)) R := by
  induction d with
  | zero =>
    intro i hi hg
    refine Ev.step (fun k => ?_) (h hg.symm)
    simp only [haystackref20_Spread.l0]
    rw [if_neg (by omega)]
  | succ d ih =>
    intro i hi hg
    rw [show goodFrom l (d + 1) i = (goodAt l i && goodFrom l d (i + 1)) from rfl] at hg
    by_cases hx0 : l.getD i 0 < 0
    · have hbad' : goodAt l i = false := by unfold goodAt; rw [decide_eq_false (by omega), Bool.false_and]
      rw [hbad', Bool.false_and] at hg
      obtain rfl := hbad hg.symm
      refine Ev.step (fun k => ?_) (ref_j2_bad l S r (i : Int))
      simp only [haystackref20_Spread.l0]
      rw [if_pos (by omega), if_pos (by omega), rd_nat, if_pos hx0]
    by_cases hx7 : l.getD i 0 ≥ 7
    · have hbad' : goodAt l i = false := by unfold goodAt; rw [decide_eq_false (by omega), Bool.false_and]
      rw [hbad', Bool.false_and] at hg
      obtain rfl := hbad hg.symm
      refine Ev.step (fun k => ?_) (ref_j2_bad l S r (i : Int))
      simp only [haystackref20_Spread.l0]
      rw [if_pos (by omega), if_pos (by omega), rd_nat, if_neg hx0, decide_eq_true hx7]
    have hgood : goodAt l i = !(l.take i).contains (l.getD i 0) := by unfold goodAt; rw [decide_eq_true (by omega), Bool.true_and]
    rw [hgood] at hg
    have h1 := ref_l1 l hl7 S r i (by omega) R (fun hc => ih (i + 1) (by omega) (by rw [hc, Bool.not_false, Bool.true_and] at hg; exact hg)) (fun hc => hbad (by rw [hc, Bool.not_true, Bool.false_and] at hg; exact hg.symm)) i 0 (by omega) (fun q hq => absurd hq (by omega))
    refine Ev.step (f := fun k => haystackref20_Spread.j2 k S r l (i : Int) false) (fun k => ?_) (Ev.step (fun k => ?_) h1)
    · simp only [haystackref20_Spread.l0]
      rw [if_pos (by omega), if_pos (by omega), rd_nat, if_neg hx0, decide_eq_false hx7]
    · simp only [haystackref20_Spread.j2, Bool.false_eq_true, if_false]
      rfl
theorem refSpread_ev (s r : Int) (l : List Int) : Ev (fun k => haystackref20_Spread.f k s r l) (spread s r l) := by
  have hj : Ev (fun k => haystackref20_Spread.j0 k s r l true) ([], 1) := Ev.step (f := fun _ => some ([], 1)) (fun k => by simp only [haystackref20_Spread.j0, if_true]) (Ev.now _)
  have hn : ∀ (h : ¬ (1 ≤ s ∧ s ≤ 8 ∧ 1 ≤ l.length ∧ l.length ≤ 7 ∧ 1 ≤ r ∧ r ≤ l.length)), spread s r l = ([], 1) := by
    intro h
    unfold spread
    rw [if_neg (fun hh => h ⟨hh.1, hh.2.1, hh.2.2.1, hh.2.2.2.1, hh.2.2.2.2.1, hh.2.2.2.2.2.1⟩)]
  unfold haystackref20_Spread.f
  by_cases h1 : s < 1
  case pos => simp only [if_pos h1]; rw [hn (by omega)]; exact hj
  by_cases h8 : s > 8
  case pos => simp only [if_neg h1, if_pos h8]; rw [hn (by omega)]; exact hj
  by_cases hl1 : (l.length : Int) < 1
  case pos => simp only [if_neg h1, if_neg h8, if_pos hl1]; rw [hn (by omega)]; exact hj
  by_cases hl7 : (l.length : Int) > 7
  case pos => simp only [if_neg h1, if_neg h8, if_neg hl1, if_pos hl7]; rw [hn (by omega)]; exact hj
  by_cases hr1 : r < 1
  case pos => simp only [if_neg h1, if_neg h8, if_neg hl1, if_neg hl7, if_pos hr1]; rw [hn (by omega)]; exact hj
  simp only [if_neg h1, if_neg h8, if_neg hl1, if_neg hl7, if_neg hr1]
  by_cases hr : r > (l.length : Int)
  case pos => simp only [decide_eq_true hr]; rw [hn (by omega)]; exact hj
  simp only [decide_eq_false hr]
  obtain ⟨S, rfl⟩ := Int.eq_ofNat_of_zero_le (show 0 ≤ s by omega)
  obtain ⟨q, rfl⟩ := Int.eq_ofNat_of_zero_le (show 0 ≤ r by omega)
  refine Ev.step (f := fun k => haystackref20_Spread.l0 k S q l (0 : Nat)) (fun k => ?_) (ref_l0 l (by omega) S q _ (fun hg => ?_) (fun hg => ?_) l.length 0 (by omega) rfl)
  · simp only [haystackref20_Spread.j0, Bool.false_eq_true, if_false]; rfl
  · unfold spread
    rw [if_pos ⟨by omega, by omega, by omega, by omega, by omega, by omega, hg⟩]
    exact ref_l2 l (by omega) (by omega) S q (by omega) (by omega) S 0 (by omega)
  · unfold spread
    rw [if_neg (fun hh => by rw [hg] at hh; simp at hh)]

theorem spread_sizes (s r : Int) (l : List Int) : (spread s r l).1.length ≤ 8 ∧ ∀ i, ((spread s r l).1.getD i []).length ≤ 100 := by
  unfold spread
  split
  · rename_i h
    refine ⟨by rw [shardsOf_length]; omega, fun i => ?_⟩
    have : ∀ S i, ((shardsOf l r.toNat S).getD i []).length ≤ 100 := by
      intro S
      induction S with
      | zero => intro i; simp [shardsOf]
      | succ S ih =>
        intro i
        unfold shardsOf
        have hi := ih i
        rw [List.getD_eq_getElem?_getD, List.getElem?_append] at *
        split
        · exact hi
        · rename_i h1
          cases hq : i - (shardsOf l r.toNat S).length with
          | zero => simp [isort_length, taken_length]; omega
          | succ n => simp
    exact this _ i
  · simp
theorem laws_l0 (a : List (List Int)) (ha : a.length ≤ 100) (hb : ∀ i, (a.getD i []).length ≤ 100) (d : Nat) : ∀ i, i + d = a.length → Ev (fun k => haystacklaw20_PlaceSpreads.l0 k a a (i : Int)) true := by
  induction d with
  | zero =>
    intro i hi
    refine Ev.step (fun k => ?_) (Ev.bind known_true (Ev.now _))
    simp only [haystacklaw20_PlaceSpreads.l0]
    rw [if_neg (by omega)]
  | succ d ih =>
    intro i hi
    have h1 := ints_ev (rd_L1 a (i : Int)) (rd_L1 a (i : Int)) (by have := hb i; unfold rd_L1; rw [Int.toNat_natCast]; omega)
    rw [decide_eq_true rfl] at h1
    refine Ev.step (fun k => ?_) (Ev.bind h1 (f := fun k t219 => if t219 = true then haystacklaw20_PlaceSpreads.l0 k a a ((i + 1 : Nat) : Int) else some false) ?_)
    · simp only [haystacklaw20_PlaceSpreads.l0]
      rw [if_pos (by omega), if_pos (by omega), if_pos (by omega), wrap_next i (by omega)]
    · simp only [if_true]
      exact ih (i + 1) (by omega)
theorem PlaceSpreads : haystacklaw20_PlaceSpreads.Pure := by
  intro s r l _ _ hm hl _
  refine Ev.rounds (g := fun k => haystacklaw20_PlaceSpreads.f k s r l) ?_
  unfold haystacklaw20_PlaceSpreads.f
  by_cases h : (l.length : Int) > 100
  · simp only [if_pos h]; exact Ev.now _
  · simp only [if_neg h, Option.bind_some, List.nil_append, List.length_nil]
    simp only [if_pos (show 0 + l.length < 17592186044416 by omega)]
    refine Ev.bind (spread_ev s r l) ?_
    refine Ev.bind (refSpread_ev s r l) ?_
    simp only [if_true]
    refine Ev.bind (ints_ev l l (by omega)) ?_
    rw [decide_eq_true rfl]
    obtain ⟨h1, h2⟩ := spread_sizes s r l
    refine Ev.step (fun k => ?_) (laws_l0 _ (by omega) h2 _ 0 (Nat.zero_add _))
    simp only [haystacklaw20_PlaceSpreads.j0, Bool.not_true, Bool.false_eq_true, if_false]
    rfl

end Go.Proofs.Ytiobjanmkhdpdaa.Pure
