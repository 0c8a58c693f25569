/- The plain laws on place.Spread: what it answers, as a function of lists. -/
import Derived.Test.YtiobjanmkhdpdaaPlain
namespace Go.Proofs.Ytiobjanmkhdpdaa.Pure
open Go.RowKit Go.Proofs.Ytiobjanmkhdpdaa.Hand Go.Proofs.Ytiobjanmkhdpdaa.PPl Go.Proofs.YtiobjanmkhdpdaaW.PrintWords Go.Proofs.YtiobjanmkhdpdaaW.PrintLast

theorem wrap_next (i : Nat) (h : i ≤ 1000000000000000) : wrap64 ((i : Int) + 1) = ((i + 1 : Nat) : Int) := by unfold wrap64; omega
theorem rd_nat (l : List Int) (i : Nat) : rd l (i : Int) = l.getD i 0 := rfl
theorem getD_drop (l : List Int) (i : Nat) (h : i < l.length) : l.drop i = l.getD i 0 :: l.drop (i + 1) := by
  rw [List.drop_eq_getElem_cons h]; simp [List.getD, h]

theorem index_from (l : List Int) (x : Int) (hl : l.length ≤ 1000000) (d : Nat) : ∀ i, i + d = l.length →
    ∃ r, Ev (fun k => slices_Index_int_int.l0 k l x (l.length : Int) (i : Int)) r ∧ (decide (r ≥ 0) = (l.drop i).contains x) := by
  induction d with
  | zero =>
    intro i hi
    refine ⟨-1, Ev.step (f := fun _ => some (-1)) (fun k => ?_) (Ev.now _), ?_⟩
    · simp only [slices_Index_int_int.l0]; rw [if_neg (by omega)]
    · rw [List.drop_of_length_le (by omega)]; rfl
  | succ d ih =>
    intro i hi
    by_cases hx : x = l.getD i 0
    · refine ⟨(i : Int), Ev.step (f := fun _ => some (i : Int)) (fun k => ?_) (Ev.now _), ?_⟩
      · simp only [slices_Index_int_int.l0]
        rw [if_pos (by omega), if_pos (by omega), if_pos (by omega), rd_nat, if_pos hx]
      · rw [getD_drop l i (by omega), hx]; simp
    · obtain ⟨r, hr, h⟩ := ih (i + 1) (by omega)
      refine ⟨r, Ev.step (fun k => ?_) hr, ?_⟩
      · simp only [slices_Index_int_int.l0]
        rw [if_pos (by omega), if_pos (by omega), if_pos (by omega), rd_nat, if_neg hx, wrap_next i (by omega)]
      · rw [h, getD_drop l i (by omega), List.contains_cons, show (x == l.getD i 0) = false from beq_eq_false_iff_ne.2 hx, Bool.false_or]
theorem contains_ev (l : List Int) (x : Int) (hl : l.length ≤ 1000000) : Ev (fun k => slices_Contains_int_int.f k l x) (l.contains x) := by
  obtain ⟨r, hr, h⟩ := index_from l x hl l.length 0 (by omega)
  unfold slices_Contains_int_int.f slices_Index_int_int.f
  refine Ev.bind hr ?_
  rw [List.drop_zero] at h
  simp only [h]
  exact Ev.now _

theorem ints_from (a b : List Int) (hab : a.length = b.length) (hl : a.length ≤ 1000000) (d : Nat) : ∀ i, i + d = a.length → a.take i = b.take i →
    Ev (fun k => haystacklaw20_ints.l0 k a b (i : Int)) (decide (a = b)) := by
  induction d with
  | zero =>
    intro i hi ht
    refine Ev.step (f := fun _ => some (decide (a = b))) (fun k => ?_) (Ev.now _)
    simp only [haystacklaw20_ints.l0]
    rw [if_neg (by omega)]
    rw [List.take_of_length_le (by omega), List.take_of_length_le (by omega)] at ht
    simp [ht]
  | succ d ih =>
    intro i hi ht
    have ha : a.getD i 0 = a[i]'(by omega) := by simp [List.getD, show i < a.length by omega]
    have hb : b.getD i 0 = b[i]'(by omega) := by simp [List.getD, show i < b.length by omega]
    by_cases hx : a.getD i 0 = b.getD i 0
    · refine Ev.step (fun k => ?_) (ih (i + 1) (by omega) ?_)
      · simp only [haystacklaw20_ints.l0]
        rw [if_pos (by omega), if_pos (by omega), if_pos (by omega), rd_nat, rd_nat, if_pos hx, wrap_next i (by omega)]
      · rw [List.take_succ_eq_append_getElem (by omega), List.take_succ_eq_append_getElem (by omega), ht, ← ha, ← hb, hx]
    · refine Ev.step (f := fun _ => some (decide (a = b))) (fun k => ?_) (Ev.now _)
      simp only [haystacklaw20_ints.l0]
      rw [if_pos (by omega), if_pos (by omega), if_pos (by omega), rd_nat, rd_nat, if_neg hx]
      have : a ≠ b := by rintro rfl; exact hx rfl
      simp [this]
theorem ints_ev (a b : List Int) (hl : a.length ≤ 1000000) : Ev (fun k => haystacklaw20_ints.f k a b) (decide (a = b)) := by
  unfold haystacklaw20_ints.f
  by_cases h : a.length = b.length
  · simp only [if_pos (show (a.length : Int) = (b.length : Int) by omega)]
    exact ints_from a b h hl a.length 0 (by omega) (by simp)
  · simp only [if_neg (show ¬ (a.length : Int) = (b.length : Int) by omega)]
    have : a ≠ b := by rintro rfl; exact h rfl
    simp only [this, decide_false]
    exact Ev.now _

/-- Is node i one that may be, and none of those ahead of it? -/
def goodAt (l : List Int) (i : Nat) : Bool := decide (0 ≤ l.getD i 0 ∧ l.getD i 0 < 7) && !(l.take i).contains (l.getD i 0)
def goodFrom (l : List Int) : Nat → Nat → Bool
  | 0, _ => true
  | d + 1, i => goodAt l i && goodFrom l d (i + 1)
/-- The nodes of shard s, in the order in which they are taken; the first m. -/
def taken (l : List Int) (s : Nat) : Nat → List Int
  | 0 => []
  | m + 1 => taken l s m ++ [l.getD ((s + m) % l.length) 0]
def shardsOf (l : List Int) (r : Nat) : Nat → List (List Int)
  | 0 => []
  | s + 1 => shardsOf l r s ++ [isort (taken l s r)]
theorem taken_length (l : List Int) (s : Nat) : ∀ m, (taken l s m).length = m
  | 0 => rfl
  | m + 1 => by simp [taken, taken_length l s m]
theorem shardsOf_length (l : List Int) (r : Nat) : ∀ s, (shardsOf l r s).length = s
  | 0 => rfl
  | s + 1 => by simp [shardsOf, shardsOf_length l r s]
def spread (s r : Int) (l : List Int) : List (List Int) × Int :=
  if 1 ≤ s ∧ s ≤ 8 ∧ 1 ≤ l.length ∧ l.length ≤ 7 ∧ 1 ≤ r ∧ r ≤ l.length ∧ goodFrom l l.length 0 = true then (shardsOf l r.toNat s.toNat, 0) else ([], 1)

theorem tmod_at (l : List Int) (s m : Nat) (hs : s ≤ 8) (hm : m ≤ 7) :
    Int.tmod (wrap64 ((s : Int) + (m : Int))) (l.length : Int) = (((s + m) % l.length : Nat) : Int) := by
  rw [show wrap64 ((s : Int) + (m : Int)) = ((s + m : Nat) : Int) from by unfold wrap64; omega, Int.ofNat_tmod]

theorem impl_l2 (l : List Int) (hl : 1 ≤ l.length) (hl7 : l.length ≤ 7) (S r s : Nat) (hS : S ≤ 8) (hr : r ≤ l.length) (hs : s < S) (out : List (List Int)) (ho : out.length ≤ 8) (R : List (List Int) × Int)
    (h : Ev (fun k => place_Spread.l1 k (r : Int) l (out ++ [isort (taken l s r)]) (S : Int) ((s + 1 : Nat) : Int)) R) (d : Nat) : ∀ m, m + d = r →
    Ev (fun k => place_Spread.l2 k (r : Int) l out (s : Int) (taken l s m) (S : Int) (s : Int) (r : Int) (m : Int)) R := by
  induction d with
  | zero =>
    intro m hm
    obtain rfl : m = r := by omega
    refine Ev.step (fun k => ?_) h
    simp only [place_Spread.l2]
    have hlen := taken_length l s m
    rw [if_neg (by omega)]
    unfold slices_Sort_int_int.f
    rw [if_pos (by omega)]
    simp only [Option.bind_some]
    rw [if_pos (by omega), wrap_next s (by omega)]
  | succ d ih =>
    intro m hm
    refine Ev.step (fun k => ?_) (ih (m + 1) (by omega))
    simp only [place_Spread.l2]
    have hlen := taken_length l s m
    have hlt := Nat.mod_lt (s + m) (show 0 < l.length by omega)
    rw [if_pos (by omega), if_neg (by omega), tmod_at l s m (by omega) (by omega), if_pos (by omega), if_pos (by omega), if_pos (by omega), wrap_next m (by omega), rd_nat]
    rfl
theorem impl_l1 (l : List Int) (hl : 1 ≤ l.length) (hl7 : l.length ≤ 7) (S r : Nat) (hS : S ≤ 8) (hr : r ≤ l.length) (d : Nat) : ∀ s, s + d = S →
    Ev (fun k => place_Spread.l1 k (r : Int) l (shardsOf l r s) (S : Int) (s : Int)) (shardsOf l r S, 0) := by
  induction d with
  | zero =>
    intro s hs
    obtain rfl : s = S := by omega
    refine Ev.step (f := fun _ => some (shardsOf l r s, 0)) (fun k => ?_) (Ev.now _)
    simp only [place_Spread.l1]
    rw [if_neg (by omega)]
  | succ d ih =>
    intro s hs
    refine Ev.step (fun k => ?_) (impl_l2 l hl hl7 S r s hS hr (by omega) (shardsOf l r s) (by rw [shardsOf_length]; omega) _ (ih (s + 1) (by omega)) r 0 (by omega))
    simp only [place_Spread.l1]
    rw [if_pos (by omega)]
    rfl
theorem impl_l0 (l : List Int) (hl7 : l.length ≤ 7) (S r : Int) (R : List (List Int) × Int) (h : goodFrom l l.length 0 = true → Ev (fun k => place_Spread.l1 k r l [] S 0) R) (hbad : goodFrom l l.length 0 = false → R = ([], 1)) (d : Nat) :
    ∀ i, i + d = l.length → goodFrom l d i = goodFrom l l.length 0 → Ev (fun k => place_Spread.l0 k S r l l (l.length : Int) (i : Int)) R := by
  induction d with
  | zero =>
    intro i hi hg
    refine Ev.step (fun k => ?_) (h hg.symm)
    simp only [place_Spread.l0]
    rw [if_neg (by omega)]
  | succ d ih =>
    intro i hi hg
    rw [show goodFrom l (d + 1) i = (goodAt l i && goodFrom l d (i + 1)) from rfl] at hg
    by_cases hx0 : l.getD i 0 < 0
    · have hbad' : goodAt l i = false := by unfold goodAt; rw [decide_eq_false (by omega), Bool.false_and]
      rw [hbad', Bool.false_and] at hg
      obtain rfl := hbad hg.symm
      refine Ev.step (f := fun _ => some ([], 1)) (fun k => ?_) (Ev.now _)
      simp only [place_Spread.l0]
      rw [if_pos (by omega), if_pos (by omega), if_pos (by omega), rd_nat, if_pos hx0]
    by_cases hx7 : l.getD i 0 ≥ 7
    · have hbad' : goodAt l i = false := by unfold goodAt; rw [decide_eq_false (by omega), Bool.false_and]
      rw [hbad', Bool.false_and] at hg
      obtain rfl := hbad hg.symm
      refine Ev.step (f := fun _ => some ([], 1)) (fun k => ?_) (Ev.now _)
      simp only [place_Spread.l0]
      rw [if_pos (by omega), if_pos (by omega), if_pos (by omega), rd_nat, if_neg hx0, if_pos hx7]
    have hgood : goodAt l i = !(l.take i).contains (l.getD i 0) := by unfold goodAt; rw [decide_eq_true (by omega), Bool.true_and]
    have hc := contains_ev (l.take i) (l.getD i 0) (by simp; omega)
    refine Ev.step (f := fun k => (slices_Contains_int_int.f k (l.take i) (l.getD i 0)).bind fun t106 => (if t106 = true then (some (([] : List (List Int)), 1)) else (place_Spread.l0 k S r l l (l.length : Int) ((i + 1 : Nat) : Int)))) (fun k => ?_) (Ev.bind hc ?_)
    · simp only [place_Spread.l0]
      rw [if_pos (by omega), if_pos (by omega), if_pos (by omega), rd_nat, if_neg hx0, if_neg hx7, if_pos (by omega), wrap_next i (by omega)]
      rfl
    · cases hq : (l.take i).contains (l.getD i 0) with
      | true =>
        rw [hgood, hq, Bool.not_true, Bool.false_and] at hg
        obtain rfl := hbad hg.symm
        simp only [if_true]
        exact Ev.now _
      | false =>
        simp only [Bool.false_eq_true, if_false]
        exact ih (i + 1) (by omega) (by rw [hgood, hq, Bool.not_false, Bool.true_and] at hg; exact hg)
theorem spread_ev (s r : Int) (l : List Int) : Ev (fun k => place_Spread.f k s r l) (spread s r l) := by
  have hj : Ev (fun k => place_Spread.j0 k s r l true) ([], 1) := Ev.step (f := fun _ => some ([], 1)) (fun k => by simp only [place_Spread.j0, if_true]) (Ev.now _)
  have hn : ∀ (h : ¬ (1 ≤ s ∧ s ≤ 8 ∧ 1 ≤ l.length ∧ l.length ≤ 7 ∧ 1 ≤ r ∧ r ≤ l.length)), spread s r l = ([], 1) := by
    intro h
    unfold spread
    rw [if_neg (fun hh => h ⟨hh.1, hh.2.1, hh.2.2.1, hh.2.2.2.1, hh.2.2.2.2.1, hh.2.2.2.2.2.1⟩)]
  unfold place_Spread.f place_isMany.f
  by_cases h1 : s ≥ 1
  case neg =>
    simp only [if_neg h1, Option.bind_some, Bool.false_eq_true, if_false]
    rw [hn (by omega)]; exact hj
  simp only [if_pos h1, Option.bind_some]
  by_cases h8 : s ≤ 8
  case neg =>
    simp only [decide_eq_false h8, Bool.false_eq_true, if_false]
    rw [hn (by omega)]; exact hj
  simp only [decide_eq_true h8, if_true]
  by_cases hl1 : (l.length : Int) < 1
  case pos => simp only [if_pos hl1]; rw [hn (by omega)]; exact hj
  by_cases hl7 : (l.length : Int) > 7
  case pos => simp only [if_neg hl1, if_pos hl7]; rw [hn (by omega)]; exact hj
  by_cases hr1 : r < 1
  case pos => simp only [if_neg hl1, if_neg hl7, if_pos hr1]; rw [hn (by omega)]; exact hj
  simp only [if_neg hl1, if_neg hl7, if_neg hr1]
  by_cases hr : r > (l.length : Int)
  case pos => simp only [decide_eq_true hr]; rw [hn (by omega)]; exact hj
  simp only [decide_eq_false hr]
  obtain ⟨S, rfl⟩ := Int.eq_ofNat_of_zero_le (show 0 ≤ s by omega)
  obtain ⟨q, rfl⟩ := Int.eq_ofNat_of_zero_le (show 0 ≤ r by omega)
  refine Ev.step (f := fun k => place_Spread.l0 k S q l l (l.length : Int) (0 : Nat)) (fun k => ?_) (impl_l0 l (by omega) S q _ (fun hg => ?_) (fun hg => ?_) l.length 0 (by omega) rfl)
  · simp only [place_Spread.j0]; rw [if_neg (by simp)]; rfl
  · unfold spread
    rw [if_pos ⟨by omega, by omega, by omega, by omega, by omega, by omega, hg⟩]
    exact impl_l1 l (by omega) (by omega) S q (by omega) (by omega) S 0 (by omega)
  · unfold spread
    rw [if_neg (fun hh => by rw [hg] at hh; simp at hh)]
end Go.Proofs.Ytiobjanmkhdpdaa.Pure
