/- DiskKeeps. -/
import Derived.Test.YtakomlealclomaaKnownw
namespace Go.Proofs.Ytakomlealclomaa.Hand
open Go.RowKit Go.Proofs.Ytakomlealclomaa.PA Go.Proofs.Ytakomlealclomaa.MapP Go.Proofs.YtakomlealclomaaW.PrintWords Go.Proofs.YtakomlealclomaaW.PrintLast Go.Proofs.YtakomlealclomaaW.PrintMore
attribute [local go_sem] max2_int min2_int
set_option linter.unusedVariables false
set_option linter.unusedSimpArgs false
set_option linter.unusedSectionVars false
/-- What the guards count. -/
def tot (zz : List (List Int)) : Nat → Nat
  | 0 => 0
  | i + 1 => tot zz i + 1 + (zz.getD i []).length
theorem flat_succ (zz : List (List Int)) (i : Nat) (h : i < zz.length) : (zz.take (i + 1)).flatten = (zz.take i).flatten ++ zz.getD i [] := by
  rw [List.take_add_one, List.flatten_append]
  simp [h]
theorem tot_flat (zz : List (List Int)) : ∀ i, i ≤ zz.length → tot zz i = i + (zz.take i).flatten.length
  | 0, _ => by simp [tot]
  | i + 1, h => by
    rw [tot, tot_flat zz i (by omega), flat_succ zz i (by omega), List.length_append]
    omega
theorem tot_mono (zz : List (List Int)) : ∀ i j, i ≤ j → tot zz i ≤ tot zz j := by
  intro i j h
  induction j with
  | zero => obtain rfl : i = 0 := by omega
            exact Nat.le_refl _
  | succ j ih =>
    rcases Nat.lt_or_ge j i with h2 | h2
    · obtain rfl : i = j + 1 := by omega
      exact Nat.le_refl _
    · have := ih h2
      simp only [tot]; omega
theorem row_at {w : World} {A : Option Addr} {zz : List (List Int)} (hC : Kd.C (Kd.slice 5 (Kd.int .u8)) w A zz.length zz) (i : Nat) (hi : i < zz.length) :
    ∃ a A' c', A = some a ∧ w.cell? (a.add i) = some (.slice A' (zz.getD i []).length c') ∧ (zz.getD i []).length ≤ c' ∧ Kd.C (Kd.int .u8) w A' (zz.getD i []).length (zz.getD i []) := by
  obtain ⟨ad, e, h⟩ := hC.2.2 (by omega)
  obtain ⟨cs, h1, ⟨A', c', rfl, h2, h3⟩, h4⟩ := h i zz[i] (List.getElem?_eq_getElem hi)
  have h5 := h4 0 _ rfl
  have e2 : zz.getD i [] = zz[i] := by simp [hi]
  rw [e2]
  exact ⟨ad, A', c', e, by simpa [Kd.slice] using h5, h2, h3⟩
abbrev nF : ByteArray := ⟨#[102]⟩
def S00 : DV := ⟨1048576, false, 0, []⟩
def St (a : List Int) (n : Nat) : DV := ⟨1048576, false, 0, [([102], (a, n))]⟩
theorem app0 (xs : List Int) (h : xs.length ≤ 1048576) : appendV S00 nF xs = (0, St xs 0) := by
  unfold appendV
  rw [if_neg (show ¬ (mayV S00.fused S00.left [nF] ≠ 0) from by decide), if_neg (by simp [S00, total]; omega)]
  simp [S00, St, doneL, at_nil]
  rfl
theorem at_st (a : List Int) (n : Nat) : at_ (St a n).L nF.data.toList = some (a, n) := by simp [St, at_cons]
theorem put_st (a b : List Int) (n k : Nat) : put (St a n).L nF.data.toList (b, k) = (St b k).L := by
  rw [put_old (at_st a n)]
  simp [St]
theorem app1 (a xs : List Int) (n : Nat) (h : a.length + xs.length ≤ 1048576) : appendV (St a n) nF xs = (0, St (a ++ xs) n) := by
  unfold appendV
  rw [if_neg (show ¬ (mayV (St a n).fused (St a n).left [nF] ≠ 0) from by simp [St]; decide), if_neg ?_]
  · rw [at_st]
    simp only [Option.getD_some]
    rw [put_st]
    rfl
  · rw [at_st]
    simp [St, total]; omega
theorem syn1 (a : List Int) (n : Nat) : oneV syncX (St a n) nF = (0, St a a.length) := by
  unfold oneV
  rw [if_neg (show ¬ (mayV (St a n).fused (St a n).left [nF] ≠ 0) from by simp [St]; decide), at_st]
  simp only [syncX]
  rw [put_st]
  rfl
theorem cra1 (draw : Int) (a : List Int) (n : Nat) : crashV draw (St a n) = St (a.take (stays draw (a, n))) (stays draw (a, n)) := rfl
theorem cra0 (draw : Int) : crashV draw S00 = S00 := rfl
theorem rea1 (a : List Int) (n : Nat) : readV (St a n) nF = (a, 0) := by unfold readV; rw [at_st]
theorem rea0 : readV S00 nF = ([], 7) := rfl
/-- The disk behind so many rows. -/
def Sti (zz : List (List Int)) (sy i : Nat) : DV := if i = 0 then S00 else St (zz.take i).flatten (zz.take (min i sy)).flatten.length
theorem sti_app (zz : List (List Int)) (sy i : Nat) (hi : i < zz.length) (h : tot zz zz.length ≤ 8000) : appendV (Sti zz sy i) nF (zz.getD i []) = (0, St (zz.take (i + 1)).flatten (zz.take (min i sy)).flatten.length) := by
  have h1 := tot_mono zz (i + 1) zz.length (by omega)
  have h2 := tot_flat zz (i + 1) (by omega)
  have h3 := flat_succ zz i hi
  have h4 : (zz.take (i + 1)).flatten.length = (zz.take i).flatten.length + (zz.getD i []).length := by rw [h3, List.length_append]
  unfold Sti
  split
  · rename_i h0
    subst h0
    rw [app0 _ (by omega), h3]
    simp
  · rw [app1 _ _ _ (by omega), h3]
theorem sti_syn (zz : List (List Int)) (sy i : Nat) (h : i < sy) : oneV syncX (St (zz.take (i + 1)).flatten (zz.take (min i sy)).flatten.length) nF = (0, Sti zz sy (i + 1)) := by
  rw [syn1]
  unfold Sti
  rw [if_neg (by omega), show min (i + 1) sy = i + 1 from by omega]
theorem sti_not (zz : List (List Int)) (sy i : Nat) (h : ¬ i < sy) : St (zz.take (i + 1)).flatten (zz.take (min i sy)).flatten.length = Sti zz sy (i + 1) := by
  unfold Sti
  rw [if_neg (by omega), show min (i + 1) sy = min i sy from by omega]
theorem Dat.new {w : World} (t : Nat × Nat) : Dat (w.alloc (.cells #[] 5)) (.slice (some ⟨w.heap.size, 0, none⟩) 0 0) [] :=
  ⟨_, 0, rfl, Nat.le_refl _, Nat.zero_le _, .inr ⟨w.heap.size, #[], rfl, heap_alloc_new w _, by simp, .inl (by simp), by simp⟩⟩
theorem Dat.kept {w W : World} {v : Value} {xs : List Int} {T : Nat → Prop} (h : Dat w v xs) (hk : Kept w W T) (hn : ∀ k, v.ownBlock = some k → ¬ T k) : Dat W v xs := h.step (fun g hg => hk.2 g (h.lt hg) (hn g hg))
end Go.Proofs.Ytakomlealclomaa.Hand
