/- What Save leaves: plain. -/
import Derived.Test.YtdepjlnljkbfjaaSave
namespace Go.Proofs.Ytdepjlnljkbfjaa.Hand
open Go.RowKit Go.Proofs.Ytdepjlnljkbfjaa.PA Go.Proofs.Ytdepjlnljkbfjaa.MapP Go.Proofs.YtdepjlnljkbfjaaW.PrintWords Go.Proofs.YtdepjlnljkbfjaaW.PrintLast Go.Proofs.YtdepjlnljkbfjaaW.PrintMore
set_option linter.unusedVariables false
set_option linter.unusedSimpArgs false
set_option linter.unusedSectionVars false
theorem shK_key (s : ByteArray) : (shK s).data.toList = s.data.toList ++ [126] := by unfold shK; simp
theorem shK_ne (s : ByteArray) : s.data.toList ≠ (shK s).data.toList := by
  rw [shK_key]
  intro h
  have := congrArg List.length h
  simp at this
theorem good_of {s : ByteArray} (h1 : 1 ≤ s.size) (h2 : s.size ≤ 64) : badName s = false := by
  unfold badName
  rw [decide_eq_false (by omega), decide_eq_false (by omega)]
  rfl
theorem may_open {S : DV} (hf : S.fused = false) {l : List ByteArray} (h : l.any badName = false) : mayV S.fused S.left l = 0 := by
  unfold mayV
  rw [hf, h]
  rfl
theorem done_open (left : Int) : doneL false left = left := rfl
theorem del_none {β : Type} {L : List (Key × β)} {k : Key} (h : at_ L k = none) : del L k = L := by
  unfold del
  rw [List.filter_eq_self]
  intro p hp
  simpa using at_none h p hp
theorem del_snoc {β : Type} {L : List (Key × β)} {k : Key} {x : β} (h : at_ L k = none) : del (L ++ [(k, x)]) k = L := by
  have h1 := del_none h
  unfold del at h1 ⊢
  rw [List.filter_append, h1]
  simp
theorem at_snoc {β : Type} {L : List (Key × β)} {k : Key} {x : β} (h : at_ L k = none) : at_ (L ++ [(k, x)]) k = some x := by
  rw [at_append, h, at_cons]
  simp
theorem put_snoc {β : Type} {L : List (Key × β)} {k : Key} {x y : β} (h : at_ L k = none) : put (L ++ [(k, x)]) k y = L ++ [(k, y)] := by
  have h1 := at_snoc (x := x) h
  rw [put_old h1, List.map_append]
  congr 1
  · refine (List.map_congr_left fun p hp => ?_).trans (List.map_id' L)
    simp [at_none h p hp]
  · simp
/-- A Save that nothing hinders. -/
theorem save_good (room left : Int) (L : List (Key × (List Int × Nat))) (s : ByteArray) (xs : List Int) (h1 : 1 ≤ s.size) (h2 : s.size ≤ 60) (hx : xs.length ≤ 1048576) (hn : at_ L (shK s).data.toList = none) (ht : (total L : Int) + xs.length + 12 ≤ room) (hl : L.length < 4096) :
    saveV ⟨room, false, left, L⟩ s xs = (0, ⟨room, false, left, put L s.data.toList (encF xs, (encF xs).length)⟩) := by
  have hbs := good_of h1 (by omega)
  have hbt : badName (shK s) = false := good_of (by rw [shK_size]; omega) (by rw [shK_size]; omega)
  unfold saveV
  rw [if_neg (show ¬ (s.size < 1 ∨ 60 < s.size) from by omega), if_neg (by omega)]
  simp only [hn, Option.isSome_none, Bool.false_eq_true, if_false]
  have ha : appendV ⟨room, false, left, L⟩ (shK s) (encF xs) = (0, ⟨room, false, left, L ++ [((shK s).data.toList, (encF xs, 0))]⟩) := by
    unfold appendV
    rw [if_neg (by rw [may_open rfl (by simp [hbt])]; simp), if_neg ?_]
    · simp only [hn, Option.getD_none, List.nil_append, put_new hn, done_open]
    · simp only
      rw [encF_len]
      rintro (h | h) <;> omega
  have hs : oneV syncX ⟨room, false, left, L ++ [((shK s).data.toList, (encF xs, 0))]⟩ (shK s) = (0, ⟨room, false, left, L ++ [((shK s).data.toList, (encF xs, (encF xs).length))]⟩) := by
    unfold oneV
    rw [if_neg (by rw [may_open rfl (by simp [hbt])]; simp)]
    simp only [at_snoc hn, syncX, put_snoc hn, done_open]
  have hr : renameV ⟨room, false, left, L ++ [((shK s).data.toList, (encF xs, (encF xs).length))]⟩ (shK s) s = (0, ⟨room, false, left, put L s.data.toList (encF xs, (encF xs).length)⟩) := by
    unfold renameV
    rw [if_neg (by rw [may_open rfl (by simp [hbt, hbs])]; simp)]
    simp only [at_snoc hn, del_snoc hn, done_open]
  unfold saveT
  rw [ha]
  simp only [ne_eq, not_true_eq_false, if_false]
  rw [hs]
  simp only [not_true_eq_false, if_false]
  exact hr
/-- What any Save leaves under its name. -/
theorem save_at (S : DV) (s : ByteArray) (xs : List Int) : ((saveV S s xs).1 = 0 → at_ (saveV S s xs).2.L s.data.toList = some (encF xs, (encF xs).length)) ∧ ((saveV S s xs).1 ≠ 0 → at_ (saveV S s xs).2.L s.data.toList = at_ S.L s.data.toList) := by
  have hne := shK_ne s
  have hA : ∀ (S1 : DV) ys, at_ (appendV S1 (shK s) ys).2.L s.data.toList = at_ S1.L s.data.toList := fun S1 ys => by
    unfold appendV
    split
    · rfl
    · split
      · rfl
      · exact at_put_other hne
  have hS : ∀ (S1 : DV), at_ (oneV syncX S1 (shK s)).2.L s.data.toList = at_ S1.L s.data.toList := fun S1 => by
    unfold oneV
    split
    · rfl
    · split
      · rfl
      · exact at_put_other hne
  have hR : ∀ (S1 : DV), at_ (oneV removeX S1 (shK s)).2.L s.data.toList = at_ S1.L s.data.toList := fun S1 => by
    unfold oneV
    split
    · rfl
    · split
      · rfl
      · exact at_del_other hne
  have hT : ∀ S1 : DV, at_ S1.L (shK s).data.toList = none → ((saveT S1 (shK s) s xs).1 = 0 → at_ (saveT S1 (shK s) s xs).2.L s.data.toList = some (encF xs, (encF xs).length)) ∧ ((saveT S1 (shK s) s xs).1 ≠ 0 → at_ (saveT S1 (shK s) s xs).2.L s.data.toList = at_ S1.L s.data.toList) := by
    intro S1 hn
    unfold saveT
    by_cases h1 : (appendV S1 (shK s) (encF xs)).1 ≠ 0
    · rw [if_pos h1]
      exact ⟨fun h => absurd h h1, fun _ => hA _ _⟩
    · rw [if_neg h1]
      have hz : at_ (appendV S1 (shK s) (encF xs)).2.L (shK s).data.toList = some (encF xs, 0) := by
        unfold appendV at h1 ⊢
        split
        · rename_i h; rw [if_pos h] at h1; exact absurd h h1
        · split
          · rename_i h0 h; rw [if_neg h0, if_pos h] at h1; simp at h1
          · rw [at_put_same, hn]; rfl
      generalize hS2 : (appendV S1 (shK s) (encF xs)).2 = S2 at hz
      have hA2 : at_ S2.L s.data.toList = at_ S1.L s.data.toList := by rw [← hS2]; exact hA _ _
      by_cases h2 : (oneV syncX S2 (shK s)).1 ≠ 0
      · rw [if_pos h2]
        exact ⟨fun h => absurd h h2, fun _ => by rw [hS, hA2]⟩
      · rw [if_neg h2]
        have hz3 : at_ (oneV syncX S2 (shK s)).2.L (shK s).data.toList = some (encF xs, (encF xs).length) := by
          unfold oneV at h2 ⊢
          split
          · rename_i h; rw [if_pos h] at h2; exact absurd h h2
          · rw [hz]
            exact at_put_same
        have hS3 := hS S2
        generalize (oneV syncX S2 (shK s)).2 = S3 at hz3 hS3
        unfold renameV
        split
        · rename_i h
          exact ⟨fun h0 => absurd h0 h, fun _ => by rw [hS3, hA2]⟩
        · rw [hz3]
          refine ⟨fun _ => at_put_same, fun h => absurd rfl h⟩
  unfold saveV
  split
  · exact ⟨fun h => by simp at h, fun _ => rfl⟩
  · split
    · exact ⟨fun h => by simp at h, fun _ => rfl⟩
    · split
      · rename_i hs0
        split
        · rename_i h
          exact ⟨fun h0 => absurd h0 h, fun _ => hR S⟩
        · rename_i h
          have hn : at_ (oneV removeX S (shK s)).2.L (shK s).data.toList = none := by
            unfold oneV at h ⊢
            split
            · rename_i h1; rw [if_pos h1] at h; exact absurd h1 h
            · split
              · rename_i h2; exact h2
              · exact at_del_same
          have := hT _ hn
          rw [hR] at this
          exact this
      · rename_i hs0
        exact hT S (by cases h : at_ S.L (shK s).data.toList with | none => rfl | some x => rw [h] at hs0; simp at hs0)
/-- A crash leaves what lasts whole. -/
theorem crash_at (draw : Int) (S : DV) (k : Key) : at_ (crashV draw S).L k = (at_ S.L k).map (crashX draw) := at_map _ S.L k
theorem crash_full (draw : Int) (l : List Int) : crashX draw (l, l.length) = (l, l.length) := by
  have h : stays draw (l, l.length) = l.length := by unfold stays; simp [Int.emod_one]
  unfold crashX
  rw [h, List.take_length]
theorem load_of {S : DV} {s : ByteArray} {xs : List Int} {n : Nat} (h : at_ S.L s.data.toList = some (encF xs, n)) (hx : xs.length ≤ 1048576) : loadV S s = (xs, 0) := by
  unfold loadV
  rw [h]
  simp only [oneF_enc xs hx]
  rfl
theorem load_none {S : DV} {s : ByteArray} (h : at_ S.L s.data.toList = none) : loadV S s = ([], 7) := by
  unfold loadV
  rw [h]
end Go.Proofs.Ytdepjlnljkbfjaa.Hand
