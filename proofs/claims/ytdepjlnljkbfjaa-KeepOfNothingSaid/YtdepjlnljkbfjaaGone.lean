/- A file is gone: delete, Remove, Rename. -/
import Derived.Test.YtdepjlnljkbfjaaEach
namespace Go.Proofs.Ytdepjlnljkbfjaa.Hand
open Go.RowKit Go.Proofs.Ytdepjlnljkbfjaa.MapP Go.Proofs.YtdepjlnljkbfjaaW.PrintWords Go.Proofs.YtdepjlnljkbfjaaW.PrintLast Go.Proofs.YtdepjlnljkbfjaaW.PrintMore
attribute [local go_sem] max2_int min2_int
set_option linter.unusedVariables false
set_option linter.unusedSimpArgs false
set_option linter.unusedSectionVars false
theorem sub_flat {α β : Type} (f : α → List β) : ∀ {l l' : List α}, List.Sublist l l' → List.Sublist (l.flatMap f) (l'.flatMap f)
  | _, _, .slnil => List.Sublist.refl _
  | _, _, .cons a h => by
    rw [List.flatMap_cons]
    exact (sub_flat f h).trans (List.sublist_append_right _ _)
  | _, _, .cons_cons a h => by
    rw [List.flatMap_cons, List.flatMap_cons]
    exact List.Sublist.append (List.Sublist.refl _) (sub_flat f h)
section
variable {w w0 W W' : World} {d m : Nat} {ok : Nat → Prop} {S S' : DV} {F : FL} {k : Key} {y : FV}
theorem IsDisk.gone (h : IsDisk W d m S F) (hm : HasMap Try.prog 9 W' m (del (gm F) k)) (hs : ∀ b ∈ foot d m F, b ≠ m → W'.heap[b]? = W.heap[b]?) (hL : S' = { S with L := del S.L k }) :
    IsDisk W' d m S' (del F k) ∧ (∀ b ∈ foot d m (del F k), b ∈ foot d m F) := by
  subst hL
  have hnd := h.nd
  have hsub : List.Sublist (foot d m (del F k)) (foot d m F) := by
    unfold foot blocks del
    exact ((sub_flat (fun p : Key × FV => one p.2) List.filter_sublist).cons_cons m).cons_cons d
  have hm1 : ∀ b ∈ blocks F, b ≠ m := by
    simp only [foot, List.nodup_cons] at hnd
    intro b hb e
    exact hnd.2.1 (e ▸ hb)
  refine ⟨⟨(hs d (by simp [foot]) h.ne).trans h.head, ?_, ?_, List.Nodup.sublist hsub hnd, ?_⟩, fun b hb => hsub.subset hb⟩
  · have := del_map (fun y : FV => y.g) F k
    unfold gm at hm ⊢
    rw [← this]
    exact hm
  · intro p hp
    have hp' : p ∈ F := (List.mem_filter.1 hp).1
    exact (h.file p hp').step (fun b hb => hs b (mem_foot_file hp' hb) (hm1 b (List.mem_flatMap.2 ⟨p, hp', hb⟩)))
  · show del S.L k = _
    rw [h.val]
    exact del_map (fun y : FV => y.x) F k
/-- delete of a file. -/
theorem gone_is (hi : IsDisk W d m S F) (s : ByteArray) (hs : s.data.toList = k) (hsz : s.size ≤ maxLen) (ty : TypeId) :
    ∃ W1, (Builtin.delete_ #[66, 9] ty #[.map (some m), .string s]).run Try.prog W = .ok (.tuple #[]) W1 ∧ IsDisk W1 d m { S with L := del S.L k } (del F k) ∧ (∀ b ∈ foot d m (del F k), b ∈ foot d m F) ∧ Kept W W1 (· ∈ foot d m F) ∧ ∀ B, B ≤ m → Below B W W1 := by
  subst hs
  obtain ⟨W1, hrun, hm1, ht⟩ := hi.map.drop PT s hsz ty
  have hg := ht.grown
  have hgo := hi.gone (W' := W1) (S' := { S with L := del S.L s.data.toList }) hm1 (fun b hb hbm => hg.block b (hi.lt b hb) (fun e => hbm (by injection e))) rfl
  exact ⟨W1, hrun, hgo.1, hgo.2, Kept.of_grown hg (Kept.refl W _) (fun b hb => .inl (by injection hb with hb; simp [foot, hb])), fun B h2 => (Below.refl B W).grown hg (Nat.le_trans h2 (Nat.le_of_lt hi.map.lt)) (fun b hb => by injection hb with hb; omega)⟩
/-- What Remove's closure does to one file: p is the block where it finds the disk. -/
theorem remove1_calls (hi : IsDisk w d m S F) (p : Nat) (hp : w.cell? ⟨p, 0, none⟩ = some (.pointer (some ⟨d, 0, none⟩))) (s : ByteArray) (hsz : s.size ≤ maxLen) (v : Value) :
    ∃ W1, Calls Try.prog 72 #[.string s, v, .pointer (some ⟨p, 0, none⟩)] w (fun e w' => e = .returned (.tuple #[]) ∧ w' = W1) ∧ IsDisk W1 d m { S with L := del S.L s.data.toList } (del F s.data.toList) ∧ (∀ b ∈ foot d m (del F s.data.toList), b ∈ foot d m F) ∧ Kept w W1 (· ∈ foot d m F) ∧ ∀ B, B ≤ m → Below B w W1 := by
  obtain ⟨W1, hrun, h1, h2, h3, h4⟩ := gone_is hi s rfl hsz 0
  have hc1 := hi.head.c1
  refine ⟨W1, ?_, h1, h2, h3, h4⟩
  clear h1 h2 h3 h4 hi
  go_enter Try.func72, Try.ntmps72
  go_wp2
  go_end0
  exact ⟨rfl, rfl⟩
end
end Go.Proofs.Ytdepjlnljkbfjaa.Hand
