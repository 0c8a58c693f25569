/- Rename. -/
import Derived.Test.YtdepjlnljkbfjaaEach
namespace Go.Proofs.Ytdepjlnljkbfjaa.Hand
open Go.RowKit Go.Proofs.Ytdepjlnljkbfjaa.MapP Go.Proofs.YtdepjlnljkbfjaaW.PrintWords Go.Proofs.YtdepjlnljkbfjaaW.PrintLast Go.Proofs.YtdepjlnljkbfjaaW.PrintMore
attribute [local go_sem] max2_int min2_int
set_option linter.unusedVariables false
set_option linter.unusedSimpArgs false
set_option linter.unusedSectionVars false
section
variable {w w0 W W' : World} {d m : Nat} {ok : Nat → Prop} {S S' : DV} {F : FL} {k k2 : Key} {y : FV}
theorem blocks_cons (p : Key × FV) (F : FL) : blocks (p :: F) = one p.2 ++ blocks F := rfl
theorem blocks_app (F G : FL) : blocks (F ++ G) = blocks F ++ blocks G := by simp [blocks]
theorem blocks_del (ho : Once F) (hk : at_ F k = some y) : (blocks F).Perm (one y ++ blocks (del F k)) := by
  obtain ⟨F1, F2, e, _, hd⟩ := split_at ho hk
  rw [hd, e, blocks_app, blocks_cons, blocks_app]
  exact (List.perm_append_comm_assoc _ _ _)
theorem blocks_put {G : FL} (ho : Once G) (k : Key) (y : FV) : ∃ l, (blocks (put G k y)).Perm l ∧ List.Sublist l (one y ++ blocks G) := by
  cases hk : at_ G k with
  | none =>
    refine ⟨one y ++ blocks G, ?_, List.Sublist.refl _⟩
    rw [put_new hk, blocks_app, blocks_cons]
    simp only [blocks, List.flatMap_nil, List.append_nil]
    exact List.perm_append_comm
  | some y0 =>
    obtain ⟨G1, G2, e, hp, _⟩ := split_at ho hk
    refine ⟨one y ++ (blocks G1 ++ blocks G2), ?_, ?_⟩
    · rw [hp, blocks_app, blocks_cons]
      exact List.perm_append_comm_assoc _ _ _
    · rw [e, blocks_app, blocks_cons]
      exact List.Sublist.append (List.Sublist.refl _) (List.Sublist.append (List.Sublist.refl _) (List.sublist_append_right _ _))
theorem mem_put_any {β : Type} {L : List (Key × β)} {k : Key} {x : β} : ∀ p ∈ put L k x, p ∈ L ∨ p = (k, x) := by
  intro p hp
  unfold put at hp
  split at hp
  · obtain ⟨q, hq, rfl⟩ := List.mem_map.1 hp
    by_cases e : q.1 = k
    · right; simp [e]
    · left; simpa [e] using hq
  · rcases List.mem_append.1 hp with h | h
    · exact .inl h
    · exact .inr (List.mem_singleton.1 h)
/-- delete and store: a file has another name. -/
theorem moved_is (hi : IsDisk W d m S F) (s s2 : ByteArray) (hs : s.data.toList = k) (hs2 : s2.data.toList = k2) (hsz : s.size ≤ maxLen) (hsz2 : s2.size ≤ maxLen) (hk : at_ F k = some y) (hl : S.L.length ≤ 4096) (ty : TypeId) :
    ∃ W1 W2, (Builtin.delete_ #[66, 9] ty #[.map (some m), .string s]).run Try.prog W = .ok (.tuple #[]) W1 ∧ W1.cell? ⟨d, 1, none⟩ = some (.map (some m)) ∧ (Instr.mapUpdate 66 (.map (some m)) (.string s2) (.pointer (some ⟨y.g, 0, none⟩))).run Try.prog W1 = .ok () W2 ∧
      IsDisk W2 d m { S with L := put (del S.L k) k2 y.x } (put (del F k) k2 y) ∧ (∀ b ∈ foot d m (put (del F k) k2 y), b ∈ foot d m F) ∧ Kept W W2 (· ∈ foot d m F) ∧ ∀ B, B ≤ m → Below B W W2 := by
  subst hs hs2
  obtain ⟨W1, hrun, hm1, ht⟩ := hi.map.drop PT s hsz ty
  have hg := ht.grown
  have hle : (del (gm F) s.data.toList).length < maxLen := by
    have h1 : (del (gm F) s.data.toList).length ≤ (gm F).length := by unfold del; exact List.length_filter_le _ _
    have h2 : (gm F).length = S.L.length := by rw [hi.val]; simp [gm, xm]
    unfold maxLen
    omega
  obtain ⟨W2, hrun2, hm2, ht2⟩ := hm1.store PT hle s2 hsz2 y.g
  have hg2 := ht2.grown
  have hfar : ∀ b ∈ foot d m F, b ≠ m → W2.heap[b]? = W.heap[b]? := fun b hb hne => by
    have h1 := hi.lt b hb
    exact (hg2.block b (Nat.lt_of_lt_of_le h1 hg.size) (fun e => hne (by injection e))).trans (hg.block b h1 (fun e => hne (by injection e)))
  have hnd := hi.nd
  have hm0 : ∀ b ∈ blocks F, b ≠ m := by
    simp only [foot, List.nodup_cons] at hnd
    intro b hb e
    exact hnd.2.1 (e ▸ hb)
  have hod : Once (del F s.data.toList) := hi.once.del _
  obtain ⟨l, hp1, hp2⟩ := blocks_put hod s2.data.toList y
  have hp3 := blocks_del hi.once hk
  have hsub : ∀ b ∈ blocks (put (del F s.data.toList) s2.data.toList y), b ∈ blocks F := fun b hb => hp3.mem_iff.2 (hp2.subset (hp1.mem_iff.1 hb))
  refine ⟨W1, W2, hrun, ?_, hrun2, ⟨(hfar d (by simp [foot]) hi.ne).trans hi.head, ?_, ?_, ?_, ?_⟩, ?_, ?_, fun B h2 => ?_⟩
  · have h1 := blk_grown hi.head hg (fun e => hi.ne (by injection e))
    rw [blk_cell h1]; rfl
  · have e1 := del_map (fun y : FV => y.g) F s.data.toList
    have e2 := put_map (fun y : FV => y.g) (del F s.data.toList) s2.data.toList y
    unfold gm at hm2 ⊢
    rw [← e2, ← e1]
    exact hm2
  · intro p hp
    have hq : p ∈ F ∨ p = (s2.data.toList, y) := (mem_put_any p hp).imp_left (fun h => (List.mem_filter.1 h).1)
    rcases hq with h | rfl
    · exact (hi.file p h).step (fun b hb => hfar b (mem_foot_file h hb) (hm0 b (List.mem_flatMap.2 ⟨p, h, hb⟩)))
    · have h := at_mem hk
      exact (hi.file _ h).step (fun b hb => hfar b (mem_foot_file h hb) (hm0 b (List.mem_flatMap.2 ⟨_, h, hb⟩)))
  · have hnb : (blocks (put (del F s.data.toList) s2.data.toList y)).Nodup := hp1.nodup_iff.2 (hp2.nodup (hp3.nodup_iff.1 (List.nodup_cons.1 (List.nodup_cons.1 hnd).2).2))
    unfold foot at hnd ⊢
    simp only [List.nodup_cons, List.mem_cons, not_or] at hnd ⊢
    exact ⟨⟨hnd.1.1, fun h => hnd.1.2 (hsub _ h)⟩, fun h => hnd.2.1 (hsub _ h), hnb⟩
  · show put (del S.L s.data.toList) s2.data.toList y.x = _
    rw [hi.val]
    have e1 := del_map (fun y : FV => y.x) F s.data.toList
    have e2 := put_map (fun y : FV => y.x) (del F s.data.toList) s2.data.toList y
    unfold xm
    rw [← e2, ← e1]
  · intro b hb
    simp only [foot, List.mem_cons] at hb ⊢
    exact hb.imp_right (fun h => h.imp_right (hsub b))
  · exact Kept.of_grown hg2 (Kept.of_grown hg (Kept.refl W _) (fun b hb => .inl (by injection hb with hb; simp [foot, hb]))) (fun b hb => .inl (by injection hb with hb; simp [foot, hb]))
  · have hlt := hi.map.lt
    exact ((Below.refl B W).grown hg (by omega) (fun b hb => by injection hb with hb; omega)).grown hg2 (by have := hg.size; omega) (fun b hb => by injection hb with hb; omega)
def renameV (S : DV) (s s2 : ByteArray) : Int × DV :=
  if mayV S.fused S.left [s, s2] ≠ 0 then (mayV S.fused S.left [s, s2], S)
  else match at_ S.L s.data.toList with
    | none => (7, S)
    | some x => (0, { S with left := doneL S.fused S.left, L := put (del S.L s.data.toList) s2.data.toList x })
theorem total_del {L : List (Key × (List Int × Nat))} {x : List Int × Nat} (ho : Once L) (hk : at_ L k = some x) : total (del L k) + x.1.length = total L := by
  obtain ⟨F1, F2, e, _, hd⟩ := split_at ho hk
  rw [hd, e, total_app, total_app]
  simp only [total]
  omega
theorem rename_fine (hf : S.Fine) (s s2 : ByteArray) : (renameV S s s2).2.Fine := by
  unfold renameV
  split
  · exact hf
  · rename_i hm
    cases hk : at_ S.L s.data.toList with
    | none => exact hf
    | some x =>
      have hl := done_left hf (l := [s, s2]) (by simpa using hm)
      have hod : Once (del S.L s.data.toList) := hf.once.del _
      have hx := total_put hod s2.data.toList x
      have hd := total_del hf.once hk
      refine ⟨hf.r0, hf.r1, hl.1, hl.2, ?_, fun p hp => ?_, hod.put, ?_⟩
      · have := hf.used
        simp only
        omega
      · rcases mem_put_any p hp with h | rfl
        · exact hf.lasts p (List.mem_filter.1 h).1
        · exact hf.lasts (s.data.toList, x) (at_mem hk)
      · have h1 := hf.once.length_del (k := s.data.toList)
        rw [hk] at h1
        simp only [Option.isSome_some, if_true] at h1
        have := hf.many
        simp only [length_put]
        split <;> omega
set_option maxRecDepth 100000 in
set_option maxHeartbeats 4000000 in
theorem rename_up (h : DiskUp w w0 ok d S) (s s2 : ByteArray) (hsz : s.size ≤ maxLen) (hsz2 : s2.size ≤ maxLen) :
    Calls Try.prog 40 #[.pointer (some ⟨d, 0, none⟩), .string s, .string s2] w fun e w' => e = .returned (.int .i64 (renameV S s s2).1) ∧ DiskUp w' w0 (fun k => ok k ∨ w.heap.size ≤ k) d (renameV S s s2).2 ∧ Kept w w' ok := by
  have HFINE := Aside0.mk (rename_fine h.fine s s2)
  have HD := Aside0.mk h
  obtain ⟨⟨m, F, hi, hft⟩, hB0, hf⟩ := h
  have hi1 := hi.belowed ((Below.refl w.heap.size w).alloc (Nat.le_refl _) (.cells #[.string s, .string s2] 9))
  have hmay := may_calls (names := [s, s2]) hi1.head ⟨w.heap.size, 0, none⟩ 2 (by simp) (fun j s' hs' => by
    match j with
    | 0 =>
      cases hs'
      exact ⟨by rw [Addr.add_lit]; rw [blk_cell (heap_alloc_new w _)]; rfl, hsz⟩
    | 1 =>
      cases hs'
      exact ⟨by rw [Addr.add_lit]; rw [blk_cell (heap_alloc_new w _)]; rfl, hsz2⟩
    | j + 2 => simp at hs')
  simp only [List.length_cons, List.length_nil, Nat.zero_add, Nat.reduceAdd] at hmay
  obtain ⟨res, hres⟩ : ∃ res, res = renameV S s s2 := ⟨_, rfl⟩
  rw [← hres] at HFINE ⊢
  obtain ⟨mv, hmv⟩ : ∃ mv, mv = mayV S.fused S.left [s, s2] := ⟨_, rfl⟩
  rw [← hmv] at hmay
  have hat := hi.atL s.data.toList
  have HMAY := Aside0.mk hmay
  have HFT := Aside0.mk hft
  have HFI := Aside0.mk hf
  by_cases hm0 : mv = 0
  · have hlook := hi1.map.look PT s hsz
    rw [hi1.at] at hlook
    have h1 := hi1.head.c1
    cases hk : at_ F s.data.toList with
    | none =>
      rw [hk] at hlook hat
      simp only [Option.map_none, ptrOf] at hlook hat
      have hone : res = (7, S) := by
        rw [hres]
        unfold renameV
        rw [if_neg (by rw [← hmv]; simpa using hm0), hat]
      have HE := Aside0.mk hone
      subst hm0
      clear hone hres hmay hmv hft hf hi hi1 hat hk hB0
      go_enter Try.func40, Try.ntmps40
      go_wp2_with (go_at_call 44; refine HMAY.out.mono ?_; rintro e w1 ⟨rfl, rfl⟩)
      go_ret
      rw [HE.out]
      exact ⟨rfl, (HD.out.alloc _).mono (fun _ h => .inl h), (Kept.refl w _).alloc _⟩
    | some y =>
      rw [hk] at hlook hat
      simp only [Option.map_some, ptrOf] at hlook hat
      have hone : res = (0, { S with left := doneL S.fused S.left, L := put (del S.L s.data.toList) s2.data.toList y.x }) := by
        rw [hres]
        unfold renameV
        rw [if_neg (by rw [← hmv]; simpa using hm0), hat]
      have HE := Aside0.mk hone
      obtain ⟨W1, W2, hr1, hcl, hr2, hi5, hf5, hk5, hb5⟩ := moved_is hi1 s s2 rfl rfl hsz hsz2 hk hf.many 0
      have HI5 := Aside0.mk hi5
      have HF5 := Aside0.mk hf5
      have HK5 := Aside0.mk hk5
      have HB5 := Aside0.mk hb5
      subst hm0
      clear hi5 hf5 hk5 hb5 hone hres hmay hmv hft hf hi hi1 hat hk hB0
      go_enter Try.func40, Try.ntmps40
      go_wp2_with (first | (go_at_call 44; refine HMAY.out.mono ?_; rintro e w1 ⟨rfl, rfl⟩) | (go_at_call 47; refine (done_calls HI5.out.head HFI.out.l0 HFI.out.l1).mono ?_; rintro e w6 ⟨rfl, hh6, hk6, hb6⟩))
      go_ret
      rw [HE.out]
      rw [HE.out] at HFINE
      exact ⟨rfl, tail_up (w := w) ((Kept.refl w _).alloc _) (HD.out.below.alloc HD.out.below.size _) HD.out.below.size (fun b hb => .inl (HFT.out b hb)) HI5.out (fun b hb => .inl (HF5.out b hb)) HK5.out (fun B _ hB => HB5.out B (hB m (by simp [foot]))) hh6 hk6 hb6 rfl HFINE.out⟩
  · have hne : (mv == 0) = false := by simpa using hm0
    have hone : res = (mv, S) := by
      rw [hres]
      unfold renameV
      rw [if_pos (by rw [← hmv]; exact hm0), hmv]
    have HE := Aside0.mk hone
    clear hone hres hmay hmv hft hf hi hi1 hat hB0
    go_enter Try.func40, Try.ntmps40
    go_wp2_with (go_at_call 44; refine HMAY.out.mono ?_; rintro e w1 ⟨rfl, rfl⟩)
    go_ret
    rw [HE.out]
    exact ⟨rfl, (HD.out.alloc _).mono (fun _ h => .inl h), (Kept.refl w _).alloc _⟩
end
end Go.Proofs.Ytdepjlnljkbfjaa.Hand
