/- each, Sync. -/
import Derived.Test.YtdepjlnljkbfjaaRead
namespace Go.Proofs.Ytdepjlnljkbfjaa.Hand
open Go.RowKit Go.Proofs.Ytdepjlnljkbfjaa.MapP Go.Proofs.YtdepjlnljkbfjaaW.PrintWords Go.Proofs.YtdepjlnljkbfjaaW.PrintLast Go.Proofs.YtdepjlnljkbfjaaW.PrintMore
attribute [local go_sem] max2_int min2_int
set_option linter.unusedVariables false
set_option linter.unusedSimpArgs false
set_option linter.unusedSectionVars false
section
variable {w w0 W W' : World} {d m : Nat} {ok : Nat → Prop} {S S' : DV} {F : FL} {k : Key} {y : FV}
theorem may_one (hi : IsDisk w d m S F) (s : ByteArray) (hsz : s.size ≤ maxLen) :
    Calls Try.prog 44 #[.pointer (some ⟨d, 0, none⟩), .slice (some ⟨w.heap.size, 0, none⟩) 1 1] (w.alloc (.cells #[.string s] 9)) fun e w' => e = .returned (.int .i64 (mayV S.fused S.left [s])) ∧ w' = w.alloc (.cells #[.string s] 9) := by
  have hi1 := hi.belowed ((Below.refl w.heap.size w).alloc (Nat.le_refl _) (.cells #[.string s] 9))
  exact may_calls (names := [s]) hi1.head ⟨w.heap.size, 0, none⟩ 1 (by simp) (fun j s' hs' => by
    match j with
    | 0 =>
      cases hs'
      exact ⟨by rw [Addr.add_lit]; rw [blk_cell (heap_alloc_new w _)]; rfl, hsz⟩
    | j + 1 => simp at hs')
theorem DiskUp.then_ {w1 : World} {ok1 : Nat → Prop} (h : DiskUp w1 w0 ok1 d S) (h1 : ∀ b, ok1 b → ok b ∨ w.heap.size ≤ b) : DiskUp w1 w0 (fun b => ok b ∨ w.heap.size ≤ b) d S := h.mono h1
set_option maxRecDepth 100000 in
set_option maxHeartbeats 8000000 in
theorem each_sync (h : DiskUp w w0 ok d S) (a : Addr) (names : List ByteArray) (c : Nat) (hc : names.length ≤ 4611686018427387904) (hn : ∀ W', Kept w W' ok → ∀ (j : Nat) (s : ByteArray), names[j]? = some s → W'.cell? (a.add j) = some (.string s) ∧ s.size ≤ maxLen) :
    Calls Try.prog 71 #[.pointer (some ⟨d, 0, none⟩), .slice (some a) names.length c, .func (.func 73) #[] #[]] w fun e w' => e = .returned (.int .i64 (eachV syncX S names).1) ∧ DiskUp w' w0 (fun k => ok k ∨ w.heap.size ≤ k) d (eachV syncX S names).2 ∧ Kept w w' ok := by
  obtain ⟨res, hres⟩ : ∃ res, eachV syncX S names = res := ⟨_, rfl⟩
  rw [hres]
  have HD := Aside0.mk (h.mono (ok' := fun k => ok k ∨ w.heap.size ≤ k) (fun _ h => .inl h))
  have HRES := Aside0.mk hres
  have HN := Aside0.mk hn
  clear h hres hn
  go_enter Try.func71, Try.ntmps71
  go_wp2
  go_loopw [15] (fun s15 wr => ∃ (i : Nat) (Si : DV), i ≤ names.length ∧ s15 = .int .i64 i ∧ Aside0 (DiskUp wr w0 (fun k => ok k ∨ w.heap.size ≤ k) d Si) ∧ Aside0 (Kept w wr ok) ∧ Aside0 (eachV syncX Si (names.drop i) = res)) (fun s _ => names.length - (intOf s).toNat)
  case atStart => exact ⟨0, S, Nat.zero_le _, rfl, HD, ⟨Kept.refl _ _⟩, HRES⟩
  case round =>
    clear HD HRES
    obtain ⟨i, Si, hi, rfl, HD, HK, HR⟩ := hrel
    by_cases hlt : i < names.length
    · obtain ⟨s, hs⟩ : ∃ s, names[i]? = some s := ⟨_, List.getElem?_eq_getElem hlt⟩
      obtain ⟨hcell, hsz⟩ := HN.out wr HK.out i s hs
      have hev : eachV syncX Si (names.drop i) = if (oneV syncX Si s).1 = 0 then eachV syncX (oneV syncX Si s).2 (names.drop (i + 1)) else oneV syncX Si s := by
        rw [List.drop_eq_getElem_cons hlt]
        have : names[i] = s := by
          have := List.getElem?_eq_getElem hlt
          rw [hs] at this
          injection this with this
          exact this.symm
        rw [this]
        rfl
      obtain ⟨⟨m, F, hdi, hft⟩, hB0, hf⟩ := id HD.out
      have hat := hdi.atL s.data.toList
      have hi1 := hdi.belowed ((Below.refl wr.heap.size wr).alloc (Nat.le_refl _) (.cells #[.string s] 9))
      have HI1 := Aside0.mk hi1
      have hmay := may_one hdi s hsz
      obtain ⟨mv, hmv⟩ : ∃ mv, mv = mayV Si.fused Si.left [s] := ⟨_, rfl⟩
      rw [← hmv] at hmay
      have HMAY := Aside0.mk hmay
      have HFT := Aside0.mk hft
      have HFI := Aside0.mk hf
      have HSF := Aside0.mk (sync_fine hf s)
      by_cases hm0 : mv = 0
      · have hlook := hi1.map.look PT s hsz
        rw [hi1.at] at hlook
        have h1 := hi1.head.c1
        cases hk : at_ F s.data.toList with
        | none =>
          rw [hk] at hlook hat
          simp only [Option.map_none, ptrOf] at hlook hat
          have hone : oneV syncX Si s = (7, Si) := by
            unfold oneV
            rw [if_neg (by rw [← hmv]; simpa using hm0), hat]
          rw [hone] at hev
          have HE := Aside0.mk (HR.out.symm.trans hev)
          subst hm0
          clear hev hone hmay hmv hft hf hdi hi1 hs hat hk hB0
          go_wp2_with (go_at_call 44; refine HMAY.out.mono ?_; rintro e w1 ⟨rfl, rfl⟩)
          go_ret
          have e1 : res = (7, Si) := HE.out
          rw [e1]
          exact ⟨rfl, HD.out.alloc _, HK.out.alloc _⟩
        | some y =>
          rw [hk] at hlook hat
          simp only [Option.map_some, ptrOf] at hlook hat
          have hone : oneV syncX Si s = (0, { Si with left := doneL Si.fused Si.left, L := put Si.L s.data.toList (y.x.1, y.x.1.length) }) := by
            unfold oneV
            rw [if_neg (by rw [← hmv]; simpa using hm0), hat]
            rfl
          rw [hone] at hev HSF
          have HE := Aside0.mk (HR.out.symm.trans hev)
          have HS1 := Aside0.mk (sync1_calls hi1 hk (.string s))
          obtain ⟨hi5, hf5, hk5, hb5⟩ := synced_is hi1 hk
          have HI5 := Aside0.mk hi5
          have HF5 := Aside0.mk hf5
          have HK5 := Aside0.mk hk5
          have HB5 := Aside0.mk hb5
          subst hm0
          clear hi5 hf5 hk5 hb5 hev hone hmay hmv hft hf hdi hi1 hs hat hk hB0
          go_wp2_with (first | (go_at_call 44; refine HMAY.out.mono ?_; rintro e w1 ⟨rfl, rfl⟩) | (go_at_call 73; refine HS1.out.mono ?_; rintro e w2 ⟨rfl, rfl⟩) | (go_at_call 47; refine (done_calls HI5.out.head HFI.out.l0 HFI.out.l1).mono ?_; rintro e w6 ⟨rfl, hh6, hk6, hb6⟩))
          have ht := tail_up (w := wr) (S' := { Si with left := doneL Si.fused Si.left, L := put Si.L s.data.toList (y.x.1, y.x.1.length) }) ((Kept.refl wr _).alloc _) (HD.out.below.alloc HD.out.below.size _) HD.out.below.size (fun b hb => .inl (HFT.out b hb)) HI5.out HF5.out HK5.out HB5.out hh6 hk6 hb6 rfl HSF.out
          have HT1 := Aside0.mk (ht.1.mono (ok' := fun k => ok k ∨ w.heap.size ≤ k) (fun b hb => hb.elim (fun h => h) (fun h => .inr (Nat.le_trans HK.out.1 h))))
          have HT2 := Aside0.mk (HK.out.then_ ht.2 (fun b hb => hb))
          clear ht hh6 hk6 hb6
          go_roundw
          case measure => simp [intOf]; omega
          case rel => exact ⟨i + 1, _, by omega, by go_num, HT1, HT2, ⟨HE.out.symm⟩⟩
      · have hne : (mv == 0) = false := by simpa using hm0
        have hone : oneV syncX Si s = (mv, Si) := by
          unfold oneV
          rw [if_pos (by rw [← hmv]; exact hm0), hmv]
        rw [hone] at hev
        have hev2 : res = (mv, Si) := by rw [← HR.out, hev, if_neg hm0]
        have HE := Aside0.mk hev2
        clear hev hev2 hone hmay hmv hft hf hdi hi1 hs hat hB0
        go_wp2_with (go_at_call 44; refine HMAY.out.mono ?_; rintro e w1 ⟨rfl, rfl⟩)
        go_ret
        rw [HE.out]
        exact ⟨rfl, HD.out.alloc _, HK.out.alloc _⟩
    · have hd : names.drop i = [] := List.drop_eq_nil_of_le (by omega)
      rw [hd] at HR
      have HE : Aside0 (res = (0, Si)) := ⟨HR.out.symm⟩
      go_wp2
      go_ret
      rw [HE.out]
      exact ⟨rfl, HD.out, HK.out⟩
theorem sync_up (h : DiskUp w w0 ok d S) (a : Addr) (names : List ByteArray) (c : Nat) (hc : names.length ≤ 4611686018427387904) (hn : ∀ W', Kept w W' ok → ∀ (j : Nat) (s : ByteArray), names[j]? = some s → W'.cell? (a.add j) = some (.string s) ∧ s.size ≤ maxLen) :
    Calls Try.prog 39 #[.pointer (some ⟨d, 0, none⟩), .slice (some a) names.length c] w fun e w' => e = .returned (.int .i64 (eachV syncX S names).1) ∧ DiskUp w' w0 (fun k => ok k ∨ w.heap.size ≤ k) d (eachV syncX S names).2 ∧ Kept w w' ok := by
  have HE := Aside0.mk (each_sync h a names c hc hn)
  generalize eachV syncX S names = res at HE ⊢
  clear h hn
  go_enter Try.func39, Try.ntmps39
  go_wp2_with (go_at_call 71; refine HE.out.mono ?_; rintro e w1 ⟨rfl, h1, h2⟩)
  go_ret
  exact ⟨rfl, h1, h2⟩
end
end Go.Proofs.Ytdepjlnljkbfjaa.Hand

/- A file is gone: delete, Remove, Rename. -/
namespace Go.Proofs.Ytdepjlnljkbfjaa.Hand
open Go.RowKit Go.Proofs.Ytdepjlnljkbfjaa.MapP Go.Proofs.YtdepjlnljkbfjaaW.PrintWords Go.Proofs.YtdepjlnljkbfjaaW.PrintLast Go.Proofs.YtdepjlnljkbfjaaW.PrintMore
attribute [local go_sem] max2_int min2_int
set_option linter.unusedVariables false
set_option linter.unusedSimpArgs false
set_option linter.unusedSectionVars false
theorem sub_flat {α β : Type} (f : α → List β) : ∀ {l l' : List α}, List.Sublist l l' → List.Sublist (l.flatMap f) (l'.flatMap f)
  | _, _, .slnil => List.Sublist.refl _
  | _, _, .cons a h => by
    rw [List.flatMap_cons]
    exact (sub_flat f h).trans (List.sublist_append_right _ _)
  | _, _, .cons_cons a h => by
    rw [List.flatMap_cons, List.flatMap_cons]
    exact List.Sublist.append (List.Sublist.refl _) (sub_flat f h)
section
variable {w w0 W W' : World} {d m : Nat} {ok : Nat → Prop} {S S' : DV} {F : FL} {k : Key} {y : FV}
theorem IsDisk.gone (h : IsDisk W d m S F) (hm : HasMap Try.prog 9 W' m (del (gm F) k)) (hs : ∀ b ∈ foot d m F, b ≠ m → W'.heap[b]? = W.heap[b]?) (hL : S' = { S with L := del S.L k }) :
    IsDisk W' d m S' (del F k) ∧ (∀ b ∈ foot d m (del F k), b ∈ foot d m F) := by
  subst hL
  have hnd := h.nd
  have hsub : List.Sublist (foot d m (del F k)) (foot d m F) := by
    unfold foot blocks del
    exact ((sub_flat (fun p : Key × FV => one p.2) List.filter_sublist).cons_cons m).cons_cons d
  have hm1 : ∀ b ∈ blocks F, b ≠ m := by
    simp only [foot, List.nodup_cons] at hnd
    intro b hb e
    exact hnd.2.1 (e ▸ hb)
  refine ⟨⟨(hs d (by simp [foot]) h.ne).trans h.head, ?_, ?_, List.Nodup.sublist hsub hnd, ?_⟩, fun b hb => hsub.subset hb⟩
  · have := del_map (fun y : FV => y.g) F k
    unfold gm at hm ⊢
    rw [← this]
    exact hm
  · intro p hp
    have hp' : p ∈ F := (List.mem_filter.1 hp).1
    exact (h.file p hp').step (fun b hb => hs b (mem_foot_file hp' hb) (hm1 b (List.mem_flatMap.2 ⟨p, hp', hb⟩)))
  · show del S.L k = _
    rw [h.val]
    exact del_map (fun y : FV => y.x) F k
/-- delete of a file. -/
theorem gone_is (hi : IsDisk W d m S F) (s : ByteArray) (hs : s.data.toList = k) (hsz : s.size ≤ maxLen) (ty : TypeId) :
    ∃ W1, (Builtin.delete_ #[66, 9] ty #[.map (some m), .string s]).run Try.prog W = .ok (.tuple #[]) W1 ∧ IsDisk W1 d m { S with L := del S.L k } (del F k) ∧ (∀ b ∈ foot d m (del F k), b ∈ foot d m F) ∧ Kept W W1 (· ∈ foot d m F) ∧ ∀ B, B ≤ m → Below B W W1 := by
  subst hs
  obtain ⟨W1, hrun, hm1, ht⟩ := hi.map.drop PT s hsz ty
  have hg := ht.grown
  have hgo := hi.gone (W' := W1) (S' := { S with L := del S.L s.data.toList }) hm1 (fun b hb hbm => hg.block b (hi.lt b hb) (fun e => hbm (by injection e))) rfl
  exact ⟨W1, hrun, hgo.1, hgo.2, Kept.of_grown hg (Kept.refl W _) (fun b hb => .inl (by injection hb with hb; simp [foot, hb])), fun B h2 => (Below.refl B W).grown hg (Nat.le_trans h2 (Nat.le_of_lt hi.map.lt)) (fun b hb => by injection hb with hb; omega)⟩
/-- What Remove's closure does to one file: p is the block where it finds the disk. -/
theorem remove1_calls (hi : IsDisk w d m S F) (p : Nat) (hp : w.cell? ⟨p, 0, none⟩ = some (.pointer (some ⟨d, 0, none⟩))) (s : ByteArray) (hsz : s.size ≤ maxLen) (v : Value) :
    ∃ W1, Calls Try.prog 72 #[.string s, v, .pointer (some ⟨p, 0, none⟩)] w (fun e w' => e = .returned (.tuple #[]) ∧ w' = W1) ∧ IsDisk W1 d m { S with L := del S.L s.data.toList } (del F s.data.toList) ∧ (∀ b ∈ foot d m (del F s.data.toList), b ∈ foot d m F) ∧ Kept w W1 (· ∈ foot d m F) ∧ ∀ B, B ≤ m → Below B w W1 := by
  obtain ⟨W1, hrun, h1, h2, h3, h4⟩ := gone_is hi s rfl hsz 0
  have hc1 := hi.head.c1
  refine ⟨W1, ?_, h1, h2, h3, h4⟩
  clear h1 h2 h3 h4 hi
  go_enter Try.func72, Try.ntmps72
  go_wp2
  go_end0
  exact ⟨rfl, rfl⟩
end
end Go.Proofs.Ytdepjlnljkbfjaa.Hand
