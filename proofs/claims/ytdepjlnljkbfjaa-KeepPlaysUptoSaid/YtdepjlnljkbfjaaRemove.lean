/- Remove. -/
import Derived.Test.YtdepjlnljkbfjaaRename
namespace Go.Proofs.Ytdepjlnljkbfjaa.Hand
open Go.RowKit Go.Proofs.Ytdepjlnljkbfjaa.MapP Go.Proofs.YtdepjlnljkbfjaaW.PrintWords Go.Proofs.YtdepjlnljkbfjaaW.PrintLast Go.Proofs.YtdepjlnljkbfjaaW.PrintMore
attribute [local go_sem] max2_int min2_int
set_option linter.unusedVariables false
set_option linter.unusedSimpArgs false
set_option linter.unusedSectionVars false
section
variable {w w0 W W' : World} {d m : Nat} {ok : Nat → Prop} {S S' : DV} {F : FL} {k : Key} {y : FV}
def removeX (x : List Int × Nat) : Option (List Int × Nat) := none
theorem remove_fine (hf : S.Fine) (s : ByteArray) : (oneV removeX S s).2.Fine := by
  unfold oneV
  split
  · exact hf
  · rename_i hm
    cases hk : at_ S.L s.data.toList with
    | none => exact hf
    | some x =>
      have hl := done_left hf (l := [s]) (by simpa using hm)
      have hd := total_del hf.once hk
      have h1 := hf.once.length_del (k := s.data.toList)
      rw [hk] at h1
      simp only [Option.isSome_some, if_true] at h1
      refine ⟨hf.r0, hf.r1, hl.1, hl.2, ?_, fun p hp => ?_, hf.once.del _, ?_⟩
      · have := hf.used
        simp only [removeX]
        omega
      · exact hf.lasts p (List.mem_filter.1 hp).1
      · have := hf.many
        simp only [removeX]
        omega
set_option maxRecDepth 100000 in
set_option maxHeartbeats 8000000 in
theorem each_remove (h : DiskUp w w0 ok d S) (a : Addr) (names : List ByteArray) (c : Nat) (p : Nat) (hp : ∀ W', Kept w W' ok → W'.cell? ⟨p, 0, none⟩ = some (.pointer (some ⟨d, 0, none⟩))) (hc : names.length ≤ 4611686018427387904) (hn : ∀ W', Kept w W' ok → ∀ (j : Nat) (s : ByteArray), names[j]? = some s → W'.cell? (a.add j) = some (.string s) ∧ s.size ≤ maxLen) :
    Calls Try.prog 71 #[.pointer (some ⟨d, 0, none⟩), .slice (some a) names.length c, .func (.func 72) #[] #[.pointer (some ⟨p, 0, none⟩)]] w fun e w' => e = .returned (.int .i64 (eachV removeX S names).1) ∧ DiskUp w' w0 (fun k => ok k ∨ w.heap.size ≤ k) d (eachV removeX S names).2 ∧ Kept w w' ok := by
  obtain ⟨res, hres⟩ : ∃ res, eachV removeX S names = res := ⟨_, rfl⟩
  rw [hres]
  have HD := Aside0.mk (h.mono (ok' := fun k => ok k ∨ w.heap.size ≤ k) (fun _ h => .inl h))
  have HRES := Aside0.mk hres
  have HN := Aside0.mk hn
  have HP := Aside0.mk hp
  clear h hres hn hp
  go_enter Try.func71, Try.ntmps71
  go_wp2
  go_loopw [15] (fun s15 wr => ∃ (i : Nat) (Si : DV), i ≤ names.length ∧ s15 = .int .i64 i ∧ Aside0 (DiskUp wr w0 (fun k => ok k ∨ w.heap.size ≤ k) d Si) ∧ Aside0 (Kept w wr ok) ∧ Aside0 (eachV removeX Si (names.drop i) = res)) (fun s _ => names.length - (intOf s).toNat)
  case atStart => exact ⟨0, S, Nat.zero_le _, rfl, HD, ⟨Kept.refl _ _⟩, HRES⟩
  case round =>
    clear HD HRES
    obtain ⟨i, Si, hi, rfl, HD, HK, HR⟩ := hrel
    by_cases hlt : i < names.length
    · obtain ⟨s, hs⟩ : ∃ s, names[i]? = some s := ⟨_, List.getElem?_eq_getElem hlt⟩
      obtain ⟨hcell, hsz⟩ := HN.out wr HK.out i s hs
      have hev : eachV removeX Si (names.drop i) = if (oneV removeX Si s).1 = 0 then eachV removeX (oneV removeX Si s).2 (names.drop (i + 1)) else oneV removeX Si s := by
        rw [List.drop_eq_getElem_cons hlt]
        have : names[i] = s := by
          have := List.getElem?_eq_getElem hlt
          rw [hs] at this
          injection this with this
          exact this.symm
        rw [this]
        rfl
      obtain ⟨⟨m, F, hdi, hft⟩, hB0, hf⟩ := id HD.out
      have hat := hdi.atL s.data.toList
      have hi1 := hdi.belowed ((Below.refl wr.heap.size wr).alloc (Nat.le_refl _) (.cells #[.string s] 9))
      have HI1 := Aside0.mk hi1
      have hmay := may_one hdi s hsz
      obtain ⟨mv, hmv⟩ : ∃ mv, mv = mayV Si.fused Si.left [s] := ⟨_, rfl⟩
      rw [← hmv] at hmay
      have HMAY := Aside0.mk hmay
      have HFT := Aside0.mk hft
      have HFI := Aside0.mk hf
      have HSF := Aside0.mk (remove_fine hf s)
      by_cases hm0 : mv = 0
      · have hlook := hi1.map.look PT s hsz
        rw [hi1.at] at hlook
        have h1 := hi1.head.c1
        cases hk : at_ F s.data.toList with
        | none =>
          rw [hk] at hlook hat
          simp only [Option.map_none, ptrOf] at hlook hat
          have hone : oneV removeX Si s = (7, Si) := by
            unfold oneV
            rw [if_neg (by rw [← hmv]; simpa using hm0), hat]
          rw [hone] at hev
          have HE := Aside0.mk (HR.out.symm.trans hev)
          subst hm0
          clear hev hone hmay hmv hft hf hdi hi1 hs hat hk hB0
          go_wp2_with (go_at_call 44; refine HMAY.out.mono ?_; rintro e w1 ⟨rfl, rfl⟩)
          go_ret
          have e1 : res = (7, Si) := HE.out
          rw [e1]
          exact ⟨rfl, HD.out.alloc _, HK.out.alloc _⟩
        | some y =>
          rw [hk] at hlook hat
          simp only [Option.map_some, ptrOf] at hlook hat
          have hone : oneV removeX Si s = (0, { Si with left := doneL Si.fused Si.left, L := del Si.L s.data.toList }) := by
            unfold oneV
            rw [if_neg (by rw [← hmv]; simpa using hm0), hat]
            rfl
          rw [hone] at hev HSF
          have HE := Aside0.mk (HR.out.symm.trans hev)
          obtain ⟨W5, hs1, hi5, hf5, hk5, hb5⟩ := remove1_calls hi1 p (Go.Lib.cell?_alloc_some _ (HP.out wr HK.out)) s hsz (.pointer (some ⟨y.g, 0, none⟩))
          have HS1 := Aside0.mk hs1
          have HI5 := Aside0.mk hi5
          have HF5 := Aside0.mk hf5
          have HK5 := Aside0.mk hk5
          have HB5 := Aside0.mk hb5
          subst hm0
          clear hs1 hi5 hf5 hk5 hb5 hev hone hmay hmv hft hf hdi hi1 hs hat hk hB0
          go_wp2_with (first | (go_at_call 44; refine HMAY.out.mono ?_; rintro e w1 ⟨rfl, rfl⟩) | (go_at_call 72; refine HS1.out.mono ?_; rintro e w2 ⟨rfl, rfl⟩) | (go_at_call 47; refine (done_calls HI5.out.head HFI.out.l0 HFI.out.l1).mono ?_; rintro e w6 ⟨rfl, hh6, hk6, hb6⟩))
          have ht := tail_up (w := wr) (S' := { Si with left := doneL Si.fused Si.left, L := del Si.L s.data.toList }) ((Kept.refl wr _).alloc _) (HD.out.below.alloc HD.out.below.size _) HD.out.below.size (fun b hb => .inl (HFT.out b hb)) HI5.out (fun b hb => .inl (HF5.out b hb)) HK5.out (fun B _ hB => HB5.out B (hB m (by simp [foot]))) hh6 hk6 hb6 rfl HSF.out
          have HT1 := Aside0.mk (ht.1.mono (ok' := fun k => ok k ∨ w.heap.size ≤ k) (fun b hb => hb.elim (fun h => h) (fun h => .inr (Nat.le_trans HK.out.1 h))))
          have HT2 := Aside0.mk (HK.out.then_ ht.2 (fun b hb => hb))
          clear ht hh6 hk6 hb6
          go_roundw
          case measure => simp [intOf]; omega
          case rel => exact ⟨i + 1, _, by omega, by go_num, HT1, HT2, ⟨HE.out.symm⟩⟩
      · have hne : (mv == 0) = false := by simpa using hm0
        have hone : oneV removeX Si s = (mv, Si) := by
          unfold oneV
          rw [if_pos (by rw [← hmv]; exact hm0), hmv]
        rw [hone] at hev
        have hev2 : res = (mv, Si) := by rw [← HR.out, hev, if_neg hm0]
        have HE := Aside0.mk hev2
        clear hev hev2 hone hmay hmv hft hf hdi hi1 hs hat hB0
        go_wp2_with (go_at_call 44; refine HMAY.out.mono ?_; rintro e w1 ⟨rfl, rfl⟩)
        go_ret
        rw [HE.out]
        exact ⟨rfl, HD.out.alloc _, HK.out.alloc _⟩
    · have hd : names.drop i = [] := List.drop_eq_nil_of_le (by omega)
      rw [hd] at HR
      have HE : Aside0 (res = (0, Si)) := ⟨HR.out.symm⟩
      go_wp2
      go_ret
      rw [HE.out]
      exact ⟨rfl, HD.out, HK.out⟩
theorem remove_up (h : DiskUp w w0 ok d S) (hbd : ∀ k, ok k → k < w.heap.size) (a : Addr) (names : List ByteArray) (c : Nat) (hc : names.length ≤ 4611686018427387904) (hn : ∀ W', Kept w W' ok → ∀ (j : Nat) (s : ByteArray), names[j]? = some s → W'.cell? (a.add j) = some (.string s) ∧ s.size ≤ maxLen) :
    Calls Try.prog 38 #[.pointer (some ⟨d, 0, none⟩), .slice (some a) names.length c] w fun e w' => e = .returned (.int .i64 (eachV removeX S names).1) ∧ DiskUp w' w0 (fun k => ok k ∨ w.heap.size ≤ k) d (eachV removeX S names).2 ∧ Kept w w' ok := by
  have he := each_remove (h.alloc (.cells #[.pointer (some ⟨d, 0, none⟩)] 25)) a names c w.heap.size (fun W' hK => by
    have h2 := (hK.2 w.heap.size (by simp) (fun h => by have := hbd _ h; omega)).trans (heap_alloc_new w (.cells #[.pointer (some ⟨d, 0, none⟩)] 25))
    rw [blk_cell h2]; rfl) hc (fun W' hK => hn W' (((Kept.refl w ok).alloc _).then_ hK (fun b hb => .inl hb)))
  have HE := Aside0.mk he
  generalize eachV removeX S names = res at HE ⊢
  clear he h hn
  go_enter Try.func38, Try.ntmps38
  go_wp2_with (go_at_call 71; refine HE.out.mono ?_; rintro e w1 ⟨rfl, h1, h2⟩)
  go_ret
  exact ⟨rfl, h1.mono (fun b hb => hb.imp_right (fun h => by simp at h; omega)), ((Kept.refl w ok).alloc _).then_ h2 (fun b hb => .inl hb)⟩
end
end Go.Proofs.Ytdepjlnljkbfjaa.Hand
