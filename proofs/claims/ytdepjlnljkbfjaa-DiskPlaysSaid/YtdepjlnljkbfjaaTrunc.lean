/- Truncate; Fuse with any number. -/
import Derived.Test.YtdepjlnljkbfjaaRel
namespace Go.Proofs.Ytdepjlnljkbfjaa.Hand
open Go.RowKit Go.Proofs.Ytdepjlnljkbfjaa.PA Go.Proofs.Ytdepjlnljkbfjaa.MapP Go.Proofs.YtdepjlnljkbfjaaW.PrintWords Go.Proofs.YtdepjlnljkbfjaaW.PrintLast Go.Proofs.YtdepjlnljkbfjaaW.PrintMore
attribute [local go_sem] max2_int min2_int
set_option linter.unusedVariables false
set_option linter.unusedSimpArgs false
set_option linter.unusedSectionVars false
section
variable {w w0 W W' : World} {d m : Nat} {ok : Nat → Prop} {S S' : DV} {F : FL} {k : Key} {y : FV} {R : RV}
def truncV (S : DV) (s : ByteArray) (n : Int) : Int × DV :=
  if mayV S.fused S.left [s] ≠ 0 then (mayV S.fused S.left [s], S)
  else match at_ S.L s.data.toList with
    | none => (7, S)
    | some x => if n < 0 ∨ (x.1.length : Int) < n then (1, S) else (0, { S with left := doneL S.fused S.left, L := put S.L s.data.toList (x.1.take n.toNat, min x.2 n.toNat) })
theorem trunc_fine (hf : S.Fine) (s : ByteArray) (n : Int) : (truncV S s n).2.Fine := by
  unfold truncV
  split
  · exact hf
  · rename_i hm
    cases hk : at_ S.L s.data.toList with
    | none => exact hf
    | some x =>
      simp only
      split
      · exact hf
      · have hl := done_left hf (l := [s]) (by simpa using hm)
        obtain ⟨F1, F2, e, hp, _⟩ := split_at hf.once hk
        have hle : (x.1.take n.toNat).length ≤ x.1.length := by rw [List.length_take]; omega
        have hmem : (s.data.toList, x) ∈ S.L := at_mem hk
        have hls := hf.lasts _ hmem
        refine ⟨hf.r0, hf.r1, hl.1, hl.2, ?_, fun p hp2 => ?_, hf.once.put, ?_⟩
        · have := hf.used
          rw [e, total_app2] at this
          simp only
          rw [hp, total_app2]
          simp only [total] at this ⊢
          omega
        · rcases mem_put_old hk p hp2 with rfl | ⟨h1, _⟩
          · simp only [List.length_take] at hls ⊢
            omega
          · exact hf.lasts p h1
        · have := hf.many
          rw [e] at this
          simp only
          rw [hp]
          simpa using this
theorem cut_is (hi : IsDisk W d m S F) (hk : at_ F k = some y) (A : Option Addr) (n c t t2 : Nat) (hv : y.v = .slice A n c) (ht : t ≤ y.x.1.length) :
    IsDisk ((W.setCell ⟨y.g, 0, none⟩ (.slice A t t)).setCell ⟨y.g, 1, none⟩ (.int .i64 t2)) d m { S with L := put S.L k (y.x.1.take t, t2) } (put F k ⟨y.g, .slice A t t, (y.x.1.take t, t2)⟩) ∧
      (∀ b ∈ foot d m (put F k ⟨y.g, .slice A t t, (y.x.1.take t, t2)⟩), b ∈ foot d m F ∨ W.heap.size ≤ b) ∧ ∀ b, b ≠ y.g → ((W.setCell ⟨y.g, 0, none⟩ (.slice A t t)).setCell ⟨y.g, 1, none⟩ (.int .i64 t2)).heap[b]? = W.heap[b]? := by
  have hfile := hi.file _ (at_mem hk)
  have hne := hi.own_ne hk
  have hfar : ∀ b, b ≠ y.g → ((W.setCell ⟨y.g, 0, none⟩ (.slice A t t)).setCell ⟨y.g, 1, none⟩ (.int .i64 t2)).heap[b]? = W.heap[b]? := fun b hb => (Below.heap_setCell _ ⟨y.g, 1, none⟩ _ b hb).trans (Below.heap_setCell W ⟨y.g, 0, none⟩ _ b hb)
  have hown : (Value.slice A t t).ownBlock = y.v.ownBlock := by
    rw [hv]
    rcases A with _ | ⟨g, o, s⟩
    · rfl
    · cases o <;> cases s <;> rfl
  have hd : Dat W (.slice A t t) (y.x.1.take t) := by
    have := hfile.2
    simp only at this
    rw [hv] at this
    exact this.cut t ht
  have hch := hi.changed (W' := (W.setCell ⟨y.g, 0, none⟩ (.slice A t t)).setCell ⟨y.g, 1, none⟩ (.int .i64 t2)) (S' := { S with L := put S.L k (y.x.1.take t, t2) }) (y' := ⟨y.g, .slice A t t, (y.x.1.take t, t2)⟩) hk rfl
    ⟨blk_set (blk_set hfile.1 0 (.slice A t t)) 1 _, hd.step (fun b hb => hfar b (fun e => hne (by rw [← hown, hb, e])))⟩ (fun b hb hb2 => hfar b (fun e => hb2 (by simp [one, e]))) (.inl hown) rfl
  exact ⟨hch.1, hch.2, hfar⟩
theorem rel_trunc (h : Rel S R) (s : ByteArray) (n : Int) : (truncR R s n).1 = (truncV S s n).1 ∧ Rel (truncV S s n).2 (truncR R s n).2 := by
  have hf := trunc_fine h.fine s n
  unfold truncV at hf ⊢
  unfold truncR
  rw [← h.may]
  by_cases hm : mayV S.fused S.left [s] = 0
  · rw [hm] at hf ⊢
    simp only [ne_eq, not_true_eq_false, if_false] at hf ⊢
    have ha := h.at_ s.data.toList
    cases hb : spotB R.L s.data.toList with
    | false =>
      rw [hb, if_neg (by simp)] at ha
      rw [ha, if_neg (by simp)]
      exact ⟨rfl, h⟩
    | true =>
      rw [hb, if_pos rfl] at ha
      rw [ha] at hf ⊢
      rw [if_pos rfl]
      simp only at hf ⊢
      by_cases hq : n < 0 ∨ ((getR R.L s.data.toList).1.length : Int) < n
      · rw [if_pos hq, if_pos hq]
        exact ⟨rfl, h⟩
      · rw [if_neg hq] at hf ⊢
        rw [if_neg hq]
        refine ⟨by first | trivial | rfl, Rel.make h.room (h.done hm) (set_rel h.sorted hb _).1 h.once.put (fun k => ?_) hf⟩
        show MapP.at_ (R.L.set _ _) k = MapP.at_ (put _ _ _) k
        rw [(set_rel h.sorted hb _).2, put_at, perm_at (sorted_once h.sorted) h.perm]
  · rw [if_pos hm, if_pos hm]
    exact ⟨rfl, h⟩
set_option maxRecDepth 100000 in
set_option maxHeartbeats 4000000 in
theorem trunc_up (h : DiskUp w w0 ok d S) (s : ByteArray) (hsz : s.size ≤ maxLen) (n : Int) :
    Calls Try.prog 52 #[.pointer (some ⟨d, 0, none⟩), .string s, .int .i64 n] w fun e w' => e = .returned (.int .i64 (truncV S s n).1) ∧ DiskUp w' w0 (fun k => ok k ∨ w.heap.size ≤ k) d (truncV S s n).2 ∧ Kept w w' ok := by
  have HFINE := Aside0.mk (trunc_fine h.fine s n)
  have HD := Aside0.mk h
  obtain ⟨⟨m, F, hi, hft⟩, hB0, hf⟩ := h
  have hi1 := hi.belowed ((Below.refl w.heap.size w).alloc (Nat.le_refl _) (.cells #[.string s] 9))
  have hmay := may_one hi s hsz
  obtain ⟨res, hres⟩ : ∃ res, res = truncV S s n := ⟨_, rfl⟩
  rw [← hres] at HFINE ⊢
  obtain ⟨mv, hmv⟩ : ∃ mv, mv = mayV S.fused S.left [s] := ⟨_, rfl⟩
  rw [← hmv] at hmay
  have hat := hi.atL s.data.toList
  have HMAY := Aside0.mk hmay
  have HFT := Aside0.mk hft
  have HFI := Aside0.mk hf
  by_cases hm0 : mv = 0
  · have hlook := hi1.map.look PT s hsz
    rw [hi1.at] at hlook
    have h1 := hi1.head.c1
    cases hk : at_ F s.data.toList with
    | none =>
      rw [hk] at hlook hat
      simp only [Option.map_none, ptrOf] at hlook hat
      have hone : res = (7, S) := by
        rw [hres]
        unfold truncV
        rw [if_neg (by rw [← hmv]; simpa using hm0), hat]
      have HE := Aside0.mk hone
      subst hm0
      clear hone hres hmay hmv hft hf hi hi1 hat hk hB0
      go_enter Try.func52, Try.ntmps52
      go_wp2_with (go_at_call 44; refine HMAY.out.mono ?_; rintro e w1 ⟨rfl, rfl⟩)
      go_ret
      rw [HE.out]
      exact ⟨rfl, (HD.out.alloc _).mono (fun _ h => .inl h), (Kept.refl w _).alloc _⟩
    | some y =>
      rw [hk] at hlook hat
      simp only [Option.map_some, ptrOf] at hlook hat
      have hfile := hi1.file _ (at_mem hk)
      have hc0 := hfile.c0
      have hc1 := hfile.c1
      have hz0 := blk_frozen hfile.1 0
      have hz1 := blk_frozen hfile.1 1
      obtain ⟨A, c, hv, hc⟩ := hfile.2.slice
      simp only at hv hc0 hc1
      obtain ⟨lx, hlx⟩ : ∃ lx, lx = y.x.1.length := ⟨_, rfl⟩
      obtain ⟨la, hla⟩ : ∃ la, la = y.x.2 := ⟨_, rfl⟩
      rw [hv, ← hlx] at hc0
      rw [← hla] at hc1
      rw [← hlx] at hc
      have HLX := Aside0.mk hlx
      have HLA := Aside0.mk hla
      by_cases hbad : n < 0 ∨ (lx : Int) < n
      · have hone : res = (1, S) := by
          rw [hres]
          unfold truncV
          rw [if_neg (by rw [← hmv]; simpa using hm0), hat]
          simp only
          rw [if_pos (by rw [← hlx]; exact hbad)]
        have HE := Aside0.mk hone
        subst hm0
        clear hone hres hmay hmv hft hf hi hi1 hat hk hB0 hv hfile hlx hla
        by_cases hn0 : n < 0
        · clear hbad
          go_enter Try.func52, Try.ntmps52
          go_wp2_with (go_at_call 44; refine HMAY.out.mono ?_; rintro e w1 ⟨rfl, rfl⟩)
          go_ret
          rw [HE.out]
          exact ⟨rfl, (HD.out.alloc _).mono (fun _ h => .inl h), (Kept.refl w _).alloc _⟩
        · have hn1 : (lx : Int) < n := by omega
          clear hbad
          go_enter Try.func52, Try.ntmps52
          go_wp2_with (go_at_call 44; refine HMAY.out.mono ?_; rintro e w1 ⟨rfl, rfl⟩)
          go_ret
          rw [HE.out]
          exact ⟨rfl, (HD.out.alloc _).mono (fun _ h => .inl h), (Kept.refl w _).alloc _⟩
      · have hn0 : 0 ≤ n := by omega
        obtain ⟨t, rfl⟩ := Int.eq_ofNat_of_zero_le hn0
        have htl : t ≤ lx := by omega
        have htc : (t : Int) ≤ c := by omega
        have hb1 : ¬ ((t : Int) < 0) := by omega
        have hb2 : ¬ ((lx : Int) < t) := by omega
        have hmn : min (la : Int) (t : Int) = ((min la t : Nat) : Int) := by omega
        have hone : res = (0, { S with left := doneL S.fused S.left, L := put S.L s.data.toList (y.x.1.take t, min la t) }) := by
          rw [hres]
          unfold truncV
          rw [if_neg (by rw [← hmv]; simpa using hm0), hat]
          simp only
          rw [if_neg (by rw [← hlx]; exact hbad), Int.toNat_natCast, hla]
        have HE := Aside0.mk hone
        obtain ⟨hi5, hf5, hfar⟩ := cut_is hi1 hk A _ c t (min la t) hv (by rw [← hlx]; exact htl)
        have hyf : y.g ∈ foot d m F := mem_foot_file (at_mem hk) (by simp [one])
        have HI5 := Aside0.mk hi5
        have HF5 := Aside0.mk hf5
        have HYF := Aside0.mk hyf
        subst hm0
        clear hi5 hf5 hfar hone hres hmay hmv hft hf hi hi1 hat hk hB0 hbad hyf hfile hv hlx hla
        go_enter Try.func52, Try.ntmps52
        go_wp2_with (first | (go_at_call 44; refine HMAY.out.mono ?_; rintro e w1 ⟨rfl, rfl⟩) | fail)
        refine (done_calls HI5.out.head HFI.out.l0 HFI.out.l1).mono ?_
        rintro e w6 ⟨rfl, hh6, hk6, hb6⟩
        go_wp2
        go_ret
        rw [HE.out]
        rw [HE.out] at HFINE
        exact ⟨rfl, tail_up (w := w) ((Kept.refl w _).alloc _) (HD.out.below.alloc HD.out.below.size _) HD.out.below.size (fun b hb => .inl (HFT.out b hb)) HI5.out HF5.out (((Kept.refl _ _).setCell (p := ⟨y.g, 0, none⟩) (.inl HYF.out) _).setCell (p := ⟨y.g, 1, none⟩) (.inl HYF.out) _) (fun B h0 hB => (h0.setCell (p := ⟨y.g, 0, none⟩) (hB _ HYF.out) _).setCell (p := ⟨y.g, 1, none⟩) (hB _ HYF.out) _) hh6 hk6 hb6 rfl HFINE.out⟩
  · have hne : (mv == 0) = false := by simpa using hm0
    have hone : res = (mv, S) := by
      rw [hres]
      unfold truncV
      rw [if_pos (by rw [← hmv]; exact hm0), hmv]
    have HE := Aside0.mk hone
    clear hone hres hmay hmv hft hf hi hi1 hat hB0
    go_enter Try.func52, Try.ntmps52
    go_wp2_with (go_at_call 44; refine HMAY.out.mono ?_; rintro e w1 ⟨rfl, rfl⟩)
    go_ret
    rw [HE.out]
    exact ⟨rfl, (HD.out.alloc _).mono (fun _ h => .inl h), (Kept.refl w _).alloc _⟩
def fuseV (S : DV) (n : Int) : DV := { S with fused := decide (0 ≤ n), left := max 0 n }
theorem fuse_any (h : DiskUp w w0 ok d S) (n : Int) (hn : n ≤ 9223372036854775807) :
    Calls Try.prog 10 #[.pointer (some ⟨d, 0, none⟩), .int .i64 n] w fun e w' => e = .returned (.tuple #[]) ∧ DiskUp w' w0 ok d (fuseV S n) ∧ Kept w w' ok := by
  obtain ⟨⟨m, F, hi, hft⟩, hB0, hf⟩ := h
  have c2 := hi.head.c2
  have c3 := hi.head.c3
  have z2 := hi.head.fz 2
  have z3 := hi.head.fz 3
  have hd := hft d (by simp [foot])
  have HI := Aside0.mk hi
  have HFT := Aside0.mk hft
  have HFI := Aside0.mk hf
  have HB0 := Aside0.mk hB0
  clear hi hft hf hB0
  go_enter Try.func10, Try.ntmps10
  go_wp2
  go_end0
  have hi6 := HI.out.headed (W' := (w.setCell ⟨d, 2, none⟩ (.bool (decide (0 ≤ n)))).setCell ⟨d, 3, none⟩ (.int .i64 (max 0 n))) (S' := fuseV S n) (by
    have := blk_set (blk_set HI.out.head 2 (.bool (decide (0 ≤ n)))) 3 (.int .i64 (max 0 n))
    exact this) (fun b hb hne => (Below.heap_setCell _ ⟨d, 3, none⟩ _ b hne).trans (Below.heap_setCell w ⟨d, 2, none⟩ _ b hne)) rfl
  refine ⟨rfl, ⟨⟨m, F, hi6, HFT.out⟩, (HB0.out.setCell (p := ⟨d, 2, none⟩) hd.2 _).setCell (p := ⟨d, 3, none⟩) hd.2 _, ⟨HFI.out.r0, HFI.out.r1, by simp only [fuseV]; omega, by simp only [fuseV]; omega, HFI.out.used, HFI.out.lasts, HFI.out.once, HFI.out.many⟩⟩, ((Kept.refl w ok).setCell (p := ⟨d, 2, none⟩) (.inl hd.1) _).setCell (p := ⟨d, 3, none⟩) (.inl hd.1) _⟩
theorem rel_fuse (h : Rel S R) (n : Int) (hn : n ≤ 9223372036854775807) : Rel (fuseV S n) { R with left := max (-1) n } := by
  refine ⟨h.room, ?_, h.sorted, h.perm, ⟨h.fine.r0, h.fine.r1, by simp only [fuseV]; omega, by simp only [fuseV]; omega, h.fine.used, h.fine.lasts, h.fine.once, h.fine.many⟩⟩
  simp only [fuseV, decide_eq_true_eq]
  split <;> omega
theorem fuseR_up {r : Nat} (h : RefUp w w0 ok r R) (n : Int) (hn : n ≤ 9223372036854775807) :
    Calls Try.prog 31 #[.pointer (some ⟨r, 0, none⟩), .int .i64 n] w fun e w' => e = .returned (.tuple #[]) ∧ RefUp w' w0 ok r { R with left := max (-1) n } ∧ Kept w w' ok := by
  have hr := h.mine
  obtain ⟨⟨vL, es, hi, hft⟩, hB0, hf⟩ := h
  refine (fuseR_calls hi.head n).mono ?_
  rintro e w' ⟨rfl, h1, h2, h3⟩
  exact ⟨rfl, ⟨⟨vL, es, hi.headed (R' := { R with left := max (-1) n }) h1 (fun b hb hne => h2.2 b (hi.lt b hb) hne) rfl, hft⟩, hB0.trans (h3 _ hr.2), hf.r0, hf.r1, by simp only; omega, by simp only; omega, hf.used, hf.lasts, hf.many⟩, (Kept.refl w ok).then_ h2 (fun k hk => .inl (by rw [hk]; exact hr.1))⟩
def copyV (S : DV) : DV := { S with fused := false, left := 0 }
theorem rel_copy (h : Rel S R) : Rel (copyV S) { R with left := -1 } := ⟨h.room, rfl, h.sorted, h.perm, h.fine.r0, h.fine.r1, by simp [copyV], by simp [copyV], h.fine.used, h.fine.lasts, h.fine.once, h.fine.many⟩
end
end Go.Proofs.Ytdepjlnljkbfjaa.Hand
