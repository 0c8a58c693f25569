/- Fuse; Remove of a file that is not there. -/
import Derived.Test.YtdepjlnljkbfjaaBase
namespace Go.Proofs.Ytdepjlnljkbfjaa.Hand
open Go.RowKit Go.Proofs.Ytdepjlnljkbfjaa.PA Go.Proofs.Ytdepjlnljkbfjaa.MapP Go.Proofs.YtdepjlnljkbfjaaW.PrintWords Go.Proofs.YtdepjlnljkbfjaaW.PrintLast Go.Proofs.YtdepjlnljkbfjaaW.PrintMore
attribute [local go_sem] max2_int min2_int
set_option linter.unusedVariables false
set_option linter.unusedSimpArgs false
set_option linter.unusedSectionVars false
section
variable {w w0 W W' : World} {d m : Nat} {ok : Nat → Prop} {S S' : DV} {F : FL} {k : Key} {y : FV}
/-- Fuse with a number that is not below 0. -/
theorem fuse_up (h : DiskUp w w0 ok d S) (n : Nat) (hn : n ≤ 1000000) :
    Calls Try.prog 10 #[.pointer (some ⟨d, 0, none⟩), .int .i64 n] w fun e w' => e = .returned (.tuple #[]) ∧ DiskUp w' w0 ok d { S with fused := true, left := n } ∧ Kept w w' ok := by
  obtain ⟨⟨m, F, hi, hft⟩, hB0, hf⟩ := h
  have c2 := hi.head.c2
  have c3 := hi.head.c3
  have z2 := hi.head.fz 2
  have z3 := hi.head.fz 3
  have hd := hft d (by simp [foot])
  have HI := Aside0.mk hi
  have HFT := Aside0.mk hft
  have HFI := Aside0.mk hf
  have HB0 := Aside0.mk hB0
  have hmx : max (0 : Int) (n : Int) = (n : Int) := Int.max_eq_right (by omega)
  clear hi hft hf hB0
  go_enter Try.func10, Try.ntmps10
  go_wp2
  go_end0
  try rw [hmx]
  have hi6 := HI.out.headed (W' := (w.setCell ⟨d, 2, none⟩ (.bool true)).setCell ⟨d, 3, none⟩ (.int .i64 n)) (S' := { S with fused := true, left := n }) (by
    have := blk_set (blk_set HI.out.head 2 (.bool true)) 3 (.int .i64 n)
    exact this) (fun b hb hne => (Below.heap_setCell _ ⟨d, 3, none⟩ _ b hne).trans (Below.heap_setCell w ⟨d, 2, none⟩ _ b hne)) rfl
  refine ⟨rfl, ⟨⟨m, F, hi6, HFT.out⟩, (HB0.out.setCell (p := ⟨d, 2, none⟩) hd.2 _).setCell (p := ⟨d, 3, none⟩) hd.2 _, ⟨HFI.out.r0, HFI.out.r1, by simp, by simp; omega, HFI.out.used, HFI.out.lasts, HFI.out.once, HFI.out.many⟩⟩, ((Kept.refl w ok).setCell (p := ⟨d, 2, none⟩) (.inl hd.1) _).setCell (p := ⟨d, 3, none⟩) (.inl hd.1) _⟩
set_option maxRecDepth 100000 in
/-- Remove of a file that is not there. -/
theorem each_none (h : DiskUp w w0 ok d S) (s : ByteArray) (hsz : s.size ≤ maxLen) (b c : Nat) (hn : w.cell? ⟨b, 0, none⟩ = some (.string s)) (hno : at_ S.L s.data.toList = none) (fv : Value) :
    Calls Try.prog 71 #[.pointer (some ⟨d, 0, none⟩), .slice (some ⟨b, 0, none⟩) 1 c, fv] w fun e w' => e = .returned (.int .i64 (if mayV S.fused S.left [s] = 0 then 7 else mayV S.fused S.left [s])) ∧ Below w.heap.size w w' := by
  obtain ⟨⟨m, F, hi, hft⟩, hB0, hf⟩ := h
  have hi1 := hi.belowed ((Below.refl w.heap.size w).alloc (Nat.le_refl _) (.cells #[.string s] 9))
  have hmay := may_one hi s hsz
  obtain ⟨mv, hmv⟩ : ∃ mv, mv = mayV S.fused S.left [s] := ⟨_, rfl⟩
  rw [← hmv] at hmay ⊢
  have hlook := hi1.map.look PT s hsz
  rw [hi1.at] at hlook
  have h1 := hi1.head.c1
  have hat := hi.atL s.data.toList
  rw [hno] at hat
  have hk : at_ F s.data.toList = none := by
    cases hk : at_ F s.data.toList with
    | none => rfl
    | some y => rw [hk] at hat; cases hat
  rw [hk] at hlook
  simp only [Option.map_none, ptrOf] at hlook
  have HMAY := Aside0.mk hmay
  obtain ⟨r, hr⟩ : ∃ r, r = if mv = 0 then 7 else mv := ⟨_, rfl⟩
  rw [← hr]
  have HR := Aside0.mk hr
  clear hr hmv hmay hi hi1 hft hf hB0 hk hat hno
  go_enter Try.func71, Try.ntmps71
  go_wp2
  go_loopw [15] (fun s15 wr => s15 = .int .i64 0 ∧ wr = w) (fun _ _ => 0)
  case atStart => exact ⟨rfl, rfl⟩
  case round =>
    obtain ⟨rfl, hw⟩ := hrel
    rw [hw]
    by_cases hm0 : mv = 0
    · subst hm0
      go_wp2_with (go_at_call 44; refine HMAY.out.mono ?_; rintro e w1 ⟨rfl, rfl⟩)
      go_ret
      exact ⟨by rw [HR.out]; rfl, (Below.refl _ _).alloc (Nat.le_refl _) _⟩
    · have hne : (mv == 0) = false := by simpa using hm0
      go_wp2_with (go_at_call 44; refine HMAY.out.mono ?_; rintro e w1 ⟨rfl, rfl⟩)
      go_ret
      exact ⟨by rw [HR.out, if_neg hm0]; rfl, (Below.refl _ _).alloc (Nat.le_refl _) _⟩
theorem remove_none (h : DiskUp w w0 ok d S) (s : ByteArray) (hsz : s.size ≤ maxLen) (hno : at_ S.L s.data.toList = none) :
    Calls Try.prog 38 #[.pointer (some ⟨d, 0, none⟩), .slice (some ⟨w.heap.size, 0, none⟩) 1 1] (w.alloc (.cells #[.string s] 9)) fun e w' => e = .returned (.int .i64 (if mayV S.fused S.left [s] = 0 then 7 else mayV S.fused S.left [s])) ∧ Below w.heap.size w w' := by
  have hA := fun fv => each_none ((h.alloc (.cells #[.string s] 9)).alloc (.cells #[.pointer (some ⟨d, 0, none⟩)] 25)) s hsz w.heap.size 1 (by
    refine Go.Lib.cell?_alloc_some _ ?_
    rw [blk_cell (heap_alloc_new w _)]; rfl) hno fv
  have HA := Aside0.mk hA
  generalize (if mayV S.fused S.left [s] = 0 then (7 : Int) else mayV S.fused S.left [s]) = r at HA ⊢
  clear hA hno h
  go_enter Try.func38, Try.ntmps38
  go_wp2_with (go_at_call 71; refine (HA.out _).mono ?_; rintro e w1 ⟨rfl, h1⟩)
  go_ret
  exact ⟨rfl, (((Below.refl w.heap.size w).alloc (Nat.le_refl _) _).alloc (by simp) _).trans (h1.mono (by simp; omega))⟩
end
end Go.Proofs.Ytdepjlnljkbfjaa.Hand
