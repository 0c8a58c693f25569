/- Fuse with any number. -/
import Derived.Test.YtdepjlnljkbfjaaRel
namespace Go.Proofs.Ytdepjlnljkbfjaa.Hand
open Go.RowKit Go.Proofs.Ytdepjlnljkbfjaa.PA Go.Proofs.Ytdepjlnljkbfjaa.MapP Go.Proofs.YtdepjlnljkbfjaaW.PrintWords Go.Proofs.YtdepjlnljkbfjaaW.PrintLast Go.Proofs.YtdepjlnljkbfjaaW.PrintMore
attribute [local go_sem] max2_int min2_int
set_option linter.unusedVariables false
set_option linter.unusedSimpArgs false
set_option linter.unusedSectionVars false
section
variable {w w0 W W' : World} {d m : Nat} {ok : Nat → Prop} {S S' : DV} {F : FL} {k : Key} {y : FV} {R : RV}
def fuseV (S : DV) (n : Int) : DV := { S with fused := decide (0 ≤ n), left := max 0 n }
theorem fuse_any (h : DiskUp w w0 ok d S) (n : Int) (hn : n ≤ 9223372036854775807) :
    Calls Try.prog 10 #[.pointer (some ⟨d, 0, none⟩), .int .i64 n] w fun e w' => e = .returned (.tuple #[]) ∧ DiskUp w' w0 ok d (fuseV S n) ∧ Kept w w' ok := by
  obtain ⟨⟨m, F, hi, hft⟩, hB0, hf⟩ := h
  have c2 := hi.head.c2
  have c3 := hi.head.c3
  have z2 := hi.head.fz 2
  have z3 := hi.head.fz 3
  have hd := hft d (by simp [foot])
  have HI := Aside0.mk hi
  have HFT := Aside0.mk hft
  have HFI := Aside0.mk hf
  have HB0 := Aside0.mk hB0
  clear hi hft hf hB0
  go_enter Try.func10, Try.ntmps10
  go_wp2
  go_end0
  have hi6 := HI.out.headed (W' := (w.setCell ⟨d, 2, none⟩ (.bool (decide (0 ≤ n)))).setCell ⟨d, 3, none⟩ (.int .i64 (max 0 n))) (S' := fuseV S n) (by
    have := blk_set (blk_set HI.out.head 2 (.bool (decide (0 ≤ n)))) 3 (.int .i64 (max 0 n))
    exact this) (fun b hb hne => (Below.heap_setCell _ ⟨d, 3, none⟩ _ b hne).trans (Below.heap_setCell w ⟨d, 2, none⟩ _ b hne)) rfl
  refine ⟨rfl, ⟨⟨m, F, hi6, HFT.out⟩, (HB0.out.setCell (p := ⟨d, 2, none⟩) hd.2 _).setCell (p := ⟨d, 3, none⟩) hd.2 _, ⟨HFI.out.r0, HFI.out.r1, by simp only [fuseV]; omega, by simp only [fuseV]; omega, HFI.out.used, HFI.out.lasts, HFI.out.once, HFI.out.many⟩⟩, ((Kept.refl w ok).setCell (p := ⟨d, 2, none⟩) (.inl hd.1) _).setCell (p := ⟨d, 3, none⟩) (.inl hd.1) _⟩
theorem rel_fuse (h : Rel S R) (n : Int) (hn : n ≤ 9223372036854775807) : Rel (fuseV S n) { R with left := max (-1) n } := by
  refine ⟨h.room, ?_, h.sorted, h.perm, ⟨h.fine.r0, h.fine.r1, by simp only [fuseV]; omega, by simp only [fuseV]; omega, h.fine.used, h.fine.lasts, h.fine.once, h.fine.many⟩⟩
  simp only [fuseV, decide_eq_true_eq]
  split <;> omega
theorem fuseR_up {r : Nat} (h : RefUp w w0 ok r R) (n : Int) (hn : n ≤ 9223372036854775807) :
    Calls Try.prog 31 #[.pointer (some ⟨r, 0, none⟩), .int .i64 n] w fun e w' => e = .returned (.tuple #[]) ∧ RefUp w' w0 ok r { R with left := max (-1) n } ∧ Kept w w' ok := by
  have hr := h.mine
  obtain ⟨⟨vL, es, hi, hft⟩, hB0, hf⟩ := h
  refine (fuseR_calls hi.head n).mono ?_
  rintro e w' ⟨rfl, h1, h2, h3⟩
  exact ⟨rfl, ⟨⟨vL, es, hi.headed (R' := { R with left := max (-1) n }) h1 (fun b hb hne => h2.2 b (hi.lt b hb) hne) rfl, hft⟩, hB0.trans (h3 _ hr.2), hf.r0, hf.r1, by simp only; omega, by simp only; omega, hf.used, hf.lasts, hf.many⟩, (Kept.refl w ok).then_ h2 (fun k hk => .inl (by rw [hk]; exact hr.1))⟩
end
end Go.Proofs.Ytdepjlnljkbfjaa.Hand
