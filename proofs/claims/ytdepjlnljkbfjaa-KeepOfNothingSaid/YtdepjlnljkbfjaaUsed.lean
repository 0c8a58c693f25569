/- Used: how many bytes there are. -/
import Derived.Test.YtdepjlnljkbfjaaDisk
import Derived.Deep.DeepMust
import Derived.Carry
namespace Go.Proofs.Ytdepjlnljkbfjaa.Hand
open Go.RowKit Go.Proofs.Ytdepjlnljkbfjaa.MapP Go.Proofs.YtdepjlnljkbfjaaW.PrintWords Go.Proofs.YtdepjlnljkbfjaaW.PrintLast Go.Proofs.YtdepjlnljkbfjaaW.PrintMore
attribute [local go_sem] max2_int min2_int
set_option linter.unusedVariables false
set_option linter.unusedSimpArgs false
set_option linter.unusedSectionVars false

section
variable {w w0 : World} {d m : Nat} {ok : Nat → Prop} {S : DV}
theorem used_calls (h : DiskUp w w0 ok d S) : Calls Try.prog 46 #[.pointer (some ⟨d, 0, none⟩)] w fun e w' => e = .returned (.int .i64 (total S.L)) ∧ Below w.heap.size w w' := by
  obtain ⟨⟨m, F, hi, _⟩, _, hf⟩ := h
  have hm1 := hi.head.c1
  have htot : total S.L ≤ 1073741824 := by have := hf.used; have := hf.r1; omega
  have hsum : sumOf F (gm F) = total S.L := by rw [hi.val]; exact sumOf_all F hi.once
  obtain ⟨w1, hrun, hrg, hg1, hs1⟩ := hi.map.range PT
  have HI := Aside0.mk hi
  have HB1 := Aside0.mk ((Below.refl w.heap.size w).grown hg1 (Nat.le_refl _) (fun k hk => by cases hk))
  have HRG := Aside0.mk hrg
  have HSUM := Aside0.mk hsum
  clear hi hf hrg hsum hg1
  go_enter Try.func46, Try.ntmps46
  go_wp2
  go_loopg [3] (gm F).length (fun gk s3 wr => ∃ (todo : List (Key × Nat)) (cnt acc : Nat), cnt ≤ gk ∧ s3 = .int .i64 acc ∧ Aside0 (Ranges Try.prog 9 wr m w.heap.size (gm F) todo cnt) ∧ Aside0 (acc + sumOf F todo = total S.L) ∧ Aside0 (Below w.heap.size w wr))
  case atStart => exact ⟨gm F, _, 0, Nat.le_refl _, rfl, HRG, ⟨by rw [HSUM.out, Nat.zero_add]⟩, HB1⟩
  case round =>
    obtain ⟨todo, cnt, acc, hgk, rfl, HRG, HS, HB⟩ := hrel
    rcases HRG.out.next PT 0 with ⟨h0, hnil, hnext⟩ | ⟨s, g, todo', w2, cnt', hsz, hat, hperm, hr2, hlt, hg2, hs2, hnext, hent⟩
    · have HS2 := HS.out
      subst hnil
      simp only [sumOf, List.map_nil, List.sum_nil, Nat.add_zero] at HS2
      subst HS2
      go_wp2
      go_ret
      exact ⟨rfl, HB.out⟩
    · obtain ⟨gk, rfl⟩ : ∃ q, gk = q + 1 := ⟨gk - 1, by omega⟩
      have hg : (at_ F s.data.toList).map (·.g) = some g := by rw [← HI.out.at]; exact hat
      obtain ⟨y, hy, rfl⟩ := Option.map_eq_some_iff.1 hg
      have hB2 : Below w.heap.size w w2 := HB.out.grown hg2 HB.out.size (fun k hk => by injection hk with hk; omega)
      have hfile := (HI.out.file _ (at_mem hy)).step (W' := w2) (fun b hb => hB2.block b ((HI.out.file _ (at_mem hy)).lt b hb))
      have hc0 := hfile.c0
      obtain ⟨Ay, cy, hyv, _⟩ := hfile.2.slice
      rw [hyv] at hc0
      have hlen : lenAt F (s.data.toList, y.g) = y.x.1.length := by simp only [lenAt]; rw [hy]
      have hsum : acc + y.x.1.length + sumOf F todo' = total S.L := by
        have := HS.out
        rw [sumOf_perm F hperm, sumOf_cons, hlen] at this
        omega
      have hacc : acc + y.x.1.length ≤ 1073741824 := by omega
      have HB2 := Aside0.mk hB2
      have HR2 := Aside0.mk hr2
      have HSUM2 := Aside0.mk hsum
      clear hfile hlen hsum hB2 hr2 hg2 hperm HS HB HRG hg hat hy
      go_wp2
      go_roundg gk
      case measure => omega
      case rel => exact ⟨todo', cnt', acc + y.x.1.length, by omega, by go_num, HR2, HSUM2, HB2⟩
end
end Go.Proofs.Ytdepjlnljkbfjaa.Hand
