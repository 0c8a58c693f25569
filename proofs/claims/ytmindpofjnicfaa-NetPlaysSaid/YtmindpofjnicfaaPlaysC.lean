/- What both walks of NetPlays use. -/
import Derived.Test.YtmindpofjnicfaaPlaysB
namespace Go.Proofs.Ytmindpofjnicfaa.Hand
open Go.RowKit Go.Proofs.Ytmindpofjnicfaa.PA Go.Proofs.Ytmindpofjnicfaa.Opens Go.Proofs.YtmindpofjnicfaaW.PrintWords Go.Proofs.YtmindpofjnicfaaW.PrintLast Go.Proofs.YtmindpofjnicfaaW.PrintMore
attribute [local go_sem] max2_int min2_int
set_option linter.unusedVariables false
set_option linter.unusedSimpArgs false
theorem bytes28 : Try.prog.bytesOf 28 = 40 := by kernel_rfl
theorem bytes5 : Try.prog.bytesOf 5 = 1 := by kernel_rfl
theorem stepOk.msgs {x : S43} (h : stepOk x) : x.f2.length * 40 ≤ 140737488351232 ∧ Small x.f2 := by
  refine ⟨?_, fun y hy => ?_⟩
  · have := h.2.2.1.1
    rw [bytes28] at this
    exact this
  · have := (h.2.2.1.2 y hy).2.2.1
    rw [bytes5, Nat.mul_one] at this
    exact this
theorem boxN (w : World) : Calls Try.prog 8 #[] w fun e w' => e = .returned (.pointer (some ⟨w.heap.size, 0, none⟩)) ∧ NetUp w' w (fun k => w.heap.size ≤ k) w.heap.size [] ∧ Below w.heap.size w w' := new_up w
theorem cell_same {W W' : World} {b : Nat} (h : W'.heap[b]? = W.heap[b]?) (i : Nat) : W'.cell? ⟨b, i, none⟩ = W.cell? ⟨b, i, none⟩ := by simp [World.cell?, h]
end Go.Proofs.Ytmindpofjnicfaa.Hand
