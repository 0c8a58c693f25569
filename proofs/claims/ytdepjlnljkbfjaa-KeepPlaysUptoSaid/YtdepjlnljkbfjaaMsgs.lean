/- Bytes, rows of bytes: what a row's reading tells of them. -/
import Derived.Test.YtdepjlnljkbfjaaOpens
import Derived.Test.YtdepjlnljkbfjaaJoin
namespace Go.Proofs.Ytdepjlnljkbfjaa.Hand
open Go.RowKit Go.Proofs.Ytdepjlnljkbfjaa.Opens Go.Proofs.YtdepjlnljkbfjaaW.PrintWords
set_option linter.unusedVariables false
theorem opens_bytes : Opens Try.prog (Kd.slice 5 (Kd.int .u8)) 23 (fun xs => xs.length * Try.prog.bytesOf 5 ≤ reachBytes ∧ ∀ x ∈ xs, (Lit.int .u8 x).wf = true) :=
  opens_slice 5 (opens_int Try.underlying5) Try.underlying23 (by kernel_rfl)
theorem opens_rows : Opens Try.prog (Kd.slice 23 (Kd.slice 5 (Kd.int .u8))) 22 (fun xs => xs.length * Try.prog.bytesOf 23 ≤ reachBytes ∧ ∀ x ∈ xs, x.length * Try.prog.bytesOf 5 ≤ reachBytes ∧ ∀ y ∈ x, (Lit.int .u8 y).wf = true) :=
  opens_slice 23 opens_bytes Try.underlying22 (by kernel_rfl)
theorem b5 : Try.prog.bytesOf 5 = 1 := by kernel_rfl
theorem b23 : Try.prog.bytesOf 23 = 24 := by kernel_rfl
theorem short {xs : List Int} (h : xs.length * Try.prog.bytesOf 5 ≤ reachBytes) : xs.length ≤ 140737488351232 := by
  rw [b5] at h
  have : reachBytes = 140737488351232 := by kernel_rfl
  omega
theorem shorts {xs : List (List Int)} (h : xs.length * Try.prog.bytesOf 23 ≤ reachBytes) : xs.length ≤ 140737488351232 := by
  rw [b23] at h
  have : reachBytes = 140737488351232 := by kernel_rfl
  omega
theorem wf_bytes {xs : List Int} (h : ∀ x ∈ xs, (Lit.int .u8 x).wf = true) : Bytes xs := by
  intro z hz
  have := h z hz
  simp only [Lit.wf] at this
  simp at this
  have e1 : IntKind.u8.min = 0 := by kernel_rfl
  have e2 : IntKind.u8.max = 255 := by kernel_rfl
  rw [e1, e2] at this
  omega
end Go.Proofs.Ytdepjlnljkbfjaa.Hand
