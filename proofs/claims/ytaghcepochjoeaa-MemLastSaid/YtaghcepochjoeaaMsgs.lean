/- Bytes, steps of a script: what a row's reading tells of them. -/
import Derived.Test.YtaghcepochjoeaaOpens
import Derived.Test.YtaghcepochjoeaaBase
namespace Go.Proofs.Ytaghcepochjoeaa.Hand
open Go.RowKit Go.Proofs.Ytaghcepochjoeaa.PA Go.Proofs.Ytaghcepochjoeaa.Opens Go.Proofs.YtaghcepochjoeaaW.PrintWords
set_option linter.unusedVariables false
theorem opens_bytes : Opens Try.prog (Kd.slice 5 (Kd.int .u8)) 30 (fun xs => xs.length * Try.prog.bytesOf 5 ≤ reachBytes ∧ ∀ x ∈ xs, (Lit.int .u8 x).wf = true) :=
  opens_slice 5 (opens_int Try.underlying5) Try.underlying30 (by kernel_rfl)
theorem b5 : Try.prog.bytesOf 5 = 1 := by kernel_rfl
theorem short {xs : List Int} (h : xs.length * Try.prog.bytesOf 5 ≤ reachBytes) : xs.length ≤ 140737488351232 := by
  rw [b5] at h
  have : reachBytes = 140737488351232 := by kernel_rfl
  omega
theorem opens_text {P : Program} {t : TypeId} (ht : P.underlying t = some .string) : Opens P Kd.string t (fun s => s.size ≤ reachBytes) := by
  refine ⟨?_⟩
  intro H enc W base spare held fuel cs x h hw
  obtain ⟨s, rfl, rfl, hs⟩ := DataW.trod_string ht h
  have h1 := hw s.data.toList.length (by simp [DataW.weights])
  have e : s.size = s.data.toList.length := (Array.length_toList (xs := s.data)).symm
  exact ⟨s, rfl, by rw [e]; exact h1⟩
instance : Inhabited S32 := ⟨⟨0, ByteArray.empty, []⟩⟩
def stepOk (x : S32) : Prop := (Lit.int .i64 x.f0).wf = true ∧ x.f1.size ≤ reachBytes ∧ (x.f2.length * Try.prog.bytesOf 5 ≤ reachBytes ∧ ∀ y ∈ x.f2, (Lit.int .u8 y).wf = true)
theorem opens_step : Opens Try.prog k32 32 stepOk :=
  opens_iso (opens_struct Try.underlying32 (by kernel_rfl) (opensF_cons rfl (opens_int Try.underlying3) (by kernel_rfl) (opensF_cons rfl (opens_text Try.underlying9) (by kernel_rfl) (opensF_one opens_bytes (by kernel_rfl)))))
    (fun x : S32 => (x.f0, x.f1, x.f2)) (fun a => ⟨a.1, a.2.1, a.2.2⟩) (fun _ => rfl)
theorem opens_steps : Opens Try.prog (Kd.slice 32 k32) 22 (fun xs => xs.length * Try.prog.bytesOf 32 ≤ reachBytes ∧ ∀ x ∈ xs, stepOk x) := opens_slice 32 opens_step Try.underlying22 (by kernel_rfl)
theorem b32 : Try.prog.bytesOf 32 = 48 := by kernel_rfl
theorem shorts {xs : List S32} (h : xs.length * Try.prog.bytesOf 32 ≤ reachBytes) : xs.length ≤ 140737488351232 := by
  rw [b32] at h
  have : reachBytes = 140737488351232 := by kernel_rfl
  omega
theorem wf_bytes {xs : List Int} (h : ∀ x ∈ xs, (Lit.int .u8 x).wf = true) : Bytes xs := by
  intro z hz
  have := h z hz
  simp only [Lit.wf] at this
  simp at this
  have e1 : IntKind.u8.min = 0 := by kernel_rfl
  have e2 : IntKind.u8.max = 255 := by kernel_rfl
  rw [e1, e2] at this
  omega
end Go.Proofs.Ytaghcepochjoeaa.Hand
