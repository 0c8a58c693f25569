/- A message, a row of messages, a step: what a row's reading tells of them. -/
import Derived.Test.YtmindpofjnicfaaOpens
import Derived.Test.YtmindpofjnicfaaPAx0
namespace Go.Proofs.Ytmindpofjnicfaa.Hand
open Go.RowKit Go.Proofs.Ytmindpofjnicfaa.PA Go.Proofs.Ytmindpofjnicfaa.Opens Go.Proofs.YtmindpofjnicfaaW.PrintWords
theorem opens_bytes : Opens Try.prog (Kd.slice 5 (Kd.int .u8)) 23 (fun xs => xs.length * Try.prog.bytesOf 5 ≤ reachBytes ∧ ∀ x ∈ xs, (Lit.int .u8 x).wf = true) :=
  opens_slice 5 (opens_int Try.underlying5) Try.underlying23 (by kernel_rfl)
theorem opens_nodes : Opens Try.prog (Kd.slice 3 (Kd.int .i64)) 36 (fun xs => xs.length * Try.prog.bytesOf 3 ≤ reachBytes ∧ ∀ x ∈ xs, (Lit.int .i64 x).wf = true) :=
  opens_slice 3 (opens_int Try.underlying3) Try.underlying36 (by kernel_rfl)
theorem opens_msg : Opens Try.prog k28 28 (fun x : S28 => (Lit.int .i64 x.f0).wf = true ∧ (Lit.int .i64 x.f1).wf = true ∧ (x.f2.length * Try.prog.bytesOf 5 ≤ reachBytes ∧ ∀ y ∈ x.f2, (Lit.int .u8 y).wf = true)) :=
  opens_iso (opens_struct Try.underlying28 (by kernel_rfl) (opensF_cons rfl (opens_int Try.underlying3) (by kernel_rfl) (opensF_cons rfl (opens_int Try.underlying3) (by kernel_rfl) (opensF_one opens_bytes (by kernel_rfl)))))
    (fun x : S28 => (x.f0, x.f1, x.f2)) (fun a => ⟨a.1, a.2.1, a.2.2⟩) (fun _ => rfl)
end Go.Proofs.Ytmindpofjnicfaa.Hand
