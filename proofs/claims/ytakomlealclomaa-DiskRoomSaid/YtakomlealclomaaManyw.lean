/- DiskMany: contracts in the form that its walk wants. -/
import Derived.Test.YtakomlealclomaaMany
import Derived.Test.YtakomlealclomaaList
namespace Go.Proofs.Ytakomlealclomaa.Hand
open Go.RowKit Go.Proofs.Ytakomlealclomaa.MapP Go.Proofs.YtakomlealclomaaW.PrintWords Go.Proofs.YtakomlealclomaaW.PrintLast Go.Proofs.YtakomlealclomaaW.PrintMore
set_option linter.unusedVariables false
set_option linter.unusedSimpArgs false
set_option linter.unusedSectionVars false
section
variable {w w0 W W' : World} {d m : Nat} {ok : Nat → Prop} {S S' : DV}
/-- List of a disk without a file. -/
theorem list_empty (h : DiskUp w w0 ok d S) (hL : S.L = []) : Calls Try.prog 20 #[.pointer (some ⟨d, 0, none⟩)] w fun e w' => ∃ (A : Option Addr) (c : Nat), e = .returned (.slice A 0 c) ∧ DiskUp w' w0 ok d S ∧ Below w.heap.size w w' := by
  refine (list_row h).mono ?_
  rintro e w' ⟨v, ss, rfl, hp, hrow, hd, hb⟩
  rw [hL] at hp
  have hss : ss = [] := List.Perm.eq_nil hp
  subst hss
  rcases hrow.2 with ⟨rfl, _⟩ | ⟨g, cap, cur, rfl, _⟩
  · exact ⟨none, 0, rfl, hd, hb⟩
  · exact ⟨_, _, rfl, hd, hb⟩
/-- A list of names laid by the caller: it is read so whatever the disk does. -/
theorem names_at (names : List ByteArray) (hsz : ∀ s ∈ names, s.size ≤ maxLen) (hbd : ∀ k, ok k → k < w.heap.size) : ∀ W', Kept (w.alloc (.cells (names.map Value.string).toArray 9)) W' ok → ∀ (j : Nat) (s : ByteArray), names[j]? = some s → W'.cell? ((⟨w.heap.size, 0, none⟩ : Addr).add j) = some (.string s) ∧ s.size ≤ maxLen := by
  intro W' hK j s hs
  have h2 := (hK.2 w.heap.size (by simp) (fun h => by have := hbd _ h; omega)).trans (heap_alloc_new w (.cells (names.map Value.string).toArray 9))
  refine ⟨?_, hsz s (List.mem_of_getElem? hs)⟩
  rw [Addr.add_lit, Nat.zero_add, blk_cell h2 j]
  simp [hs]
end
end Go.Proofs.Ytakomlealclomaa.Hand
