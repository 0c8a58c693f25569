/- The names of a disk's files, as the library sorts them. -/
import Derived.Test.YtakomlealclomaaCrash
import Derived.Sort.KeysCollected
namespace Go.Proofs.Ytakomlealclomaa.Hand
open Go.RowKit Go.Maps Go.Sort Go.Proofs.Ytakomlealclomaa.MapP
set_option linter.unusedVariables false
theorem HasMap.keys {P : Program} {kT : TypeId} {W : World} {m : Nat} {fm : List (Key × Nat)} (h : HasMap P kT W m fm) (hk : P.underlying kT = some .string) :
    ∃ D, W.ownsMap P kT ptrElem m fm.length D ∧ Maps.size D = fm.length ∧ (fm.map (·.1)).Perm (strKeys D) := by
  obtain ⟨D, hown, R⟩ := h
  refine ⟨D, hown, R.size, ?_⟩
  obtain ⟨es, hD, hpw, _⟩ := hown.entries (string_keyed hk)
  obtain ⟨es', hD', hko⟩ := hown.keysOf
  obtain rfl : es = es' := by rw [hD] at hD'; simpa using hD'
  have hhas := R.has
  subst hD
  refine perm_strKeys hpw (fun p hp => ?_) R.once (fun x => ?_)
  · obtain ⟨v, hv⟩ := hko p hp
    obtain ⟨x, _, hx, _⟩ := Maps.keyOf_str hk hv
    exact ⟨x, hx⟩
  · rw [hhas x, at_isSome]
    constructor
    · intro hx
      obtain ⟨p, hp, e⟩ := List.mem_map.1 hx
      exact ⟨p, hp, e⟩
    · rintro ⟨p, hp, e⟩
      exact List.mem_map.2 ⟨p, hp, e⟩
end Go.Proofs.Ytakomlealclomaa.Hand
