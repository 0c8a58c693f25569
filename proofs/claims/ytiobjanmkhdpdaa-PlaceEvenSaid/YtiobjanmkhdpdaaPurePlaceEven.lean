/- PlaceEven, its plain part: all numbers of nodes, of shards and of replicas that the law looks at, one by one; at all others only the known answers are asked. No condition beyond the statement's. -/
import Derived.Test.YtiobjanmkhdpdaaPlain
import Derived.Test.YtiobjanmkhdpdaaPPlx5
namespace Go.Proofs.Ytiobjanmkhdpdaa.Pure
open Go.RowKit Go.Proofs.Ytiobjanmkhdpdaa.Hand Go.Proofs.Ytiobjanmkhdpdaa.PPl Go.Proofs.YtiobjanmkhdpdaaW.PrintWords Go.Proofs.YtiobjanmkhdpdaaW.PrintLast

theorem even_all : ∀ n ∈ List.range 8, ∀ t ∈ List.range 9, ∀ r ∈ List.range 8, (1 ≤ n ∧ 1 ≤ t ∧ n * t ≤ 8 ∧ 1 ≤ r ∧ r ≤ n) → haystacklaw20_PlaceEven.f 100 (n : Int) (t : Int) (r : Int) = some true := by decide +kernel
theorem even_known (a b c : Int) : Ev (fun k => haystacklaw20_PlaceEven.j0 k a b c true) true := by
  refine Ev.step (fun k => ?_) (Ev.bind known_true (Ev.now _))
  simp only [haystacklaw20_PlaceEven.j0, if_true]
theorem PlaceEven : haystacklaw20_PlaceEven.Pure := by
  intro n t r _ _ _
  by_cases h : 1 ≤ n ∧ n ≤ 7 ∧ 1 ≤ t ∧ t ≤ 8 ∧ wrap64 (n * t) ≤ 8 ∧ 1 ≤ r ∧ r ≤ n
  · obtain ⟨h1, h2, h3, h4, h5, h6, h7⟩ := h
    obtain ⟨N, rfl⟩ := Int.eq_ofNat_of_zero_le (show 0 ≤ n by omega)
    obtain ⟨T, rfl⟩ := Int.eq_ofNat_of_zero_le (show 0 ≤ t by omega)
    obtain ⟨R, rfl⟩ := Int.eq_ofNat_of_zero_le (show 0 ≤ r by omega)
    have hm : (N : Int) * (T : Int) = ((N * T : Nat) : Int) := by simp
    have hb : N * T ≤ 7 * 8 := Nat.mul_le_mul (by omega) (by omega)
    have h8 : N * T ≤ 8 := by rw [hm] at h5; unfold wrap64 at h5; omega
    exact ⟨100, even_all N (by simp; omega) T (by simp; omega) R (by simp; omega) ⟨by omega, by omega, h8, by omega, by omega⟩⟩
  · refine Ev.rounds (g := fun k => haystacklaw20_PlaceEven.f k n t r) ?_
    unfold haystacklaw20_PlaceEven.f
    by_cases h1 : n < 1
    · simp only [if_pos h1]; exact even_known _ _ _
    by_cases h2 : n > 7
    · simp only [if_neg h1, if_pos h2]; exact even_known _ _ _
    by_cases h3 : t < 1
    · simp only [if_neg h1, if_neg h2, if_pos h3]; exact even_known _ _ _
    by_cases h4 : t > 8
    · simp only [if_neg h1, if_neg h2, if_neg h3, if_pos h4]; exact even_known _ _ _
    by_cases h5 : wrap64 (n * t) > 8
    · simp only [if_neg h1, if_neg h2, if_neg h3, if_neg h4, if_pos h5]; exact even_known _ _ _
    by_cases h6 : r < 1
    · simp only [if_neg h1, if_neg h2, if_neg h3, if_neg h4, if_neg h5, if_pos h6]; exact even_known _ _ _
    by_cases h7 : r > n
    · simp only [if_neg h1, if_neg h2, if_neg h3, if_neg h4, if_neg h5, if_neg h6, decide_eq_true h7]; exact even_known _ _ _
    exact absurd ⟨by omega, by omega, by omega, by omega, by omega, by omega, by omega⟩ h

end Go.Proofs.Ytiobjanmkhdpdaa.Pure
