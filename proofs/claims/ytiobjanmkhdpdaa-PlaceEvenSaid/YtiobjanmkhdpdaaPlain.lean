/- The plain laws on place.Hash, place.Shard and the reference's: numbers and lists alone. -/
import Derived.Test.YtiobjanmkhdpdaaPPlx2
namespace Go.Proofs.Ytiobjanmkhdpdaa.Pure
open Go.RowKit Go.Proofs.Ytiobjanmkhdpdaa.Hand Go.Proofs.Ytiobjanmkhdpdaa.PPl Go.Proofs.YtiobjanmkhdpdaaW.PrintWords Go.Proofs.YtiobjanmkhdpdaaW.PrintLast
theorem known_true : Ev (fun k => haystacklaw20_known.f k) true := Ev.of (haystacklaw20_known.mono) (k := 20) (by decide +kernel)

theorem refHash_from (s : ByteArray) (hs : s.size ≤ 140737488351232) (d : Nat) : ∀ (i k : Nat), i + d = s.size → d < k → haystackref20_Hash.l0 k s (hfold s i) (i : Int) = some (hfold s s.size) := by
  induction d with
  | zero =>
    intro i k hi hk
    obtain ⟨k, rfl⟩ : ∃ m, k = m + 1 := ⟨k - 1, by omega⟩
    obtain rfl : i = s.size := by omega
    simp only [haystackref20_Hash.l0]
    rw [if_neg (by omega)]
  | succ d ih =>
    intro i k hi hk
    obtain ⟨k, rfl⟩ : ∃ m, k = m + 1 := ⟨k - 1, by omega⟩
    simp only [haystackref20_Hash.l0]
    rw [if_pos (by omega), if_pos (by omega)]
    have h := ih (i + 1) k (by omega) (by omega)
    rw [show wrap64 ((i : Int) + 1) = ((i + 1 : Nat) : Int) from by unfold wrap64; omega]
    exact h
theorem refHash (s : ByteArray) (hs : s.size ≤ 140737488351232) : Ev (fun k => haystackref20_Hash.f k s) (hfold s s.size) :=
  Ev.of (haystackref20_Hash.mono s) (k := s.size + 1) (refHash_from s hs s.size 0 _ (by omega) (by omega))
theorem hash_some (s : ByteArray) (hs : s.size ≤ 140737488351232) : place_Hash.f s = some (hfold s s.size) := by
  unfold place_Hash.f
  rw [if_pos hs]
theorem shards_eq (s : ByteArray) (hs : s.size ≤ 140737488351232) (n : Int) : ∃ r, place_Shard.f s n = some r ∧ Ev (fun k => haystackref20_Shard.f k s n) r := by
  unfold place_Shard.f haystackref20_Shard.f place_isMany.f
  by_cases h1 : n < 1
  · refine ⟨(0, 1), ?_, ?_⟩
    · rw [if_neg (by omega)]; rfl
    · simp only [if_pos h1]; exact Ev.now _
  · by_cases h8 : n > 8
    · refine ⟨(0, 1), ?_, ?_⟩
      · rw [if_pos (by omega)]; simp only [Option.bind_some]; rw [if_neg (by simp; omega)]
      · simp only [if_neg h1, if_pos h8]; exact Ev.now _
    · have hn : IntKind.u64.wrap n = n := by simp [IntKind.wrap, IntKind.bits]; omega
      refine ⟨(wrap64 (Int.tmod (hfold s s.size) n), 0), ?_, ?_⟩
      · rw [if_pos (by omega)]; simp only [Option.bind_some]; rw [if_pos (by simp; omega), hash_some s hs]; simp only [Option.bind_some]; rw [hn, if_neg (by omega)]
      · simp only [if_neg h1, if_neg h8]
        refine Ev.bind (refHash s hs) ?_
        simp only [hn]
        rw [if_neg (by omega)]
        exact Ev.now _
end Go.Proofs.Ytiobjanmkhdpdaa.Pure
