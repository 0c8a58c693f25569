/- PlaceGoes, its plain part: a key's digest goes on byte by byte; one shard has all keys, eight shards take its lowest three bits. No condition beyond the statement's. -/
import Derived.Test.YtiobjanmkhdpdaaPlain
namespace Go.Proofs.Ytiobjanmkhdpdaa.Pure
open Go.RowKit Go.Proofs.Ytiobjanmkhdpdaa.Hand Go.Proofs.Ytiobjanmkhdpdaa.PPl Go.Proofs.YtiobjanmkhdpdaaW.PrintWords Go.Proofs.YtiobjanmkhdpdaaW.PrintLast
theorem u64_range (x : Int) : 0 ≤ IntKind.u64.wrap x ∧ IntKind.u64.wrap x < 18446744073709551616 := by
  have e : IntKind.u64.wrap x = x % 18446744073709551616 := by unfold IntKind.wrap; simp [IntKind.signed, IntKind.bits]
  rw [e]
  omega
theorem hfold_range (s : ByteArray) : ∀ k, 0 ≤ hfold s k ∧ hfold s k < 18446744073709551616
  | 0 => by unfold hfold; omega
  | k + 1 => by
    unfold hfold hstep
    exact u64_range _
theorem hfold_left (s t : ByteArray) : ∀ k, k ≤ s.size → hfold (s ++ t) k = hfold s k
  | 0, _ => rfl
  | k + 1, h => by
    unfold hfold
    rw [hfold_left s t k (by omega)]
    congr 1
    unfold bt
    have h1 : (k : Int).toNat < (s ++ t).size := by simp; omega
    have h2 : (k : Int).toNat < s.size := by simp; omega
    rw [dif_pos h1, dif_pos h2]
    congr 1
    rw [ByteArray.getElem_append_left h2]
theorem hfold_right (s t : ByteArray) (k : Nat) (h : k < t.size) : hfold (s ++ t) (s.size + k + 1) = hstep (hfold (s ++ t) (s.size + k)) (bt t k) := by
  rw [show s.size + k + 1 = (s.size + k) + 1 from rfl]
  conv => lhs; unfold hfold
  congr 1
  unfold bt
  have h1 : ((s.size + k : Nat) : Int).toNat < (s ++ t).size := by simp; omega
  have h2 : (k : Int).toNat < t.size := by simp; omega
  rw [dif_pos h1, dif_pos h2]
  congr 1
  have e1 : ((s.size + k : Nat) : Int).toNat = s.size + k := Int.toNat_natCast _
  have e2 : (k : Int).toNat = k := Int.toNat_natCast _
  simp only [e1, e2]
  rw [ByteArray.getElem_append_right (Nat.le_add_right _ _)]
  simp only [Nat.add_sub_cancel_left]
theorem low_bits (x : Int) (h0 : 0 ≤ x) (h1 : x < 18446744073709551616) : Go.bits .and .u64 x 7 = x % 8 := by
  obtain ⟨n, rfl⟩ := Int.eq_ofNat_of_zero_le h0
  have h := bits_and_u64_nat n 7 (by omega) (by omega)
  have e : n &&& 7 = n % 8 := Nat.and_two_pow_sub_one_eq_mod n 3
  rw [e] at h
  simpa using h
theorem shard_one (s : ByteArray) (hs : s.size ≤ 140737488351232) : place_Shard.f s 1 = some (0, 0) := by
  unfold place_Shard.f place_isMany.f
  have hr := hfold_range s s.size
  rw [if_pos (by omega)]; simp only [Option.bind_some]; rw [if_pos (by decide), hash_some s hs]; simp only [Option.bind_some]
  rw [show IntKind.u64.wrap 1 = 1 from by decide, if_neg (by omega)]
  rw [Int.tmod_one, show wrap64 0 = 0 from by unfold wrap64; omega]
theorem shard_eight (s : ByteArray) (hs : s.size ≤ 140737488351232) : place_Shard.f s 8 = some (hfold s s.size % 8, 0) := by
  unfold place_Shard.f place_isMany.f
  have hr := hfold_range s s.size
  rw [if_pos (by omega)]; simp only [Option.bind_some]; rw [if_pos (by decide), hash_some s hs]; simp only [Option.bind_some]
  rw [show IntKind.u64.wrap 8 = 8 from by decide, if_neg (by omega), Int.tmod_eq_emod_of_nonneg hr.1]
  congr 2
  unfold wrap64
  omega
theorem goes_from (s t : ByteArray) (hs : s.size ≤ 140737488351232) (ht : t.size ≤ 140737488351232) (hst : s.size + t.size ≤ 500) (d : Nat) : ∀ i, i + d = t.size →
    Ev (fun k => haystacklaw20_PlaceGoes.l0 k s t (hfold (s ++ t) (s.size + i)) (i : Int)) true := by
  induction d with
  | zero =>
    intro i hi
    obtain rfl : i = t.size := by omega
    have hz : (s ++ t).size = s.size + t.size := by simp
    have hr := hfold_range s s.size
    refine Ev.step (f := fun k => (haystacklaw20_known.f k).bind fun t152 => (some t152)) (fun k => ?_) (Ev.bind known_true (Ev.now _))
    simp only [haystacklaw20_PlaceGoes.l0]
    rw [if_neg (by omega), shard_one s hs, shard_eight s hs]
    simp only [Option.bind_some]
    rw [if_pos (by omega), hash_some (s ++ t) (by omega), hash_some s hs, hz]
    simp only [Option.bind_some, if_true]
    rw [low_bits _ hr.1 hr.2, if_pos (by unfold wrap64; omega)]
  | succ d ih =>
    intro i hi
    refine Ev.step (fun k => ?_) (ih (i + 1) (by omega))
    simp only [haystacklaw20_PlaceGoes.l0]
    rw [if_pos (by omega), if_pos (by omega)]
    rw [show wrap64 ((i : Int) + 1) = ((i + 1 : Nat) : Int) from by unfold wrap64; omega]
    rw [show s.size + (i + 1) = s.size + i + 1 from rfl, hfold_right s t i (by omega)]
    rfl
theorem PlaceGoes : haystacklaw20_PlaceGoes.Pure := by
  intro s t hs ht
  refine Ev.rounds (g := fun k => haystacklaw20_PlaceGoes.f k s t) ?_
  unfold haystacklaw20_PlaceGoes.f
  by_cases h : wrap64 ((s.size : Int) + (t.size : Int)) > 500
  · simp only [if_pos h]; exact Ev.now _
  · simp only [if_neg h, hash_some s hs, Option.bind_some]
    have hst : s.size + t.size ≤ 500 := by unfold wrap64 at h; omega
    have := goes_from s t hs ht hst t.size 0 (by omega)
    rw [Nat.add_zero, hfold_left s t s.size (Nat.le_refl _)] at this
    exact this

end Go.Proofs.Ytiobjanmkhdpdaa.Pure
