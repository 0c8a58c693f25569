import Derived.Test.YtenmgimhgdhgmaaPlainP
import Derived.Test.YtenmgimhgdhgmaaPBx4
namespace Go.Proofs.Ytenmgimhgdhgmaa.Pure
open Go.RowKit Go.Proofs.Ytenmgimhgdhgmaa.Hand Go.Proofs.Ytenmgimhgdhgmaa.Sfx Go.Proofs.Ytenmgimhgdhgmaa.PB Go.Proofs.YtenmgimhgdhgmaaW.PrintWords Go.Proofs.YtenmgimhgdhgmaaW.PrintLast
theorem and_rng (x m : Int) (h0 : 0 ≤ m) (h1 : m < 4611686018427387904) : 0 ≤ Go.bits .and .i64 x m ∧ Go.bits .and .i64 x m ≤ m := by
  have hm : (BitVec.ofInt 64 m).toNat = m.toNat := by
    rw [BitVec.toNat_ofInt]; omega
  have h : (BitVec.ofInt 64 x &&& BitVec.ofInt 64 m).toNat ≤ m.toNat := by
    rw [BitVec.toNat_and, hm]; exact Nat.and_le_right
  have e : Go.bits .and .i64 x m = wrap64 ((BitVec.ofInt 64 x &&& BitVec.ofInt 64 m).toNat : Int) := i64_w _
  rw [e, wr1 (by omega) (by omega)]
  omega
/-- The symbols that are looked at. -/
def masked (s : List Int) : List Int := s.map fun x => Go.bits .and .i64 x 1023
theorem sa_places {w : List Int} (hw : w.length ≤ 1000) : ∃ inv, Inv2 (saOf w) inv ∧ Ev (fun k => suffix_Places.f k (saOf w)) (inv, 0) ∧ Ev (fun k => suffix_Places.f k inv) (saOf w, 0) := by
  have hs := saOf_isSA w
  have hl := hs.len
  obtain ⟨inv, h1, h2, _⟩ := places_ok (saOf w) (by omega) (hs.perm.symm.nodup (iota_nodup _)) (fun x hx => by rw [hl]; exact mem_iota.1 (hs.perm.subset hx))
  obtain ⟨n1, n2⟩ := h1.self
  obtain ⟨t2, h3, h4, _⟩ := places_ok inv (by rw [h1.len]; omega) n1 n2
  rw [h1.twice h3] at h4
  exact ⟨inv, h1, h2, h4⟩
theorem back_from (s : List Int) (hn : s.length ≤ 600) (d : Nat) : ∀ i : Nat, i + d = s.length → Ev (fun k => haystacklaw5_SuffixBack.l0 k s (masked (s.take i)) (i : Int)) true := by
  induction d with
  | zero =>
    intro i hi
    obtain rfl : i = s.length := by omega
    rw [List.take_length]
    have hml : (masked s).length = s.length := by simp [masked]
    have hsl := (saOf_isSA (masked s)).len
    obtain ⟨inv, h1, h2, h3⟩ := sa_places (w := masked s) (by omega)
    have hil := h1.len
    have ha : suffix_Array.f (masked s) = some (saOf (masked s), 0) := array_some _ (by omega) (fun x hx => by
      obtain ⟨y, _, rfl⟩ := List.mem_map.1 hx
      exact (and_rng y 1023 (by omega) (by omega)).1)
    refine Ev.step (f := fun k => (suffix_Places.f k (saOf (masked s))).bind fun bt190 => (suffix_Places.f k bt190.1).bind fun bt194 => (if bt190.2 = 0 then (if bt194.2 = 0 then ((haystacklaw5_ints.f k bt194.1 (saOf (masked s))).bind fun t198 => (if t198 = true then (if (bt190.1.length : Int) = ((masked s).length : Int) then ((haystacklaw5_known.f k).bind fun t199 => (some t199)) else (some false)) else (some false))) else (some false)) else (some false))) (fun k => ?_) ?_
    · simp only [haystacklaw5_SuffixBack.l0]
      rw [if_neg (by omega), ha, Option.bind_some]
      simp only [if_true]
    · refine Ev.bind (a := (inv, 0)) (f := fun k bt190 => (suffix_Places.f k bt190.1).bind fun bt194 => _) h2 ?_
      refine Ev.bind (a := (saOf (masked s), 0)) (f := fun k bt194 => _) h3 ?_
      simp only [if_true]
      refine Ev.bind (a := true) (f := fun k t198 => _) (Ev.ret (ints_ev (saOf (masked s)) (saOf (masked s)) (by omega)) (by simp)) ?_
      simp only [if_true, show ((inv.length : Int) = ((masked s).length : Int)) from by omega]
      exact Ev.bind (f := fun _ t => some t) known_ev (Ev.now _)
  | succ d ih =>
    intro i hi
    have hil : i < s.length := by omega
    refine Ev.step (fun k => ?_) (ih (i + 1) (by omega))
    simp only [haystacklaw5_SuffixBack.l0]
    have hml : (masked (s.take i)).length ≤ i := by simp [masked]; omega
    rw [if_pos (by omega), if_pos (by omega), if_pos (by omega), rd_at hil, wr1 (by omega) (by omega)]
    rw [show masked (s.take (i + 1)) = masked (s.take i) ++ [Go.bits .and .i64 s[i] 1023] from by unfold masked; rw [List.take_succ_eq_append_getElem hil, List.map_append]; rfl]
    rfl
theorem SuffixBack : haystacklaw5_SuffixBack.Pure := by
  intro l0 _ _ _
  refine Ev.rounds ?_
  unfold haystacklaw5_SuffixBack.f
  by_cases hl : (l0.length : Int) > 600
  · simp only [if_pos hl]; exact Ev.now _
  · simp only [if_neg hl]
    exact back_from l0 (by omega) l0.length 0 (by omega)
end Go.Proofs.Ytenmgimhgdhgmaa.Pure
