import Derived.Test.YtdbjbeebjigofaaPBwtAlikex1
import Derived.Test.YtdbjbeebjigofaaPlainB
namespace Go.Proofs.Ytdbjbeebjigofaa.Pure
open Go.RowKit Go.Proofs.Ytdbjbeebjigofaa.Hand Go.Proofs.Ytdbjbeebjigofaa.Sfx Go.Proofs.Ytdbjbeebjigofaa.BwtP Go.Proofs.Ytdbjbeebjigofaa.PT Go.Proofs.Ytdbjbeebjigofaa.PK Go.Proofs.Ytdbjbeebjigofaa.PBwtAlike Go.Proofs.YtdbjbeebjigofaaW.PrintWords Go.Proofs.YtdbjbeebjigofaaW.PrintLast
set_option linter.unusedVariables false
set_option linter.unusedSimpArgs false
/-- One symbol again and again, and the end. -/
def one (c : Int) (n : Nat) : List Int := List.replicate n c ++ [0]
theorem one_len (c : Int) (n : Nat) : (one c n).length = n + 1 := by simp [one]
theorem one_closed (c : Int) (hc : 0 < c) (n : Nat) : BwtP.Closed (one c n) := ⟨_, rfl, fun x hx => by rw [(List.mem_replicate.1 hx).2]; exact hc⟩
theorem one_at (c : Int) (n i : Nat) (hi : i ≤ n) : rd (one c n) (i : Nat) = if i = n then 0 else c := by
  rw [rd_at (by rw [one_len]; omega)]
  unfold one
  by_cases e : i = n
  · rw [if_pos e, List.getElem_append_right (by simp; omega)]; simp [e]
  · rw [if_neg e, List.getElem_append_left (by simp; omega)]; simp
theorem one_suf (c : Int) (n : Nat) (p : Int) (h0 : 0 ≤ p) (h1 : p ≤ n) : suf (one c n) p = one c (n - p.toNat) := by
  unfold suf one
  rw [List.drop_append_of_le_length (by simp; omega), List.drop_replicate]
theorem one_lt (c : Int) (hc : 0 < c) : ∀ (p q : Nat), p < q → ltL (one c p) (one c q) = true := by
  intro p
  induction p with
  | zero =>
    intro q hq
    obtain ⟨q, rfl⟩ : ∃ m, q = m + 1 := ⟨q - 1, by omega⟩
    show ltL [0] (c :: (List.replicate q c ++ [0])) = true
    simp only [ltL]
    rw [if_neg (by omega)]
    simpa using hc
  | succ p ih =>
    intro q hq
    obtain ⟨q, rfl⟩ : ∃ m, q = m + 1 := ⟨q - 1, by omega⟩
    have := ih q (by omega)
    simp only [one, List.replicate_succ, List.cons_append, ltL, if_true] at this ⊢
    exact this
theorem one_sa (c : Int) (hc : 0 < c) (n : Nat) : saOf (one c n) = (iota (n + 1)).reverse := by
  refine (saOf_isSA _).uniq ⟨?_, ?_⟩
  · rw [one_len]; exact List.reverse_perm _
  · rw [List.pairwise_reverse]
    refine List.Pairwise.imp_of_mem (R := fun a b => a < b) ?_ (iota_pairwise (n + 1))
    intro a b ha hb hab
    obtain ⟨a0, a1⟩ := mem_iota.1 ha
    obtain ⟨b0, b1⟩ := mem_iota.1 hb
    rw [one_suf c n a a0 (by omega), one_suf c n b b0 (by omega)]
    exact one_lt c hc _ _ (by omega)
theorem one_turn (c : Int) (hc : 0 < c) (n : Nat) : turnL (one c n) (saOf (one c n)) = one c n := by
  have hp := (saOf_isSA (one c n)).perm
  rw [one_len] at hp
  refine ext_rd (turnL_saOf_len _) fun i hi => ?_
  rw [turnL_saOf_len, one_len] at hi
  have e : rd (saOf (one c n)) (i : Nat) = ((n - i : Nat) : Int) := by
    rw [one_sa c hc n, rd_at (by simp [iota_len]; omega)]
    rw [List.getElem_reverse]
    simp only [iota, List.getElem_map, List.getElem_range, List.length_map, List.length_range]
    omega
  rw [turnL_rd (one_len c n) hp hi, e, one_at c n i (by omega)]
  unfold pv
  by_cases h : i = n
  · rw [if_pos (by omega), if_pos h, show ((n + 1 : Nat) : Int) - 1 = (n : Nat) from by omega, one_at c n n (Nat.le_refl _), if_pos rfl]
  · rw [if_neg (by omega), if_neg h, show ((n - i : Nat) : Int) - 1 = ((n - i - 1 : Nat) : Int) from by omega, one_at c n _ (by omega), if_neg (by omega)]
theorem check_from (c : Int) (n : Nat) (hn : n ≤ 2000) (d : Nat) : ∀ i : Nat, i + d = n → Ev (fun k => haystacklaw6_BwtAlike.l1 k c (n : Int) (one c n) (i : Int)) true := by
  have hl := one_len c n
  induction d with
  | zero =>
    intro i hi
    refine Ev.step (f := fun k => (haystacklaw6_known.f k).bind fun t => some t) (fun k => ?_) (Ev.bind (f := fun _ t => some t) known_ev (Ev.now _))
    simp only [haystacklaw6_BwtAlike.l1]
    rw [if_neg (by omega), if_pos (by omega), if_pos (by omega), if_pos (by rw [one_at c n n (Nat.le_refl _), if_pos rfl])]
  | succ d ih =>
    intro i hi
    refine Ev.step (fun k => ?_) (ih (i + 1) (by omega))
    simp only [haystacklaw6_BwtAlike.l1]
    rw [if_pos (by omega), if_pos (by omega), if_pos (by omega), if_pos (by rw [one_at c n i (by omega), if_neg (by omega)]), wr1 (x := (i : Int) + 1) (by omega) (by omega)]
    rfl
theorem fill_opaque (c : Int) (i : Nat) (hn : i ≤ 2000) (s : List Int) (hl : s.length = i + 1) (hcl : BwtP.Closed s) (hturn : turnL s (saOf s) = s) (hcheck : Ev (fun k => haystacklaw6_BwtAlike.l1 k c (i : Int) s 0) true) :
    Ev (fun k => haystacklaw6_BwtAlike.l0 k c (i : Int) s (i : Int)) true := by
  have hb := backV_turn (by omega) hcl
  refine Ev.step (f := fun k => (bwt_Turn.f k s).bind fun bt181 => ((bwt_Back.f bt181.1).bind fun bt185 => (if bt181.2 = 0 then (if bt185.2 = 0 then (if (bt181.1.length : Int) = ((i : Int) + 1) then ((haystacklaw6_ints.f k bt185.1 s).bind fun t189 => (haystacklaw6_BwtAlike.j2 k c (i : Int) bt181.1 (!t189))) else (haystacklaw6_BwtAlike.j2 k c (i : Int) bt181.1 true)) else (haystacklaw6_BwtAlike.j2 k c (i : Int) bt181.1 true)) else (haystacklaw6_BwtAlike.j2 k c (i : Int) bt181.1 true)))) (fun k => ?_) ?_
  · simp only [haystacklaw6_BwtAlike.l0]
    rw [if_neg (by omega), wr1 (x := (i : Int) + 1) (by omega) (by omega)]
  · refine Ev.bind (turn_ev s (by omega)) ?_
    rw [turnV_closed (by omega) hcl, hturn]
    rw [hturn] at hb
    have hb2 : bwt_Back.f s = some (s, 0) := by unfold bwt_Back.f; rw [hb]
    clear hb
    simp only [hb2, Option.bind_some, if_true]
    simp only [show (s.length : Int) = (i : Int) + 1 from by omega, if_true]
    refine Ev.bind (a := true) (Ev.ret (ints_ev s s (by omega)) (by simp)) ?_
    refine Ev.step (fun k => by simp only [haystacklaw6_BwtAlike.j2]; rw [if_neg (by simp)]) ?_
    exact hcheck
theorem fill_done (c : Int) (hc : 0 < c) (i : Nat) (hn : i ≤ 2000) : Ev (fun k => haystacklaw6_BwtAlike.l0 k c (i : Int) (one c i) (i : Int)) true :=
  fill_opaque c i hn (one c i) (one_len c i) (one_closed c hc i) (one_turn c hc i) (check_from c i hn i 0 (by omega))
theorem fill_from (c : Int) (hc : 0 < c) (n : Nat) (hn : n ≤ 2000) (d : Nat) : ∀ i : Nat, i + d = n → Ev (fun k => haystacklaw6_BwtAlike.l0 k c (n : Int) (List.replicate i c ++ List.replicate (d + 1) 0) (i : Int)) true := by
  have hl := one_len c n
  induction d with
  | zero =>
    intro i hi
    obtain rfl : i = n := by omega
    have e0 : List.replicate i c ++ List.replicate (0 + 1) 0 = one c i := rfl
    rw [e0]
    clear e0
    exact fill_done c hc i hn
  | succ d ih =>
    intro i hi
    refine Ev.step (fun k => ?_) (ih (i + 1) (by omega))
    simp only [haystacklaw6_BwtAlike.l0]
    rw [if_pos (by omega), if_pos (by omega), if_pos (by simp; omega), wr1 (x := (i : Int) + 1) (by omega) (by omega), Int.toNat_natCast]
    congr 1
    rw [List.replicate_succ (n := d + 1), List.replicate_succ' (n := i)]
    rw [List.set_append_right _ _ (by simp)]
    simp
theorem BwtAlike : haystacklaw6_BwtAlike.Pure := by
  intro c n _ _
  refine Ev.rounds ?_
  have hk : Ev (fun k => haystacklaw6_BwtAlike.j0 k c n true) true := by
    refine Ev.step (f := fun k => (haystacklaw6_known.f k).bind fun t => some t) (fun k => ?_) (Ev.bind (f := fun _ t => some t) known_ev (Ev.now _))
    simp only [haystacklaw6_BwtAlike.j0, if_true]
  unfold haystacklaw6_BwtAlike.f
  by_cases h1 : c < 1
  · simp only [if_pos h1]; exact hk
  · simp only [if_neg h1]
    by_cases h2 : c > 1048576
    · simp only [if_pos h2]; exact hk
    · simp only [if_neg h2]
      by_cases h3 : n < 0
      · simp only [if_pos h3]; exact hk
      · simp only [if_neg h3]
        by_cases h4 : n > 2000
        · simp only [decide_eq_true h4]; exact hk
        · simp only [decide_eq_false h4]
          obtain ⟨m, rfl⟩ : ∃ m : Nat, n = m := ⟨n.toNat, by omega⟩
          refine Ev.step (fun k => ?_) (fill_from c (by omega) m (by omega) m 0 (by omega))
          simp only [haystacklaw6_BwtAlike.j0]
          rw [if_neg (by simp), wr1 (x := (m : Int) + 1) (by omega) (by omega), if_pos (by omega), if_pos (by omega), show ((m : Int) + 1).toNat = m + 1 from by omega]
          simp
end Go.Proofs.Ytdbjbeebjigofaa.Pure
