/- What suffix.Common tells: how many symbols neighbours have in common. -/
import Derived.Test.YtenmgimhgdhgmaaPureCommon
namespace Go.Proofs.Ytenmgimhgdhgmaa.Pure
open Go.RowKit Go.Proofs.Ytenmgimhgdhgmaa.Hand Go.Proofs.Ytenmgimhgdhgmaa.Sfx Go.Proofs.Ytenmgimhgdhgmaa.PC Go.Proofs.YtenmgimhgdhgmaaW.PrintWords Go.Proofs.YtenmgimhgdhgmaaW.PrintLast
set_option linter.unusedVariables false
/-- The endings at a and b have just x symbols in common. -/
structure Alike (s : List Int) (a b x : Nat) : Prop where
  ha : a + x ≤ s.length
  hb : b + x ≤ s.length
  eq : pre s x a = pre s x b
  stop : a + x < s.length → b + x < s.length → rd s ((a + x : Nat) : Int) ≠ rd s ((b + x : Nat) : Int)
theorem pre_succ (s : List Int) (a h : Nat) (hl : a + h < s.length) : pre s (h + 1) (a : Int) = pre s h (a : Int) ++ [rd s ((a + h : Nat) : Int)] := by
  unfold pre
  rw [Int.toNat_natCast, List.take_succ_eq_append_getElem (by simp; omega), rd_at hl]
  simp
theorem take_le {a b : List Int} (m : Nat) (h : leL a b = true) : leL (a.take m) (b.take m) = true := by
  unfold leL at *
  rcases hc : ltL (b.take m) (a.take m) with _ | _
  · rfl
  · have := ltL_split m b a
    rw [hc] at this
    simp only [Bool.true_or] at this
    rw [this] at h; cases h
theorem le_anti {a b : List Int} (h1 : leL a b = true) (h2 : leL b a = true) : a = b := by
  unfold leL at *
  exact ltL_tri a b (by simpa using h2) (by simpa using h1)
theorem sandwich {a b c : List Int} (m : Nat) (h1 : leL a b = true) (h2 : leL b c = true) (h : a.take m = c.take m) : b.take m = c.take m := by
  have e1 := take_le m h1
  have e2 := take_le m h2
  rw [h] at e1
  exact le_anti e2 e1
theorem suf_cons (s : List Int) (a : Nat) (h : a < s.length) : suf s (a : Int) = rd s (a : Int) :: suf s ((a + 1 : Nat) : Int) := by
  unfold suf
  rw [Int.toNat_natCast, Int.toNat_natCast, List.drop_eq_getElem_cons h, rd_at h]
/-- The step from one ending to the next one of the row. -/
theorem kasai {s sa inv : List Int} (hs : IsSA s sa) (h2 : Inv2 sa inv) {i j kk x : Nat} (hi : i + 1 < s.length) (hij : rd inv (i : Nat) = j) (hj1 : 1 ≤ j) (hjn : j < s.length) (hk : rd sa ((j - 1 : Nat) : Int) = kk) (hx : Alike s kk i x) {j2 k2 : Nat} (hij2 : rd inv ((i + 1 : Nat) : Int) = j2) (hj2 : 1 ≤ j2) (hjn2 : j2 < s.length) (hk2 : rd sa ((j2 - 1 : Nat) : Int) = k2) :
    k2 + (x - 1) ≤ s.length ∧ i + 1 + (x - 1) ≤ s.length ∧ pre s (x - 1) (k2 : Int) = pre s (x - 1) ((i + 1 : Nat) : Int) := by
  have hl := hs.len
  have hk2m := mem_iota.1 (hs.perm.subset (show (k2 : Int) ∈ sa from by rw [← hk2, rd_at (by omega)]; exact List.getElem_mem _))
  have hkm := mem_iota.1 (hs.perm.subset (show (kk : Int) ∈ sa from by rw [← hk, rd_at (by omega)]; exact List.getElem_mem _))
  rcases Nat.lt_or_ge x 2 with hx2 | hx2
  · rw [show x - 1 = 0 from by omega]
    exact ⟨by omega, by omega, by simp [pre]⟩
  · have hxa := hx.ha
    have hxb := hx.hb
    have hup := List.pairwise_iff_getElem.1 hs.up
    have back : ∀ (i j : Nat), i < s.length → rd inv (i : Nat) = j → j < sa.length ∧ rd sa (j : Nat) = i := fun i j hi hij => by
      obtain ⟨j', hj', e1, e2⟩ := h2.back i (by omega)
      have : j' = j := by omega
      subst this; exact ⟨hj', e1⟩
    obtain ⟨hj', eij⟩ := back i j (by omega) hij
    obtain ⟨hj2', eij2⟩ := back (i + 1) j2 hi hij2
    have lt1 : ltL (suf s kk) (suf s i) = true := by
      have := hup (j - 1) j (by omega) hj' (by omega)
      rw [← rd_at (show j - 1 < sa.length by omega), ← rd_at hj', hk, eij] at this
      exact this
    have hfirst : rd s (kk : Int) = rd s (i : Int) := by
      have e := hx.eq
      have e1 : (pre s x kk).take 1 = (pre s x i).take 1 := by rw [e]
      unfold pre at e1
      rw [List.take_take, List.take_take, show min 1 x = 1 from by omega] at e1
      have p1 := pre_one s kk (by omega) (by omega)
      have p2 := pre_one s i (by omega) (by omega)
      unfold pre at p1 p2
      rw [p1, p2] at e1
      simpa using e1
    have lt2 : ltL (suf s ((kk + 1 : Nat) : Int)) (suf s ((i + 1 : Nat) : Int)) = true := by
      rw [suf_cons s kk (by omega), suf_cons s i (by omega)] at lt1
      simp only [ltL, hfirst, if_true] at lt1
      exact lt1
    have htail : (suf s ((kk + 1 : Nat) : Int)).take (x - 1) = (suf s ((i + 1 : Nat) : Int)).take (x - 1) := by
      have e := hx.eq
      have e1 : (pre s x kk).drop 1 = (pre s x i).drop 1 := by rw [e]
      unfold pre at e1
      rw [List.drop_take, List.drop_take, List.drop_drop, List.drop_drop] at e1
      unfold suf
      simpa using e1
    obtain ⟨c, hc, ec⟩ := at_of_mem hs.perm (a := ((kk + 1 : Nat) : Int)) (by omega) (by omega)
    have hcj : c ≤ j2 - 1 := by
      rcases Nat.lt_or_ge c j2 with h | h
      · omega
      · exfalso
        rcases Nat.eq_or_lt_of_le h with h | h
        · subst h
          rw [eij2] at ec
          rw [← ec, ltL_irrefl] at lt2; cases lt2
        · have := hup j2 c hj2' hc h
          rw [← rd_at hj2', ← rd_at hc, eij2, ec] at this
          rw [ltL_asymm this] at lt2; cases lt2
    have le1 : leL (suf s ((kk + 1 : Nat) : Int)) (suf s k2) = true := by
      rcases Nat.eq_or_lt_of_le hcj with h | h
      · subst h
        rw [hk2] at ec
        rw [ec]; exact leL_refl _
      · have := hup c (j2 - 1) hc (by omega) h
        rw [← rd_at hc, ← rd_at (show j2 - 1 < sa.length by omega), ec, hk2] at this
        exact leL_of_lt this
    have le2 : leL (suf s k2) (suf s ((i + 1 : Nat) : Int)) = true := by
      have := hup (j2 - 1) j2 (by omega) hj2' (by omega)
      rw [← rd_at (show j2 - 1 < sa.length by omega), ← rd_at hj2', hk2, eij2] at this
      exact leL_of_lt this
    have e := sandwich (x - 1) le1 le2 htail
    have hlen := congrArg List.length e
    simp only [suf, List.length_take, List.length_drop, Int.toNat_natCast] at hlen
    exact ⟨by omega, by omega, e⟩
/-- What the loop knows. -/
structure Kst (s sa inv out : List Int) (h i : Nat) : Prop where
  lo : out.length = s.length
  zero : rd out 0 = 0
  old : ∀ i' j' k' : Nat, i' < i → rd inv (i' : Nat) = j' → 1 ≤ j' → rd sa ((j' - 1 : Nat) : Int) = k' → ∃ x : Nat, rd out (j' : Nat) = x ∧ Alike s k' i' x
  room : i + h ≤ s.length
  start : ∀ j k : Nat, i < s.length → rd inv (i : Nat) = j → 1 ≤ j → rd sa ((j - 1 : Nat) : Int) = k → k + h ≤ s.length ∧ pre s h (k : Int) = pre s h (i : Int)
def Told (s sa inv : List Int) (out : List Int) (h : Int) (i : Int) : Prop :=
  ∃ r : List Int, Ev (fun k => suffix_Common.l0 k s sa out h inv (s.length : Int) i) (r, 0) ∧ r.length = s.length ∧ rd r 0 = 0 ∧ ∀ i' j' k' : Nat, i' < s.length → rd inv (i' : Nat) = j' → 1 ≤ j' → rd sa ((j' - 1 : Nat) : Int) = k' → ∃ x : Nat, rd r (j' : Nat) = x ∧ Alike s k' i' x
theorem told_inner (s sa inv : List Int) (hn : s.length ≤ 65536) (hinv : inv.length = s.length) (i j kk : Nat) (hi : i < s.length) (hj : j < s.length) (hkk : kk < s.length) (out : List Int) (ho : out.length = s.length) (P : Prop → Prop)
    (R : List Int × Int) (hnext : ∀ x : Nat, Alike s kk i x → Told s sa inv (out.set j (x : Int)) ((x - 1 : Nat) : Int) ((i + 1 : Nat) : Int)) (d : Nat) : ∀ h : Nat, i + h + d = s.length → kk + h ≤ s.length → pre s h (kk : Int) = pre s h (i : Int) →
    ∃ r : List Int, Ev (fun k => suffix_Common.l1 k s sa out (h : Int) (i : Int) (j : Int) (kk : Int) inv (s.length : Int) (i : Int)) (r, 0) ∧ r.length = s.length ∧ rd r 0 = 0 ∧ ∀ i' j' k' : Nat, i' < s.length → rd inv (i' : Nat) = j' → 1 ≤ j' → rd sa ((j' - 1 : Nat) : Int) = k' → ∃ x : Nat, rd r (j' : Nat) = x ∧ Alike s k' i' x := by
  induction d with
  | zero =>
    intro h hh hk he
    obtain ⟨r, e1, e2⟩ := hnext h ⟨hk, by omega, he, fun _ h => by omega⟩
    refine ⟨r, Ev.step (fun k => ?_) e1, e2⟩
    simp only [suffix_Common.l1]
    rw [wr1 (x := (i : Int) + h) (by omega) (by omega), if_neg (by omega), if_pos (by omega), if_pos (by omega), mx_pred h (by omega), wr1 (x := (i : Int) + 1) (by omega) (by omega), Int.toNat_natCast]; rfl
  | succ d ih =>
    intro h hh hk he
    by_cases c1 : kk + h < s.length
    · by_cases c2 : rd s ((i : Int) + h) = rd s ((kk : Int) + h)
      · obtain ⟨r, e1, e2⟩ := ih (h + 1) (by omega) (by omega) (by
          rw [pre_succ s kk h c1, pre_succ s i h (by omega), he]
          congr 2
          rw [show ((kk + h : Nat) : Int) = (kk : Int) + h from by omega, show ((i + h : Nat) : Int) = (i : Int) + h from by omega]
          exact c2.symm)
        refine ⟨r, Ev.step (fun k => ?_) e1, e2⟩
        simp only [suffix_Common.l1]
        rw [wr1 (x := (i : Int) + h) (by omega) (by omega), wr1 (x := (kk : Int) + h) (by omega) (by omega), if_pos (by omega), if_pos (by omega), if_pos (by omega), if_pos (by omega), if_pos c2, wr1 (x := (h : Int) + 1) (by omega) (by omega)]; rfl
      · obtain ⟨r, e1, e2⟩ := hnext h ⟨hk, by omega, he, fun _ _ e => c2 (by
          rw [show (i : Int) + h = ((i + h : Nat) : Int) from by omega, show (kk : Int) + h = ((kk + h : Nat) : Int) from by omega]
          exact e.symm)⟩
        refine ⟨r, Ev.step (fun k => ?_) e1, e2⟩
        simp only [suffix_Common.l1]
        rw [wr1 (x := (i : Int) + h) (by omega) (by omega), wr1 (x := (kk : Int) + h) (by omega) (by omega), if_pos (by omega), if_pos (by omega), if_pos (by omega), if_pos (by omega), if_neg c2, if_pos (by omega), if_pos (by omega), mx_pred h (by omega), wr1 (x := (i : Int) + 1) (by omega) (by omega), Int.toNat_natCast]; rfl
    · obtain ⟨r, e1, e2⟩ := hnext h ⟨hk, by omega, he, fun h _ => by omega⟩
      refine ⟨r, Ev.step (fun k => ?_) e1, e2⟩
      simp only [suffix_Common.l1]
      rw [wr1 (x := (i : Int) + h) (by omega) (by omega), wr1 (x := (kk : Int) + h) (by omega) (by omega), if_pos (by omega), if_neg (by omega), if_pos (by omega), if_pos (by omega), mx_pred h (by omega), wr1 (x := (i : Int) + 1) (by omega) (by omega), Int.toNat_natCast]; rfl
theorem told_outer (s sa inv : List Int) (hn : s.length ≤ 65536) (hs : IsSA s sa) (h2 : Inv2 sa inv) (d : Nat) : ∀ (i h : Nat) (out : List Int), i + d = s.length → Kst s sa inv out h i → Told s sa inv out (h : Int) (i : Int) := by
  have hsa := hs.len
  have hinv : inv.length = s.length := by rw [h2.len, hsa]
  induction d with
  | zero =>
    intro i h out hi K
    refine ⟨out, Ev.step (f := fun _ => some (out, 0)) (fun k => ?_) (Ev.now _), K.lo, K.zero, fun i' j' k' hi' => K.old i' j' k' (by omega)⟩
    simp only [suffix_Common.l0]; rw [if_neg (by omega)]
  | succ d ih =>
    intro i h out hi K
    obtain ⟨j, hj, e1, e2⟩ := h2.back i (by rw [hsa]; omega)
    rw [hsa] at hj
    by_cases c : j = 0
    · subst c
      have K2 : Kst s sa inv out 0 (i + 1) := ⟨K.lo, K.zero, fun i' j' k' hi' hij hj1 hk => by
        rcases Nat.lt_or_ge i' i with h | h
        · exact K.old i' j' k' h hij hj1 hk
        · obtain rfl : i' = i := by omega
          omega, by omega, fun j k hi' _ _ hk => by
        have hm := h2.rng
        refine ⟨?_, by simp [pre]⟩
        have hj' : j - 1 < sa.length := by
          obtain ⟨j2, hj2, _, e4⟩ := h2.back (i + 1) (by rw [hsa]; omega)
          omega
        have := h2.rng _ (List.getElem_mem hj')
        rw [← rd_at hj', hk] at this
        omega⟩
      obtain ⟨r, g1, g2⟩ := ih (i + 1) 0 out (by omega) K2
      refine ⟨r, Ev.step (fun k => ?_) g1, g2⟩
      simp only [suffix_Common.l0]; rw [if_pos (by omega), if_pos (by omega), if_pos (by omega), e2, if_pos (by omega), wr1 (by omega) (by omega)]; rfl
    · obtain ⟨kk, hkk, hkn⟩ : ∃ kk : Nat, rd sa ((j - 1 : Nat) : Int) = kk ∧ kk < s.length := by
        have hm := h2.rng (sa[j - 1]'(by omega)) (List.getElem_mem _)
        rw [rd_at (by omega)]
        exact ⟨(sa[j - 1]'(by omega)).toNat, by omega, by omega⟩
      obtain ⟨st1, st2⟩ := K.start j kk (by omega) e2 (by omega) hkk
      have hroom := K.room
      obtain ⟨r, g1, g2⟩ := told_inner s sa inv hn hinv i j kk (by omega) hj hkn out K.lo id (out, 0) (fun x hx => ih (i + 1) (x - 1) (out.set j (x : Int)) (by omega) ⟨by rw [List.length_set]; exact K.lo, by
          have hz : rd (out.set j (x : Int)) ((0 : Nat) : Int) = if 0 = j then (x : Int) else rd out ((0 : Nat) : Int) := rd_set _ _ _ _ (by rw [K.lo]; exact hj)
          rw [if_neg (by omega)] at hz
          exact hz.trans K.zero, fun i' j' k' hi' hij hj1 hk => by
          obtain ⟨j2, hj2, e3, e4⟩ := h2.back i' (by omega)
          have ejj : j2 = j' := by omega
          subst ejj
          rw [rd_set _ _ _ _ (by rw [K.lo]; exact hj)]
          by_cases e : j2 = j
          · subst e
            have : i' = i := by omega
            subst this
            have : k' = kk := by omega
            subst this
            rw [if_pos rfl]; exact ⟨x, rfl, hx⟩
          · rw [if_neg e]
            refine K.old i' j2 k' ?_ hij hj1 hk
            rcases Nat.lt_or_ge i' i with h | h
            · exact h
            · exfalso
              have : i' = i := by omega
              subst this
              omega, by have := hx.hb; omega, fun j2 k2 hi2 hij2 hj2 hk2 => by
          obtain ⟨j3, hj3, _, e4⟩ := h2.back (i + 1) (by omega)
          have hjn2 : j2 < s.length := by omega
          obtain ⟨a1, a2, a3⟩ := kasai hs h2 (by omega) e2 (by omega) hj hkk hx hij2 hj2 hjn2 hk2
          exact ⟨a1, a3⟩⟩) (s.length - (i + h)) h (by omega) st1 st2
      refine ⟨r, Ev.step (fun k => ?_) g1, g2⟩
      simp only [suffix_Common.l0]; rw [if_pos (by omega), if_pos (by omega), if_pos (by omega), e2, if_neg (by omega), wr1 (x := (j : Int) - 1) (by omega) (by omega), if_pos (by omega), if_pos (by omega), show (j : Int) - 1 = ((j - 1 : Nat) : Int) from by omega, hkk]
theorem common_told (s : List Int) (hn : s.length ≤ 65536) (hp : ∀ x ∈ s, 0 ≤ x) : ∃ h : List Int, Ev (fun k => suffix_Common.f k s (saOf s)) (h, 0) ∧ h.length = s.length ∧ rd h 0 = 0 ∧
    ∀ j : Nat, 1 ≤ j → j < s.length → ∃ a b x : Nat, rd (saOf s) ((j - 1 : Nat) : Int) = a ∧ rd (saOf s) (j : Nat) = b ∧ rd h (j : Nat) = x ∧ Alike s a b x := by
  have hs := saOf_isSA s
  have hlen := hs.len
  have hpm := hs.perm
  obtain ⟨inv, i1, i2, i3⟩ := places_ok (saOf s) (by omega) (hpm.symm.nodup (iota_nodup _)) (fun x hx => by rw [hlen]; exact mem_iota.1 (hpm.subset hx))
  have K0 : Kst s (saOf s) inv (List.replicate s.length 0) 0 0 := ⟨by simp, by
    rcases Nat.eq_zero_or_pos s.length with h | h
    · rw [h]; rfl
    · have := rd_at (l := List.replicate s.length (0 : Int)) (i := 0) (by simpa using h)
      rw [show ((0 : Nat) : Int) = 0 from rfl] at this
      rw [this]; simp, fun i' j' k' h => by omega, by omega, fun j k hi hij hj hk => by
    obtain ⟨j3, hj3, _, e4⟩ := i1.back 0 (by omega)
    have hj' : j - 1 < (saOf s).length := by omega
    have := i1.rng _ (List.getElem_mem hj')
    rw [← rd_at hj', hk] at this
    exact ⟨by omega, by simp [pre]⟩⟩
  obtain ⟨r, g1, g2, g3, g4⟩ := told_outer s (saOf s) inv hn hs i1 s.length 0 0 _ (by omega) K0
  refine ⟨r, ?_, g2, g3, fun j hj1 hjn => ?_⟩
  · unfold suffix_Common.f
    rw [array_some s hn hp]
    simp only [Option.bind_some, if_true]
    refine Ev.bind (a := true) (f := fun k t162 => if t162 = true then ((suffix_Places.f k (saOf s)).bind fun bt163 => (if 0 ≤ (s.length : Int) then (if ((s.length : Int) : Int).toNat ≤ 35184372088832 then (suffix_Common.l0 k s (saOf s) (List.replicate ((s.length : Int) : Int).toNat 0) 0 bt163.1 (bt163.1.length : Int) 0) else (none)) else (none))) else (some (([] : List Int), 1))) (Ev.ret (equal_ev (saOf s) (saOf s) (by omega)) (by simp)) ?_
    simp only [if_true]
    refine Ev.bind (a := (inv, 0)) (f := fun k bt163 => (if 0 ≤ (s.length : Int) then (if ((s.length : Int) : Int).toNat ≤ 35184372088832 then (suffix_Common.l0 k s (saOf s) (List.replicate ((s.length : Int) : Int).toNat 0) 0 bt163.1 (bt163.1.length : Int) 0) else (none)) else (none))) i2 ?_
    refine Ev.congr (fun k => ?_) g1
    rw [if_pos (by omega), if_pos (by omega), Int.toNat_natCast, i1.len, hlen]; rfl
  · have hb := i1.rng _ (List.getElem_mem (show j < (saOf s).length by omega))
    have ha := i1.rng _ (List.getElem_mem (show j - 1 < (saOf s).length by omega))
    rw [← rd_at] at ha hb
    obtain ⟨b, eb⟩ : ∃ b : Nat, rd (saOf s) (j : Nat) = b := ⟨(rd (saOf s) (j : Nat)).toNat, by omega⟩
    obtain ⟨a, ea⟩ : ∃ a : Nat, rd (saOf s) ((j - 1 : Nat) : Int) = a := ⟨(rd (saOf s) ((j - 1 : Nat) : Int)).toNat, by omega⟩
    have hat := i1.at_ j (by omega)
    rw [eb] at hat
    obtain ⟨x, hx1, hx2⟩ := g4 b j a (by omega) hat hj1 ea
    exact ⟨a, b, x, ea, eb, hx1, hx2⟩
end Go.Proofs.Ytenmgimhgdhgmaa.Pure
