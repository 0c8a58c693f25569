/- Rows turned and back in plain lists: where the symbol ahead of each ending stands, and the way back. No program. -/
import Derived.Test.YtdbjbeebjigofaaSfx
namespace Go.Proofs.Ytdbjbeebjigofaa.BwtP
open Go.Proofs.YtdbjbeebjigofaaW.PrintWords Go.Proofs.Ytdbjbeebjigofaa.Sfx
set_option linter.unusedVariables false
set_option linter.unusedSimpArgs false

/-- A closed row: all above 0, and a 0 behind. -/
def Closed (s : List Int) : Prop := ∃ t, s = t ++ [0] ∧ ∀ x ∈ t, 0 < x
theorem Closed.pos {s : List Int} (h : Closed s) : 0 < s.length := by obtain ⟨t, rfl, _⟩ := h; simp
theorem Closed.last {s : List Int} (h : Closed s) : rd s ((s.length - 1 : Nat) : Int) = 0 := by
  obtain ⟨t, rfl, _⟩ := h
  rw [rd_at (by simp)]
  simp
theorem Closed.above {s : List Int} (h : Closed s) {i : Nat} (hi : i + 1 < s.length) : 0 < rd s (i : Nat) := by
  obtain ⟨t, rfl, ht⟩ := h
  simp at hi
  rw [rd_at (by simp; omega)]
  rw [List.getElem_append_left (by omega)]
  exact ht _ (List.getElem_mem _)
theorem Closed.zero_iff {s : List Int} (h : Closed s) {i : Nat} (hi : i < s.length) : rd s (i : Nat) = 0 ↔ i + 1 = s.length := by
  constructor
  · intro h0
    rcases Nat.lt_or_ge (i + 1) s.length with h1 | h1
    · have := h.above h1; omega
    · omega
  · intro h1
    have := h.last
    rw [← h1] at this
    exact this

/-- A row, turned, by the order of its endings. -/
def turnL (s sa : List Int) : List Int := sa.map fun p => rd s ((p + s.length - 1) % s.length)
def nx (n : Nat) (p : Int) : Int := if p + 1 = n then 0 else p + 1
def pv (n : Nat) (p : Int) : Int := if p = 0 then (n : Int) - 1 else p - 1
theorem pv_eq {n : Nat} {p : Int} (h0 : 0 ≤ p) (h1 : p < n) : (p + n - 1) % n = pv n p := by
  unfold pv
  by_cases e : p = 0
  · rw [if_pos e, e]; rw [Int.emod_eq_of_lt] <;> omega
  · rw [if_neg e, show p + (n : Int) - 1 = (p - 1) + n from by omega, Int.add_emod_right, Int.emod_eq_of_lt] <;> omega
theorem nx_lt {n : Nat} {p : Int} (h0 : 0 ≤ p) (h1 : p < n) : 0 ≤ nx n p ∧ nx n p < n := by unfold nx; split <;> omega
theorem pv_lt {n : Nat} {p : Int} (h0 : 0 ≤ p) (h1 : p < n) : 0 ≤ pv n p ∧ pv n p < n := by unfold pv; split <;> omega
theorem pv_nx {n : Nat} {p : Int} (h0 : 0 ≤ p) (h1 : p < n) : pv n (nx n p) = p := by unfold pv nx; split <;> split <;> omega
theorem nx_pv {n : Nat} {p : Int} (h0 : 0 ≤ p) (h1 : p < n) : nx n (pv n p) = p := by unfold pv nx; split <;> split <;> omega
theorem turnL_len (s sa : List Int) : (turnL s sa).length = sa.length := by simp [turnL]
theorem turnL_rd {s sa : List Int} {n : Nat} (hn : s.length = n) (hp : sa.Perm (iota n)) {i : Nat} (hi : i < n) : rd (turnL s sa) (i : Nat) = rd s (pv n (rd sa (i : Nat))) := by
  subst hn
  have hl : sa.length = s.length := by rw [hp.length_eq, iota_len]
  have hm : rd sa (i : Nat) ∈ iota s.length := hp.subset (by rw [rd_at (by omega)]; exact List.getElem_mem _)
  obtain ⟨h0, h1⟩ := mem_iota.1 hm
  rw [rd_at (by rw [turnL_len]; omega), ← pv_eq h0 h1, rd_at (by omega)]
  simp [turnL]

/-- The order of a row's places by their symbols, what is alike as it stands. -/
structure IsOrd (l ord : List Int) : Prop where
  perm : ord.Perm (iota l.length)
  sorted : ord.Pairwise fun a b => rd l a < rd l b ∨ rd l a = rd l b ∧ a < b
theorem IsOrd.len {l ord : List Int} (h : IsOrd l ord) : ord.length = l.length := by rw [h.perm.length_eq, iota_len]
theorem IsOrd.uniq {l x y : List Int} (hx : IsOrd l x) (hy : IsOrd l y) : x = y :=
  eq_of_perm_pairwise (R := fun a b => rd l a < rd l b ∨ rd l a = rd l b ∧ a < b) (fun a h => by omega) (fun a b h h' => by omega) x y (hx.perm.trans hy.perm.symm) hx.sorted hy.sorted
def ordOf (l : List Int) : List Int := (iota l.length).mergeSort fun a b => decide (rd l a < rd l b ∨ rd l a = rd l b ∧ a ≤ b)
theorem ordOf_isOrd (l : List Int) : IsOrd l (ordOf l) := by
  have hp : (ordOf l).Perm (iota l.length) := List.mergeSort_perm _ _
  have hs := List.pairwise_mergeSort (le := fun a b : Int => decide (rd l a < rd l b ∨ rd l a = rd l b ∧ a ≤ b)) (fun a b c h1 h2 => by simp at h1 h2 ⊢; omega) (fun a b => by simp; omega) (iota l.length)
  refine ⟨hp, ?_⟩
  have hnd : (ordOf l).Nodup := hp.symm.nodup (iota_nodup _)
  rw [List.pairwise_iff_getElem]
  intro i j hi hj hij
  have h1 : rd l (ordOf l)[i] < rd l (ordOf l)[j] ∨ rd l (ordOf l)[i] = rd l (ordOf l)[j] ∧ (ordOf l)[i] ≤ (ordOf l)[j] := of_decide_eq_true (List.pairwise_iff_getElem.1 hs i j hi hj hij)
  have h2 : (ordOf l)[i] ≠ (ordOf l)[j] := List.pairwise_iff_getElem.1 hnd i j hi hj hij
  omega

/-- Where a place stands in an order. -/
def pl (sa : List Int) (p : Int) : Int := (sa.idxOf p : Nat)
theorem pl_lt {n : Nat} {sa : List Int} (hp : sa.Perm (iota n)) {p : Int} (h0 : 0 ≤ p) (h1 : p < n) : 0 ≤ pl sa p ∧ pl sa p < n ∧ rd sa (pl sa p) = p := by
  have hm : p ∈ sa := hp.symm.subset (mem_iota.2 ⟨h0, h1⟩)
  have hl : sa.length = n := by rw [hp.length_eq, iota_len]
  have hi : sa.idxOf p < sa.length := List.idxOf_lt_length_iff.2 hm
  unfold pl
  refine ⟨by omega, by omega, ?_⟩
  rw [rd_at hi]
  exact List.getElem_idxOf hi
theorem rd_mem {n : Nat} {sa : List Int} (hp : sa.Perm (iota n)) {i : Nat} (hi : i < n) : 0 ≤ rd sa (i : Nat) ∧ rd sa (i : Nat) < n := by
  have hl : sa.length = n := by rw [hp.length_eq, iota_len]
  exact mem_iota.1 (hp.subset (by rw [rd_at (by omega)]; exact List.getElem_mem _))
theorem rd_inj {n : Nat} {sa : List Int} (hp : sa.Perm (iota n)) {i j : Nat} (hi : i < n) (hj : j < n) (h : rd sa (i : Nat) = rd sa (j : Nat)) : i = j := by
  have hl : sa.length = n := by rw [hp.length_eq, iota_len]
  have hnd : sa.Nodup := hp.symm.nodup (iota_nodup _)
  rw [rd_at (by omega), rd_at (by omega)] at h
  rcases Nat.lt_trichotomy i j with h1 | h1 | h1
  · exact absurd h (List.pairwise_iff_getElem.1 hnd i j (by omega) (by omega) h1)
  · exact h1
  · exact absurd h.symm (List.pairwise_iff_getElem.1 hnd j i (by omega) (by omega) h1)
theorem pl_rd {n : Nat} {sa : List Int} (hp : sa.Perm (iota n)) {i : Nat} (hi : i < n) : pl sa (rd sa (i : Nat)) = i := by
  obtain ⟨h0, h1⟩ := rd_mem hp hi
  obtain ⟨a, b, c⟩ := pl_lt hp h0 h1
  obtain ⟨j, hj⟩ : ∃ j : Nat, pl sa (rd sa (i : Nat)) = j := ⟨(pl sa (rd sa (i : Nat))).toNat, by omega⟩
  rw [hj] at b c ⊢
  have := rd_inj hp (by omega) hi c
  omega

theorem suf_cons {s : List Int} {p : Int} (h0 : 0 ≤ p) (h1 : p < s.length) : suf s p = rd s p :: suf s (p + 1) := by
  obtain ⟨i, rfl⟩ : ∃ i : Nat, p = i := ⟨p.toNat, by omega⟩
  unfold suf
  rw [show ((i : Int) + 1).toNat = i + 1 from by omega, Int.toNat_natCast, rd_at (by omega), ← List.drop_eq_getElem_cons]
theorem lt_iff {s : List Int} {a b : Int} (ha : 0 ≤ a) (ha2 : a < s.length) (hb : 0 ≤ b) (hb2 : b < s.length) (h : ltL (suf s a) (suf s b) = true) :
    rd s a < rd s b ∨ rd s a = rd s b ∧ ltL (suf s (a + 1)) (suf s (b + 1)) = true := by
  rw [suf_cons ha ha2, suf_cons hb hb2, ltL] at h
  by_cases e : rd s a = rd s b
  · rw [if_pos e] at h; exact Or.inr ⟨e, h⟩
  · rw [if_neg e] at h; exact Or.inl (of_decide_eq_true h)
theorem sa_lt {s sa : List Int} (h : IsSA s sa) {i j : Nat} (hi : i < s.length) (hj : j < s.length) (hij : i < j) : ltL (suf s (rd sa (i : Nat))) (suf s (rd sa (j : Nat))) = true := by
  have hl := h.len
  rw [rd_at (by omega), rd_at (by omega)]
  exact List.pairwise_iff_getElem.1 h.up i j (by omega) (by omega) hij
/-- The endings' order tells the places' order. -/
theorem pl_mono {s sa : List Int} (h : IsSA s sa) {a b : Int} (ha : 0 ≤ a) (ha2 : a < s.length) (hb : 0 ≤ b) (hb2 : b < s.length) (hlt : ltL (suf s a) (suf s b) = true) : pl sa a < pl sa b := by
  obtain ⟨x0, x1, x2⟩ := pl_lt h.perm ha ha2
  obtain ⟨y0, y1, y2⟩ := pl_lt h.perm hb hb2
  obtain ⟨i, hi⟩ : ∃ i : Nat, pl sa a = i := ⟨(pl sa a).toNat, by omega⟩
  obtain ⟨j, hj⟩ : ∃ i : Nat, pl sa b = i := ⟨(pl sa b).toNat, by omega⟩
  rw [hi] at x1 x2 ⊢
  rw [hj] at y1 y2 ⊢
  rcases Nat.lt_trichotomy i j with h1 | h1 | h1
  · omega
  · subst h1
    rw [x2] at y2
    subst y2
    rw [ltL_irrefl] at hlt
    cases hlt
  · have := sa_lt h (by omega) (by omega) h1
    rw [x2, y2, ltL_asymm hlt] at this
    cases this

/-- The ending behind each one: the order of the turned row's symbols. -/
def psi (n : Nat) (sa : List Int) : List Int := sa.map fun p => pl sa (nx n p)
theorem psi_isOrd {s sa : List Int} (hc : Closed s) (h : IsSA s sa) : IsOrd (turnL s sa) (psi s.length sa) := by
  have hl := h.len
  have hmem : ∀ p ∈ sa, 0 ≤ p ∧ p < s.length := fun p hp => mem_iota.1 (h.perm.subset hp)
  have hrd : ∀ p : Int, 0 ≤ p → p < s.length → rd (turnL s sa) (pl sa (nx s.length p)) = rd s p := by
    intro p h0 h1
    obtain ⟨n0, n1⟩ := nx_lt h0 h1
    obtain ⟨x0, x1, x2⟩ := pl_lt h.perm n0 n1
    obtain ⟨i, hi⟩ : ∃ i : Nat, pl sa (nx s.length p) = i := ⟨(pl sa (nx s.length p)).toNat, by omega⟩
    rw [hi] at x1 x2 ⊢
    rw [turnL_rd rfl h.perm (by omega), x2, pv_nx h0 h1]
  have hlast : ∀ p : Int, 0 ≤ p → p < s.length → rd s p = 0 → p + 1 = s.length := by
    intro p h0 h1 he
    obtain ⟨i, rfl⟩ : ∃ i : Nat, p = i := ⟨p.toNat, by omega⟩
    have := (hc.zero_iff (i := i) (by omega)).1 he
    omega
  have hlast2 : ∀ p : Int, p + 1 = s.length → rd s p = 0 := by
    intro p h1
    have := hc.last
    have hpos := hc.pos
    rw [show p = ((s.length - 1 : Nat) : Int) from by omega]
    exact this
  have hpw : (psi s.length sa).Pairwise fun a b => rd (turnL s sa) a < rd (turnL s sa) b ∨ rd (turnL s sa) a = rd (turnL s sa) b ∧ a < b := by
    unfold psi
    rw [List.pairwise_map]
    refine List.Pairwise.imp_of_mem (R := fun a b => ltL (suf s a) (suf s b) = true) ?_ h.up
    intro a b ha hb hab
    obtain ⟨a0, a1⟩ := hmem a ha
    obtain ⟨b0, b1⟩ := hmem b hb
    rw [hrd a a0 a1, hrd b b0 b1]
    rcases lt_iff a0 a1 b0 b1 hab with h1 | ⟨h1, h2⟩
    · exact Or.inl h1
    · refine Or.inr ⟨h1, ?_⟩
      have hna : ¬ a + 1 = s.length := fun e => by
        have h3 := hlast2 a e
        have h4 := hlast b b0 b1 (by omega)
        have h5 : a = b := by omega
        subst h5
        rw [ltL_irrefl] at hab
        cases hab
      have hnb : ¬ b + 1 = s.length := fun e => by
        have h3 := hlast2 b e
        exact hna (hlast a a0 a1 (by omega))
      unfold nx
      rw [if_neg hna, if_neg hnb]
      exact pl_mono h (by omega) (by omega) (by omega) (by omega) h2
  refine ⟨?_, hpw⟩
  rw [turnL_len, hl]
  have hnd : (psi s.length sa).Nodup := hpw.imp (fun {a b} h e => by subst e; omega)
  refine (List.perm_ext_iff_of_nodup hnd (iota_nodup _)).2 fun q => ⟨fun hq => ?_, fun hq => ?_⟩
  · obtain ⟨p, hp, rfl⟩ := List.mem_map.1 hq
    obtain ⟨p0, p1⟩ := hmem p hp
    obtain ⟨n0, n1⟩ := nx_lt p0 p1
    obtain ⟨x0, x1, x2⟩ := pl_lt h.perm n0 n1
    exact mem_iota.2 ⟨x0, x1⟩
  · obtain ⟨q0, q1⟩ := mem_iota.1 hq
    obtain ⟨i, rfl⟩ : ∃ i : Nat, q = i := ⟨q.toNat, by omega⟩
    obtain ⟨r0, r1⟩ := rd_mem h.perm (i := i) (by omega)
    obtain ⟨v0, v1⟩ := pv_lt r0 r1
    refine List.mem_map.2 ⟨pv s.length (rd sa (i : Nat)), h.perm.symm.subset (mem_iota.2 ⟨v0, v1⟩), ?_⟩
    rw [nx_pv r0 r1, pl_rd h.perm (by omega)]

/-- What is turned leads from an ending to the one behind it. -/
theorem ord_next {s sa ord : List Int} (hc : Closed s) (h : IsSA s sa) (ho : IsOrd (turnL s sa) ord) {j : Nat} (hj : j < s.length) :
    rd sa (rd ord (j : Nat)) = nx s.length (rd sa (j : Nat)) := by
  obtain rfl := ho.uniq (psi_isOrd hc h)
  have hl := h.len
  obtain ⟨r0, r1⟩ := rd_mem h.perm hj
  obtain ⟨n0, n1⟩ := nx_lt r0 r1
  have e : rd (psi s.length sa) (j : Nat) = pl sa (nx s.length (rd sa (j : Nat))) := by
    rw [rd_at (by simp [psi]; omega)]
    simp only [psi, List.getElem_map]
    rw [rd_at (by omega)]
  rw [e]
  exact (pl_lt h.perm n0 n1).2.2

theorem sa_first {s sa : List Int} (hc : Closed s) (h : IsSA s sa) : rd sa ((0 : Nat) : Int) = (s.length : Int) - 1 := by
  have hpos := hc.pos
  obtain ⟨r0, r1⟩ := rd_mem h.perm (i := 0) hpos
  obtain ⟨x0, x1, x2⟩ := pl_lt h.perm (p := (s.length : Int) - 1) (by omega) (by omega)
  obtain ⟨j, hj⟩ : ∃ i : Nat, pl sa ((s.length : Int) - 1) = i := ⟨(pl sa ((s.length : Int) - 1)).toNat, by omega⟩
  rw [hj] at x1 x2
  rcases Nat.eq_zero_or_pos j with h0 | h0
  · rw [h0] at x2; exact x2
  · have hlt := sa_lt h hpos (by omega) h0
    rw [x2] at hlt
    have hz : rd s ((s.length : Int) - 1) = 0 := by
      have := hc.last
      rwa [show ((s.length - 1 : Nat) : Int) = (s.length : Int) - 1 from by omega] at this
    obtain ⟨i, hi⟩ : ∃ i : Nat, rd sa ((0 : Nat) : Int) = i := ⟨(rd sa ((0 : Nat) : Int)).toNat, by omega⟩
    rw [hi] at hlt r1 ⊢
    rcases lt_iff (by omega) (by omega) (by omega) (by omega) hlt with h1 | ⟨h1, h2⟩
    · rw [hz] at h1
      rcases Nat.lt_or_ge (i + 1) s.length with h3 | h3
      · have := hc.above h3; omega
      · omega
    · rw [hz] at h1
      have := (hc.zero_iff (i := i) (by omega)).1 h1
      omega

/-- Where each place stands in the order. -/
structure IsTo (ord tos : List Int) : Prop where
  len : tos.length = ord.length
  at_ : ∀ j : Nat, j < ord.length → rd tos (rd ord (j : Nat)) = j
def tk (tos : List Int) : Nat → Int
  | 0 => 0
  | k + 1 => rd tos (tk tos k)
theorem to_step {n : Nat} {ord tos : List Int} (hp : ord.Perm (iota n)) (h : IsTo ord tos) {p : Int} (h0 : 0 ≤ p) (h1 : p < n) : ∃ j : Nat, j < n ∧ rd ord (j : Nat) = p ∧ rd tos p = j := by
  have hl : ord.length = n := by rw [hp.length_eq, iota_len]
  obtain ⟨x0, x1, x2⟩ := pl_lt hp h0 h1
  obtain ⟨j, hj⟩ : ∃ i : Nat, pl ord p = i := ⟨(pl ord p).toNat, by omega⟩
  rw [hj] at x1 x2
  exact ⟨j, by omega, x2, by rw [← x2]; exact h.at_ j (by omega)⟩
theorem tk_lt {n : Nat} {ord tos : List Int} (hp : ord.Perm (iota n)) (h : IsTo ord tos) (hn : 0 < n) (k : Nat) : 0 ≤ tk tos k ∧ tk tos k < n := by
  induction k with
  | zero => exact ⟨by simp [tk], by simp [tk]; omega⟩
  | succ k ih =>
    obtain ⟨j, hj, _, h2⟩ := to_step hp h ih.1 ih.2
    simp only [tk]
    rw [h2]
    omega
theorem tk_sa {s sa ord tos : List Int} (hc : Closed s) (h : IsSA s sa) (ho : IsOrd (turnL s sa) ord) (ht : IsTo ord tos) : ∀ k : Nat, k < s.length → rd sa (tk tos k) = (s.length : Int) - 1 - k := by
  have hl := h.len
  have hp : ord.Perm (iota s.length) := by have := ho.perm; rwa [turnL_len, hl] at this
  intro k
  induction k with
  | zero => intro _; have := sa_first hc h; simp only [tk]; simpa using this
  | succ k ih =>
    intro hk
    have ih := ih (by omega)
    obtain ⟨t0, t1⟩ := tk_lt hp ht hc.pos k
    obtain ⟨j, hj, e1, e2⟩ := to_step hp ht t0 t1
    have h3 := ord_next hc h ho hj
    rw [e1, ih] at h3
    obtain ⟨r0, r1⟩ := rd_mem h.perm hj
    have h4 := pv_nx r0 r1
    rw [← h3] at h4
    simp only [tk]
    rw [e2, ← h4]
    unfold pv
    rw [if_neg (by omega)]
    omega
theorem tk_symbol {s sa ord tos : List Int} (hc : Closed s) (h : IsSA s sa) (ho : IsOrd (turnL s sa) ord) (ht : IsTo ord tos) (k : Nat) (hk : k < s.length) :
    rd (turnL s sa) (tk tos k) = if k + 1 = s.length then 0 else rd s (s.length - 2 - k : Nat) := by
  have hl := h.len
  have hp : ord.Perm (iota s.length) := by have := ho.perm; rwa [turnL_len, hl] at this
  obtain ⟨t0, t1⟩ := tk_lt hp ht hc.pos k
  obtain ⟨j, hj⟩ : ∃ i : Nat, tk tos k = i := ⟨(tk tos k).toNat, by omega⟩
  have h2 := tk_sa hc h ho ht k hk
  rw [hj] at h2 t1 ⊢
  rw [turnL_rd rfl h.perm (by omega), h2]
  unfold pv
  by_cases e : k + 1 = s.length
  · rw [if_pos (by omega), if_pos e]
    have := hc.last
    rwa [show ((s.length - 1 : Nat) : Int) = (s.length : Int) - 1 from by omega] at this
  · rw [if_neg (by omega), if_neg e]
    congr 1
    omega

/-- What is gone through, from its end. -/
def gone (l tos : List Int) : List Int := (List.range l.length).map fun i => rd l (tk tos (l.length - 1 - i))
/-- The row that was turned. -/
def backRow (l tos : List Int) : List Int := (gone l tos).drop 1 ++ (gone l tos).take 1
/-- The same, by the document. -/
def refRow (l tos : List Int) : List Int := (List.range l.length).map fun i => if i + 1 = l.length then 0 else rd l (tk tos (l.length - 2 - i))
theorem gone_len (l tos : List Int) : (gone l tos).length = l.length := by simp [gone]
theorem backRow_len (l tos : List Int) : (backRow l tos).length = l.length := by simp [backRow, gone_len]; omega
theorem refRow_len (l tos : List Int) : (refRow l tos).length = l.length := by simp [refRow]
theorem backRow_at (l tos : List Int) (i : Nat) (hi : i < l.length) : rd (backRow l tos) (i : Nat) = if i + 1 = l.length then rd l (tk tos (l.length - 1)) else rd l (tk tos (l.length - 2 - i)) := by
  rw [rd_at (by rw [backRow_len]; exact hi)]
  unfold backRow
  by_cases e : i + 1 = l.length
  · rw [if_pos e, List.getElem_append_right (by simp [gone_len]; omega)]
    simp [gone, gone_len, show i - (l.length - 1) = 0 from by omega]
  · rw [if_neg e, List.getElem_append_left (by simp [gone_len]; omega)]
    simp only [gone, List.getElem_drop, List.getElem_map, List.getElem_range]
    congr 2
    omega
theorem refRow_at (l tos : List Int) (i : Nat) (hi : i < l.length) : rd (refRow l tos) (i : Nat) = if i + 1 = l.length then 0 else rd l (tk tos (l.length - 2 - i)) := by
  rw [rd_at (by rw [refRow_len]; exact hi)]
  simp [refRow]
theorem ext_rd {a b : List Int} (hl : a.length = b.length) (h : ∀ i : Nat, i < a.length → rd a (i : Nat) = rd b (i : Nat)) : a = b := by
  refine List.ext_getElem hl fun i h1 h2 => ?_
  have := h i h1
  rwa [rd_at h1, rd_at h2] at this
theorem back_ref (l tos : List Int) (h : l ≠ [] → rd l (tk tos (l.length - 1)) = 0) : backRow l tos = refRow l tos := by
  refine ext_rd (by rw [backRow_len, refRow_len]) fun i hi => ?_
  rw [backRow_len] at hi
  rw [backRow_at l tos i hi, refRow_at l tos i hi]
  split
  · exact h (by intro e; rw [e] at hi; simp at hi)
  · rfl
/-- The way back leads to the row. -/
theorem back_turn {s sa ord tos : List Int} (hc : Closed s) (h : IsSA s sa) (ho : IsOrd (turnL s sa) ord) (ht : IsTo ord tos) : backRow (turnL s sa) tos = s ∧ refRow (turnL s sa) tos = s := by
  have hl := h.len
  have hpos := hc.pos
  have e1 : backRow (turnL s sa) tos = refRow (turnL s sa) tos := by
    refine back_ref _ _ fun _ => ?_
    rw [turnL_len, hl, tk_symbol hc h ho ht _ (by omega), if_pos (by omega)]
  refine ⟨e1.trans ?_, ?_⟩
  all_goals
    refine ext_rd (by rw [refRow_len, turnL_len, hl]) fun i hi => ?_
    rw [refRow_len, turnL_len, hl] at hi
    rw [refRow_at _ _ i (by rw [turnL_len, hl]; exact hi), turnL_len, hl]
    by_cases e : i + 1 = s.length
    · rw [if_pos e]; exact ((hc.zero_iff hi).2 e).symm
    · rw [if_neg e, tk_symbol hc h ho ht _ (by omega), if_neg (by omega), show s.length - 2 - (s.length - 2 - i) = i from by omega]
/-- What is turned has the same symbols. -/
theorem turn_perm {s sa : List Int} (hn : 0 < s.length) (h : IsSA s sa) : (turnL s sa).Perm s := by
  have h1 : (sa.map (pv s.length)).Perm (iota s.length) := by
    have hnd : (sa.map (pv s.length)).Nodup := by
      have hs : sa.Nodup := h.perm.symm.nodup (iota_nodup _)
      refine List.pairwise_map.2 (List.Pairwise.imp_of_mem (R := fun a b => a ≠ b) ?_ hs)
      intro a b ha hb hne e
      obtain ⟨a0, a1⟩ := mem_iota.1 (h.perm.subset ha)
      obtain ⟨b0, b1⟩ := mem_iota.1 (h.perm.subset hb)
      have h1 := nx_pv a0 a1
      have h2 := nx_pv b0 b1
      rw [e, h2] at h1
      exact hne h1.symm
    refine (List.perm_ext_iff_of_nodup hnd (iota_nodup _)).2 fun q => ⟨fun hq => ?_, fun hq => ?_⟩
    · obtain ⟨p, hp, rfl⟩ := List.mem_map.1 hq
      obtain ⟨p0, p1⟩ := mem_iota.1 (h.perm.subset hp)
      exact mem_iota.2 (pv_lt p0 p1)
    · obtain ⟨q0, q1⟩ := mem_iota.1 hq
      obtain ⟨n0, n1⟩ := nx_lt q0 q1
      exact List.mem_map.2 ⟨nx s.length q, h.perm.symm.subset (mem_iota.2 ⟨n0, n1⟩), pv_nx q0 q1⟩
  have e : turnL s sa = (sa.map (pv s.length)).map (rd s) := by
    unfold turnL
    rw [List.map_map]
    refine List.map_congr_left fun p hp => ?_
    obtain ⟨p0, p1⟩ := mem_iota.1 (h.perm.subset hp)
    simp only [Function.comp]
    rw [pv_eq p0 p1]
  have e2 : (iota s.length).map (rd s) = s := by
    refine List.ext_getElem (by simp [iota_len]) fun i h1 h2 => ?_
    simp only [iota, List.map_map, List.getElem_map, List.getElem_range, Function.comp]
    exact rd_at h2
  rw [e]
  have := h1.map (rd s)
  rwa [e2] at this
def toOf (l : List Int) : List Int := (iota l.length).map (pl (ordOf l))
theorem toOf_isTo (l : List Int) : IsTo (ordOf l) (toOf l) := by
  have hp := (ordOf_isOrd l).perm
  have hl := (ordOf_isOrd l).len
  refine ⟨by simp [toOf, iota_len, hl], fun j hj => ?_⟩
  obtain ⟨r0, r1⟩ := rd_mem hp (i := j) (by omega)
  obtain ⟨i, hi⟩ : ∃ i : Nat, rd (ordOf l) (j : Nat) = i := ⟨(rd (ordOf l) (j : Nat)).toNat, by omega⟩
  have := pl_rd hp (i := j) (by omega)
  rw [hi] at this r1 ⊢
  rw [rd_at (by simp [toOf, iota_len]; omega)]
  simp [toOf, iota]
  exact this
theorem IsTo.uniq {n : Nat} {ord x y : List Int} (hp : ord.Perm (iota n)) (hx : IsTo ord x) (hy : IsTo ord y) : x = y := by
  have hl : ord.length = n := by rw [hp.length_eq, iota_len]
  refine ext_rd (by rw [hx.len, hy.len]) fun i hi => ?_
  rw [hx.len] at hi
  obtain ⟨j, _, e1, e2⟩ := to_step hp hx (p := (i : Nat)) (by omega) (by omega)
  rw [e2, ← e1]
  exact (hy.at_ j (by omega)).symm
end Go.Proofs.Ytdbjbeebjigofaa.BwtP
