/- byKey is a bucket sort; BinarySearch finds a place: plain lists. -/
import Derived.Test.YtdbjbeebjigofaaPAx2
import Derived.Test.YtdbjbeebjigofaaSfx
namespace Go.Proofs.Ytdbjbeebjigofaa.Sfx
open Go.RowKit Go.Proofs.Ytdbjbeebjigofaa.PA Go.Proofs.YtdbjbeebjigofaaW.PrintWords Go.Proofs.YtdbjbeebjigofaaW.PrintLast
set_option linter.unusedVariables false
set_option linter.unusedSimpArgs false

theorem wr1 {x : Int} (h0 : -9223372036854775808 ≤ x) (h1 : x ≤ 9223372036854775807) : wrap64 x = x := by unfold wrap64; omega

/-- A table of m numbers. -/
def tab (f : Nat → Int) (m : Nat) : List Int := (List.range m).map f
theorem tab_len (f : Nat → Int) (m : Nat) : (tab f m).length = m := by simp [tab]
theorem rd_tab (f : Nat → Int) (m : Nat) (i : Int) (h0 : 0 ≤ i) (h1 : i < m) : rd (tab f m) i = f i.toNat := by
  obtain ⟨j, rfl⟩ := Int.eq_ofNat_of_zero_le h0
  show rd (tab f m) (j : Int) = _
  rw [rd_at (by rw [tab_len]; omega)]
  simp [tab]
theorem tab_set (f : Nat → Int) (m i : Nat) (v : Int) (h : i < m) : (tab f m).set i v = tab (fun j => if j = i then v else f j) m := by
  apply List.ext_getElem
  · simp [tab]
  · intro j h1 h2
    simp only [tab, List.getElem_set, List.getElem_map, List.getElem_range]
    by_cases e : i = j
    · subst e; simp
    · rw [if_neg e, if_neg (fun h => e h.symm)]
theorem tab_congr {f g : Nat → Int} {m : Nat} (h : ∀ j, j < m → f j = g j) : tab f m = tab g m := List.map_congr_left fun j hj => h j (List.mem_range.1 hj)
theorem tab_zero (m : Nat) : List.replicate m (0 : Int) = tab (fun _ => 0) m := by
  apply List.ext_getElem
  · simp [tab]
  · intro j h1 h2; simp [tab]

def cntEq (l : List Int) (c : Int) : Nat := (l.filter fun x => decide (x = c)).length
def cntLt (l : List Int) (c : Int) : Nat := (l.filter fun x => decide (x < c)).length
theorem cntEq_append (a b : List Int) (c : Int) : cntEq (a ++ b) c = cntEq a c + cntEq b c := by simp [cntEq]
theorem cntLt_succ (l : List Int) (c : Int) : cntLt l (c + 1) = cntLt l c + cntEq l c := by
  unfold cntLt cntEq
  induction l with
  | nil => rfl
  | cons a l ih =>
    simp only [List.filter_cons]
    by_cases h1 : a < c
    · rw [if_pos (by simp; omega), if_pos (by simp; omega), if_neg (by simp; omega)]; simp only [List.length_cons]; omega
    · by_cases h2 : a = c
      · rw [if_pos (by simp; omega), if_neg (by simp; omega), if_pos (by simp; omega)]; simp only [List.length_cons]; omega
      · rw [if_neg (by simp; omega), if_neg (by simp; omega), if_neg (by simp; omega)]; exact ih
theorem cntLt_zero {l : List Int} (h : ∀ x ∈ l, 0 ≤ x) : cntLt l 0 = 0 := by
  unfold cntLt
  rw [List.filter_eq_nil_iff.2 (by intro a ha; have := h a ha; simp; omega)]; rfl
theorem cntEq_le (l : List Int) (c : Int) : cntEq l c ≤ l.length := List.length_filter_le _ _
theorem cntLt_le (l : List Int) (c : Int) : cntLt l c ≤ l.length := List.length_filter_le _ _
theorem cntEq_perm {a b : List Int} (h : a.Perm b) (c : Int) : cntEq a c = cntEq b c := (h.filter _).length_eq
theorem cntLt_perm {a b : List Int} (h : a.Perm b) (c : Int) : cntLt a c = cntLt b c := (h.filter _).length_eq
theorem cntEq_take_succ (l : List Int) (i : Nat) (h : i < l.length) (c : Int) : cntEq (l.take (i + 1)) c = cntEq (l.take i) c + if l[i] = c then 1 else 0 := by
  rw [List.take_succ_eq_append_getElem h, cntEq_append]
  congr 1
  unfold cntEq
  by_cases e : l[i] = c
  · simp [e]
  · simp [e]

theorem flat_congr {α β : Type} {l : List α} {f g : α → List β} (h : ∀ x ∈ l, f x = g x) : l.flatMap f = l.flatMap g := by
  rw [List.flatMap_def, List.flatMap_def, List.map_congr_left h]
theorem flat_mono (g : Nat → List Int) (c : Nat) : ∀ d, ((List.range c).flatMap g).length ≤ ((List.range (c + d)).flatMap g).length
  | 0 => Nat.le_refl _
  | d + 1 => by
    rw [show c + (d + 1) = c + d + 1 from rfl, List.range_succ, List.flatMap_append, List.length_append]
    have := flat_mono g c d
    omega
/-- Lists one behind the other, one turned at one place. -/
theorem set_flat (g : Nat → List Int) (c j : Nat) (v : Int) (hj : j < (g c).length) : ∀ m, c < m → ((List.range m).flatMap g).set (((List.range c).flatMap g).length + j) v = (List.range m).flatMap (fun x => if x = c then (g c).set j v else g x)
  | 0, h => by omega
  | m + 1, h => by
    rw [List.range_succ, List.flatMap_append, List.flatMap_append]
    simp only [List.flatMap_cons, List.flatMap_nil, List.append_nil]
    by_cases e : c = m
    · subst e
      rw [if_pos rfl, List.set_append_right _ _ (by omega), show ((List.range c).flatMap g).length + j - ((List.range c).flatMap g).length = j from by omega]
      congr 1
      refine flat_congr fun x hx => ?_
      rw [if_neg (by have := List.mem_range.1 hx; omega)]
    · rw [if_neg (fun h => e h.symm), ← set_flat g c j v hj m (by omega)]
      rw [List.set_append_left]
      have := flat_mono g (c + 1) (m - (c + 1))
      rw [show c + 1 + (m - (c + 1)) = m from by omega] at this
      rw [List.range_succ, List.flatMap_append, List.length_append] at this
      simp only [List.flatMap_cons, List.flatMap_nil, List.append_nil] at this
      omega
theorem flat_len (g : Nat → List Int) (l : List Int) (h0 : ∀ x ∈ l, 0 ≤ x) : ∀ m, (∀ c, c < m → (g c).length = cntEq l c) → ((List.range m).flatMap g).length = cntLt l m
  | 0, _ => by
    have := cntLt_zero h0
    simp only [List.range_zero, List.flatMap_nil, List.length_nil]
    exact this.symm
  | m + 1, h => by
    rw [List.range_succ, List.flatMap_append, List.length_append, flat_len g l h0 m (fun c hc => h c (by omega))]
    simp only [List.flatMap_cons, List.flatMap_nil, List.append_nil]
    rw [h m (by omega), show ((m + 1 : Nat) : Int) = (m : Int) + 1 from by omega, cntLt_succ]
/-- A row cut into parts of given lengths. -/
theorem cut_flat (l keys : List Int) (h0 : ∀ x ∈ keys, 0 ≤ x) : ∀ m : Nat, cntLt keys m ≤ l.length → (List.range m).flatMap (fun c : Nat => (l.drop (cntLt keys c)).take (cntEq keys c)) = l.take (cntLt keys m)
  | 0, _ => by
    have := cntLt_zero h0
    rw [show ((0 : Nat) : Int) = 0 from rfl, this]; simp
  | m + 1, h => by
    rw [show ((m + 1 : Nat) : Int) = (m : Int) + 1 from by omega, cntLt_succ] at h
    rw [List.range_succ, List.flatMap_append, cut_flat l keys h0 m (by omega)]
    simp only [List.flatMap_cons, List.flatMap_nil, List.append_nil]
    rw [show ((m + 1 : Nat) : Int) = (m : Int) + 1 from by omega, cntLt_succ, List.take_add]

theorem places_keys {places keys : List Int} (hp : places.Perm (iota keys.length)) : (places.map (rd keys)).Perm keys := by
  have h : (iota keys.length).map (rd keys) = keys := by
    apply List.ext_getElem
    · simp [iota]
    · intro i h1 h2
      simp only [iota, List.getElem_map, List.getElem_range]
      exact rd_at h2
  have := hp.map (rd keys)
  rw [h] at this
  exact this

theorem byKey_l2 (places keys : List Int) (m : Nat) (hk : ∀ c ∈ keys, 0 ≤ c ∧ c < m) (hp : places.Perm (iota keys.length)) (hn : keys.length ≤ 1000000) (d : Nat) : ∀ (i : Nat) (R : Nat → List Int), i + d = places.length →
    (∀ c, c < m → (R c).length + cntEq ((places.take i).map (rd keys)) c = cntEq keys c) →
    Ev (fun k => suffix_byKey.l2 k keys ((List.range m).flatMap fun c : Nat => ((places.take i).filter fun p => decide (rd keys p = (c : Int))) ++ R c) (tab (fun c => (cntLt keys c : Int) + (cntEq ((places.take i).map (rd keys)) c : Int)) (m + 1)) places (places.length : Int) (i : Int))
      (bucket places (rd keys) m) := by
  have hpl : places.length = keys.length := by rw [hp.length_eq, iota_len]
  have hK := places_keys hp
  have h0 : ∀ x ∈ keys, 0 ≤ x := fun x hx => (hk x hx).1
  have hF : ∀ (i : Nat) (c : Int), ((places.take i).filter fun p => decide (rd keys p = c)).length = cntEq ((places.take i).map (rd keys)) c := by
    intro i c
    unfold cntEq
    rw [List.filter_map, List.length_map]; rfl
  have hmem : ∀ i (hi : i < places.length), (0 ≤ places[i] ∧ places[i] < keys.length) ∧ 0 ≤ rd keys places[i] ∧ rd keys places[i] < m := by
    intro i hi
    have h1 := mem_iota.1 (hp.subset (List.getElem_mem hi))
    refine ⟨h1, hk _ ?_⟩
    obtain ⟨j, hj⟩ := Int.eq_ofNat_of_zero_le h1.1
    rw [hj]
    rw [rd_at (by omega)]
    exact List.getElem_mem _
  induction d with
  | zero =>
    intro i R hi hR
    obtain rfl : i = places.length := by omega
    refine Ev.step (f := fun _ => some (bucket places (rd keys) m)) (fun k => ?_) (Ev.now _)
    simp only [suffix_byKey.l2]
    rw [if_neg (by omega)]
    congr 1
    unfold bucket
    refine flat_congr fun c hc => ?_
    have h1 := hR c (List.mem_range.1 hc)
    rw [List.take_length] at h1 ⊢
    rw [cntEq_perm hK] at h1
    rw [List.eq_nil_of_length_eq_zero (show (R c).length = 0 by omega), List.append_nil]
  | succ d ih =>
    intro i R hi hR
    have hil : i < places.length := by omega
    obtain ⟨⟨a1, a2⟩, a3, a4⟩ := hmem i hil
    have hrp : rd places (i : Int) = places[i] := rd_at hil
    obtain ⟨c, hc⟩ := Int.eq_ofNat_of_zero_le a3
    have hc' : rd keys places[i] = (c : Int) := hc
    have hcm : c < m := by omega
    have htk : cntEq ((places.take (i + 1)).map (rd keys)) c = cntEq ((places.take i).map (rd keys)) c + 1 := by
      rw [List.take_succ_eq_append_getElem hil, List.map_append, cntEq_append]
      simp [cntEq, hc']
    have htk' : ∀ x : Int, x ≠ c → cntEq ((places.take (i + 1)).map (rd keys)) x = cntEq ((places.take i).map (rd keys)) x := by
      intro x hx
      rw [List.take_succ_eq_append_getElem hil, List.map_append, cntEq_append]
      simp [cntEq, hc']; omega
    have hle : cntEq ((places.take (i + 1)).map (rd keys)) c ≤ cntEq keys c := by
      rw [← cntEq_perm hK]
      conv => rhs; rw [← List.take_append_drop (i + 1) places]
      rw [List.map_append, cntEq_append]; omega
    have hRc := hR c hcm
    obtain ⟨y, ys, hy⟩ : ∃ y ys, R c = y :: ys := by
      cases hq : R c with
      | nil => rw [hq, List.length_nil] at hRc; omega
      | cons y ys => exact ⟨y, ys, rfl⟩
    have hgl : ∀ x, x < m → (((places.take i).filter fun p => decide (rd keys p = (x : Int))) ++ R x).length = cntEq keys x := by
      intro x hx; rw [List.length_append, hF]; have := hR x hx; omega
    have hcl := cntLt_le keys c
    have hce := cntEq_le keys c
    have htot : cntLt keys c + cntEq keys c ≤ keys.length := by rw [← cntLt_succ]; exact cntLt_le _ _
    have htotal : ((List.range m).flatMap fun x : Nat => ((places.take i).filter fun p => decide (rd keys p = (x : Int))) ++ R x).length = keys.length := by
      rw [flat_len _ keys h0 m hgl]
      unfold cntLt
      rw [List.filter_eq_self.2 (by intro a ha; simpa using (hk a ha).2)]
    refine Ev.step (f := fun k => suffix_byKey.l2 k keys ((List.range m).flatMap fun x : Nat => ((places.take (i + 1)).filter fun p => decide (rd keys p = (x : Int))) ++ (if x = c then ys else R x)) (tab (fun x => (cntLt keys x : Int) + (cntEq ((places.take (i + 1)).map (rd keys)) x : Int)) (m + 1)) places (places.length : Int) ((i + 1 : Nat) : Int)) (fun k => ?_) (ih (i + 1) _ (by omega) ?_)
    · simp only [suffix_byKey.l2]
      rw [hrp, hc', rd_tab _ _ _ (by omega) (by omega), Int.toNat_natCast, tab_len, htotal]
      rw [if_pos (by omega), if_pos (by omega), if_pos (by omega), if_pos (by omega), if_pos (by omega), if_pos (by omega), if_pos (by omega), if_pos (by omega), if_pos (by omega)]
      rw [wr1 (x := (i : Int) + 1) (by omega) (by omega), wr1 (x := ((cntLt keys c : Int) + (cntEq ((places.take i).map (rd keys)) c : Int)) + 1) (by omega) (by omega)]
      rw [tab_set _ _ _ _ (by omega)]
      congr 1
      · have hgc := hgl c hcm
        have e := set_flat (fun x : Nat => ((places.take i).filter fun p => decide (rd keys p = (x : Int))) ++ R x) c (cntEq ((places.take i).map (rd keys)) c) places[i] (by rw [hgc]; omega) m hcm
        rw [flat_len _ keys h0 c (fun x hx => hgl x (by omega))] at e
        rw [show ((cntLt keys (c : Int) : Int) + (cntEq ((places.take i).map (rd keys)) (c : Int) : Int)).toNat = cntLt keys c + cntEq ((places.take i).map (rd keys)) c from by omega, e]
        refine flat_congr fun x hx => ?_
        by_cases e : x = c
        · subst e
          rw [if_pos rfl, if_pos rfl, hy, ← hF i, List.set_append_right _ _ (by omega), Nat.sub_self, List.take_succ_eq_append_getElem hil, List.filter_append]
          simp [hc']
        · rw [if_neg e, if_neg e, List.take_succ_eq_append_getElem hil, List.filter_append]
          have : ¬ rd keys places[i] = (x : Int) := by rw [hc']; omega
          simp [this]
      · refine tab_congr fun j hj => ?_
        by_cases e : j = c
        · subst e; rw [if_pos rfl, htk]; omega
        · rw [if_neg e, htk' j (by omega)]
    · intro x hx
      have := hR x hx
      by_cases e : x = c
      · subst e; rw [if_pos rfl, htk]; rw [hy, List.length_cons] at this; omega
      · rw [if_neg e, htk' x (by omega)]; exact this

theorem byKey_l1 (places keys : List Int) (m : Nat) (out : List Int) (r : List Int) (hk : ∀ c ∈ keys, 0 ≤ c ∧ c < m) (hn : keys.length ≤ 1000000) (hm : m ≤ 1000000)
    (hend : Ev (fun k => suffix_byKey.l2 k keys out (tab (fun c => (cntLt keys c : Int)) (m + 1)) places (places.length : Int) 0) r) (d : Nat) : ∀ i : Nat, i + d = m + 1 → 1 ≤ i →
    Ev (fun k => suffix_byKey.l1 k places keys (m : Int) out (tab (fun j => if j < i then (cntLt keys j : Int) else (cntEq keys ((j : Int) - 1) : Int)) (m + 1)) (i : Int)) r := by
  induction d with
  | zero =>
    intro i hi h1
    refine Ev.step (f := fun k => suffix_byKey.l2 k keys out (tab (fun c => (cntLt keys c : Int)) (m + 1)) places (places.length : Int) 0) (fun k => ?_) hend
    simp only [suffix_byKey.l1]
    rw [if_neg (by omega), tab_congr (g := fun c => (cntLt keys c : Int)) (fun j hj => if_pos (by omega))]
  | succ d ih =>
    intro i hi h1
    refine Ev.step (fun k => ?_) (ih (i + 1) (by omega) (by omega))
    simp only [suffix_byKey.l1]
    rw [wr1 (x := (i : Int) - 1) (by omega) (by omega), rd_tab _ _ _ (by omega) (by omega), rd_tab _ _ _ (by omega) (by omega), tab_len, Int.toNat_natCast, show ((i : Int) - 1).toNat = i - 1 from by omega]
    rw [if_pos (by omega), if_pos (by omega), if_pos (by omega), if_pos (by omega), if_pos (by omega)]
    rw [if_neg (by omega), if_pos (by omega)]
    have e1 : ((i - 1 : Nat) : Int) = (i : Int) - 1 := by omega
    have hs := cntLt_succ keys ((i : Int) - 1)
    rw [show (i : Int) - 1 + 1 = i from by omega] at hs
    have b1 := cntLt_le keys i
    rw [e1, wr1 (x := (i : Int) + 1) (by omega) (by omega), wr1 (by omega) (by omega), tab_set _ _ _ _ (by omega)]
    congr 1
    refine tab_congr fun j hj => ?_
    by_cases e : j = i
    · subst e; rw [if_pos rfl, if_pos (by omega)]; omega
    · rw [if_neg e]
      by_cases e2 : j < i
      · rw [if_pos e2, if_pos (by omega)]
      · rw [if_neg e2, if_neg (by omega)]

theorem byKey_l0 (places keys : List Int) (m : Nat) (out : List Int) (r : List Int) (hk : ∀ c ∈ keys, 0 ≤ c ∧ c < m) (hn : keys.length ≤ 1000000) (hm : m ≤ 1000000)
    (hend : Ev (fun k => suffix_byKey.l1 k places keys (m : Int) out (tab (fun j => (cntEq keys ((j : Int) - 1) : Int)) (m + 1)) 1) r) (d : Nat) : ∀ i : Nat, i + d = keys.length →
    Ev (fun k => suffix_byKey.l0 k places keys (m : Int) out (tab (fun j => (cntEq (keys.take i) ((j : Int) - 1) : Int)) (m + 1)) keys (keys.length : Int) (i : Int)) r := by
  induction d with
  | zero =>
    intro i hi
    obtain rfl : i = keys.length := by omega
    refine Ev.step (fun k => ?_) hend
    simp only [suffix_byKey.l0]
    rw [if_neg (by omega), List.take_length]
  | succ d ih =>
    intro i hi
    have hil : i < keys.length := by omega
    have hki := hk _ (List.getElem_mem hil)
    refine Ev.step (fun k => ?_) (ih (i + 1) (by omega))
    simp only [suffix_byKey.l0]
    rw [rd_at hil, wr1 (x := keys[i] + 1) (by omega) (by omega), rd_tab _ _ _ (by omega) (by omega), tab_len]
    rw [if_pos (by omega), if_pos (by omega), if_pos (by omega), if_pos (by omega), if_pos (by omega)]
    have b1 := cntEq_le (keys.take i) keys[i]
    have b2 : (keys.take i).length ≤ i := List.length_take_le _ _
    rw [show (((keys[i] + 1).toNat : Nat) : Int) - 1 = keys[i] from by omega, wr1 (x := (i : Int) + 1) (by omega) (by omega), wr1 (by omega) (by omega), tab_set _ _ _ _ (by omega)]
    congr 1
    refine tab_congr fun j hj => ?_
    rw [cntEq_take_succ keys i hil]
    by_cases e : j = (keys[i] + 1).toNat
    · rw [if_pos e, if_pos (by omega), show (j : Int) - 1 = keys[i] from by omega]; omega
    · rw [if_neg e, if_neg (by omega)]; omega

theorem byKey_ev (places keys : List Int) (m : Nat) (out : List Int) (hk : ∀ c ∈ keys, 0 ≤ c ∧ c < m) (hp : places.Perm (iota keys.length)) (ho : out.length = keys.length) (hn : keys.length ≤ 1000000) (hm : m ≤ 1000000) :
    Ev (fun k => suffix_byKey.f k places keys (m : Int) out) (bucket places (rd keys) m) := by
  have h0 : ∀ x ∈ keys, 0 ≤ x := fun x hx => (hk x hx).1
  refine Ev.congr (fun k => ?_) (byKey_l0 places keys m out _ hk hn hm ?_ keys.length 0 (by omega))
  · unfold suffix_byKey.f
    rw [wr1 (by omega) (by omega), if_pos (by omega), if_pos (by omega), show ((m : Int) + 1).toNat = m + 1 from by omega, tab_zero]
    congr 1
  · have h := byKey_l1 places keys m out (bucket places (rd keys) m) hk hn hm ?_ m 1 (by omega) (by omega)
    · refine Ev.congr (fun k => ?_) h
      congr 1
      refine tab_congr fun j hj => ?_
      by_cases e : j = 0
      · subst e
        have := cntLt_zero h0
        rw [if_pos (by omega)]
        rw [show ((0 : Nat) : Int) = 0 from rfl, this]
        have hz : cntEq keys (0 - 1) = 0 := by
          unfold cntEq
          rw [List.filter_eq_nil_iff.2 (by intro a ha; have := h0 a ha; simp; omega)]; rfl
        rw [hz]
      · rw [if_neg (by omega)]
    · have h := byKey_l2 places keys m hk hp hn places.length 0 (fun c => (out.drop (cntLt keys c)).take (cntEq keys c)) (by omega) ?_
      · refine Ev.congr (fun k => ?_) h
        have hall : cntLt keys m = keys.length := by
          unfold cntLt
          rw [List.filter_eq_self.2 (by intro a ha; simpa using (hk a ha).2)]
        have e1 := cut_flat out keys h0 m (by omega)
        rw [hall, ← ho, List.take_length] at e1
        congr 1
        · simp only [List.take_zero, List.filter_nil, List.nil_append]
          exact e1.symm
      · intro c hc
        have := cntLt_succ keys c
        have := cntLt_le keys ((c : Int) + 1)
        simp [cntEq] at *
        omega
end Go.Proofs.Ytdbjbeebjigofaa.Sfx
