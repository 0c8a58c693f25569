/- Suffix orders in plain lists: the order of rows, prefixes doubled, ranks, bucket sort. No program. -/
import Derived.Test.YtdbjbeebjigofaaWWords
namespace Go.Proofs.Ytdbjbeebjigofaa.Sfx
open Go.Proofs.YtdbjbeebjigofaaW.PrintWords

/-- Row a is ahead of row b. -/
def ltL : List Int → List Int → Bool
  | [], [] => false
  | [], _ :: _ => true
  | _ :: _, [] => false
  | a :: as, b :: bs => if a = b then ltL as bs else decide (a < b)

theorem ltL_irrefl : ∀ a, ltL a a = false
  | [] => rfl
  | a :: as => by simp [ltL, ltL_irrefl as]
theorem ltL_trans : ∀ a b c, ltL a b = true → ltL b c = true → ltL a c = true
  | [], [], _, h, _ => by simp [ltL] at h
  | [], _ :: _, [], _, h => by simp [ltL] at h
  | [], _ :: _, _ :: _, _, _ => rfl
  | _ :: _, [], _, h, _ => by simp [ltL] at h
  | _ :: _, _ :: _, [], _, h => by simp [ltL] at h
  | a :: as, b :: bs, c :: cs, h1, h2 => by
    have ih := ltL_trans as bs cs
    simp only [ltL] at h1 h2 ⊢
    split at h1 <;> split at h2 <;> split
    all_goals first | (subst_vars; exact ih h1 h2) | (simp only [decide_eq_true_eq] at h1 h2 ⊢; omega) | (simp only [decide_eq_true_eq] at h1 ⊢; omega) | (simp only [decide_eq_true_eq] at h2 ⊢; omega) | (subst_vars; simp only [decide_eq_true_eq] at h1 h2; omega) | (subst_vars; contradiction)
theorem ltL_tri : ∀ a b, ltL a b = false → ltL b a = false → a = b
  | [], [], _, _ => rfl
  | [], _ :: _, h, _ => by simp [ltL] at h
  | _ :: _, [], _, h => by simp [ltL] at h
  | a :: as, b :: bs, h1, h2 => by
    simp only [ltL] at h1 h2
    by_cases e : a = b
    · subst e
      simp only [if_true] at h1 h2
      rw [ltL_tri as bs h1 h2]
    · rw [if_neg e] at h1
      rw [if_neg (fun h => e h.symm)] at h2
      simp only [decide_eq_false_iff_not] at h1 h2
      omega
theorem ltL_asymm {a b : List Int} (h : ltL a b = true) : ltL b a = false := by
  rcases hb : ltL b a with _ | _
  · rfl
  · rw [ltL_irrefl a |>.symm.trans (ltL_trans a b a h hb)] at *
/-- a is not behind b. -/
def leL (a b : List Int) : Bool := !ltL b a
theorem leL_total (a b : List Int) : leL a b = true ∨ leL b a = true := by
  unfold leL
  rcases hb : ltL b a with _ | _
  · exact .inl rfl
  · right; rw [ltL_asymm hb]; rfl
theorem leL_trans {a b c : List Int} (h1 : leL a b = true) (h2 : leL b c = true) : leL a c = true := by
  unfold leL at *
  rcases hc : ltL c a with _ | _
  · rfl
  · simp only [Bool.not_eq_true'] at h1 h2
    rcases hab : ltL a b with _ | _
    · rw [ltL_tri a b hab h1] at hc; rw [hc] at h2; cases h2
    · rw [ltL_trans c a b hc hab] at h2; cases h2
theorem leL_lt {a b : List Int} (h : leL a b = true) (hn : a ≠ b) : ltL a b = true := by
  unfold leL at h
  rcases hab : ltL a b with _ | _
  · exact absurd (ltL_tri a b hab (by simpa using h)) hn
  · rfl
theorem leL_of_lt {a b : List Int} (h : ltL a b = true) : leL a b = true := by unfold leL; rw [ltL_asymm h]; rfl
theorem leL_refl (a : List Int) : leL a a = true := by unfold leL; rw [ltL_irrefl]; rfl

theorem ltL_split : ∀ (k : Nat) (x y : List Int), ltL x y = (ltL (x.take k) (y.take k) || (decide (x.take k = y.take k) && ltL (x.drop k) (y.drop k)))
  | 0, x, y => by simp [ltL]
  | k + 1, [], [] => by simp [ltL]
  | k + 1, [], _ :: _ => by simp [ltL]
  | k + 1, _ :: _, [] => by simp [ltL]
  | k + 1, a :: x, b :: y => by
    have ih := ltL_split k x y
    simp only [ltL, List.take_succ_cons, List.drop_succ_cons]
    by_cases e : a = b
    · subst e; simp [ih]
    · simp [e]

/-- The first k symbols of the ending at p. -/
def pre (s : List Int) (k : Nat) (p : Int) : List Int := (s.drop p.toNat).take k
def suf (s : List Int) (p : Int) : List Int := s.drop p.toNat
theorem pre_double (s : List Int) (k : Nat) (a b : Int) (ha : 0 ≤ a) (hb : 0 ≤ b) :
    ltL (pre s (2 * k) a) (pre s (2 * k) b) = (ltL (pre s k a) (pre s k b) || (decide (pre s k a = pre s k b) && ltL (pre s k (a + k)) (pre s k (b + k)))) := by
  have h := ltL_split k (pre s (2 * k) a) (pre s (2 * k) b)
  have t : ∀ x : Int, 0 ≤ x → (pre s (2 * k) x).take k = pre s k x ∧ (pre s (2 * k) x).drop k = pre s k (x + k) := by
    intro x hx
    unfold pre
    refine ⟨by rw [List.take_take, show min k (2 * k) = k from by omega], ?_⟩
    rw [List.drop_take, List.drop_drop, show 2 * k - k = k from by omega, show (x + k).toNat = x.toNat + k from by omega]
  rw [(t a ha).1, (t a ha).2, (t b hb).1, (t b hb).2] at h
  exact h
theorem pre_double_eq (s : List Int) (k : Nat) (a b : Int) (ha : 0 ≤ a) (hb : 0 ≤ b) : pre s (2 * k) a = pre s (2 * k) b ↔ pre s k a = pre s k b ∧ pre s k (a + k) = pre s k (b + k) := by
  have t : ∀ x : Int, 0 ≤ x → pre s (2 * k) x = pre s k x ++ pre s k (x + k) ∧ (pre s (2 * k) x).take k = pre s k x ∧ (pre s (2 * k) x).drop k = pre s k (x + k) := by
    intro x hx
    have h1 : (pre s (2 * k) x).take k = pre s k x := by
      unfold pre
      rw [List.take_take, show min k (2 * k) = k from by omega]
    have h2 : (pre s (2 * k) x).drop k = pre s k (x + k) := by
      unfold pre
      rw [List.drop_take, List.drop_drop, show 2 * k - k = k from by omega, show (x + k).toNat = x.toNat + k from by omega]
    refine ⟨?_, h1, h2⟩
    rw [← h1, ← h2, List.take_append_drop]
  constructor
  · intro h
    exact ⟨by rw [← (t a ha).2.1, h, (t b hb).2.1], by rw [← (t a ha).2.2, h, (t b hb).2.2]⟩
  · rintro ⟨h1, h2⟩
    rw [(t a ha).1, (t b hb).1, h1, h2]
theorem pre_behind (s : List Int) (k : Nat) (p : Int) (h : (s.length : Int) ≤ p) : pre s k p = [] := by
  unfold pre; rw [List.drop_eq_nil_of_le (by omega)]; simp
theorem pre_here (s : List Int) (k : Nat) (p : Int) (h0 : 0 ≤ p) (h : p < s.length) (hk : 0 < k) : pre s k p ≠ [] := by
  unfold pre
  intro e
  have := congrArg List.length e
  simp at this
  omega
theorem pre_full (s : List Int) (k : Nat) (p : Int) (h : s.length ≤ k) : pre s k p = suf s p := by
  unfold pre suf; rw [List.take_of_length_le (by simp; omega)]
theorem suf_lt_of_pre {s : List Int} {k : Nat} {a b : Int} (h : ltL (pre s k a) (pre s k b) = true) : ltL (suf s a) (suf s b) = true := by
  have e := ltL_split k (suf s a) (suf s b)
  rw [e]
  simp only [suf]
  simp only [pre] at h
  rw [h]; rfl
theorem suf_inj {s : List Int} {a b : Int} (ha : 0 ≤ a) (ha2 : a < s.length) (hb : 0 ≤ b) (hb2 : b < s.length) (h : suf s a = suf s b) : a = b := by
  have := congrArg List.length h
  simp [suf] at this
  omega

/-- 0, 1, .., n - 1. -/
def iota (n : Nat) : List Int := (List.range n).map (fun i : Nat => (i : Int))
theorem iota_len (n : Nat) : (iota n).length = n := by simp [iota]
theorem mem_iota {n : Nat} {p : Int} : p ∈ iota n ↔ 0 ≤ p ∧ p < n := by
  simp only [iota, List.mem_map, List.mem_range]
  constructor
  · rintro ⟨i, hi, rfl⟩; omega
  · rintro ⟨h0, h1⟩; exact ⟨p.toNat, by omega, by omega⟩
theorem iota_nodup (n : Nat) : (iota n).Nodup := by
  unfold iota
  rw [List.Nodup, List.pairwise_map]
  exact List.nodup_range.imp (by intro a b h; omega)
theorem iota_pairwise (n : Nat) : (iota n).Pairwise (· < ·) := by
  unfold iota
  rw [List.pairwise_map]
  exact (List.pairwise_lt_range).imp (by intro a b h; omega)

/-- The order of a row's endings. -/
structure IsSA (s sa : List Int) : Prop where
  perm : sa.Perm (iota s.length)
  up : sa.Pairwise (fun a b => ltL (suf s a) (suf s b) = true)
theorem IsSA.len {s sa : List Int} (h : IsSA s sa) : sa.length = s.length := by rw [h.perm.length_eq, iota_len]
theorem eq_of_perm_pairwise {α : Type} {R : α → α → Prop} (hirr : ∀ a, ¬ R a a) (hasy : ∀ a b, R a b → ¬ R b a) : ∀ (x y : List α), x.Perm y → x.Pairwise R → y.Pairwise R → x = y
  | [], y, hp, _, _ => by rw [List.nil_perm] at hp; exact hp.symm
  | a :: x, [], hp, _, _ => by rw [List.perm_nil] at hp; exact hp
  | a :: x, b :: y, hp, hx, hy => by
    rw [List.pairwise_cons] at hx hy
    have hab : a = b := by
      have h1 : a ∈ b :: y := hp.subset (List.mem_cons_self)
      have h2 : b ∈ a :: x := hp.symm.subset (List.mem_cons_self)
      rcases List.mem_cons.1 h1 with h1 | h1
      · exact h1
      · rcases List.mem_cons.1 h2 with h2 | h2
        · exact h2.symm
        · exact absurd (hx.1 b h2) (hasy _ _ (hy.1 a h1))
    subst hab
    rw [eq_of_perm_pairwise hirr hasy x y (List.Perm.cons_inv hp) hx.2 hy.2]
theorem IsSA.uniq {s x y : List Int} (hx : IsSA s x) (hy : IsSA s y) : x = y :=
  eq_of_perm_pairwise (R := fun a b => ltL (suf s a) (suf s b) = true) (fun a => by rw [ltL_irrefl]; simp) (fun a b h => by rw [ltL_asymm h]; simp) x y (hx.perm.trans hy.perm.symm) hx.up hy.up

/-- Bucket sort: what has key 0, then what has key 1, .. -/
def bucket (l : List Int) (key : Int → Int) (m : Nat) : List Int := (List.range m).flatMap fun c : Nat => l.filter fun p => decide (key p = (c : Int))
theorem bucket_succ (l : List Int) (key : Int → Int) (m : Nat) : bucket l key (m + 1) = bucket l key m ++ l.filter fun p => decide (key p = (m : Int)) := by
  unfold bucket; rw [List.range_succ, List.flatMap_append]; simp
theorem bucket_mem (l : List Int) (key : Int → Int) (m : Nat) (p : Int) : p ∈ bucket l key m ↔ p ∈ l ∧ 0 ≤ key p ∧ key p < m := by
  unfold bucket
  simp only [List.mem_flatMap, List.mem_range, List.mem_filter, decide_eq_true_eq]
  constructor
  · rintro ⟨c, hc, hp, e⟩; exact ⟨hp, by omega, by omega⟩
  · rintro ⟨hp, h0, h1⟩; exact ⟨(key p).toNat, by omega, hp, by omega⟩
theorem filter_lt_succ (l : List Int) (key : Int → Int) (m : Nat) : (l.filter fun p => decide (0 ≤ key p ∧ key p < ((m + 1 : Nat) : Int))).Perm ((l.filter fun p => decide (0 ≤ key p ∧ key p < (m : Int))) ++ l.filter fun p => decide (key p = (m : Int))) := by
  induction l with
  | nil => simp
  | cons a l ih =>
    simp only [List.filter_cons]
    by_cases h1 : key a = (m : Int)
    · rw [if_pos (by simp; omega), if_neg (by simp; omega), if_pos (by simp; omega)]
      exact (ih.cons a).trans (List.perm_middle.symm)
    · by_cases h2 : 0 ≤ key a ∧ key a < (m : Int)
      · rw [if_pos (by simp; omega), if_pos (by simp; omega), if_neg (by simp; omega)]
        exact ih.cons a
      · rw [if_neg (by simp; omega), if_neg (by simp; omega), if_neg (by simp; omega)]
        exact ih
theorem bucket_perm' (l : List Int) (key : Int → Int) : ∀ m, (bucket l key m).Perm (l.filter fun p => decide (0 ≤ key p ∧ key p < (m : Int)))
  | 0 => by
    rw [List.filter_eq_nil_iff.2 (by intro a _; simp)]
    simp [bucket]
  | m + 1 => by
    rw [bucket_succ]
    exact ((bucket_perm' l key m).append_right _).trans (filter_lt_succ l key m).symm
theorem bucket_perm (l : List Int) (key : Int → Int) (m : Nat) (h : ∀ p ∈ l, 0 ≤ key p ∧ key p < m) : (bucket l key m).Perm l := by
  have := bucket_perm' l key m
  rw [List.filter_eq_self.2 (by intro a ha; simpa using h a ha)] at this
  exact this
theorem bucket_pairwise {R : Int → Int → Prop} (l : List Int) (key : Int → Int) (h : l.Pairwise R) : ∀ m, (bucket l key m).Pairwise (fun a b => key a < key b ∨ (key a = key b ∧ R a b))
  | 0 => by simp [bucket]
  | m + 1 => by
    rw [bucket_succ, List.pairwise_append]
    refine ⟨bucket_pairwise l key h m, ?_, ?_⟩
    · have h2 := h.filter (fun p => decide (key p = (m : Int)))
      refine List.Pairwise.imp_of_mem ?_ h2
      intro a b ha hb hr
      simp only [List.mem_filter, decide_eq_true_eq] at ha hb
      exact .inr ⟨by omega, hr⟩
    · intro a ha b hb
      have h1 := (bucket_mem l key m a).1 ha
      simp only [List.mem_filter, decide_eq_true_eq] at hb
      exact .inl (by omega)

/-- Ranks by the first k symbols. -/
structure Ranked (s : List Int) (k : Nat) (rank : Int → Int) (many : Int) : Prop where
  lt : ∀ a b : Int, 0 ≤ a → a < s.length → 0 ≤ b → b < s.length → (rank a < rank b ↔ ltL (pre s k a) (pre s k b) = true)
  lo : ∀ a : Int, 0 ≤ a → a < s.length → 0 ≤ rank a
  hi : ∀ a : Int, 0 ≤ a → a < s.length → rank a < many
theorem Ranked.eq {s : List Int} {k : Nat} {rank : Int → Int} {many : Int} (h : Ranked s k rank many) {a b : Int} (ha : 0 ≤ a) (ha2 : a < s.length) (hb : 0 ≤ b) (hb2 : b < s.length) : rank a = rank b ↔ pre s k a = pre s k b := by
  have h1 := h.lt a b ha ha2 hb hb2
  have h2 := h.lt b a hb hb2 ha ha2
  constructor
  · intro e
    refine ltL_tri _ _ ?_ ?_
    · rw [← Bool.not_eq_true, ← h1]; omega
    · rw [← Bool.not_eq_true, ← h2]; omega
  · intro e
    rw [e, ltL_irrefl] at h1 h2
    have n1 : ¬ rank a < rank b := fun h => by simpa using h1.1 h
    have n2 : ¬ rank b < rank a := fun h => by simpa using h2.1 h
    omega
/-- The rank of what stands k behind; -1: nothing does. -/
def second (s : List Int) (k : Nat) (rank : Int → Int) (i : Int) : Int := if i + k < s.length then rank (i + k) else -1
theorem second_eq {s : List Int} {k : Nat} {rank : Int → Int} {many : Int} (h : Ranked s k rank many) (hk : 0 < k) {a b : Int} (ha : 0 ≤ a) (hb : 0 ≤ b) : second s k rank a = second s k rank b ↔ pre s k (a + k) = pre s k (b + k) := by
  unfold second
  split <;> split
  · rename_i h1 h2; exact h.eq (by omega) h1 (by omega) h2
  · rename_i h1 h2
    have := h.lo (a + k) (by omega) h1
    rw [pre_behind s k (b + k) (by omega)]
    exact ⟨fun e => by omega, fun e => absurd e (pre_here s k _ (by omega) h1 hk)⟩
  · rename_i h1 h2
    have := h.lo (b + k) (by omega) h2
    rw [pre_behind s k (a + k) (by omega)]
    exact ⟨fun e => by omega, fun e => absurd e.symm (pre_here s k _ (by omega) h2 hk)⟩
  · rename_i h1 h2
    rw [pre_behind s k (a + k) (by omega), pre_behind s k (b + k) (by omega)]
    simp

/-- What is sorted by the second half: endings that have none come first. -/
def bySecond (n k : Nat) (sa : List Int) : List Int := (iota n).drop (n - k) ++ (sa.filter fun p => decide ((k : Int) ≤ p)).map fun p : Int => p - (k : Int)
theorem iota_drop (n a : Nat) : (iota n).drop a = (List.range' a (n - a)).map (fun i : Nat => (i : Int)) := by
  unfold iota
  rw [← List.map_drop, List.range_eq_range', List.drop_range']
  simp
theorem iota_add (a b : Nat) : iota (a + b) = iota a ++ (iota b).map (· + (a : Int)) := by
  unfold iota
  rw [List.range_add, List.map_append, List.map_map, List.map_map]
  congr 1
  refine List.map_congr_left fun x _ => ?_
  simp; omega
theorem bySecond_perm {n k : Nat} {sa : List Int} (hk : k ≤ n) (h : sa.Perm (iota n)) : (bySecond n k sa).Perm (iota n) := by
  have h1 : (sa.filter fun p => decide ((k : Int) ≤ p)).Perm ((iota n).filter fun p => decide ((k : Int) ≤ p)) := h.filter _
  have h2 : ((iota n).filter fun p => decide ((k : Int) ≤ p)) = (iota (n - k)).map (· + (k : Int)) := by
    rw [show n = k + (n - k) from by omega, iota_add, List.filter_append, List.filter_eq_nil_iff.2 (by intro a ha; have := mem_iota.1 ha; simp; omega), List.filter_eq_self.2 (by intro a ha; obtain ⟨b, hb, rfl⟩ := List.mem_map.1 ha; have := mem_iota.1 hb; simp; omega)]
    rw [show k + (n - k) - k = n - k from by omega]; rfl
  rw [h2] at h1
  have h3 : ((sa.filter fun p => decide ((k : Int) ≤ p)).map fun p : Int => p - (k : Int)).Perm (iota (n - k)) := by
    refine (h1.map _).trans ?_
    rw [List.map_map, show ((fun p : Int => p - (k : Int)) ∘ (· + (k : Int))) = id from by funext x; simp, List.map_id]
  have h4 : (iota n).drop (n - k) = (iota k).map (· + ((n - k : Nat) : Int)) := by
    conv => lhs; rw [show iota n = iota ((n - k) + k) from by rw [show n - k + k = n from by omega]]
    rw [iota_add, List.drop_append_of_le_length (by rw [iota_len]; omega), List.drop_of_length_le (by rw [iota_len]; omega)]
    rfl
  unfold bySecond
  rw [h4]
  refine (List.perm_append_comm).trans ((h3.append_right _).trans ?_)
  rw [← iota_add, show n - k + k = n from by omega]
theorem bySecond_pairwise {s : List Int} {k : Nat} {sa : List Int} (hk : k ≤ s.length) (h : sa.Pairwise (fun a b => leL (pre s k a) (pre s k b) = true)) :
    (bySecond s.length k sa).Pairwise (fun a b => leL (pre s k (a + k)) (pre s k (b + k)) = true) := by
  unfold bySecond
  rw [List.pairwise_append]
  have hnil : ∀ a ∈ (iota s.length).drop (s.length - k), pre s k (a + k) = [] := by
    intro a ha
    rw [iota_drop, List.mem_map] at ha
    obtain ⟨i, hi, rfl⟩ := ha
    rw [List.mem_range'_1] at hi
    exact pre_behind s k _ (by omega)
  have hl : ∀ x : List Int, leL [] x = true := by intro x; cases x <;> rfl
  refine ⟨?_, ?_, ?_⟩
  · refine (List.pairwise_of_forall_mem_list ?_)
    intro a ha b hb
    rw [hnil a ha]; exact hl _
  · rw [List.pairwise_map]
    refine (h.filter _).imp ?_
    intro a b hab
    rw [show a - k + k = a from by omega, show b - k + k = b from by omega]; exact hab
  · intro a ha b hb
    rw [hnil a ha]; exact hl _
/-- One doubling. -/
theorem sorted_double {s : List Int} {k : Nat} {sa : List Int} {rank : Int → Int} {many : Int} (hr : Ranked s k rank many) (hk : k ≤ s.length) (hp : sa.Perm (iota s.length)) (h : sa.Pairwise (fun a b => leL (pre s k a) (pre s k b) = true)) (m : Nat) (hm : many = m) :
    (bucket (bySecond s.length k sa) rank m).Perm (iota s.length) ∧ (bucket (bySecond s.length k sa) rank m).Pairwise (fun a b => leL (pre s (2 * k) a) (pre s (2 * k) b) = true) := by
  have hp2 := bySecond_perm hk hp
  have hb := bucket_perm (bySecond s.length k sa) rank m (fun p hp => by
    have := mem_iota.1 (hp2.subset hp)
    exact ⟨hr.lo p this.1 this.2, by rw [← hm]; exact hr.hi p this.1 this.2⟩)
  refine ⟨hb.trans hp2, ?_⟩
  refine List.Pairwise.imp_of_mem ?_ (bucket_pairwise _ rank (bySecond_pairwise hk h) m)
  intro a b ha hb' hab
  have ma := mem_iota.1 ((hb.trans hp2).subset ha)
  have mb := mem_iota.1 ((hb.trans hp2).subset hb')
  unfold leL
  rw [pre_double s k b a mb.1 ma.1]
  rcases hab with hab | ⟨e, hab⟩
  · have h1 := (hr.lt a b ma.1 ma.2 mb.1 mb.2).1 hab
    rw [ltL_asymm h1]
    have hne : pre s k b ≠ pre s k a := fun e => by rw [e, ltL_irrefl] at h1; cases h1
    simp [hne]
  · have e2 := (hr.eq ma.1 ma.2 mb.1 mb.2).1 e
    unfold leL at hab
    rw [e2, ltL_irrefl]
    simp only [Bool.not_eq_true'] at hab
    rw [hab]; simp

/-- The ranks along an order: one more where a row differs from the one ahead of it. -/
def climb (s : List Int) (k : Nat) (sa : List Int) : Nat → Int
  | 0 => 0
  | j + 1 => climb s k sa j + if pre s k (rd sa (j : Nat)) = pre s k (rd sa ((j + 1 : Nat) : Int)) then 0 else 1
theorem climb_lo (s : List Int) (k : Nat) (sa : List Int) : ∀ j, 0 ≤ climb s k sa j ∧ climb s k sa j ≤ j
  | 0 => by simp [climb]
  | j + 1 => by
    have := climb_lo s k sa j
    unfold climb
    split <;> omega
theorem rd_at {l : List Int} {i : Nat} (h : i < l.length) : rd l (i : Int) = l[i] := by
  unfold rd; simp [h]
theorem climb_mono {s : List Int} {k : Nat} {sa : List Int} (h : sa.Pairwise (fun a b => leL (pre s k a) (pre s k b) = true)) (i : Nat) : ∀ d, i + d < sa.length →
    climb s k sa i ≤ climb s k sa (i + d) ∧ (climb s k sa i = climb s k sa (i + d) ↔ pre s k (rd sa (i : Nat)) = pre s k (rd sa ((i + d : Nat) : Int)))
  | 0, _ => by simp
  | d + 1, hd => by
    obtain ⟨h1, h2⟩ := climb_mono h i d (by omega)
    have e : climb s k sa (i + (d + 1)) = climb s k sa (i + d) + if pre s k (rd sa ((i + d : Nat) : Int)) = pre s k (rd sa ((i + d + 1 : Nat) : Int)) then 0 else 1 := rfl
    rw [e]
    have hg := List.pairwise_iff_getElem.1 h
    by_cases hq : pre s k (rd sa ((i + d : Nat) : Int)) = pre s k (rd sa ((i + d + 1 : Nat) : Int))
    · rw [if_pos hq, show ((i + (d + 1) : Nat) : Int) = ((i + d + 1 : Nat) : Int) from rfl, ← hq]
      exact ⟨by omega, by rw [Int.add_zero]; exact h2⟩
    · rw [if_neg hq]
      refine ⟨by omega, fun e => by omega, fun e => ?_⟩
      exfalso
      apply hq
      have g1 : leL (pre s k (rd sa (i : Nat))) (pre s k (rd sa ((i + d : Nat) : Int))) = true := by
        rcases Nat.eq_zero_or_pos d with h0 | h0
        · subst h0; exact leL_refl _
        · rw [rd_at (show i < sa.length by omega), rd_at (show i + d < sa.length by omega)]
          exact hg i (i + d) (by omega) (by omega) (by omega)
      have g2 : leL (pre s k (rd sa ((i + d : Nat) : Int))) (pre s k (rd sa ((i + d + 1 : Nat) : Int))) = true := by
        rw [rd_at (show i + d < sa.length by omega), rd_at (show i + d + 1 < sa.length by omega)]
        exact hg (i + d) (i + d + 1) (by omega) (by omega) (by omega)
      rw [show ((i + (d + 1) : Nat) : Int) = ((i + d + 1 : Nat) : Int) from rfl] at e
      rw [e] at g1
      unfold leL at g1 g2
      exact ltL_tri _ _ (by simpa using g1) (by simpa using g2)
theorem at_of_mem {sa : List Int} {n : Nat} (hp : sa.Perm (iota n)) {a : Int} (h0 : 0 ≤ a) (h1 : a < n) : ∃ i : Nat, i < sa.length ∧ rd sa (i : Nat) = a := by
  obtain ⟨i, hi, e⟩ := List.mem_iff_getElem.1 (hp.symm.subset (mem_iota.2 ⟨h0, h1⟩))
  exact ⟨i, hi, by rw [rd_at hi]; exact e⟩
/-- What is written along the order ranks the endings. -/
theorem ranked_climb {s : List Int} {k : Nat} {sa : List Int} {rank : Int → Int} (hp : sa.Perm (iota s.length)) (h : sa.Pairwise (fun a b => leL (pre s k a) (pre s k b) = true))
    (hr : ∀ i : Nat, i < sa.length → rank (rd sa (i : Nat)) = climb s k sa i) : Ranked s k rank (climb s k sa (s.length - 1) + 1) := by
  have hl : sa.length = s.length := by rw [hp.length_eq, iota_len]
  refine ⟨fun a b ha ha2 hb hb2 => ?_, fun a ha ha2 => ?_, fun a ha ha2 => ?_⟩
  · obtain ⟨i, hi, rfl⟩ := at_of_mem hp ha ha2
    obtain ⟨j, hj, rfl⟩ := at_of_mem hp hb hb2
    rw [hr i hi, hr j hj]
    have hg := List.pairwise_iff_getElem.1 h
    by_cases hij : i ≤ j
    · obtain ⟨d, rfl⟩ : ∃ d, j = i + d := ⟨j - i, by omega⟩
      obtain ⟨h1, h2⟩ := climb_mono h i d hj
      constructor
      · intro hlt
        refine leL_lt ?_ (fun e => by have := h2.2 e; omega)
        rcases Nat.eq_zero_or_pos d with h0 | h0
        · subst h0; exact leL_refl _
        · rw [rd_at hi, rd_at hj]; exact hg i (i + d) hi hj (by omega)
      · intro hlt
        have : climb s k sa i ≠ climb s k sa (i + d) := fun e => by
          rw [h2.1 e, ltL_irrefl] at hlt; cases hlt
        omega
    · obtain ⟨d, rfl⟩ : ∃ d, i = j + d := ⟨i - j, by omega⟩
      obtain ⟨h1, h2⟩ := climb_mono h j d hi
      constructor
      · intro hlt; omega
      · intro hlt
        have g : leL (pre s k (rd sa (j : Nat))) (pre s k (rd sa ((j + d : Nat) : Int))) = true := by
          rw [rd_at hi, rd_at hj]; exact hg j (j + d) hj hi (by omega)
        unfold leL at g
        rw [hlt] at g; cases g
  · obtain ⟨i, hi, rfl⟩ := at_of_mem hp ha ha2
    rw [hr i hi]; exact (climb_lo s k sa i).1
  · obtain ⟨i, hi, rfl⟩ := at_of_mem hp ha ha2
    rw [hr i hi]
    obtain ⟨d, hd⟩ : ∃ d, s.length - 1 = i + d := ⟨s.length - 1 - i, by omega⟩
    have := (climb_mono h i d (by omega)).1
    rw [hd]; omega
theorem climb_full {s : List Int} {k : Nat} {sa : List Int} : ∀ n : Nat, (n : Int) ≤ climb s k sa n → ∀ j, j < n → pre s k (rd sa (j : Nat)) ≠ pre s k (rd sa ((j + 1 : Nat) : Int))
  | 0, _, j, hj => by omega
  | n + 1, h, j, hj => by
    have h1 := (climb_lo s k sa n).2
    unfold climb at h
    split at h
    · omega
    · rename_i hne
      rcases Nat.lt_succ_iff_lt_or_eq.1 hj with hj | rfl
      · exact climb_full n (by omega) j hj
      · exact hne
/-- As many ranks as endings: the order is strict. -/
theorem strict_of_climb {s : List Int} {k : Nat} {sa : List Int} (hp : sa.Perm (iota s.length)) (h : sa.Pairwise (fun a b => leL (pre s k a) (pre s k b) = true)) (hf : (s.length : Int) ≤ climb s k sa (s.length - 1) + 1) :
    sa.Pairwise (fun a b => ltL (pre s k a) (pre s k b) = true) := by
  have hl : sa.length = s.length := by rw [hp.length_eq, iota_len]
  rw [List.pairwise_iff_getElem]
  intro i j hi hj hij
  have hg := List.pairwise_iff_getElem.1 h
  have hc := climb_full (s := s) (k := k) (sa := sa) (s.length - 1) (by omega)
  have h1 := hc i (by omega)
  rw [rd_at hi, rd_at (show i + 1 < sa.length by omega)] at h1
  have h2 := leL_lt (hg i (i + 1) hi (by omega) (by omega)) h1
  rcases Nat.lt_or_ge (i + 1) j with h3 | h3
  · have h4 := hg (i + 1) j (by omega) hj h3
    refine leL_lt (hg i j hi hj hij) (fun e => ?_)
    rw [← e] at h4
    unfold leL at h4
    rw [h2] at h4; cases h4
  · obtain rfl : j = i + 1 := by omega
    exact h2
theorem isSA_of_strict {s : List Int} {k : Nat} {sa : List Int} (hp : sa.Perm (iota s.length)) (h : sa.Pairwise (fun a b => ltL (pre s k a) (pre s k b) = true)) : IsSA s sa := ⟨hp, h.imp fun h => suf_lt_of_pre h⟩
/-- Fewer ranks than endings: there are symbols that were not looked at. -/
theorem lt_of_few {s : List Int} {k : Nat} {sa : List Int} {rank : Int → Int} {many : Int} (hr : Ranked s k rank many) (hp : sa.Perm (iota s.length)) (h : sa.Pairwise (fun a b => leL (pre s k a) (pre s k b) = true)) (hm0 : 0 ≤ many) (hf : many < s.length) : k < s.length := by
  have hl : sa.length = s.length := by rw [hp.length_eq, iota_len]
  rcases Nat.lt_or_ge k s.length with h1 | h1
  · exact h1
  · exfalso
    have hnd : sa.Nodup := hp.symm.nodup (iota_nodup _)
    have hg := List.pairwise_iff_getElem.1 h
    have hn := List.pairwise_iff_getElem.1 hnd
    have hm : ∀ i (hi : i < sa.length), 0 ≤ sa[i] ∧ sa[i] < s.length := fun i hi => mem_iota.1 (hp.subset (List.getElem_mem hi))
    have hst : ∀ i, i < sa.length → (i : Int) ≤ rank (rd sa (i : Nat)) := by
      intro i
      induction i with
      | zero => intro hi; rw [rd_at hi]; exact hr.lo _ (hm 0 hi).1 (hm 0 hi).2
      | succ i ih =>
        intro hi
        have h2 := ih (by omega)
        have h3 : rank (rd sa (i : Nat)) < rank (rd sa ((i + 1 : Nat) : Int)) := by
          rw [rd_at (show i < sa.length by omega), rd_at hi]
          rw [hr.lt _ _ (hm i (by omega)).1 (hm i (by omega)).2 (hm (i + 1) hi).1 (hm (i + 1) hi).2]
          refine leL_lt (hg i (i + 1) (by omega) hi (by omega)) (fun e => ?_)
          rw [pre_full s k _ h1, pre_full s k _ h1] at e
          exact hn i (i + 1) (by omega) hi (by omega) (suf_inj (hm i (by omega)).1 (hm i (by omega)).2 (hm (i + 1) hi).1 (hm (i + 1) hi).2 e)
        omega
    rcases Nat.eq_zero_or_pos s.length with h0 | h0
    · omega
    · have h2 := hst (s.length - 1) (by omega)
      have h3 := hr.hi (rd sa ((s.length - 1 : Nat) : Int)) (by rw [rd_at (by omega)]; exact (hm _ (by omega)).1) (by rw [rd_at (by omega)]; exact (hm _ (by omega)).2)
      omega
end Go.Proofs.Ytdbjbeebjigofaa.Sfx
