/- MemLast: what is known behind each step, in plain words; a table, a map of texts, a list of keys in one memory. -/
import Derived.Test.YtaghcepochjoeaaTabI
namespace Go.Proofs.Ytaghcepochjoeaa.Hand
open Go.RowKit Go.Maps Go.Proofs.Ytaghcepochjoeaa.PA Go.Proofs.Ytaghcepochjoeaa.MapV Go.Proofs.YtaghcepochjoeaaW.PrintWords Go.Proofs.YtaghcepochjoeaaW.PrintLast Go.Proofs.YtaghcepochjoeaaW.PrintMore
set_option linter.unusedVariables false
set_option linter.unusedSimpArgs false
set_option linter.unusedSectionVars false
/-! ### a map from texts to texts -/
def seR (v : Value) : Option (DataW Unit × List MemPlace) := match v with
  | .string s => some (.lit (.string s.data.toList), [])
  | _ => none
def SE : Elem ByteArray where
  enc := .string
  z := .string ByteArray.empty
  elem := seR
  d := fun s => .lit (.string s.data.toList)
  zd := .lit (.string [])
  reads := fun b => rfl
  zmk := rfl
  inj := fun v v' y y' h h' e => by
    unfold seR at h h'
    split at h
    · rename_i s
      split at h'
      · rename_i s'
        injection h with h
        injection h' with h'
        subst h
        subst h'
        simp only [DataW.lit.injEq, Lit.string.injEq] at e
        rw [data_inj e]
      · cases h'
    · cases h
theorem PS : PM SE Try.prog 58 9 9 := ⟨Try.underlying9, Try.underlying58, Try.zeroValue9⟩
abbrev FS := List (Key × ByteArray)
def shown : Option (List Int × Bool) → Option ByteArray
  | some (xs, true) => some (strOfNums xs)
  | _ => none
structure LRel (S : TS) (F : FS) (ks : List ByteArray) : Prop where
  once : Once S
  once2 : Once F
  at_eq : ∀ k, at_ F k = shown (at_ S k)
  bare : ∀ p ∈ S, p.2.2 = false → p.2.1 = []
  txt : ∀ p ∈ S, p.2.1.length ≤ 4096
  all : ∀ s ∈ ks, (at_ S s.data.toList).isSome = true ∧ s.size ≤ maxLen
theorem mem_putG {β : Type} {es : List (Key × β)} {k : Key} {x : β} {p : Key × β} (h : p ∈ put es k x) : p.2 = x ∨ p ∈ es := by
  unfold put at h
  split at h
  · obtain ⟨q, hq, rfl⟩ := List.mem_map.1 h
    split
    · exact .inl rfl
    · exact .inr hq
  · rcases List.mem_append.1 h with h | h
    · exact .inr h
    · rw [List.mem_singleton.1 h]; exact .inl rfl
theorem LRel.start : LRel [] [] [] := ⟨List.nodup_nil, List.nodup_nil, fun k => rfl, (fun p hp => by cases hp), (fun p hp => by cases hp), (fun p hp => by cases hp)⟩
section
variable {S : TS} {F : FS} {ks : List ByteArray}
theorem keyd {s s' : ByteArray} (h : ¬ s = s') : s.data.toList ≠ s'.data.toList := fun e => h (data_inj e)
theorem LRel.all_put (h : LRel S F ks) (s : ByteArray) (hs : s.size ≤ maxLen) (x : List Int × Bool) : ∀ s' ∈ ks ++ [s], (at_ (put S s.data.toList x) s'.data.toList).isSome = true ∧ s'.size ≤ maxLen := by
  intro s' hs'
  by_cases e : s' = s
  · subst e
    rw [at_put_same]
    exact ⟨rfl, hs⟩
  · rw [at_put_other (keyd e)]
    rcases List.mem_append.1 hs' with h1 | h1
    · exact h.all s' h1
    · exact absurd (List.mem_singleton.1 h1) e
theorem LRel.put (h : LRel S F ks) (s : ByteArray) (hs : s.size ≤ maxLen) (xs : List Int) (hx : xs.length ≤ 4096) : LRel (MapV.put S s.data.toList (xs, true)) (MapV.put F s.data.toList (strOfNums xs)) (ks ++ [s]) := by
  refine ⟨h.once.put, h.once2.put, fun k => ?_, fun p hp hb => ?_, fun p hp => ?_, h.all_put s hs _⟩
  · by_cases e : k = s.data.toList
    · subst e
      rw [at_put_same, at_put_same]
      rfl
    · rw [at_put_other e, at_put_other e]
      exact h.at_eq k
  · rcases mem_putG hp with e | e
    · rw [e] at hb; cases hb
    · exact h.bare p e hb
  · rcases mem_putG hp with e | e
    · rw [e]; exact hx
    · exact h.txt p e
theorem LRel.del (h : LRel S F ks) (s : ByteArray) (hs : s.size ≤ maxLen) : LRel (MapV.put S s.data.toList ([], false)) (MapV.del F s.data.toList) (ks ++ [s]) := by
  refine ⟨h.once.put, h.once2.del _, fun k => ?_, fun p hp hb => ?_, fun p hp => ?_, h.all_put s hs _⟩
  · by_cases e : k = s.data.toList
    · subst e
      rw [at_put_same, at_del_same]
      rfl
    · rw [at_put_other e, at_del_other e]
      exact h.at_eq k
  · rcases mem_putG hp with e | e
    · rw [e]
    · exact h.bare p e hb
  · rcases mem_putG hp with e | e
    · rw [e]; simp
    · exact h.txt p e
/-- What Get tells of a key that is known, and the map of texts. -/
theorem LRel.get (h : LRel S F ks) (s : ByteArray) (hs : s ∈ ks) : (tget S s).2.2 = true ∧ (tget S s).2.1 = (at_ F s.data.toList).isSome ∧ (strOfNums (tget S s).1) = (at_ F s.data.toList).getD ByteArray.empty := by
  have h1 := (h.all s hs).1
  rw [h.at_eq]
  unfold tget
  cases e : at_ S s.data.toList with
  | none => rw [e] at h1; cases h1
  | some x =>
    obtain ⟨xs, b⟩ := x
    cases b with
    | true => exact ⟨rfl, rfl, rfl⟩
    | false =>
      have := h.bare _ (at_mem e) rfl
      simp only at this
      subst this
      exact ⟨rfl, rfl, rfl⟩
theorem hasT_of (h : Once S) {p : Key × (List Int × Bool)} (hp : p ∈ S) : hasT S p.1 = p.2.2 := by
  unfold hasT
  rw [h.at_of_mem (k := p.1) (g := p.2) hp]
  rfl
theorem keysT_count (h : Once S) (b : Bool) : (keysT S b).length = (S.filter fun p => p.2.2 == b).length := by
  unfold keysT namesT
  rw [← List.countP_eq_length_filter, ← List.countP_eq_length_filter, List.countP_map]
  rw [(List.mergeSort_perm (S.map (·.1)) leK).countP_eq, List.countP_map]
  refine List.countP_congr fun p hp => ?_
  simp only [Function.comp, byK_data]
  rw [hasT_of h hp]
theorem LRel.count (h : LRel S F ks) : (docsT S).length = F.length := by
  unfold docsT
  rw [List.length_map, keysT_count h.once]
  have e : (F.map (·.1)).Perm ((S.filter fun p => p.2.2 == true).map (·.1)) := by
    refine (List.perm_ext_iff_of_nodup h.once2 (List.Nodup.sublist (List.Sublist.map _ List.filter_sublist) h.once)).2 fun k => ?_
    have h1 := at_isSome (l := F) (k := k)
    rw [h.at_eq] at h1
    constructor
    · intro hk
      obtain ⟨p, hp, rfl⟩ := List.mem_map.1 hk
      have h2 := h1.2 ⟨p, hp, rfl⟩
      cases e : at_ S p.1 with
      | none => rw [e] at h2; cases h2
      | some x =>
        obtain ⟨xs, b⟩ := x
        cases b with
        | true => exact List.mem_map.2 ⟨(p.1, (xs, true)), List.mem_filter.2 ⟨at_mem e, rfl⟩, rfl⟩
        | false => rw [e] at h2; cases h2
    · intro hk
      obtain ⟨p, hp, rfl⟩ := List.mem_map.1 hk
      obtain ⟨hp1, hp2⟩ := List.mem_filter.1 hp
      have h3 := h.once.at_of_mem (k := p.1) (g := p.2) hp1
      obtain ⟨k, xs, b⟩ := p
      simp only [beq_iff_eq] at hp2
      subst hp2
      simp only at h3 h1 ⊢
      rw [h3] at h1
      obtain ⟨q, hq, hq2⟩ := h1.1 rfl
      exact List.mem_map.2 ⟨q, hq, hq2⟩
  have := e.length_eq
  rw [List.length_map, List.length_map] at this
  exact this.symm
theorem LRel.total (h : LRel S F ks) : (docsT S).length + (keysT S false).length = S.length := by
  unfold docsT
  rw [List.length_map, keysT_count h.once, keysT_count h.once, ← List.countP_eq_length_filter, ← List.countP_eq_length_filter]
  rw [List.length_eq_countP_add_countP (fun p => p.2.2 == true) (l := S)]
  congr 1
  refine List.countP_congr fun p hp => ?_
  cases p.2.2 <;> simp
end
/-! ### the three in one memory -/
structure LastUp (W w0 : World) (Z : Nat → Prop) (t m : Nat) (v : Value) (S : TS) (F : FS) (ks : List ByteArray) : Prop where
  is : ∃ T K : Nat → Prop, TabUp W w0 T t S ∧ HasMap SE Try.prog 9 W m F ∧ w0.heap.size ≤ m ∧ Kd.string.R 9 W w0.heap.size K v ks ∧ (∀ k, T k → k < W.heap.size ∧ k ≠ m ∧ ¬ Z k ∧ ¬ K k) ∧ (∀ k, K k → k < W.heap.size ∧ k ≠ m ∧ ¬ Z k) ∧ ¬ Z m ∧ ∀ k, Z k → k < W.heap.size
section
variable {W W' w w0 w1 : World} {ok ok' T Z Z' : Nat → Prop} {t m : Nat} {v v' : Value} {S S' : TS} {F F' : FS} {ks ks' : List ByteArray}
theorem LastUp.below (h : LastUp W w0 Z t m v S F ks) : Below w0.heap.size w0 W := by
  obtain ⟨T, K, h1, _⟩ := h
  exact h1.below
theorem LastUp.start (h : TabUp W w0 T t []) : LastUp (W.alloc (.map #[] 0)) w0 (fun _ => False) t W.heap.size (.slice none 0 0) [] [] [] := by
  refine ⟨_, fun _ => False, h.bound.alloc _, HasMap.made SE Try.prog 9 W, h.below.size, Kd.R_nil _ _ _ _ _, fun k hk => ⟨?_, ?_, id, id⟩, fun k hk => hk.elim, id, fun k hk => hk.elim⟩
  · have := hk.2.2; simp; omega
  · have := hk.2.2; omega
theorem LastUp.quiet (h : LastUp W w0 Z t m v S F ks) (hb : Below W.heap.size W W') : LastUp W' w0 Z t m v S F ks := by
  obtain ⟨T, K, h1, h2, h3, h4, h5, h6, h7, h8⟩ := h
  have hs := hb.size
  exact ⟨T, K, h1.quiet hb, h2.step (hb.block m h2.lt), h3, Kd.R_below h4 hb, fun k hk => ⟨Nat.lt_of_lt_of_le (h5 k hk).1 hs, (h5 k hk).2⟩, fun k hk => ⟨Nat.lt_of_lt_of_le (h6 k hk).1 hs, (h6 k hk).2⟩, h7, fun k hk => Nat.lt_of_lt_of_le (h8 k hk) hs⟩
/-- A block that is new stands apart. -/
theorem LastUp.mark (h : LastUp W w0 Z t m v S F ks) (hb : Below W.heap.size W W') (hs : W.heap.size < W'.heap.size) : LastUp W' w0 (fun k => k = W.heap.size) t m v S F ks := by
  obtain ⟨T, K, h1, h2, h3, h4, h5, h6, h7, h8⟩ := h
  have hl := h2.lt
  exact ⟨T, K, h1.quiet hb, h2.step (hb.block m hl), h3, Kd.R_below h4 hb, fun k hk => ⟨Nat.lt_trans (h5 k hk).1 hs, (h5 k hk).2.1, fun e => by have := (h5 k hk).1; omega, (h5 k hk).2.2.2⟩, fun k hk => ⟨Nat.lt_trans (h6 k hk).1 hs, (h6 k hk).2.1, fun e => by have := (h6 k hk).1; omega⟩, fun e => by omega, fun k hk => by omega⟩
theorem LastUp.less (h : LastUp W w0 Z t m v S F ks) (hz : ∀ k, Z' k → Z k) : LastUp W w0 Z' t m v S F ks := by
  obtain ⟨T, K, h1, h2, h3, h4, h5, h6, h7, h8⟩ := h
  exact ⟨T, K, h1, h2, h3, h4, fun k hk => ⟨(h5 k hk).1, (h5 k hk).2.1, fun hz' => (h5 k hk).2.2.1 (hz k hz'), (h5 k hk).2.2.2⟩, fun k hk => ⟨(h6 k hk).1, (h6 k hk).2.1, fun hz' => (h6 k hk).2.2 (hz k hz')⟩, fun hz' => h7 (hz m hz'), fun k hk => h8 k (hz k hk)⟩
/-- The table's calls. -/
theorem LastUp.tab (h : LastUp W w0 Z t m v S F ks) : ∃ T, TabUp W w0 T t S ∧ ∀ W' S', TabUp W' w0 (fun k => T k ∨ W.heap.size ≤ k) t S' → Kept W W' T → LastUp W' w0 Z t m v S' F ks ∧ ∀ a u, Z a.block → W.cell? a = some u → W'.cell? a = some u := by
  obtain ⟨T, K, h1, h2, h3, h4, h5, h6, h7, h8⟩ := h
  have hl := h2.lt
  refine ⟨T, h1, fun W' S' g1 hk => ⟨⟨_, K, g1.bound, h2.step (hk.2 m hl (fun hm => (h5 m hm).2.1 rfl)), h3, Kd.R_kept h4 hk (fun k hK hT => (h5 k hT).2.2.2 hK), fun k hT => ?_, fun k hK => ⟨Nat.lt_of_lt_of_le (h6 k hK).1 hk.1, (h6 k hK).2⟩, h7, fun k hz => Nat.lt_of_lt_of_le (h8 k hz) hk.1⟩, fun a u hz hc => cell_kept hc hk (fun hT => (h5 _ hT).2.2.1 hz)⟩⟩
  rcases hT with ⟨hT | hT, _, hlt⟩
  · exact ⟨hlt, (h5 k hT).2⟩
  · exact ⟨hlt, fun e => by omega, fun hz => by have := h8 k hz; omega, fun hK => by have := (h6 k hK).1; omega⟩
/-- The map's stores. -/
theorem LastUp.map (h : LastUp W w0 Z t m v S F ks) : HasMap SE Try.prog 9 W m F ∧ ∀ W' F', HasMap SE Try.prog 9 W' m F' → W.mapTurned W' m → LastUp W' w0 Z t m v S F' ks ∧ ∀ a u, Z a.block → W.cell? a = some u → W'.cell? a = some u := by
  obtain ⟨T, K, h1, h2, h3, h4, h5, h6, h7, h8⟩ := h
  have hl := h2.lt
  refine ⟨h2, fun W' F' g2 ht => ?_⟩
  have hg := ht.grown
  have hk : Kept W W' (fun k => k = m) := (Kept.refl W _).of_grown hg (fun k hk => .inl (by injection hk with hk; exact hk.symm))
  refine ⟨⟨T, K, h1.kept hk (fun k hT e => (h5 k hT).2.1 e) (h1.below.grown hg h1.below.size (fun k hk => by injection hk with hk; omega)), g2, h3, Kd.R_kept h4 hk (fun k hK e => (h6 k hK).2.1 e), fun k hT => ⟨Nat.lt_of_lt_of_le (h5 k hT).1 hk.1, (h5 k hT).2⟩, fun k hK => ⟨Nat.lt_of_lt_of_le (h6 k hK).1 hk.1, (h6 k hK).2⟩, h7, fun k hz => Nat.lt_of_lt_of_le (h8 k hz) hk.1⟩, fun a u hz hc => cell_kept hc hk (fun e => h7 (e ▸ hz))⟩
/-- A key behind the others. -/
theorem LastUp.add (h : LastUp W w0 Z t m v S F ks) : ∃ K : Nat → Prop, Kd.string.R 9 W w0.heap.size K v ks ∧ ∀ w1 v1 ks', Kd.string.R 9 w1 w0.heap.size (fun k => K k ∨ W.heap.size ≤ k) v1 ks' → Below w0.heap.size w0 w1 → W.grownBy w1 v.ownBlock → LastUp w1 w0 Z t m v1 S F ks' ∧ ∀ a u, Z a.block → W.cell? a = some u → w1.cell? a = some u := by
  obtain ⟨T, K, h1, h2, h3, h4, h5, h6, h7, h8⟩ := h
  have hl := h2.lt
  refine ⟨K, h4, fun w1 v1 ks' g4 hb hg => ?_⟩
  have hk : Kept W w1 K := (Kept.refl W _).of_grown hg (fun k hk => .inl (h4.1 k hk))
  refine ⟨⟨T, _, h1.kept hk (fun k hT hK => (h5 k hT).2.2.2 hK) hb, h2.step (hk.2 m hl (fun hm => (h6 m hm).2.1 rfl)), h3, Kd.R_bound g4, fun k hT => ⟨Nat.lt_of_lt_of_le (h5 k hT).1 hk.1, (h5 k hT).2.1, (h5 k hT).2.2.1, fun hK => ?_⟩, fun k hK => ?_, h7, fun k hz => Nat.lt_of_lt_of_le (h8 k hz) hk.1⟩, fun a u hz hc => cell_kept hc hk (fun hK => (h6 _ hK).2.2 hz)⟩
  · rcases hK.1 with hK | hK
    · exact (h5 k hT).2.2.2 hK
    · have := (h5 k hT).1; omega
  · refine ⟨hK.2.2.1, ?_⟩
    rcases hK.1 with hK | hK
    · exact (h6 k hK).2
    · exact ⟨fun e => by omega, fun hz => by have := h8 k hz; omega⟩
end
end Go.Proofs.Ytaghcepochjoeaa.Hand
