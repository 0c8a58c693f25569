/- A map from texts to values of a kind, by its keys: what the laws of the kit say of it, in words of lists. Over whatever program. -/
import Derived.Maps.Own
import Derived.Maps.OwnSet
import Derived.Maps.Range
import Derived.Maps.RangeWalk
import Derived.Maps.StringElems
import Derived.StringKeys
import Derived.Below
namespace Go.Proofs.Ytaghcepochjoeaa.MapV
open Go.RowKit Go.Maps Go.ChangeShapes Go.WideMaps
set_option linter.unusedVariables false
set_option linter.unusedSimpArgs false

/-- A kind of values: how each stands in a map, how it reads, and the zero value. -/
structure Elem (β : Type) where
  enc : β → Value
  z : Value
  elem : Value → Option (DataW Unit × List MemPlace)
  d : β → DataW Unit
  zd : DataW Unit
  reads : ∀ b, elem (enc b) = some (d b, [])
  zmk : elem z = some (zd, [])
  inj : ∀ v v' y y', elem v = some y → elem v' = some y' → y.1 = y'.1 → v = v'
abbrev Key := List UInt8
def at_ {β : Type} (fm : List (Key × β)) (k : Key) : Option β := (fm.find? fun p => p.1 == k).map (·.2)
def put {β : Type} (fm : List (Key × β)) (k : Key) (g : β) : List (Key × β) := if (at_ fm k).isSome then fm.map (fun p => if p.1 == k then (p.1, g) else p) else fm ++ [(k, g)]
def del {β : Type} (fm : List (Key × β)) (k : Key) : List (Key × β) := fm.filter fun p => !(p.1 == k)
/-- Each key once. -/
def Once {β : Type} (fm : List (Key × β)) : Prop := (fm.map (·.1)).Nodup
section
variable {β : Type} {fm : List (Key × β)} {k k' : Key} {g : β}
theorem at_nil : at_ ([] : List (Key × β)) k = none := rfl
theorem at_cons (p : Key × β) : at_ (p :: fm) k = if p.1 == k then some p.2 else at_ fm k := by
  unfold at_
  rw [List.find?_cons]
  cases h : (p.1 == k) <;> simp
theorem at_append (fm fm' : List (Key × β)) : at_ (fm ++ fm') k = (at_ fm k).or (at_ fm' k) := by
  unfold at_
  rw [List.find?_append]
  cases fm.find? fun p => p.1 == k <;> simp
theorem at_mem (h : at_ fm k = some g) : (k, g) ∈ fm := by
  unfold at_ at h
  obtain ⟨p, hp, hg⟩ := Option.map_eq_some_iff.1 h
  have h1 := List.mem_of_find?_eq_some hp
  have h2 := List.find?_some hp
  simp at h2
  rw [← hg, ← h2]
  exact h1
theorem at_none (h : at_ fm k = none) : ∀ p ∈ fm, p.1 ≠ k := by
  unfold at_ at h
  rw [Option.map_eq_none_iff, List.find?_eq_none] at h
  intro p hp e
  exact h p hp (by simp [e])
theorem Once.at_of_mem (h : Once fm) (hm : (k, g) ∈ fm) : at_ fm k = some g := by
  induction fm with
  | nil => cases hm
  | cons p fm ih =>
    obtain ⟨h1, h2⟩ := List.nodup_cons.1 h
    rw [at_cons]
    rcases List.mem_cons.1 hm with rfl | hm
    · simp
    · have hne : p.1 ≠ k := fun e => h1 (show p.1 ∈ fm.map (·.1) from by rw [e]; exact List.mem_map.2 ⟨_, hm, rfl⟩)
      rw [if_neg (by simpa using hne)]
      exact ih h2 hm
theorem at_put_same : at_ (put fm k g) k = some g := by
  unfold put
  split
  · rename_i h
    obtain ⟨x, hx⟩ := Option.isSome_iff_exists.1 h
    clear h
    induction fm with
    | nil => simp [at_] at hx
    | cons p fm ih =>
      rw [at_cons] at hx
      rw [List.map_cons, at_cons]
      by_cases e : p.1 = k
      · simp [e]
      · rw [if_neg (by simpa using e)] at hx
        simp only [show (p.1 == k) = false from by simpa using e, Bool.false_eq_true, if_false]
        exact ih hx
  · rename_i h
    rw [at_append]
    have : at_ fm k = none := by cases hh : at_ fm k with | none => rfl | some x => rw [hh] at h; simp at h
    rw [this, at_cons]
    simp
theorem at_put_other (hne : k' ≠ k) : at_ (put fm k g) k' = at_ fm k' := by
  unfold put
  split
  · rename_i h
    clear h
    induction fm with
    | nil => rfl
    | cons p fm ih =>
      rw [List.map_cons, at_cons, at_cons, ih]
      by_cases e : p.1 = k
      · have e2 : ¬ k = k' := fun h => hne h.symm
        simp [e, e2]
      · simp [e]
  · rw [at_append, at_cons, if_neg (by simpa using fun h => hne h.symm), at_nil]
    simp
theorem at_del_same : at_ (del fm k) k = none := by
  unfold at_ del
  rw [Option.map_eq_none_iff, List.find?_eq_none]
  intro p hp
  simpa using (List.mem_filter.1 hp).2
theorem at_del_other (hne : k' ≠ k) : at_ (del fm k) k' = at_ fm k' := by
  induction fm with
  | nil => rfl
  | cons p fm ih =>
    unfold del at ih ⊢
    rw [List.filter_cons, at_cons]
    by_cases e : p.1 = k
    · have e2 : ¬ k = k' := fun h => hne h.symm
      simp only [e, beq_self_eq_true, Bool.not_true, Bool.false_eq_true, if_false]
      rw [ih]
      simp [e2]
    · simp only [beq_iff_eq, e, not_false_eq_true, if_true, Bool.not_eq_true', beq_eq_false_iff_ne, ne_eq]
      rw [at_cons, ih]
      simp
theorem keys_put : (put fm k g).map (·.1) = if (at_ fm k).isSome then fm.map (·.1) else fm.map (·.1) ++ [k] := by
  unfold put
  split
  · rw [List.map_map]
    refine List.map_congr_left fun p hp => ?_
    simp only [Function.comp]
    split <;> rfl
  · simp
theorem Once.put (h : Once fm) : Once (put fm k g) := by
  unfold Once at h ⊢
  rw [keys_put]
  split
  · exact h
  · rename_i hn
    have hn2 : at_ fm k = none := by cases hh : at_ fm k with | none => rfl | some x => rw [hh] at hn; simp at hn
    refine List.nodup_append.2 ⟨h, by simp, fun x hx y hy => ?_⟩
    simp at hy
    subst hy
    obtain ⟨p, hp, rfl⟩ := List.mem_map.1 hx
    exact at_none hn2 p hp
theorem Once.del (h : Once fm) (k : Key) : Once (del fm k) := List.Nodup.sublist (List.Sublist.map _ List.filter_sublist) h
theorem length_put : (put fm k g).length = if (at_ fm k).isSome then fm.length else fm.length + 1 := by
  unfold put
  split <;> simp
theorem Once.length_del (h : Once fm) : (MapV.del fm k).length + (if (at_ fm k).isSome then 1 else 0) = fm.length := by
  induction fm with
  | nil => rfl
  | cons p fm ih =>
    obtain ⟨h1, h2⟩ := List.nodup_cons.1 h
    have ih := ih h2
    unfold MapV.del at ih ⊢
    rw [List.filter_cons, at_cons]
    by_cases e : p.1 = k
    · have hn : at_ fm k = none := by
        cases hh : at_ fm k with
        | none => rfl
        | some x => exact absurd (List.mem_map.2 ⟨_, at_mem hh, rfl⟩) (by rw [← e]; exact h1)
      rw [hn] at ih
      simp only [e, beq_self_eq_true, Bool.not_true, Bool.false_eq_true, if_false, if_true, Option.isSome_some, List.length_cons]
      simp at ih
      simp
      omega
    · simp only [beq_iff_eq, e, not_false_eq_true, if_true, Bool.not_eq_true', beq_eq_false_iff_ne, ne_eq, if_false, List.length_cons]
      omega
end
/-- The map reads so: key by key, and as many. -/
structure Rep {β : Type} (E : Elem β) (D : DataW Unit) (fm : List (Key × β)) : Prop where
  has : ∀ k : Key, Maps.has D (.string k) = (at_ fm k).isSome
  val : ∀ (k : Key) (g : β), at_ fm k = some g → ∀ z, D.atKey (.string k) z = E.d g
  size : Maps.size D = fm.length
  once : Once fm
theorem Rep.nil {β : Type} (E : Elem β) : Rep E (.map []) [] := ⟨fun k => rfl, (fun k g h => by cases h), rfl, List.nodup_nil⟩
theorem isKey (k : Key) : WideAt.IsKeyLit (.string k) := by simp [WideAt.IsKeyLit]
theorem lit_ne {k k' : Key} (h : k' ≠ k) : (Lit.string k') ≠ .string k := fun e => h (by injection e)
theorem Rep.put {β : Type} {E : Elem β} {D : DataW Unit} {fm : List (Key × β)} (h : Rep E D fm) (ht : Maps.Tidy D) (k : Key) (g : β) : Rep E (D.put (.string k) (E.d g)) (put fm k g) := by
  refine ⟨fun k' => ?_, fun k' g' hg z => ?_, ?_, h.once.put⟩
  · by_cases e : k' = k
    · subst e; rw [Maps.has_put_same ht.isMap (isKey _), at_put_same]; rfl
    · rw [Maps.has_put_other (lit_ne e), at_put_other e, h.has]
  · by_cases e : k' = k
    · subst e; rw [at_put_same] at hg; injection hg with hg; subst hg; exact Maps.atKey_put_same ht.isMap (isKey _) _ _
    · rw [at_put_other e] at hg; rw [Maps.atKey_put_other (lit_ne e)]; exact h.val k' g' hg z
  · rw [Maps.size_put ht, length_put, h.has, h.size]
theorem Rep.del {β : Type} {E : Elem β} {D : DataW Unit} {fm : List (Key × β)} (h : Rep E D fm) (ht : Maps.Tidy D) (k : Key) : Rep E (D.del (.string k)) (del fm k) := by
  refine ⟨fun k' => ?_, fun k' g' hg z => ?_, ?_, h.once.del k⟩
  · by_cases e : k' = k
    · subst e; rw [Maps.has_del_same, at_del_same]; rfl
    · rw [Maps.has_del_other (lit_ne e), at_del_other e, h.has]
  · by_cases e : k' = k
    · subst e; rw [at_del_same] at hg; cases hg
    · rw [at_del_other e] at hg; rw [Maps.atKey_del_other (lit_ne e)]; exact h.val k' g' hg z
  · have h1 := Maps.size_del (k := .string k) ht
    have h2 := h.once.length_del (k := k)
    rw [h.has, h.size] at h1
    omega

/-- The types: the map's, its keys', its values'. -/
structure PM {β : Type} (E : Elem β) (P : Program) (mT kT eT : TypeId) : Prop where
  hk : P.underlying kT = some .string
  hm : P.underlying mT = some (.map kT eT)
  hz : ∀ w, (zeroValue eT).run P w = .ok E.z w
def valOf {β : Type} (E : Elem β) : Option β → Value
  | some g => E.enc g
  | none => E.z
/-- Block m is a map that holds just these. -/
def HasMap {β : Type} (E : Elem β) (P : Program) (kT : TypeId) (W : World) (m : Nat) (fm : List (Key × β)) : Prop := ∃ D, W.ownsMap P kT E.elem m fm.length D ∧ Rep E D fm
section
variable {β : Type} {E : Elem β} {P : Program} {mT kT eT : TypeId} {W W' : World} {m r cnt : Nat} {fm todo : List (Key × β)}
theorem owns_tight {n : Nat} {D : DataW Unit} (h : W.ownsMap P kT E.elem m n D) : W.ownsMap P kT E.elem m (Maps.size D) D := by
  obtain ⟨es, clock, hb, F, hs, rfl⟩ := h
  exact ⟨es, clock, hb, F, by simp [Maps.size, length_sorted], rfl⟩
theorem HasMap.of (h : ∃ n D, W.ownsMap P kT E.elem m n D ∧ Rep E D fm) : HasMap E P kT W m fm := by
  obtain ⟨n, D, h, R⟩ := h
  exact ⟨D, by rw [← R.size]; exact owns_tight h, R⟩
theorem HasMap.once (h : HasMap E P kT W m fm) : Once fm := by obtain ⟨D, _, R⟩ := h; exact R.once
theorem HasMap.lt (h : HasMap E P kT W m fm) : m < W.heap.size := by obtain ⟨D, h, _⟩ := h; exact h.lt
theorem HasMap.made (E : Elem β) (P : Program) (kT : TypeId) (W : World) : HasMap E P kT (W.alloc (.map #[] 0)) W.heap.size [] := ⟨_, World.ownsMap_made W P kT E.elem, Rep.nil E⟩
theorem HasMap.step (h : HasMap E P kT W m fm) (hb : W'.heap[m]? = W.heap[m]?) : HasMap E P kT W' m fm := by
  obtain ⟨D, ⟨es, clock, hb', F, hs, hD⟩, R⟩ := h
  exact ⟨D, ⟨es, clock, hb.trans hb', F, hs, hD⟩, R⟩
theorem HasMap.val_is (h : HasMap E P kT W m fm) {D : DataW Unit} (R : Rep E D fm) {k : Key} {v : Value} {ps : List MemPlace} (hv : E.elem v = some (D.atKey (.string k) E.zd, ps)) : v = valOf E (at_ fm k) := by
  cases hg : at_ fm k with
  | some g =>
    rw [R.val _ g hg] at hv
    exact E.inj _ _ _ _ hv (E.reads g) rfl
  | none =>
    have hn : Maps.has D (.string k) = false := by rw [R.has, hg]; rfl
    rw [Maps.atKey_of_not_has hn] at hv
    exact E.inj _ _ _ _ hv E.zmk rfl
theorem HasMap.look (h : HasMap E P kT W m fm) (T : PM E P mT kT eT) (s : ByteArray) (hs : s.size ≤ maxLen) : (Instr.lookup mT (.map (some m)) (.string s) false).run P W = .ok (valOf E (at_ fm s.data.toList)) W := by
  obtain ⟨D, h0, R⟩ := id h
  obtain ⟨v, ps, hrun, hv⟩ := h0.lookup (string_keyed T.hk) T.hm (T.hz W) (zd := E.zd) (zp := []) E.zmk (keyOf_string_mk T.hk hs)
  rw [hrun, h.val_is R hv]
theorem HasMap.look_ok (h : HasMap E P kT W m fm) (T : PM E P mT kT eT) (s : ByteArray) (hs : s.size ≤ maxLen) : (Instr.lookup mT (.map (some m)) (.string s) true).run P W = .ok (.tuple #[valOf E (at_ fm s.data.toList), .bool (at_ fm s.data.toList).isSome]) W := by
  obtain ⟨D, h0, R⟩ := id h
  obtain ⟨v, ps, hrun, hv⟩ := h0.look_ok (string_keyed T.hk) T.hm (T.hz W) (zd := E.zd) (zp := []) E.zmk (keyOf_string_mk T.hk hs)
  rw [hrun, h.val_is R hv, R.has]
theorem HasMap.len (h : HasMap E P kT W m fm) (T : PM E P mT kT eT) (ty : TypeId) : (Builtin.len_ #[mT] ty #[.map (some m)]).run P W = .ok (.int .i64 fm.length) W := by
  obtain ⟨D, h, R⟩ := h
  rw [h.len T.hm ty, R.size]
theorem HasMap.store (h : HasMap E P kT W m fm) (T : PM E P mT kT eT) (hl : fm.length < maxLen) (s : ByteArray) (hs : s.size ≤ maxLen) (g : β) :
    ∃ W', (Instr.mapUpdate mT (.map (some m)) (.string s) (E.enc g)).run P W = .ok () W' ∧ HasMap E P kT W' m (put fm s.data.toList g) ∧ W.mapTurned W' m := by
  obtain ⟨D, h, R⟩ := h
  obtain ⟨W', hrun, h', ht⟩ := h.store (string_keyed T.hk) T.hm hl (keyOf_string_mk T.hk hs) (E.reads g)
  exact ⟨W', hrun, HasMap.of ⟨_, _, h', R.put (h.tidy (string_keyed T.hk)) _ g⟩, ht⟩
theorem HasMap.drop (h : HasMap E P kT W m fm) (T : PM E P mT kT eT) (s : ByteArray) (hs : s.size ≤ maxLen) (ty : TypeId) :
    ∃ W', (Builtin.delete_ #[mT, kT] ty #[.map (some m), .string s]).run P W = .ok (.tuple #[]) W' ∧ HasMap E P kT W' m (del fm s.data.toList) ∧ W.mapTurned W' m := by
  obtain ⟨D, h, R⟩ := h
  obtain ⟨W', hrun, h', ht⟩ := h.drop (string_keyed T.hk) T.hm (keyOf_string_mk T.hk hs) ty
  exact ⟨W', hrun, HasMap.of ⟨_, _, h', R.del (h.tidy (string_keyed T.hk)) _⟩, ht⟩
/-- A range over the map under way: these are still to come. -/
def Ranges {β : Type} (E : Elem β) (P : Program) (kT : TypeId) (W : World) (m r : Nat) (fm todo : List (Key × β)) (cnt : Nat) : Prop :=
  ∃ n D left, W.ranges P kT E.elem m r n D left cnt ∧ Rep E D fm ∧ Once todo ∧ (∀ p ∈ todo, p ∈ fm) ∧ ∀ k : Key, left (.string k) = (at_ todo k).isSome
theorem Ranges.map (h : Ranges E P kT W m r fm todo cnt) : HasMap E P kT W m fm := by
  obtain ⟨n, D, left, h, R, _⟩ := h
  exact HasMap.of ⟨n, D, h.owns, R⟩
theorem Ranges.ne (h : Ranges E P kT W m r fm todo cnt) : r ≠ m := by obtain ⟨n, D, left, h, _⟩ := h; exact h.ne
theorem Ranges.lt (h : Ranges E P kT W m r fm todo cnt) : r < W.heap.size := by obtain ⟨n, D, left, h, _⟩ := h; exact h.lt
theorem Ranges.step (h : Ranges E P kT W m r fm todo cnt) (hb : W'.heap[m]? = W.heap[m]?) (hr : W'.heap[r]? = W.heap[r]?) : Ranges E P kT W' m r fm todo cnt := by
  obtain ⟨n, D, left, ⟨es, clock, since, seen, c0, h1, h2, h3, h4, h5, h6⟩, R⟩ := h
  exact ⟨n, D, left, ⟨es, clock, since, seen, c0, hb.trans h1, h2, h3, h4, hr.trans h5, h6⟩, R⟩
theorem HasMap.range (h : HasMap E P kT W m fm) (T : PM E P mT kT eT) : ∃ W', (Instr.range mT (.map (some m))).run P W = .ok (.pointer (some ⟨W.heap.size, 0, none⟩)) W' ∧ Ranges E P kT W' m W.heap.size fm fm fm.length ∧ W.grownBy W' none ∧ W'.heap.size = W.heap.size + 1 := by
  obtain ⟨D, h, R⟩ := h
  obtain ⟨W', hrun, hr, hg, hs⟩ := h.range (string_keyed T.hk) T.hm
  rw [R.size] at hr
  exact ⟨W', hrun, ⟨_, D, _, hr, R, R.once, fun _ h => h, fun k => R.has k⟩, hg, hs⟩
theorem key_string (hk : P.underlying kT = some .string) {key : Value} {kl : Lit} (h : keyOf P kT key = some kl) : ∃ s : ByteArray, key = .string s ∧ kl = .string s.data.toList ∧ s.size ≤ maxLen := by
  exact string_of_keyOf hk h
theorem Ranges.next (h : Ranges E P kT W m r fm todo cnt) (T : PM E P mT kT eT) (ty : TypeId) :
    (cnt = 0 ∧ todo = [] ∧ (Instr.next (.pointer (some ⟨r, 0, none⟩)) false ty).run P W = .ok (.tuple #[.bool false]) W) ∨
    ∃ (s : ByteArray) (g : β) (todo' : List (Key × β)) (W' : World) (cnt' : Nat), s.size ≤ maxLen ∧ at_ fm s.data.toList = some g ∧ todo.Perm ((s.data.toList, g) :: todo') ∧ Ranges E P kT W' m r fm todo' cnt' ∧ cnt' < cnt ∧ W.grownBy W' (some r) ∧ W'.heap.size = W.heap.size ∧
      (Instr.next (.pointer (some ⟨r, 0, none⟩)) false ty).run P W = .ok (.tuple #[.bool true, .string s, E.enc g]) W' ∧ (Instr.entry (.pointer (some ⟨r, 0, none⟩))).run P W' = .ok (.tuple #[.string s, E.enc g]) W' := by
  obtain ⟨n, D, left, h, R, ho, hsub, hl⟩ := h
  rcases h.next (string_keyed T.hk) ty with ⟨h0, hall, hrun⟩ | ⟨key, v, kl, y, W', cnt', hkey, hlk, hv, hat, hrun, hrg, hlt, hgr, hsz, hen⟩
  · refine Or.inl ⟨h0, ?_, hrun⟩
    cases todo with
    | nil => rfl
    | cons p todo =>
      have := hl p.1
      rw [hall, at_cons] at this
      simp at this
  · obtain ⟨s, rfl, rfl, hs⟩ := key_string T.hk hkey
    have hin := hl s.data.toList
    rw [hlk] at hin
    obtain ⟨g, hg⟩ := Option.isSome_iff_exists.1 hin.symm
    have hfm : at_ fm s.data.toList = some g := R.once.at_of_mem (hsub _ (at_mem hg))
    have hy := hat .nil
    rw [R.val _ g hfm] at hy
    have hvv : v = E.enc g := E.inj _ _ _ _ hv (E.reads g) hy.symm
    subst hvv
    have hperm : todo.Perm ((s.data.toList, g) :: MapV.del todo s.data.toList) := by
      clear hsub hl hlk hin
      induction todo with
      | nil => cases hg
      | cons p todo ih =>
        obtain ⟨h1, h2⟩ := List.nodup_cons.1 ho
        rw [at_cons] at hg
        unfold MapV.del
        rw [List.filter_cons]
        by_cases e : p.1 = s.data.toList
        · rw [if_pos (by simpa using e)] at hg
          injection hg with hg
          have hp : p = (s.data.toList, g) := by rw [← e, ← hg]
          have hf : todo.filter (fun p => !(p.1 == s.data.toList)) = todo := by
            rw [List.filter_eq_self]
            intro q hq
            have : q.1 ≠ s.data.toList := fun e2 => h1 (by show p.1 ∈ todo.map (·.1); rw [e, ← e2]; exact List.mem_map.2 ⟨q, hq, rfl⟩)
            simpa using this
          simp only [e, beq_self_eq_true, Bool.not_true, Bool.false_eq_true, if_false]
          rw [hf, hp]
        · rw [if_neg (by simpa using e)] at hg
          have := ih h2 hg
          unfold MapV.del at this
          simp only [beq_iff_eq, e, not_false_eq_true, if_true, Bool.not_eq_true', beq_eq_false_iff_ne, ne_eq]
          exact (this.cons p).trans (List.Perm.swap _ _ _)
    refine Or.inr ⟨s, g, MapV.del todo s.data.toList, W', cnt', hs, hfm, hperm, ⟨n, D, _, hrg, R, ho.del _, fun p hp => hsub p (List.mem_filter.1 hp).1, fun k => ?_⟩, hlt, hgr, hsz, hrun, hen⟩
    show (left (.string k) && !(Lit.string k).sameKey (.string s.data.toList)) = _
    rw [hl k]
    by_cases e : k = s.data.toList
    · subst e
      rw [at_del_same, WideAt.sameKey_self (isKey _)]
      simp
    · rw [at_del_other e, sameKey_ne (lit_ne e)]
      simp
end
end Go.Proofs.Ytaghcepochjoeaa.MapV
