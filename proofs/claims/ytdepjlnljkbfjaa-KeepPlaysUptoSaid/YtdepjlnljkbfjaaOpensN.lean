/- What a row's reading of an argument tells of a kind of values where the reading's bulk is bounded: no part of it is longer. -/
import Derived.Test.YtdepjlnljkbfjaaRows
import Derived.Test.YtdepjlnljkbfjaaOpens
namespace Go.Proofs.Ytdepjlnljkbfjaa.Opens
open Go.RowKit Go.ChangeShapes Go.WideShapes Go.Deep Go.Proofs.YtdepjlnljkbfjaaW.PrintWords
theorem bulk_one {H : Type} (d : DataW H) : 1 ≤ Rows.uptoBulk d := by
  cases d with
  | lit l => cases l <;> simp [Rows.uptoBulk]
  | nil => simp [Rows.uptoBulk]
  | ptr d => simp [Rows.uptoBulk]
  | slice elems spare => simp [Rows.uptoBulk]
  | agg parts => simp [Rows.uptoBulk]
  | iface t d => simp [Rows.uptoBulk]
  | map entries => simp [Rows.uptoBulk]
  | held h => simp [Rows.uptoBulk]
theorem bulk_part {H : Type} {d : DataW H} {l : List (DataW H)} (h : d ∈ l) : Rows.uptoBulk d ≤ Rows.uptoBulkAll l := by
  induction l with
  | nil => cases h
  | cons x r ih =>
    simp only [Rows.uptoBulkAll]
    rcases List.mem_cons.1 h with rfl | e
    · omega
    · have := ih e; omega
theorem bulk_length {H : Type} (l : List (DataW H)) : l.length ≤ Rows.uptoBulkAll l := by
  induction l with
  | nil => simp [Rows.uptoBulkAll]
  | cons x r ih => have := bulk_one x; simp only [Rows.uptoBulkAll, List.length_cons]; omega
/-- Whatever a row reads as a value of type t, of bulk at most N, is one of kind d, and φ of it. -/
structure OpensN {α : Type} (N : Nat) (P : Program) (d : Kd α) (t : TypeId) (φ : α → Prop) : Prop where
  out : ∀ {H : Type} (enc : TypeId × Value → H) (W : World) (base : Nat) (spare : Nat → Bool) (held : Bool) (fuel : Nat) (cs : List Value) (x : DataW H × List MemPlace),
    DataW.trod enc P W base spare held fuel t cs = some x → Rows.uptoBulk x.1 ≤ N → ∃ a, d.K W a cs ∧ φ a
theorem opensN_int {N : Nat} {P : Program} {t : TypeId} {k : IntKind} (ht : P.underlying t = some (.int k)) : OpensN N P (Kd.int k) t (fun n => (Lit.int k n).wf = true) := by
  refine ⟨?_⟩
  intro H enc W base spare held fuel cs x h _
  obtain ⟨n, rfl, rfl, hw⟩ := DataW.trod_int ht h
  exact ⟨n, rfl, hw⟩
theorem opensN_text {N : Nat} {P : Program} {t : TypeId} (ht : P.underlying t = some .string) : OpensN N P Kd.string t (fun s => s.size ≤ N) := by
  refine ⟨?_⟩
  intro H enc W base spare held fuel cs x h hw
  obtain ⟨s, rfl, rfl, hs⟩ := DataW.trod_string ht h
  have e : s.size = s.data.toList.length := (Array.length_toList (xs := s.data)).symm
  simp only [Rows.uptoBulk] at hw
  exact ⟨s, rfl, by omega⟩
theorem opensN_iso {α β : Type} {N : Nat} {P : Program} {d : Kd α} {t : TypeId} {φ : α → Prop} (h : OpensN N P d t φ) (f : β → α) (g : α → β) (hf : ∀ a, f (g a) = a) : OpensN N P (Kd.iso d f) t (fun b => φ (f b)) := by
  refine ⟨?_⟩
  intro H enc W base spare held fuel cs x hx hw
  obtain ⟨a, hK, hφ⟩ := h.out enc W base spare held fuel cs x hx hw
  refine ⟨g a, ?_, ?_⟩
  · show d.K W (f (g a)) cs
    rw [hf]; exact hK
  · show φ (f (g a))
    rw [hf]; exact hφ
theorem opensN_slice {α : Type} [Inhabited α] {N : Nat} {P : Program} {d : Kd α} {t e : TypeId} {φ : α → Prop} (e' : Nat) (hd : OpensN N P d e φ) (ht : P.underlying t = some (.slice e)) (hc : P.cellsOf e = d.sz) :
    OpensN N P (Kd.slice e' d) t (fun xs => xs.length ≤ N ∧ ∀ x ∈ xs, φ x) := by
  refine ⟨?_⟩
  intro H enc W base spare held fuel cs x hx hw
  rcases open_slice ht hx with ⟨rfl, rfl⟩ | ⟨a, len, cap, m, n, D, Pl, rfl, hb, hl, hm, hmm, rfl, hel⟩
  · exact ⟨[], ⟨none, 0, rfl, Nat.le_refl _, rfl, by simp, fun h => absurd h (by simp)⟩, by simp, fun x hx => by cases hx⟩
  · have hlm : len ≤ m := by rw [hmm]; split <;> omega
    simp only [Rows.uptoBulk] at hw
    have hall : ∀ i, i < len → ∃ y : α, ∃ cs', W.cells? base (a.add (i * P.cellsOf e)) (P.cellsOf e) = some cs' ∧ d.K W y cs' ∧ φ y := by
      intro i hi
      obtain ⟨cs', h1, h2⟩ := hel i (by omega)
      obtain ⟨y, hy, hφ⟩ := hd.out enc W base spare held n cs' _ h2 (Nat.le_trans (bulk_part (d := (D i)) (List.mem_map.2 ⟨i, List.mem_range.2 hi, rfl⟩)) (by omega))
      exact ⟨y, cs', h1, hy, hφ⟩
    obtain ⟨f, hf⟩ := choose_lt hall
    refine ⟨(List.range len).map f, ⟨some a, cap, by simp, by simpa using hl, rfl, by simp; unfold maxLen at hm; omega, fun _ => ⟨a, rfl, fun j p hj => ?_⟩⟩, ?_, ?_⟩
    · rw [List.getElem?_map] at hj
      obtain ⟨i, hi, rfl⟩ := Option.map_eq_some_iff.1 hj
      obtain ⟨hi2, hi3⟩ := List.getElem?_eq_some_iff.1 hi
      simp at hi2 hi3
      subst hi3
      obtain ⟨cs', h1, h2, _⟩ := hf j hi2
      refine ⟨cs', d.K_len h2, h2, fun k u hu => ?_⟩
      obtain ⟨_, h3, h4⟩ := World.cells?_some h1
      have hk : k < cs'.length := (List.getElem?_eq_some_iff.1 hu).1
      rw [← hc, ← Go.Deep.add_add, ← hu]
      exact h4 k (by omega)
    · have := bulk_length ((List.range len).map D)
      simp at this ⊢
      omega
    · intro y hy
      obtain ⟨i, hi, rfl⟩ := List.mem_map.1 hy
      obtain ⟨_, _, _, h⟩ := hf i (List.mem_range.1 hi)
      exact h
/-- The fields of a struct, from one offset on. -/
structure OpensNF {α : Type} (N : Nat) (P : Program) (d : Kd α) (fs : List Field) (off : Nat) (φ : α → Prop) : Prop where
  out : ∀ {H : Type} (enc : TypeId × Value → H) (W : World) (base : Nat) (spare : Nat → Bool) (held : Bool) (fuel : Nat) (cs : List Value) (ys : List (DataW H × List MemPlace)), cs.length = off + d.sz → ys.length = fs.length →
    (∀ (i : Nat) (f : Field), fs[i]? = some f → DataW.trod enc P W base spare held fuel f.type ((cs.drop f.offset).take (P.cellsOf f.type)) = ys[i]?) → Rows.uptoBulkAll (ys.map (·.1)) ≤ N → ∃ a, d.K W a (cs.drop off) ∧ φ a
theorem opensNF_one {α : Type} {N : Nat} {P : Program} {d : Kd α} {f : Field} {φ : α → Prop} (h : OpensN N P d f.type φ) (hc : P.cellsOf f.type = d.sz) : OpensNF N P d [f] f.offset φ := by
  refine ⟨?_⟩
  intro H enc W base spare held fuel cs ys hl hy hf hw
  match ys, hy with
  | [y], _ =>
    have h0 := hf 0 f rfl
    rw [List.take_of_length_le (by simp; omega)] at h0
    simp only [List.map_cons, Rows.uptoBulkAll] at hw
    exact h.out enc W base spare held fuel _ y h0 (by omega)
theorem opensNF_cons {α β : Type} {N : Nat} {P : Program} {d0 : Kd α} {d1 : Kd β} {f : Field} {fs : List Field} {off : Nat} {φ0 : α → Prop} {φ1 : β → Prop} (ho : f.offset = off) (h0 : OpensN N P d0 f.type φ0) (hc : P.cellsOf f.type = d0.sz) (h1 : OpensNF N P d1 fs (off + d0.sz) φ1) :
    OpensNF N P (Kd.pair d0 d1) (f :: fs) off (fun x => φ0 x.1 ∧ φ1 x.2) := by
  refine ⟨?_⟩
  intro H enc W base spare held fuel cs ys hl hy hf hw
  have hl' : cs.length = off + (d0.sz + d1.sz) := hl
  match ys, hy with
  | y :: ys, hy =>
    have e0 := hf 0 f rfl
    rw [ho, hc] at e0
    simp only [List.map_cons, Rows.uptoBulkAll] at hw
    obtain ⟨a, hK, hφ⟩ := h0.out enc W base spare held fuel _ y e0 (by omega)
    obtain ⟨b, hKb, hφb⟩ := h1.out enc W base spare held fuel cs ys (by omega) (by simpa using hy) (fun i g hg => by simpa using hf (i + 1) g (by simpa using hg)) (by omega)
    refine ⟨(a, b), ⟨_, _, ?_, hK, hKb⟩, hφ, hφb⟩
    rw [← List.drop_drop, List.take_append_drop]
theorem opensN_struct {α : Type} {N : Nat} {P : Program} {d : Kd α} {t : TypeId} {fs : Array Field} {φ : α → Prop} (ht : P.underlying t = some (.struct fs)) (hc : P.cellsOf t = d.sz) (h : OpensNF N P d fs.toList 0 φ) : OpensN N P d t φ := by
  refine ⟨?_⟩
  intro H enc W base spare held fuel cs x hx hw
  obtain ⟨xs, n, _, rfl, hl, hlen, hf⟩ := DataW.trod_struct ht hx
  simp only [Rows.uptoBulk] at hw
  obtain ⟨a, hK, hφ⟩ := h.out enc W base spare held n cs xs (by omega) (by simpa using hlen) (fun i f hi => hf i f (by simpa using hi)) (by omega)
  exact ⟨a, by simpa using hK, hφ⟩
/-- A row's argument. -/
theorem openedN {α : Type} {N : Nat} {P : Program} {d : Kd α} {t : TypeId} {φ : α → Prop} (h : OpensN N P d t φ) {H : Type} {enc : TypeId × Value → H} {W : World} {base : Nat} {spare : Nat → Bool} {held : Bool} {v : Value} {D : DataW H} {ps : List MemPlace}
    (hN : Rows.uptoBulk D ≤ N) (hT : DataW.Trod enc P W base spare held t v D ps) : ∃ a, d.K W a v.cells.toList ∧ φ a := by
  obtain ⟨fuel, hf⟩ := hT
  exact h.out enc W base spare held fuel _ _ hf hN
end Go.Proofs.Ytdepjlnljkbfjaa.Opens
