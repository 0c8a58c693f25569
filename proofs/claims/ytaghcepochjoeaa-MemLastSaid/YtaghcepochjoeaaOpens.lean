/- What a row's reading of an argument tells of a kind of values: nested slices and structs, with the bounds that the reach pays. -/
import Derived.Test.YtaghcepochjoeaaWWords
import Derived.SizedLaws
import Derived.Deep.Slices
import Derived.ChangeArms
namespace Go.Proofs.Ytaghcepochjoeaa.Opens
open Go.RowKit Go.ChangeShapes Go.WideShapes Go.Deep Go.Proofs.YtaghcepochjoeaaW.PrintWords
/-- Whatever a row reads as a value of type t is one of kind d, and φ of it. -/
structure Opens {α : Type} (P : Program) (d : Kd α) (t : TypeId) (φ : α → Prop) : Prop where
  out : ∀ {H : Type} (enc : TypeId × Value → H) (W : World) (base : Nat) (spare : Nat → Bool) (held : Bool) (fuel : Nat) (cs : List Value) (x : DataW H × List MemPlace),
    DataW.trod enc P W base spare held fuel t cs = some x → (∀ n ∈ x.1.weights P t, n ≤ reachBytes) → ∃ a, d.K W a cs ∧ φ a
theorem weightsAll_mem {H : Type} {P : Program} {e : TypeId} : ∀ (l : List (DataW H)) (d : DataW H), d ∈ l → ∀ n ∈ d.weights P e, n ∈ DataW.weightsAll P e l
  | y :: l, d, hd, n, hn => by
    simp only [DataW.weightsAll, List.mem_append]
    rcases List.mem_cons.1 hd with rfl | hd
    · exact .inl hn
    · exact .inr (weightsAll_mem l d hd n hn)
theorem opens_int {P : Program} {t : TypeId} {k : IntKind} (ht : P.underlying t = some (.int k)) : Opens P (Kd.int k) t (fun n => (Lit.int k n).wf = true) := by
  refine ⟨?_⟩
  intro H enc W base spare held fuel cs x h _
  obtain ⟨n, rfl, rfl, hw⟩ := DataW.trod_int ht h
  exact ⟨n, rfl, hw⟩
theorem opens_iso {α β : Type} {P : Program} {d : Kd α} {t : TypeId} {φ : α → Prop} (h : Opens P d t φ) (f : β → α) (g : α → β) (hf : ∀ a, f (g a) = a) : Opens P (Kd.iso d f) t (fun b => φ (f b)) := by
  refine ⟨?_⟩
  intro H enc W base spare held fuel cs x hx hw
  obtain ⟨a, hK, hφ⟩ := h.out enc W base spare held fuel cs x hx hw
  refine ⟨g a, ?_, ?_⟩
  · show d.K W (f (g a)) cs
    rw [hf]; exact hK
  · show φ (f (g a))
    rw [hf]; exact hφ
theorem opens_slice {α : Type} [Inhabited α] {P : Program} {d : Kd α} {t e : TypeId} {φ : α → Prop} (e' : Nat) (hd : Opens P d e φ) (ht : P.underlying t = some (.slice e)) (hc : P.cellsOf e = d.sz) :
    Opens P (Kd.slice e' d) t (fun xs => xs.length * P.bytesOf e ≤ reachBytes ∧ ∀ x ∈ xs, φ x) := by
  refine ⟨?_⟩
  intro H enc W base spare held fuel cs x hx hw
  rcases open_slice ht hx with ⟨rfl, rfl⟩ | ⟨a, len, cap, m, n, D, Pl, rfl, hb, hl, hm, hmm, rfl, hel⟩
  · exact ⟨[], ⟨none, 0, rfl, Nat.le_refl _, rfl, by simp, fun h => absurd h (by simp)⟩, by simp, fun x hx => by cases hx⟩
  · simp only [DataW.weights, ht, List.length_map, List.length_range, List.mem_cons, List.mem_append] at hw
    have hlm : len ≤ m := by rw [hmm]; split <;> omega
    have hall : ∀ i, i < len → ∃ y : α, ∃ cs', W.cells? base (a.add (i * P.cellsOf e)) (P.cellsOf e) = some cs' ∧ d.K W y cs' ∧ φ y := by
      intro i hi
      obtain ⟨cs', h1, h2⟩ := hel i (by omega)
      obtain ⟨y, hy, hφ⟩ := hd.out enc W base spare held n cs' _ h2 (fun k hk => hw k (.inr (.inl (weightsAll_mem _ (D i) (List.mem_map.2 ⟨i, List.mem_range.2 hi, rfl⟩) k hk))))
      exact ⟨y, cs', h1, hy, hφ⟩
    obtain ⟨f, hf⟩ := choose_lt hall
    refine ⟨(List.range len).map f, ⟨some a, cap, by simp, by simpa using hl, rfl, by simp; unfold maxLen at hm; omega, fun _ => ⟨a, rfl, fun j p hj => ?_⟩⟩, ?_, ?_⟩
    · rw [List.getElem?_map] at hj
      obtain ⟨i, hi, rfl⟩ := Option.map_eq_some_iff.1 hj
      obtain ⟨hi2, hi3⟩ := List.getElem?_eq_some_iff.1 hi
      simp at hi2 hi3
      subst hi3
      obtain ⟨cs', h1, h2, _⟩ := hf j hi2
      refine ⟨cs', d.K_len h2, h2, fun k u hu => ?_⟩
      obtain ⟨_, h3, h4⟩ := World.cells?_some h1
      have hk : k < cs'.length := (List.getElem?_eq_some_iff.1 hu).1
      rw [← hc, ← Go.Deep.add_add, ← hu]
      exact h4 k (by omega)
    · have := hw _ (.inl rfl)
      refine Nat.le_trans (Nat.mul_le_mul_right _ ?_) this
      simp
    · intro y hy
      obtain ⟨i, hi, rfl⟩ := List.mem_map.1 hy
      obtain ⟨_, _, _, h⟩ := hf i (List.mem_range.1 hi)
      exact h
/-- The fields of a struct, from one offset on. -/
structure OpensF {α : Type} (P : Program) (d : Kd α) (fs : List Field) (off : Nat) (φ : α → Prop) : Prop where
  out : ∀ {H : Type} (enc : TypeId × Value → H) (W : World) (base : Nat) (spare : Nat → Bool) (held : Bool) (fuel : Nat) (cs : List Value) (ys : List (DataW H × List MemPlace)), cs.length = off + d.sz → ys.length = fs.length →
    (∀ (i : Nat) (f : Field), fs[i]? = some f → DataW.trod enc P W base spare held fuel f.type ((cs.drop f.offset).take (P.cellsOf f.type)) = ys[i]?) → (∀ n ∈ DataW.weightsEach P (fs.map (·.type)) (ys.map (·.1)), n ≤ reachBytes) → ∃ a, d.K W a (cs.drop off) ∧ φ a
theorem opensF_one {α : Type} {P : Program} {d : Kd α} {f : Field} {φ : α → Prop} (h : Opens P d f.type φ) (hc : P.cellsOf f.type = d.sz) : OpensF P d [f] f.offset φ := by
  refine ⟨?_⟩
  intro H enc W base spare held fuel cs ys hl hy hf hw
  match ys, hy with
  | [y], _ =>
    have h0 := hf 0 f rfl
    rw [List.take_of_length_le (by simp; omega)] at h0
    exact h.out enc W base spare held fuel _ y h0 (fun n hn => hw n (by simp [DataW.weightsEach, hn]))
theorem opensF_cons {α β : Type} {P : Program} {d0 : Kd α} {d1 : Kd β} {f : Field} {fs : List Field} {off : Nat} {φ0 : α → Prop} {φ1 : β → Prop} (ho : f.offset = off) (h0 : Opens P d0 f.type φ0) (hc : P.cellsOf f.type = d0.sz) (h1 : OpensF P d1 fs (off + d0.sz) φ1) :
    OpensF P (Kd.pair d0 d1) (f :: fs) off (fun x => φ0 x.1 ∧ φ1 x.2) := by
  refine ⟨?_⟩
  intro H enc W base spare held fuel cs ys hl hy hf hw
  have hl' : cs.length = off + (d0.sz + d1.sz) := hl
  match ys, hy with
  | y :: ys, hy =>
    have e0 := hf 0 f rfl
    rw [ho, hc] at e0
    simp only [List.map_cons, DataW.weightsEach, List.mem_append] at hw
    obtain ⟨a, hK, hφ⟩ := h0.out enc W base spare held fuel _ y e0 (fun n hn => hw n (.inl hn))
    obtain ⟨b, hKb, hφb⟩ := h1.out enc W base spare held fuel cs ys (by omega) (by simpa using hy) (fun i g hg => by simpa using hf (i + 1) g (by simpa using hg)) (fun n hn => hw n (.inr hn))
    refine ⟨(a, b), ⟨_, _, ?_, hK, hKb⟩, hφ, hφb⟩
    rw [← List.drop_drop, List.take_append_drop]
theorem opens_struct {α : Type} {P : Program} {d : Kd α} {t : TypeId} {fs : Array Field} {φ : α → Prop} (ht : P.underlying t = some (.struct fs)) (hc : P.cellsOf t = d.sz) (h : OpensF P d fs.toList 0 φ) : Opens P d t φ := by
  refine ⟨?_⟩
  intro H enc W base spare held fuel cs x hx hw
  obtain ⟨xs, n, _, rfl, hl, hlen, hf⟩ := DataW.trod_struct ht hx
  simp only [DataW.weights, ht] at hw
  obtain ⟨a, hK, hφ⟩ := h.out enc W base spare held n cs xs (by omega) (by simpa using hlen) (fun i f hi => hf i f (by simpa using hi)) hw
  exact ⟨a, by simpa using hK, hφ⟩
/-- A row's argument. -/
theorem opened {α : Type} {P : Program} {d : Kd α} {t : TypeId} {φ : α → Prop} (h : Opens P d t φ) {H : Type} {enc : TypeId × Value → H} {W : World} {base : Nat} {spare : Nat → Bool} {held : Bool} {v : Value} {D : DataW H} {ps : List MemPlace} {ts : List TypeId} {ds : List (DataW H)} {j : Nat}
    (hsz : (DataW.weightsEach P ts ds).all (· ≤ reachBytes) = true) (ht : ts[j]? = some t) (hd : ds[j]? = some D) (hT : DataW.Trod enc P W base spare held t v D ps) : ∃ a, d.K W a v.cells.toList ∧ φ a := by
  obtain ⟨fuel, hf⟩ := hT
  refine h.out enc W base spare held fuel _ _ hf (fun n hn => ?_)
  have := List.all_eq_true.1 hsz n (DataW.weights_mem_each ht hd n hn)
  simpa using this
end Go.Proofs.Ytaghcepochjoeaa.Opens
