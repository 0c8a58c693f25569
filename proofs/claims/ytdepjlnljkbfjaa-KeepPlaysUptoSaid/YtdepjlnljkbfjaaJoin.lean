/- Join: rows behind each other, in bytes of its own. -/
import Derived.Test.YtdepjlnljkbfjaaDisk
import Derived.Lib.SlFresh
import Derived.Deep.Slices
import Derived.ChangeArms
namespace Go.Proofs.Ytdepjlnljkbfjaa.Hand
open Go.RowKit Go.ChangeShapes Go.WideShapes Go.Deep Go.Proofs.Ytdepjlnljkbfjaa.MapP Go.Proofs.YtdepjlnljkbfjaaW.PrintWords Go.Proofs.YtdepjlnljkbfjaaW.PrintLast Go.Proofs.YtdepjlnljkbfjaaW.PrintMore
attribute [local go_sem] max2_int min2_int
set_option linter.unusedVariables false
set_option linter.unusedSimpArgs false
set_option linter.unusedSectionVars false

def b8 (z : Int) : UInt8 := UInt8.ofNat z.toNat
theorem b8_back {z : Int} (h : 0 ≤ z ∧ z < 256) : ((b8 z).toNat : Int) = z := by
  unfold b8
  rw [UInt8.toNat_ofNat']
  omega
def Bytes (l : List Int) : Prop := ∀ z ∈ l, 0 ≤ z ∧ z < 256
theorem b8_inj : ∀ (l l' : List Int), Bytes l → Bytes l' → l.map b8 = l'.map b8 → l = l'
  | [], [], _, _, _ => rfl
  | [], _ :: _, _, _, h => by simp at h
  | _ :: _, [], _, _, h => by simp at h
  | x :: l, y :: l', h1, h2, h => by
    simp only [List.map_cons, List.cons.injEq] at h
    have e : x = y := by
      rw [← b8_back (h1 x (by simp)), ← b8_back (h2 y (by simp)), h.1]
    rw [e, b8_inj l l' (fun z hz => h1 z (by simp [hz])) (fun z hz => h2 z (by simp [hz])) h.2]
/-- Bytes that stand in what was made by a call. -/
def Fresh (w w' : World) (A : Option Addr) (xs : List Int) : Prop := ∀ W', (∀ k, w.heap.size ≤ k → k < w'.heap.size → W'.heap[k]? = w'.heap[k]?) → Kd.C (Kd.int .u8) W' A xs.length xs
theorem Fresh.nil (w w' : World) (A : Option Addr) : Fresh w w' A [] := fun W' _ => ⟨rfl, by simp, fun h => absurd h (by simp)⟩
theorem reads_fresh {w w' : World} {v : Value} {xs : List Int} (hx : Bytes xs) (h : Lib.FreshBytes w.heap.size w' v (xs.map b8)) : ∃ A c, v = .slice A xs.length c ∧ Fresh w w' A xs ∧ xs.length ≤ c := by
  obtain ⟨g, cap, zs, rfl, hg, hlc, hcm, hz, hzb, hbo, hc, _⟩ := h
  simp only [List.length_map] at hlc hbo ⊢
  have e : zs.take xs.length = xs := by
    refine b8_inj _ _ (fun z hz2 => hzb z (List.mem_of_mem_take hz2)) hx ?_
    rw [← hbo]
    rfl
  refine ⟨_, cap, rfl, fun W' hW => ?_, hlc⟩
  have hm : xs.length ≤ 9223372036854775807 := by unfold maxLen at hcm; omega
  refine Kd.C_of_reads (d := (0 : Int)) (h1 := fun _ => rfl) ⟨rfl, hm, fun hp => ⟨_, rfl, fun j hj => ?_⟩⟩
  have h1 := hc j (by omega)
  have hlt : g < w'.heap.size := by
    rcases Nat.lt_or_ge g w'.heap.size with h | h
    · exact h
    · simp [World.cell?, Array.getElem?_eq_none h] at h1
  rw [Addr.add_lit, Nat.zero_add, World.cell?_of_block (w := w') (hW g hg hlt), h1]
  have h2 : zs[j]? = xs[j]? := by rw [← e, List.getElem?_take, if_pos hj]
  rw [List.getD_eq_getElem?_getD, List.getD_eq_getElem?_getD, h2]
theorem join_nosep : ∀ ls : List (List UInt8), Lib.join ls [] = ls.flatten
  | [] => rfl
  | x :: r => by rw [Lib.join_cons]; simp [Lib.joinTail]
theorem flat_map (ls : List (List Int)) : (ls.map (·.map b8)).flatten = ls.flatten.map b8 := by rw [List.map_flatten]
theorem flat_bytes {ls : List (List Int)} (h : ∀ l ∈ ls, Bytes l) : Bytes ls.flatten := by
  intro z hz
  obtain ⟨l, hl, hz⟩ := List.mem_flatten.1 hz
  exact h l hl z hz
theorem lens_eq (ls : List (List Int)) : Lib.lens (ls.map (·.map b8)) = ls.flatten.length := by
  unfold Lib.lens
  rw [List.length_flatten, List.map_map]
  congr 1
  refine List.map_congr_left fun l _ => ?_
  simp
theorem holds {w : World} {l : List Int} {A : Option Addr} {c : Nat} (hC : Kd.C (Kd.int .u8) w A l.length l) (hb : Bytes l) : Lib.HoldsBytes w (.slice A l.length c) (l.map b8) := by
  refine ⟨A, c, by simp, ?_, ?_⟩
  · rintro rfl
    rcases Nat.eq_zero_or_pos l.length with h | h
    · rw [List.eq_nil_of_length_eq_zero h]; rfl
    · obtain ⟨ad, e, _⟩ := hC.2.2 h
      cases e
  · rintro a rfl i x hi
    rw [List.getElem?_map] at hi
    obtain ⟨z, hz, rfl⟩ := Option.map_eq_some_iff.1 hi
    have hil : i < l.length := (List.getElem?_eq_some_iff.1 hz).1
    obtain ⟨ad, e, hc⟩ := Kd.at_int hC (i : Int) (by omega) (by omega)
    injection e with e
    subst e
    rw [Int.toNat_natCast] at hc
    rw [hc, b8_back (hb z (List.mem_of_getElem? hz))]
    simp [rd, List.getD_eq_getElem?_getD, hz]
theorem rows_at {w : World} {ls : List (List Int)} {a : Addr} (hC : Kd.C (Kd.slice 5 (Kd.int .u8)) w (some a) ls.length ls) (hb : ∀ l ∈ ls, Bytes l) : ∃ vs, Lib.PartsAt w a vs (ls.map (·.map b8)) := by
  have hall : ∀ i, i < ls.length → ∃ v : Value, w.cell? (a.add i) = some v ∧ Lib.HoldsBytes w v ((ls.getD i []).map b8) := by
    intro i hi
    obtain ⟨ad, e, h⟩ := hC.2.2 (by omega)
    injection e with e
    subst e
    obtain ⟨cs, h1, ⟨A, c, rfl, h2, h3⟩, h4⟩ := h i ls[i] (List.getElem?_eq_getElem hi)
    have h5 := h4 0 _ rfl
    refine ⟨.slice A ls[i].length c, ?_, ?_⟩
    · simpa [Kd.slice] using h5
    · have e : ls.getD i [] = ls[i] := by simp [hi]
      rw [e]
      exact holds h3 (hb _ (List.getElem_mem hi))
  obtain ⟨f, hf⟩ := choose_lt hall
  refine ⟨(List.range ls.length).map f, by simp, fun i v hv => ?_, fun i v l hv hl => ?_⟩
  · rw [List.getElem?_map] at hv
    obtain ⟨j, hj, rfl⟩ := Option.map_eq_some_iff.1 hv
    obtain ⟨h1, h2⟩ := List.getElem?_eq_some_iff.1 hj
    simp at h1 h2
    subst h2
    exact (hf i h1).1
  · rw [List.getElem?_map] at hv hl
    obtain ⟨j, hj, rfl⟩ := Option.map_eq_some_iff.1 hv
    obtain ⟨h1, h2⟩ := List.getElem?_eq_some_iff.1 hj
    simp at h1 h2
    subst h2
    obtain ⟨l', hl', rfl⟩ := Option.map_eq_some_iff.1 hl
    have := (hf i h1).2
    rwa [List.getD_eq_getElem?_getD, hl'] at this
theorem sub_none {w : World} {b o : Nat} {sp} {x : Value} (h : w.cell? (Addr.add ⟨b, o, sp⟩ 0) = some x) : sp = none := by
  cases sp with
  | none => rfl
  | some q =>
    exfalso
    unfold World.cell? at h
    split at h <;> simp [Addr.add] at h
theorem join52 (A : Option Addr) (c : Nat) (ls : List (List Int)) (w : World) (hC : Kd.C (Kd.slice 5 (Kd.int .u8)) w A ls.length ls) (hc : ls.length ≤ c) (hb : ∀ l ∈ ls, Bytes l) (hn : ls.length ≤ 140737488355328) (ht : ls.flatten.length ≤ 140737488355328) :
    Calls Try.prog 75 #[.slice A ls.length c, .slice none 0 0] w fun e w' => ∃ A' c', e = .returned (.slice A' ls.flatten.length c') ∧ Fresh w w' A' ls.flatten ∧ Below w.heap.size w w' ∧ ls.flatten.length ≤ c' := by
  have hfb := flat_bytes hb
  match ls, hC, hc, hb, hn, ht, hfb with
  | [], hC, hc, hb, hn, ht, hfb =>
    refine (Try.bytes_Join_none A c _ w).mono ?_
    rintro e w' ⟨rfl, rfl⟩
    exact ⟨_, 0, rfl, Fresh.nil _ _ _, (Below.refl _ _).alloc (Nat.le_refl _) _, Nat.le_refl _⟩
  | [l], hC, hc, hb, hn, ht, hfb =>
    obtain ⟨⟨b, o, sp⟩, rfl, h⟩ := hC.2.2 (by simp)
    obtain ⟨cs, h1, ⟨A1, c1, rfl, h2, h3⟩, h4⟩ := h 0 l rfl
    have h5 := h4 0 _ rfl
    simp only [Kd.slice, Nat.zero_mul, Nat.zero_add] at h5
    obtain rfl := sub_none h5
    have h6 : w.cell? ⟨b, o, none⟩ = some (.slice A1 l.length c1) := by simpa [Addr.add] using h5
    have hl := hb l (by simp)
    have hh := holds (c := c1) h3 hl
    obtain ⟨p, cap, e, hp0, hp⟩ := hh
    simp only [List.length_map] at e
    injection e with e1 _ e2
    subst e1 e2
    simp only [List.flatten_cons, List.flatten_nil, List.append_nil] at ht hfb ⊢
    cases l with
    | nil =>
      refine (Try.bytes_Join_one_empty b o c A1 c1 _ w h6).mono ?_
      rintro e w' ⟨rfl, rfl⟩
      exact ⟨none, 0, rfl, Fresh.nil _ _ _, Below.refl _ _, Nat.le_refl _⟩
    | cons x l =>
      cases A1 with
      | none => have := hp0 rfl; simp at this
      | some ad =>
        have hlen : ((x :: l).map b8).length = (x :: l).length := by simp
        refine (Try.bytes_Join_one b o c ad c1 ((x :: l).map b8) _ w (by rw [hlen]; exact h6) (fun i y hi => hp ad rfl i y hi) (by simp) (by rw [hlen]; exact ht)).mono ?_
        rintro e w' ⟨v', rfl, hfr, hB⟩
        obtain ⟨A', c', rfl, hF, hcl⟩ := reads_fresh hfb hfr
        exact ⟨A', c', rfl, hF, hB, hcl⟩
  | l0 :: l1 :: ls, hC, hc, hb, hn, ht, hfb =>
    obtain ⟨⟨b, o, sp⟩, rfl, h⟩ := hC.2.2 (by simp)
    obtain ⟨cs, h1, ⟨A1, c1, rfl, h2, h3⟩, h4⟩ := h 0 l0 rfl
    have h5 := h4 0 _ rfl
    simp only [Kd.slice, Nat.zero_mul, Nat.zero_add] at h5
    obtain rfl := sub_none h5
    obtain ⟨vs, hP⟩ := rows_at hC hb
    refine (Try.bytes_Join_many b o _ c vs _ (.slice none 0 0) [] w (by simp) (by simp) hP hc ⟨none, 0, rfl, fun _ => rfl, fun a h => by cases h⟩ hn (by rw [lens_eq]; simpa using ht)).mono ?_
    rintro e w' ⟨v', rfl, hfr, hB⟩
    rw [join_nosep, flat_map] at hfr
    obtain ⟨A', c', rfl, hF, hcl⟩ := reads_fresh hfb hfr
    exact ⟨A', c', rfl, hF, hB, hcl⟩
theorem join_calls2 (A : Option Addr) (c : Nat) (ls : List (List Int)) (w : World) (hC : Kd.C (Kd.slice 5 (Kd.int .u8)) w A ls.length ls) (hc : ls.length ≤ c) (hb : ∀ l ∈ ls, Bytes l) (hn : ls.length ≤ 140737488355328) (ht : ls.flatten.length ≤ 140737488355328) :
    Calls Try.prog 45 #[.slice A ls.length c] w fun e w' => ∃ A' c', e = .returned (.slice A' ls.flatten.length c') ∧ Fresh w w' A' ls.flatten ∧ Below w.heap.size w w' ∧ ls.flatten.length ≤ c' := by
  have HJ := Aside0.mk (join52 A c ls w hC hc hb hn ht)
  clear hC hc hb hn ht
  generalize ls.flatten = xs at HJ ⊢
  go_enter Try.func45, Try.ntmps45
  go_wp2_with (go_at_call 75; refine HJ.out.mono ?_; rintro e w' ⟨A', c', rfl, hF, hB, hcl⟩)
  go_ret
  exact ⟨A', c', rfl, hF, hB, hcl⟩
theorem join_calls (A : Option Addr) (c : Nat) (ls : List (List Int)) (w : World) (hC : Kd.C (Kd.slice 5 (Kd.int .u8)) w A ls.length ls) (hc : ls.length ≤ c) (hb : ∀ l ∈ ls, Bytes l) (hn : ls.length ≤ 140737488355328) (ht : ls.flatten.length ≤ 140737488355328) :
    Calls Try.prog 45 #[.slice A ls.length c] w fun e w' => ∃ A' c', e = .returned (.slice A' ls.flatten.length c') ∧ Fresh w w' A' ls.flatten ∧ Below w.heap.size w w' := by
  refine (join_calls2 A c ls w hC hc hb hn ht).mono ?_
  rintro e w' ⟨A', c', rfl, hF, hB, _⟩
  exact ⟨A', c', rfl, hF, hB⟩
end Go.Proofs.Ytdepjlnljkbfjaa.Hand
