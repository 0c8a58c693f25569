import Derived.Test.YtdbjbeebjigofaaStabSort
import Derived.Test.YtdbjbeebjigofaaBwtP
import Derived.Test.YtdbjbeebjigofaaRef
/-! The stable orders of a row's places in plain Lean: the family's order is the row's; merging two chunks. -/
namespace Go.Proofs.Try.Stab
set_option linter.unusedVariables false
set_option linter.unusedSimpArgs false
open Go.Sort Go.Proofs Go.Proofs.Ytdbjbeebjigofaa.Sfx Go.Proofs.Ytdbjbeebjigofaa.BwtP Go.Proofs.YtdbjbeebjigofaaW.PrintWords
set_option linter.unusedSectionVars false

section
variable {α : Type} [Inhabited α] {lt : α → α → Bool} {at_ : α → Nat}
theorem merge_sorted (O : Ord lt at_) : ∀ (A B : List α), A.Pairwise (R lt at_) → B.Pairwise (R lt at_) → Cross at_ A B → (A.merge B (fun x y => !lt y x)).Pairwise (R lt at_) := by
  intro A
  induction A with
  | nil => intro B _ hB _; simpa using hB
  | cons x A ihA =>
    intro B
    induction B with
    | nil => intro hA _ _; simpa using hA
    | cons y B ihB =>
      intro hA hB hC
      obtain ⟨hx, hA'⟩ := List.pairwise_cons.1 hA
      obtain ⟨hy, hB'⟩ := List.pairwise_cons.1 hB
      rw [List.cons_merge_cons]
      cases hc : lt y x with
      | true =>
        simp only [Bool.not_true, Bool.false_eq_true, if_false]
        refine List.pairwise_cons.2 ⟨fun z hz => ?_, ihB hA hB' (hC.sub (fun _ h => h) (fun z hz => List.mem_cons_of_mem _ hz))⟩
        have hyx : R lt at_ y x := Or.inl hc
        rcases List.mem_merge.1 hz with hz | hz
        · rcases List.mem_cons.1 hz with rfl | hz
          · exact hyx
          · exact R.trans O hyx (hx z hz)
        · exact hy z hz
      | false =>
        simp only [Bool.not_false, if_true]
        refine List.pairwise_cons.2 ⟨fun z hz => ?_, ihA (y :: B) hA' hB (hC.sub (fun z hz => List.mem_cons_of_mem _ hz) (fun _ h => h))⟩
        have hxy : R lt at_ x y := R.of_not (hC x (by simp) y (by simp)) hc
        rcases List.mem_merge.1 hz with hz | hz
        · exact hx z hz
        · rcases List.mem_cons.1 hz with rfl | hz
          · exact hxy
          · exact R.trans O hxy (hy z hz)

/-- The next two chunks; the second one may be empty. -/
theorem Ph2.pick {N : Nat} {L0 : List α} {bs a : Nat} {D T : List (List α)} (h : Ph2 lt at_ N L0 bs a D T) (h0 : 0 < bs) (ha : a < N) :
    ∃ (A B : List α) (T' : List (List α)), T.flatten = A ++ (B ++ T'.flatten) ∧ (a + A.length = a + bs ∧ a + bs ≤ N ∨ a + A.length = N ∧ N ≤ a + bs) ∧
      (a + A.length + B.length = a + 2 * bs ∧ a + 2 * bs ≤ N ∨ a + A.length + B.length = N ∧ N ≤ a + 2 * bs) ∧ A.Pairwise (R lt at_) ∧ B.Pairwise (R lt at_) ∧ Cross at_ A B ∧
      ∀ M : List α, M.Perm (A ++ B) → M.Pairwise (R lt at_) → (a + 2 * bs < N ∧ Ph2 lt at_ N L0 bs (a + 2 * bs) (D ++ [M]) T') ∨ (N ≤ a + 2 * bs ∧ T'.flatten = [] ∧ ∃ Ls : List (List α), Ls.flatten = D.flatten ++ M ∧ Ph2 lt at_ N L0 (bs * 2) 0 [] Ls) := by
  have hsz := h.size
  have hln := h.len
  rw [List.flatten_append, List.length_append, hln] at hsz
  have one : ∀ A : List α, T = [A] → A ≠ [] → A.length ≤ bs → a + A.length = N := fun A e h1 h2 => by
    rw [e] at hsz; simp only [List.flatten_cons, List.flatten_nil, List.length_append, List.length_nil] at hsz; omega
  rcases Nat.lt_or_ge T.flatten.length (2 * bs) with hlt | hge
  · rcases h.chunks.few h0 hlt with e | ⟨A, e, hA0, hA⟩ | ⟨A, B, e, hA, hB0, hB⟩
    · subst e; simp at hsz; omega
    · subst e
      have e1 := one A rfl hA0 hA
      have hs := h.good.sorted A (by simp)
      refine ⟨A, [], [], by simp, Or.inr ⟨e1, by omega⟩, Or.inr ⟨by simpa using e1, by omega⟩, hs, List.Pairwise.nil, fun _ _ y hy => (by simp at hy), fun M hp hM => Or.inr ⟨by omega, rfl, D ++ [M], by simp, ?_⟩⟩
      rw [List.append_nil] at hp
      have hl := hp.length_eq
      have hg : Good lt at_ (D ++ [M]) := ⟨fun X hX => by
        rcases List.mem_append.1 hX with hX | hX
        · exact h.good.sorted X (by simp [hX])
        · simp at hX; rw [hX]; exact hM, by
        have hc := List.pairwise_append.1 h.good.cross
        refine List.pairwise_append.2 ⟨hc.1, by simp, fun X hX Y hY => ?_⟩
        simp at hY; subst hY
        exact (hc.2.2 X hX A (by simp)).sub (fun _ h => h) (fun x hx => hp.mem_iff.1 hx)⟩
      refine ⟨rfl, fun _ h => by simp at h, hg, chunky_of_full D [M] (fun X hX => by rw [h.full X hX]; omega) (by omega) ⟨fun e => hA0 (List.eq_nil_of_length_eq_zero (by rw [e] at hl; simpa using hl.symm)), by omega⟩, ?_, ?_⟩
      · refine List.Perm.trans ?_ h.perm
        simp only [List.nil_append, List.flatten_append, List.flatten_cons, List.flatten_nil, List.append_nil]
        exact hp.append_left _
      · simp only [List.nil_append, List.flatten_append, List.flatten_cons, List.flatten_nil, List.append_nil, List.length_append]
        omega
    · subst e
      obtain ⟨h1, h2, h3⟩ := h.good.pair
      simp only [List.flatten_cons, List.flatten_nil, List.length_append, List.length_nil] at hsz
      refine ⟨A, B, [], by simp, Or.inl ⟨by omega, by omega⟩, Or.inr ⟨by omega, by omega⟩, h1, h2, h3, fun M hp hM => Or.inr ⟨by omega, rfl, D ++ [M], by simp, ?_⟩⟩
      have hl := hp.length_eq
      simp at hl
      refine ⟨rfl, fun _ h => by simp at h, h.good.merged hp hM, chunky_of_full D [M] (fun X hX => by rw [h.full X hX]; omega) (by omega) ⟨by intro e; rw [e] at hl; simp at hl; omega, by omega⟩, ?_, ?_⟩
      · refine List.Perm.trans ?_ h.perm
        simp only [List.nil_append, List.flatten_append, List.flatten_cons, List.flatten_nil, List.append_nil]
        exact hp.append_left _
      · simp only [List.nil_append, List.flatten_append, List.flatten_cons, List.flatten_nil, List.append_nil, List.length_append]
        omega
  · obtain ⟨A, B, T', rfl, hA, hB, hT⟩ := h.chunks.two h0 hge
    obtain ⟨h1, h2, h3⟩ := h.good.pair
    simp only [List.flatten_cons, List.length_append] at hsz
    refine ⟨A, B, T', by simp, Or.inl ⟨by omega, by omega⟩, Or.inl ⟨by omega, by omega⟩, h1, h2, h3, fun M hp hM => ?_⟩
    have hl := hp.length_eq
    simp at hl
    have hp2 : (D ++ M :: T').flatten.Perm (D ++ A :: B :: T').flatten := by
      simp only [List.flatten_append, List.flatten_cons, ← List.append_assoc]
      have := (hp.append_left D.flatten).append_right T'.flatten
      simpa using this
    have hnx := h.next hA hB hT (h.good.merged hp hM) hl hp2
    rcases Nat.lt_or_ge (a + 2 * bs) N with hlt | hge2
    · exact Or.inl ⟨hlt, hnx⟩
    · have hT0 : T'.flatten = [] := List.eq_nil_of_length_eq_zero (by omega)
      refine Or.inr ⟨hge2, hT0, D ++ [M] ++ T', by simp [hT0], hnx.turn h0 ?_⟩
      rcases hT.one (by rw [hT0]; simp) with e | ⟨X, e⟩
      · exact Or.inl e
      · subst e
        exact Or.inr ⟨X, rfl, hT.1, by have := hT.2; omega⟩

end

/-! ### at whole numbers -/
/-- Places of a row by its symbols. -/
def ltI (l : List Int) (x y : Int) : Bool := decide (rd l x < rd l y)
/-- A number for each place. -/
def atI (x : Int) : Nat := if 0 ≤ x then 2 * x.toNat else 2 * (-x).toNat + 1
theorem ordI (l : List Int) : Ord (ltI l) atI where
  trans := fun x y z h1 h2 => by simp [ltI] at *; omega
  irr := fun x => by simp [ltI]
  ntrans := fun x y z h1 h2 => by simp [ltI] at *; omega
  inj := fun x y h => by unfold atI at h; split at h <;> split at h <;> omega
theorem R_I {l : List Int} {x y : Int} (hx : 0 ≤ x) (hy : 0 ≤ y) (h : R (ltI l) atI x y) : rd l x < rd l y ∨ rd l x = rd l y ∧ x < y := by
  rcases h with h | ⟨h1, h2⟩
  · exact Or.inl (by simpa [ltI] using h)
  · simp [ltI] at h1
    unfold atI at h2
    rw [if_pos hx, if_pos hy] at h2
    omega
theorem iota_at (n : Nat) : (iota n).Pairwise (fun x y => atI x < atI y) := by
  refine List.Pairwise.imp_of_mem (R := fun a b => a < b) ?_ (iota_pairwise n)
  intro a b ha hb h
  have h1 := (mem_iota.1 ha).1
  have h2 := (mem_iota.1 hb).1
  unfold atI
  rw [if_pos h1, if_pos h2]
  omega
theorem isOrd_of {l M : List Int} (hp : M.Perm (iota l.length)) (hs : M.Pairwise (R (ltI l) atI)) : M = ordOf l := by
  have h : IsOrd l M := ⟨hp, List.Pairwise.imp_of_mem (R := R (ltI l) atI) (fun {a b} ha hb h => R_I (mem_iota.1 (hp.subset ha)).1 (mem_iota.1 (hp.subset hb)).1 h) hs⟩
  exact h.uniq (ordOf_isOrd l)
theorem ph2_start (l : List Int) : Ph2 (ltI l) atI l.length (iota l.length) 1 0 [] ((iota l.length).map fun x => [x]) := by
  have hf : ((iota l.length).map fun x => [x]).flatten = iota l.length := by
    generalize iota l.length = q
    induction q with
    | nil => rfl
    | cons x q ih => simp [ih]
  refine ⟨rfl, fun _ h => by simp at h, ⟨fun A hA => ?_, ?_⟩, ?_, by rw [List.nil_append, hf], by rw [List.nil_append, hf, iota_len]⟩
  · simp at hA; obtain ⟨x, _, rfl⟩ := hA; exact List.pairwise_singleton _ _
  · simp only [List.nil_append, List.pairwise_map]
    exact (iota_at l.length).imp (fun {a b} h x hx y hy => by simp at hx hy; subst hx; subst hy; exact h)
  · have := chunky_of_full (bs := 1) ((iota l.length).map fun x => [x]) [] (fun A hA => by simp at hA; obtain ⟨x, _, rfl⟩ := hA; rfl) (by omega) trivial
    simpa using this

end Go.Proofs.Try.Stab

/- The reference's stable order of a row's places. -/
namespace Go.Proofs.Ytdbjbeebjigofaa.Hand
open Go.RowKit Go.Proofs.Ytdbjbeebjigofaa.Iter Go.Proofs.Ytdbjbeebjigofaa.PD Go.Proofs.Ytdbjbeebjigofaa.Sfx Go.Proofs.Ytdbjbeebjigofaa.BwtP Go.Proofs.YtdbjbeebjigofaaW.PrintWords Go.Proofs.YtdbjbeebjigofaaW.PrintLast Go.Proofs.YtdbjbeebjigofaaW.PrintMore
open Go.Proofs.Try.Stab (Ph2 ltI atI)
set_option linter.unusedVariables false
set_option linter.unusedSimpArgs false

theorem rd_mid {p X A S : List Int} (h : p = X ++ (A ++ S)) {i : Nat} (h1 : X.length ≤ i) (h2 : i < X.length + A.length) : rd p (i : Nat) = rd A ((i - X.length : Nat) : Int) := by
  subst h
  rw [rd_at (by simp; omega), rd_at (by omega), List.getElem_append_right h1, List.getElem_append_left (by omega)]

set_option maxRecDepth 100000 in
set_option maxHeartbeats 8000000 in
theorem stable_main (A : Option Addr) (c : Nat) (l : List Int) (w : World) (hl2 : 2 ≤ l.length) (hl : l.length ≤ 65536) (hcap : l.length ≤ c) (hC : Kd.C (Kd.int .i64) w A l.length l) :
    Calls Try.prog 24 #[.slice A l.length c] w fun e w' => ∃ v, e = .returned v ∧ Kd.R (Kd.int .i64) 3 w' w.heap.size (fun _ => True) v (ordOf l) ∧ Below w.heap.size w w' := by
  have h2 : ¬ (l.length : Int) < 2 := by omega
  have HC := Aside0.mk hC
  obtain ⟨a0, rfl, _⟩ := C_cell hC 0 (by omega)
  clear hC
  have hm1 := print_make (P := Try.prog) 22 3 .i64 8 Try.underlying22 infoZ (by decide) l.length (by omega)
  go_enter Try.func24, Try.ntmps24
  go_wp2
  have HB0 : Aside0 (Below w.heap.size w (w.alloc (.cells (madeCells #[Value.int .i64 0] l.length) 3))) := ⟨(Below.refl _ _).alloc (Nat.le_refl _) _⟩
  have HK0 : Aside0 (Blk (w.alloc (.cells (madeCells #[Value.int .i64 0] l.length) 3)) w.heap.size (List.replicate l.length 0)) := ⟨Blk.made w l.length⟩
  generalize w.alloc (.cells (madeCells #[Value.int .i64 0] l.length) 3) = w1 at HB0 HK0 ⊢
  obtain ⟨gP, hgP⟩ : ∃ g, g = w.heap.size := ⟨_, rfl⟩
  rw [← hgP] at HK0 ⊢
  have HGP : Aside0 (w.heap.size ≤ gP) := ⟨by omega⟩
  clear hgP hm1
  go_loopw [4] (fun s4 wr => ∃ (i : Nat) (sa : List Int), i ≤ l.length ∧ s4 = .int .i64 i ∧ sa.length = l.length ∧ Aside0 (Blk wr gP sa) ∧ Aside0 (Below w.heap.size w wr) ∧ Aside0 (∀ j : Nat, j < i → rd sa (j : Nat) = j)) (fun s4 _ => l.length - (intOf s4).toNat)
  case atStart => exact ⟨0, _, Nat.zero_le _, rfl, by simp, HK0, HB0, ⟨fun j hj => by omega⟩⟩
  case round =>
    obtain ⟨i, sa, hi, rfl, hsl, HK, HB, HI⟩ := hrel
    by_cases hlt : i < l.length
    · have cp := HK.out.cell i (by omega)
      have fp := HK.out.frozen i
      have HSL := Aside0.mk hsl
      clear hsl
      go_wp2
      go_roundw
      case measure => simp [intOf]; omega
      case rel =>
        refine ⟨i + 1, sa.set i i, by omega, by go_num, by rw [List.length_set]; exact HSL.out, ⟨HK.out.put i _⟩, ⟨HB.out.setCell HGP.out _⟩, ⟨fun j hj => ?_⟩⟩
        rw [rd_set _ _ _ _ (by have := HSL.out; omega)]
        by_cases e : j = i
        · rw [if_pos e, e]
        · rw [if_neg e]; exact HI.out j (by omega)
    · obtain rfl : i = l.length := by omega
      have HPR : Aside0 (Kd.R (Kd.int .i64) 3 wr w.heap.size (fun _ => True) (.slice (some ⟨gP, 0, none⟩) l.length l.length) (iota l.length)) := by
        have e : sa = iota l.length := by
          refine ext_rd (by rw [hsl, iota_len]) fun j hj => ?_
          rw [HI.out j (by omega), rd_at (by rw [iota_len]; omega)]
          simp [iota]
        have h := HK.out.R w.heap.size HGP.out (by omega)
        rw [hsl, e] at h
        exact ⟨Kd.R_mono h (fun _ _ => trivial)⟩
      clear hsl hlt hi HI HK HK0 HGP
      obtain ⟨i0, hi, hz0, hz1, hz2⟩ := info_parts infoZ
      have hmk : ∀ W : World, (Instr.makeSlice 22 (.int .i64 0) (.int .i64 l.length)).run Try.prog W = .ok (.slice (some ⟨W.heap.size, 0, none⟩) 0 l.length) (W.alloc (.cells (madeCells #[Value.int .i64 0] l.length) 3)) := fun W => by
        have h := run_make (P := Try.prog) (w := W) 22 3 i0 (.int .i64 0) Try.underlying22 hi hz0 .i64 .i64 0 (l.length : Int) (Int.le_refl _) (by omega) (by rw [hz2]; omega) (by omega)
        rw [hz1] at h
        simpa [Value.cells] using h
      clear hi hz0 hz1 hz2
      go_wp2
      go_loopw [3, 5] (fun s3 s5 wp => ∃ (bs : Nat) (vp : Value) (Ls : List (List Int)), s3 = vp ∧ s5 = .int .i64 bs ∧ 1 ≤ bs ∧ bs ≤ 131072 ∧ Aside0 (Ph2 (ltI l) atI l.length (iota l.length) bs 0 [] Ls) ∧ Aside0 (Kd.R (Kd.int .i64) 3 wp w.heap.size (fun _ => True) vp Ls.flatten) ∧ Aside0 (Below w.heap.size w wp)) (fun _ s5 _ => l.length - (intOf s5).toNat)
      case atStart =>
        have hf : ((iota l.length).map fun x => [x]).flatten = iota l.length := by have := (Try.Stab.ph2_start l).perm; generalize iota l.length = q; induction q with | nil => rfl | cons x q ih => simp [ih]
        exact ⟨1, _, (iota l.length).map fun x => [x], rfl, rfl, by omega, by omega, ⟨Try.Stab.ph2_start l⟩, ⟨by rw [hf]; exact HPR.out⟩, HB⟩
      case round =>
        clear HPR HB
        obtain ⟨bs, vp, Ls, rfl, rfl, hb1, hb2, HQ, HPR, HB2⟩ := hrel
        by_cases hlt : bs < l.length
        · obtain ⟨Ap, cp, rfl⟩ := Kd.R_slice HPR.out
          have hlf : Ls.flatten.length = l.length := by have := HQ.out.size; simpa using this
          obtain ⟨p, hp⟩ : ∃ p, p = Ls.flatten := ⟨_, rfl⟩
          rw [← hp] at HPR hlf ⊢
          have HP := Aside0.mk hp
          clear hp
          have HPM : Aside0 (p.Perm (iota l.length)) := ⟨by have := HQ.out.perm; rw [HP.out]; simpa using this⟩
          rw [hlf] at HPR ⊢
          have HCP := Aside0.mk (Kd.R_reads' HPR.out).2.2
          have HCL := Aside0.mk (Kd.C_below HC.out HB2.out)
          have HLF := Aside0.mk hlf
          clear hlf
          obtain ⟨w5, rfl⟩ : ∃ w5 : World, w5 = wr := ⟨_, rfl⟩
          have HO0 := Aside0.mk (own_zero w5 l.length w5.heap.size (Nat.le_refl _) (by omega))
          have HB0 : Aside0 (Below w5.heap.size w5 (w5.alloc (.cells (madeCells #[Value.int .i64 0] l.length) 3))) := ⟨(Below.refl _ _).alloc (Nat.le_refl _) _⟩
          go_wp2
          go_loopw [6, 7] (fun s6 s7 wq => ∃ (a : Nat) (vq : Value) (q : List Int), s6 = vq ∧ s7 = .int .i64 a ∧ a ≤ 1000000 ∧ Aside0 (Kd.R (Kd.int .i64) 3 wq w5.heap.size (fun _ => True) vq q) ∧ Aside0 (Below w5.heap.size w5 wq) ∧
            Aside0 ((a < l.length ∧ ∃ (D T : List (List Int)) (X : List Int), Ph2 (ltI l) atI l.length (iota l.length) bs a D T ∧ q = D.flatten ∧ p = X ++ T.flatten ∧ X.length = a) ∨ (l.length ≤ a ∧ ∃ Ls2 : List (List Int), Ph2 (ltI l) atI l.length (iota l.length) (bs * 2) 0 [] Ls2 ∧ q = Ls2.flatten))) (fun _ s7 _ => l.length - (intOf s7).toNat)
          case atStart =>
            exact ⟨0, _, [], rfl, rfl, by omega, HO0, HB0, ⟨Or.inl ⟨by omega, [], Ls, [], HQ.out, rfl, by rw [HP.out]; rfl, rfl⟩⟩⟩
          case round =>
            clear HO0 HB0
            obtain ⟨a, vq, q, rfl, rfl, ha, HO, HBR, HI⟩ := hrel
            by_cases hlt2 : a < l.length
            · obtain ⟨A1, B1, T1, D, X, hI⟩ : ∃ (A1 B1 : List Int) (T1 D : List (List Int)) (X : List Int), q = D.flatten ∧ p = X ++ (A1 ++ (B1 ++ T1.flatten)) ∧ X.length = a ∧ (a + A1.length = a + bs ∧ a + bs ≤ l.length ∨ a + A1.length = l.length ∧ l.length ≤ a + bs) ∧
                  (a + A1.length + B1.length = a + 2 * bs ∧ a + 2 * bs ≤ l.length ∨ a + A1.length + B1.length = l.length ∧ l.length ≤ a + 2 * bs) ∧
                  ((a + 2 * bs < l.length ∧ ∃ (D2 T2 : List (List Int)) (X2 : List Int), Ph2 (ltI l) atI l.length (iota l.length) bs (a + 2 * bs) D2 T2 ∧ q ++ A1.merge B1 (fun x y => !ltI l y x) = D2.flatten ∧ p = X2 ++ T2.flatten ∧ X2.length = a + 2 * bs) ∨ (l.length ≤ a + 2 * bs ∧ ∃ Ls2 : List (List Int), Ph2 (ltI l) atI l.length (iota l.length) (bs * 2) 0 [] Ls2 ∧ q ++ A1.merge B1 (fun x y => !ltI l y x) = Ls2.flatten)) := by
                rcases HI.out with ⟨_, D, T, X, hq, rfl, hpx, hX⟩ | ⟨h, _⟩
                · obtain ⟨A1, B1, T1, h1, h2, h3, h4, h5, h6, h7⟩ := hq.pick (by omega) hlt2
                  refine ⟨A1, B1, T1, D, X, rfl, by rw [hpx, h1], hX, h2, h3, ?_⟩
                  rcases h7 _ (List.merge_perm_append (fun x y => !ltI l y x)) (Try.Stab.merge_sorted (Try.Stab.ordI l) A1 B1 h4 h5 h6) with ⟨g1, g2⟩ | ⟨g1, g2, Ls2, g3, g4⟩
                  · left
                    refine ⟨g1, _, T1, X ++ (A1 ++ B1), g2, by simp, by rw [hpx, h1]; simp, ?_⟩
                    rcases h3 with h3 | h3
                    · simp; omega
                    · omega
                  · exact Or.inr ⟨g1, Ls2, g4, g3.symm⟩
                · omega
              obtain ⟨hq, hpx, hX, h2, h3, h4⟩ := hI
              have HX := Aside0.mk hpx
              have HX2 := Aside0.mk hX
              have HQD := Aside0.mk hq
              have H4 := Aside0.mk h4
              clear hpx hX hq h4
              obtain ⟨m, hm⟩ : ∃ m : Nat, m = a + A1.length := ⟨_, rfl⟩
              obtain ⟨z, hz⟩ : ∃ z : Nat, z = a + A1.length + B1.length := ⟨_, rfl⟩
              have hmz1 : min ((a : Int) + (bs : Int)) (l.length : Int) = (m : Int) := by omega
              have hmz2 : min ((a : Int) + 2 * (bs : Int)) (l.length : Int) = (z : Int) := by omega
              have hzn : z ≤ l.length := by omega
              have hmz : m ≤ z := by omega
              have ham : a ≤ m := by omega
              have HMZ : Aside0 (m = a + A1.length ∧ z = a + A1.length + B1.length) := ⟨hm, hz⟩
              have HQL : Aside0 (q.length = a) := ⟨by
                have h1 := congrArg List.length HX.out
                have h2 := HLF.out
                have h3 := HQD.out
                rcases HI.out with ⟨_, D', T', X', hq', h5, h6, h7⟩ | ⟨h, _⟩
                · rw [h5]; exact hq'.len
                · omega⟩
              clear hm hz h2 h3 HI
              have HOQ := HO
              go_wp2
              go_loopw [6, 10, 11] (fun s6 s10 s11 wq => ∃ (i k : Nat) (vo : Value) (out : List Int), s6 = vo ∧ s10 = .int .i64 i ∧ s11 = .int .i64 k ∧ a ≤ i ∧ i ≤ m ∧ m ≤ k ∧ k ≤ z ∧ Aside0 (Kd.R (Kd.int .i64) 3 wq w5.heap.size (fun _ => True) vo out) ∧ Aside0 (Below w5.heap.size w5 wq) ∧
                Aside0 (out ++ (A1.drop (i - a)).merge (B1.drop (k - m)) (fun x y => !ltI l y x) = q ++ A1.merge B1 (fun x y => !ltI l y x)) ∧ Aside0 (out.length + a + m = a + i + k)) (fun _ s10 s11 _ => m + z - (intOf s10).toNat - (intOf s11).toNat)
              case atStart => exact ⟨a, m, _, q, rfl, rfl, rfl, Nat.le_refl _, ham, Nat.le_refl _, hmz, HO, HBR, ⟨by simp⟩, ⟨by have := HQL.out; omega⟩⟩
              case round =>
                clear HO HBR HOQ hmz1 hmz2
                obtain ⟨i, k, vo, out, rfl, rfl, rfl, hai, him, hmk2, hkz, HO, HBR, HM, HOL⟩ := hrel
                obtain ⟨Ao, co, rfl⟩ := Kd.R_slice HO.out
                have hi6 : (i : Int) ≤ 65536 := by omega
                have hk6 : (k : Int) ≤ 65536 := by omega
                have HCPR := Aside0.mk (Kd.C_below HCP.out HBR.out)
                have HCLR := Aside0.mk (Kd.C_below HCL.out (HBR.out.mono (by have := HBR.out.size; omega)))
                have HMEM : Aside0 (∀ j : Nat, j < l.length → 0 ≤ rd p (j : Nat) ∧ rd p (j : Nat) < l.length) := ⟨fun j hj => rd_mem HPM.out hj⟩
                by_cases hix : i < m
                · have hixz : (i : Int) < (m : Int) := by omega
                  obtain ⟨ap, rfl, cx⟩ := C_cell (l := p) HCPR.out i (by rw [HLF.out]; omega)
                  obtain ⟨px, hpx⟩ : ∃ px : Nat, rd p (i : Nat) = px := ⟨(rd p (i : Nat)).toNat, by have := HMEM.out i (by omega); omega⟩
                  have hpxn : px < l.length := by have := (HMEM.out i (by omega)).2; rw [hpx] at this; omega
                  have HXI : Aside0 (rd A1 ((i - a : Nat) : Int) = (px : Int)) := ⟨by
                    have h1 := HX2.out; have h2 := HMZ.out
                    have h := rd_mid HX.out (i := i) (by omega) (by omega)
                    rw [hpx, h1] at h; exact h.symm⟩
                  rw [hpx] at cx
                  obtain ⟨al, hal, clx⟩ := C_cell HCLR.out px hpxn
                  injection hal with hal
                  subst hal
                  obtain ⟨vx, hvx⟩ : ∃ v, v = rd l (px : Nat) := ⟨_, rfl⟩
                  rw [← hvx] at clx
                  have HVX := Aside0.mk hvx
                  clear hpx hvx
                  by_cases hkz2 : k < z
                  · have hkzz : (k : Int) < (z : Int) := by omega
                    have cy := (C_cell (l := p) HCPR.out k (by rw [HLF.out]; omega))
                    obtain ⟨ap2, hap2, cy⟩ := cy
                    injection hap2 with hap2
                    subst hap2
                    obtain ⟨py, hpy⟩ : ∃ py : Nat, rd p (k : Nat) = py := ⟨(rd p (k : Nat)).toNat, by have := HMEM.out k (by omega); omega⟩
                    have hpyn : py < l.length := by have := (HMEM.out k (by omega)).2; rw [hpy] at this; omega
                    have HYK : Aside0 (rd B1 ((k - m : Nat) : Int) = (py : Int)) := ⟨by
                      have h1 := HX2.out; have h2 := HMZ.out
                      have h := rd_mid (p := p) (X := X ++ A1) (A := B1) (S := T1.flatten) (by rw [HX.out]; simp) (i := k) (by simp; omega) (by simp; omega)
                      rw [hpy, List.length_append, h1, show k - (a + A1.length) = k - m from by omega] at h; exact h.symm⟩
                    rw [hpy] at cy
                    obtain ⟨al, hal, cly⟩ := C_cell HCLR.out py hpyn
                    injection hal with hal
                    subst hal
                    obtain ⟨vy, hvy⟩ : ∃ v, v = rd l (py : Nat) := ⟨_, rfl⟩
                    rw [← hvy] at cly
                    have HVY := Aside0.mk hvy
                    clear hpy hvy
                    have hb1 : decide ((z : Int) ≤ k) = false := decide_eq_false (by omega)
                    have hb2 : decide ((i : Int) < m) = true := decide_eq_true (by omega)
                    have hb3 : decide (z ≤ k) = false := decide_eq_false (by omega)
                    have hb4 : decide (i < m) = true := decide_eq_true (by omega)
                    have wx : (0 : Int) ≤ (i : Int) := by omega
                    have wy : (0 : Int) ≤ (k : Int) := by omega
                    have vxn : (px : Int) < (l.length : Int) := by omega
                    have vyn : (py : Int) < (l.length : Int) := by omega
                    have win : (i : Int) < (l.length : Int) := by omega
                    have wkn : (k : Int) < (l.length : Int) := by omega
                    by_cases hle : vx ≤ vy
                    · have hleb : decide (vx ≤ vy) = true := decide_eq_true hle
                      have HLE := Aside0.mk hle
                      go_wp2
                      go_quiet (fail)
                      have HO8 := Aside0.mk (Kd.R_below HO.out (pw_below_drewN (Below.refl _ _) nq))
                      have HB8 := Aside0.mk (pw_below_drewN HBR.out nq)
                      have c8 : (wr.drewN nq).cell? (ap.add i) = some (.int .i64 px) := cx
                      generalize wr.drewN nq = w8 at HO8 HB8 c8 ⊢
                      go_wp2_with (first | ((with_reducible refine gate_builtin (b := .append) (xs := #[.tmp 96, .tmp 101]) rfl ?_); (try (refine gate_guard (by rfl) ?_; dsimp only)); at_builtin; refine Kd.R_append (Kd.int .i64) (w0 := w5) w5.heap.size rfl (.tmp 96) (.tmp 101) 22 3 (.int .i64 0) 8 rfl Try.underlying22 infoZ rfl (by decide) (by decide) (.slice Ao out.length co) out px [.int .i64 px] (fun _ => True) (fun _ => False) rfl rfl ?aP (fun _ hk => hk.elim) ?aF ?aO ?aB ?aS ?aL ?_; (case aP => rfl); (case aF => exact (fun _ _ => trivial)); (case aO => exact HO8.out); (case aB => exact HB8.out); (case aS => exact HB8.out.size); (case aL => have := HOL.out; omega); intro v9 w9 ho9 hb9 hg9 hat9; have HO9 := Aside0.mk ho9; have HB9 := Aside0.mk hb9; clear ho9 hb9 hg9 hat9))
                      go_roundw
                      case rel =>
                        exact ⟨i + 1, k, v9, _, rfl, by go_num, rfl, by omega, by omega, hmk2, hkz, HO9, HB9, ⟨by have h := mrg_x HM.out (by have := HMZ.out; omega) (fun _ => by simp only [ltI, HXI.out, HYK.out]; rw [← HVX.out, ← HVY.out]; have := HLE.out; simp; omega); rw [show i + 1 - a = i - a + 1 from by omega, ← HXI.out]; exact h⟩, ⟨by rw [List.length_append, List.length_singleton]; have := HOL.out; omega⟩⟩
                      case measure => simp [intOf]; omega
                    · have hleb : decide (vx ≤ vy) = false := decide_eq_false hle
                      have HLE := Aside0.mk hle
                      go_wp2
                      go_quiet (fail)
                      have HO8 := Aside0.mk (Kd.R_below HO.out (pw_below_drewN (Below.refl _ _) nq))
                      have HB8 := Aside0.mk (pw_below_drewN HBR.out nq)
                      have c8 : (wr.drewN nq).cell? (ap.add k) = some (.int .i64 py) := cy
                      generalize wr.drewN nq = w8 at HO8 HB8 c8 ⊢
                      go_wp2_with (first | ((with_reducible refine gate_builtin (b := .append) (xs := #[.tmp 105, .tmp 110]) rfl ?_); (try (refine gate_guard (by rfl) ?_; dsimp only)); at_builtin; refine Kd.R_append (Kd.int .i64) (w0 := w5) w5.heap.size rfl (.tmp 105) (.tmp 110) 22 3 (.int .i64 0) 8 rfl Try.underlying22 infoZ rfl (by decide) (by decide) (.slice Ao out.length co) out py [.int .i64 py] (fun _ => True) (fun _ => False) rfl rfl ?aP (fun _ hk => hk.elim) ?aF ?aO ?aB ?aS ?aL ?_; (case aP => rfl); (case aF => exact (fun _ _ => trivial)); (case aO => exact HO8.out); (case aB => exact HB8.out); (case aS => exact HB8.out.size); (case aL => have := HOL.out; omega); intro v9 w9 ho9 hb9 hg9 hat9; have HO9 := Aside0.mk ho9; have HB9 := Aside0.mk hb9; clear ho9 hb9 hg9 hat9))
                      go_roundw
                      case rel =>
                        exact ⟨i, k + 1, v9, _, rfl, rfl, by go_num, hai, him, by omega, by omega, HO9, HB9, ⟨by have h := mrg_y HM.out (by have := HMZ.out; omega) (fun _ => by simp only [ltI, HXI.out, HYK.out]; rw [← HVX.out, ← HVY.out]; have := HLE.out; simp; omega); rw [show k + 1 - m = k - m + 1 from by omega, ← HYK.out]; exact h⟩, ⟨by rw [List.length_append, List.length_singleton]; have := HOL.out; omega⟩⟩
                      case measure => simp [intOf]; omega
                  · obtain rfl : k = z := by omega
                    clear hkz2
                    have win : (i : Int) < (l.length : Int) := by omega
                    go_wp2
                    go_quiet (fail)
                    have HO8 := Aside0.mk (Kd.R_below HO.out (pw_below_drewN (Below.refl _ _) nq))
                    have HB8 := Aside0.mk (pw_below_drewN HBR.out nq)
                    have c8 : (wr.drewN nq).cell? (ap.add i) = some (.int .i64 px) := cx
                    generalize wr.drewN nq = w8 at HO8 HB8 c8 ⊢
                    go_wp2_with (first | ((with_reducible refine gate_builtin (b := .append) (xs := #[.tmp 96, .tmp 101]) rfl ?_); (try (refine gate_guard (by rfl) ?_; dsimp only)); at_builtin; refine Kd.R_append (Kd.int .i64) (w0 := w5) w5.heap.size rfl (.tmp 96) (.tmp 101) 22 3 (.int .i64 0) 8 rfl Try.underlying22 infoZ rfl (by decide) (by decide) (.slice Ao out.length co) out px [.int .i64 px] (fun _ => True) (fun _ => False) rfl rfl ?aP (fun _ hk => hk.elim) ?aF ?aO ?aB ?aS ?aL ?_; (case aP => rfl); (case aF => exact (fun _ _ => trivial)); (case aO => exact HO8.out); (case aB => exact HB8.out); (case aS => exact HB8.out.size); (case aL => have := HOL.out; omega); intro v9 w9 ho9 hb9 hg9 hat9; have HO9 := Aside0.mk ho9; have HB9 := Aside0.mk hb9; clear ho9 hb9 hg9 hat9))
                    go_roundw
                    case rel =>
                      exact ⟨i + 1, k, v9, _, rfl, by go_num, rfl, by omega, by omega, hmk2, hkz, HO9, HB9, ⟨by have h := mrg_x HM.out (by have := HMZ.out; omega) (fun h => by have := HMZ.out; omega); rw [show i + 1 - a = i - a + 1 from by omega, ← HXI.out]; exact h⟩, ⟨by rw [List.length_append, List.length_singleton]; have := HOL.out; omega⟩⟩
                    case measure => simp [intOf]; omega
                · have hib : decide ((i : Int) < m) = false := decide_eq_false (by omega)
                  have hibn : decide (i < m) = false := decide_eq_false (by omega)
                  by_cases hkz2 : k < z
                  · have hkc : decide ((k : Int) < z) = true := decide_eq_true (by omega)
                    have hkl : decide ((z : Int) ≤ k) = false := decide_eq_false (by omega)
                    have hkln : decide (z ≤ k) = false := decide_eq_false (by omega)
                    obtain ⟨ap, rfl, cy⟩ := C_cell (l := p) HCPR.out k (by rw [HLF.out]; omega)
                    obtain ⟨py, hpy⟩ : ∃ py : Nat, rd p (k : Nat) = py := ⟨(rd p (k : Nat)).toNat, by have := HMEM.out k (by omega); omega⟩
                    have HYK : Aside0 (rd B1 ((k - m : Nat) : Int) = (py : Int)) := ⟨by
                      have h1 := HX2.out; have h2 := HMZ.out
                      have h := rd_mid (p := p) (X := X ++ A1) (A := B1) (S := T1.flatten) (by rw [HX.out]; simp) (i := k) (by simp; omega) (by simp; omega)
                      rw [hpy, List.length_append, h1, show k - (a + A1.length) = k - m from by omega] at h; exact h.symm⟩
                    rw [hpy] at cy
                    have HIM := Aside0.mk him
                    have HIX := Aside0.mk hix
                    clear hpy him hix
                    go_wp2
                    refine start_ (n := 25) (S := fun w' => True) (ds := []) #[false, false, false, false, false, false, false, false, false, false, false, false, false, false, false, false, false, false, false, false, false, false, false, false, false] (by kernel_rfl) rfl rfl trivial (fun hHeld => ?_)
                    refine pure_ (i := 0) (N := some 71) (v := ?_) (a' := ?_) #[true, false, false, false, false, false, false, false, false, false, false, false, false, false, false, false, false, false, false, false, false, false, false, false, false] rfl rfl (by kernel_rfl) (fun _ _ _ h => h) (Or.inl ⟨by rfl, ?_⟩) ?_ ?_
                    rotate_left
                    · intro w'
                      go_simp
                      with_reducible rfl
                    rotate_left
                    · simp only [Act.put, List.setIfInBounds_toArray, List.set_cons_zero, List.set_cons_succ, i64_w, i32_w]
                      rfl
                    refine pure_ (i := 1) (N := some 72) (v := ?_) (a' := ?_) #[true, true, false, false, false, false, false, false, false, false, false, false, false, false, false, false, false, false, false, false, false, false, false, false, false] rfl rfl (by kernel_rfl) (fun _ _ _ h => h) (Or.inl ⟨by rfl, ?_⟩) ?_ ?_
                    rotate_left
                    · intro w'
                      go_simp
                      with_reducible rfl
                    rotate_left
                    · simp only [Act.put, List.setIfInBounds_toArray, List.set_cons_zero, List.set_cons_succ, i64_w, i32_w]
                      rfl
                    refine pure_ (i := 2) (N := some 73) (v := ?_) (a' := ?_) #[true, true, true, false, false, false, false, false, false, false, false, false, false, false, false, false, false, false, false, false, false, false, false, false, false] rfl rfl (by kernel_rfl) (fun _ _ _ h => h) (Or.inl ⟨by rfl, ?_⟩) ?_ ?_
                    rotate_left
                    · intro w'
                      go_simp
                      with_reducible rfl
                    rotate_left
                    · simp only [Act.put, List.setIfInBounds_toArray, List.set_cons_zero, List.set_cons_succ, i64_w, i32_w]
                      rfl
                    refine pure_ (i := 3) (N := some 74) (v := ?_) (a' := ?_) #[true, true, true, true, false, false, false, false, false, false, false, false, false, false, false, false, false, false, false, false, false, false, false, false, false] rfl rfl (by kernel_rfl) (fun _ _ _ h => h) (Or.inl ⟨by rfl, ?_⟩) ?_ ?_
                    rotate_left
                    · intro w'
                      go_simp
                      with_reducible rfl
                    rotate_left
                    · simp only [Act.put, List.setIfInBounds_toArray, List.set_cons_zero, List.set_cons_succ, i64_w, i32_w]
                      rfl
                    refine pure_ (i := 4) (N := some 75) (v := ?_) (a' := ?_) #[true, true, true, true, true, false, false, false, false, false, false, false, false, false, false, false, false, false, false, false, false, false, false, false, false] rfl rfl (by kernel_rfl) (fun _ _ _ h => h) (Or.inl ⟨by rfl, ?_⟩) ?_ ?_
                    rotate_left
                    · intro w'
                      go_simp
                      with_reducible rfl
                    rotate_left
                    · simp only [Act.put, List.setIfInBounds_toArray, List.set_cons_zero, List.set_cons_succ, i64_w, i32_w]
                      rfl
                    refine pure_ (i := 5) (N := some 76) (v := ?_) (a' := ?_) #[true, true, true, true, true, true, false, false, false, false, false, false, false, false, false, false, false, false, false, false, false, false, false, false, false] rfl rfl (by kernel_rfl) (fun _ _ _ h => h) (Or.inl ⟨by rfl, ?_⟩) ?_ ?_
                    rotate_left
                    · intro w'
                      go_simp
                      with_reducible rfl
                    rotate_left
                    · simp only [Act.put, List.setIfInBounds_toArray, List.set_cons_zero, List.set_cons_succ, i64_w, i32_w]
                      rfl
                    refine pure_ (i := 6) (N := some 77) (v := ?_) (a' := ?_) #[true, true, true, true, true, true, true, false, false, false, false, false, false, false, false, false, false, false, false, false, false, false, false, false, false] rfl rfl (by kernel_rfl) (fun _ _ _ h => h) (Or.inl ⟨by rfl, ?_⟩) ?_ ?_
                    rotate_left
                    · intro w'
                      go_simp
                      with_reducible rfl
                    rotate_left
                    · simp only [Act.put, List.setIfInBounds_toArray, List.set_cons_zero, List.set_cons_succ, i64_w, i32_w]
                      rfl
                    refine pure_ (i := 7) (N := some 78) (v := ?_) (a' := ?_) #[true, true, true, true, true, true, true, true, false, false, false, false, false, false, false, false, false, false, false, false, false, false, false, false, false] rfl rfl (by kernel_rfl) (fun _ _ _ h => h) (Or.inl ⟨by rfl, ?_⟩) ?_ ?_
                    rotate_left
                    · intro w'
                      go_simp
                      with_reducible rfl
                    rotate_left
                    · simp only [Act.put, List.setIfInBounds_toArray, List.set_cons_zero, List.set_cons_succ, i64_w, i32_w]
                      rfl
                    refine pure_ (i := 8) (N := some 79) (v := undef) (a' := ?_) #[true, true, true, true, true, true, true, true, true, false, false, false, false, false, false, false, false, false, false, false, false, false, false, false, false] rfl rfl (by kernel_rfl) (fun _ _ _ h => h) (Or.inr ⟨by rfl, rfl⟩) ?_ ?_
                    rotate_left
                    · simp only [Act.put, List.setIfInBounds_toArray, List.set_cons_zero, List.set_cons_succ, i64_w, i32_w]
                      rfl
                    refine pure_ (i := 9) (N := some 80) (v := undef) (a' := ?_) #[true, true, true, true, true, true, true, true, true, true, false, false, false, false, false, false, false, false, false, false, false, false, false, false, false] rfl rfl (by kernel_rfl) (fun _ _ _ h => h) (Or.inr ⟨by rfl, rfl⟩) ?_ ?_
                    rotate_left
                    · simp only [Act.put, List.setIfInBounds_toArray, List.set_cons_zero, List.set_cons_succ, i64_w, i32_w]
                      rfl
                    refine pure_ (i := 10) (N := some 81) (v := undef) (a' := ?_) #[true, true, true, true, true, true, true, true, true, true, true, false, false, false, false, false, false, false, false, false, false, false, false, false, false] rfl rfl (by kernel_rfl) (fun _ _ _ h => h) (Or.inr ⟨by rfl, rfl⟩) ?_ ?_
                    rotate_left
                    · simp only [Act.put, List.setIfInBounds_toArray, List.set_cons_zero, List.set_cons_succ, i64_w, i32_w]
                      rfl
                    refine pure_ (i := 11) (N := some 82) (v := undef) (a' := ?_) #[true, true, true, true, true, true, true, true, true, true, true, true, false, false, false, false, false, false, false, false, false, false, false, false, false] rfl rfl (by kernel_rfl) (fun _ _ _ h => h) (Or.inr ⟨by rfl, rfl⟩) ?_ ?_
                    rotate_left
                    · simp only [Act.put, List.setIfInBounds_toArray, List.set_cons_zero, List.set_cons_succ, i64_w, i32_w]
                      rfl
                    refine pure_ (i := 12) (N := some 83) (v := undef) (a' := ?_) #[true, true, true, true, true, true, true, true, true, true, true, true, true, false, false, false, false, false, false, false, false, false, false, false, false] rfl rfl (by kernel_rfl) (fun _ _ _ h => h) (Or.inr ⟨by rfl, rfl⟩) ?_ ?_
                    rotate_left
                    · simp only [Act.put, List.setIfInBounds_toArray, List.set_cons_zero, List.set_cons_succ, i64_w, i32_w]
                      rfl
                    refine pure_ (i := 13) (N := some 84) (v := undef) (a' := ?_) #[true, true, true, true, true, true, true, true, true, true, true, true, true, true, false, false, false, false, false, false, false, false, false, false, false] rfl rfl (by kernel_rfl) (fun _ _ _ h => h) (Or.inr ⟨by rfl, rfl⟩) ?_ ?_
                    rotate_left
                    · simp only [Act.put, List.setIfInBounds_toArray, List.set_cons_zero, List.set_cons_succ, i64_w, i32_w]
                      rfl
                    refine pure_ (i := 14) (N := some 85) (v := undef) (a' := ?_) #[true, true, true, true, true, true, true, true, true, true, true, true, true, true, true, false, false, false, false, false, false, false, false, false, false] rfl rfl (by kernel_rfl) (fun _ _ _ h => h) (Or.inr ⟨by rfl, rfl⟩) ?_ ?_
                    rotate_left
                    · simp only [Act.put, List.setIfInBounds_toArray, List.set_cons_zero, List.set_cons_succ, i64_w, i32_w]
                      rfl
                    refine pure_ (i := 15) (N := some 86) (v := undef) (a' := ?_) #[true, true, true, true, true, true, true, true, true, true, true, true, true, true, true, true, false, false, false, false, false, false, false, false, false] rfl rfl (by kernel_rfl) (fun _ _ _ h => h) (Or.inr ⟨by rfl, rfl⟩) ?_ ?_
                    rotate_left
                    · simp only [Act.put, List.setIfInBounds_toArray, List.set_cons_zero, List.set_cons_succ, i64_w, i32_w]
                      rfl
                    refine pure_ (i := 16) (N := some 87) (v := undef) (a' := ?_) #[true, true, true, true, true, true, true, true, true, true, true, true, true, true, true, true, true, false, false, false, false, false, false, false, false] rfl rfl (by kernel_rfl) (fun _ _ _ h => h) (Or.inr ⟨by rfl, rfl⟩) ?_ ?_
                    rotate_left
                    · simp only [Act.put, List.setIfInBounds_toArray, List.set_cons_zero, List.set_cons_succ, i64_w, i32_w]
                      rfl
                    refine pure_ (i := 17) (N := some 88) (v := undef) (a' := ?_) #[true, true, true, true, true, true, true, true, true, true, true, true, true, true, true, true, true, true, false, false, false, false, false, false, false] rfl rfl (by kernel_rfl) (fun _ _ _ h => h) (Or.inr ⟨by rfl, rfl⟩) ?_ ?_
                    rotate_left
                    · simp only [Act.put, List.setIfInBounds_toArray, List.set_cons_zero, List.set_cons_succ, i64_w, i32_w]
                      rfl
                    refine pure_ (i := 18) (N := some 89) (v := undef) (a' := ?_) #[true, true, true, true, true, true, true, true, true, true, true, true, true, true, true, true, true, true, true, false, false, false, false, false, false] rfl rfl (by kernel_rfl) (fun _ _ _ h => h) (Or.inr ⟨by rfl, rfl⟩) ?_ ?_
                    rotate_left
                    · simp only [Act.put, List.setIfInBounds_toArray, List.set_cons_zero, List.set_cons_succ, i64_w, i32_w]
                      rfl
                    refine pure_ (i := 19) (N := some 90) (v := undef) (a' := ?_) #[true, true, true, true, true, true, true, true, true, true, true, true, true, true, true, true, true, true, true, true, false, false, false, false, false] rfl rfl (by kernel_rfl) (fun _ _ _ h => h) (Or.inr ⟨by rfl, rfl⟩) ?_ ?_
                    rotate_left
                    · simp only [Act.put, List.setIfInBounds_toArray, List.set_cons_zero, List.set_cons_succ, i64_w, i32_w]
                      rfl
                    refine pure_ (i := 20) (N := some 91) (v := undef) (a' := ?_) #[true, true, true, true, true, true, true, true, true, true, true, true, true, true, true, true, true, true, true, true, true, false, false, false, false] rfl rfl (by kernel_rfl) (fun _ _ _ h => h) (Or.inr ⟨by rfl, rfl⟩) ?_ ?_
                    rotate_left
                    · simp only [Act.put, List.setIfInBounds_toArray, List.set_cons_zero, List.set_cons_succ, i64_w, i32_w]
                      rfl
                    refine pure_ (i := 21) (N := some 92) (v := undef) (a' := ?_) #[true, true, true, true, true, true, true, true, true, true, true, true, true, true, true, true, true, true, true, true, true, true, false, false, false] rfl rfl (by kernel_rfl) (fun _ _ _ h => h) (Or.inr ⟨by rfl, rfl⟩) ?_ ?_
                    rotate_left
                    · simp only [Act.put, List.setIfInBounds_toArray, List.set_cons_zero, List.set_cons_succ, i64_w, i32_w]
                      rfl
                    refine pure_ (i := 22) (N := some 93) (v := undef) (a' := ?_) #[true, true, true, true, true, true, true, true, true, true, true, true, true, true, true, true, true, true, true, true, true, true, true, false, false] rfl rfl (by kernel_rfl) (fun _ _ _ h => h) (Or.inr ⟨by rfl, rfl⟩) ?_ ?_
                    rotate_left
                    · simp only [Act.put, List.setIfInBounds_toArray, List.set_cons_zero, List.set_cons_succ, i64_w, i32_w]
                      rfl
                    refine pure_ (i := 23) (N := some 94) (v := ?_) (a' := ?_) #[true, true, true, true, true, true, true, true, true, true, true, true, true, true, true, true, true, true, true, true, true, true, true, true, false] rfl rfl (by kernel_rfl) (fun _ _ _ h => h) (Or.inl ⟨by rfl, ?_⟩) ?_ ?_
                    rotate_left
                    · intro w'
                      go_simp
                      with_reducible rfl
                    rotate_left
                    · simp only [Act.put, List.setIfInBounds_toArray, List.set_cons_zero, List.set_cons_succ, i64_w, i32_w]
                      rfl
                    refine pure_ (i := 24) (N := some 95) (v := ?_) (a' := ?_) #[true, true, true, true, true, true, true, true, true, true, true, true, true, true, true, true, true, true, true, true, true, true, true, true, true] rfl rfl (by kernel_rfl) (fun _ _ _ h => h) (Or.inl ⟨by rfl, ?_⟩) ?_ ?_
                    rotate_left
                    · intro w'
                      go_simp
                      with_reducible rfl
                    rotate_left
                    · simp only [Act.put, List.setIfInBounds_toArray, List.set_cons_zero, List.set_cons_succ, i64_w, i32_w]
                      rfl
                    refine done_ (by kernel_rfl) ?_
                    have him := HIM.out
                    have HO8 := Aside0.mk (Kd.R_below HO.out (below_drew (Below.refl _ _)))
                    have HB8 := Aside0.mk (below_drew HBR.out)
                    have c8 : (wr.drew).cell? (ap.add k) = some (.int .i64 py) := cy
                    generalize wr.drew = w8 at HO8 HB8 c8 ⊢
                    go_wp2_with (first | ((with_reducible refine gate_builtin (b := .append) (xs := #[.tmp 105, .tmp 110]) rfl ?_); (try (refine gate_guard (by rfl) ?_; dsimp only)); at_builtin; refine Kd.R_append (Kd.int .i64) (w0 := w5) w5.heap.size rfl (.tmp 105) (.tmp 110) 22 3 (.int .i64 0) 8 rfl Try.underlying22 infoZ rfl (by decide) (by decide) (.slice Ao out.length co) out py [.int .i64 py] (fun _ => True) (fun _ => False) rfl rfl ?aP (fun _ hk => hk.elim) ?aF ?aO ?aB ?aS ?aL ?_; (case aP => rfl); (case aF => exact (fun _ _ => trivial)); (case aO => exact HO8.out); (case aB => exact HB8.out); (case aS => exact HB8.out.size); (case aL => have := HOL.out; omega); intro v9 w9 ho9 hb9 hg9 hat9; have HO9 := Aside0.mk ho9; have HB9 := Aside0.mk hb9; clear ho9 hb9 hg9 hat9))
                    go_roundw
                    case rel =>
                      exact ⟨i, k + 1, v9, _, rfl, rfl, by go_num, hai, him, by omega, by omega, HO9, HB9, ⟨by have h := mrg_y HM.out (by have := HMZ.out; omega) (fun h => absurd h (by have := HMZ.out; have := HIX.out; omega)); rw [show k + 1 - m = k - m + 1 from by omega, ← HYK.out]; exact h⟩, ⟨by rw [List.length_append, List.length_singleton]; have := HOL.out; omega⟩⟩
                    case measure => simp [intOf]; omega
                  · obtain rfl : i = m := by omega
                    obtain rfl : k = z := by omega
                    clear hkz2 hix hib hibn
                    go_wp2
                    go_roundw
                    case measure => simp [intOf]; omega
                    case rel =>
                      have hM := HM.out
                      have hz := HMZ.out
                      rw [List.drop_of_length_le (by omega), List.drop_of_length_le (by omega), List.nil_merge, List.append_nil] at hM
                      refine ⟨a + 2 * bs, _, out, rfl, by go_num, by omega, HO, HBR, ⟨?_⟩⟩
                      rw [hM]
                      rcases H4.out with ⟨g1, D2, T2, X2, g2, g3, g4, g5⟩ | ⟨g1, Ls2, g2, g3⟩
                      · exact Or.inl ⟨g1, D2, T2, X2, g2, g3, g4, g5⟩
                      · exact Or.inr ⟨g1, Ls2, g2, g3⟩
            · rcases HI.out with ⟨h, _⟩ | ⟨_, Ls2, hq, he⟩
              · omega
              have HQ2 := Aside0.mk hq
              have HE := Aside0.mk he
              clear hq he HI
              go_wp2
              go_roundw
              case measure => simp [intOf]; omega
              case rel => exact ⟨bs * 2, _, Ls2, rfl, by go_num, by omega, by omega, HQ2, ⟨by rw [← HE.out]; exact Kd.R_lower HO.out HB2.out.size⟩, ⟨HB2.out.trans (HBR.out.mono HB2.out.size)⟩⟩
        · go_wp2
          go_ret
          obtain ⟨h1, h2⟩ := HQ.out.fin (by omega)
          rw [Try.Stab.isOrd_of h1 h2] at HPR
          exact ⟨_, rfl, HPR.out, HB2.out⟩
set_option maxRecDepth 100000 in
theorem stable_few (A : Option Addr) (c : Nat) (l : List Int) (w : World) (hl2 : l.length < 2) :
    Calls Try.prog 24 #[.slice A l.length c] w fun e w' => ∃ v, e = .returned v ∧ Kd.R (Kd.int .i64) 3 w' w.heap.size (fun _ => True) v (ordOf l) ∧ Below w.heap.size w w' := by
  have h2 : (l.length : Int) < 2 := by omega
  have hz : List.replicate l.length 0 = ordOf l := by
    match l, hl2 with
    | [], _ => exact IsOrd.uniq (l := []) ⟨by simp [iota], by simp⟩ (ordOf_isOrd _)
    | [x], _ => exact IsOrd.uniq (l := [x]) ⟨by simp [iota], by simp⟩ (ordOf_isOrd _)
  have HZ := Aside0.mk hz
  clear hz
  have hm1 := print_make (P := Try.prog) 22 3 .i64 8 Try.underlying22 infoZ (by decide) l.length (by omega)
  go_enter Try.func24, Try.ntmps24
  go_wp2
  go_ret
  have h := (Blk.made w l.length).R w.heap.size (Nat.le_refl _) (by simp; omega)
  rw [HZ.out] at h
  have hl : (ordOf l).length = l.length := (ordOf_isOrd l).len
  rw [hl] at h
  exact ⟨_, rfl, Kd.R_mono h (fun _ _ => trivial), (Below.refl _ _).alloc (Nat.le_refl _) _⟩

def haystackref6_stable.f (l : List Int) : Option (List Int) := if 65536 < l.length then none else some (ordOf l)
theorem haystackref6_stable.calls (A0 : Option Addr) (c0 : Nat) (l0 : List Int) (r : List Int) (w : World) (hr0 : Kd.C (Kd.int .i64) w A0 l0.length l0) (hc0 : l0.length ≤ c0) (h : haystackref6_stable.f l0 = some r) :
    Calls Try.prog 24 #[.slice A0 l0.length c0] w fun e w' => ∃ v0_ : Value, e = .returned v0_ ∧ Kd.R (Kd.int .i64) 3 w' w.heap.size (fun _ => True) v0_ r ∧ Below w.heap.size w w' := by
  unfold haystackref6_stable.f at h
  by_cases h1 : 65536 < l0.length
  · rw [if_pos h1] at h; cases h
  · rw [if_neg h1] at h
    obtain rfl := Option.some.inj h
    by_cases h2 : l0.length < 2
    · exact stable_few A0 c0 l0 w h2
    · exact stable_main A0 c0 l0 w (by omega) (by omega) hc0 hr0
end Go.Proofs.Ytdbjbeebjigofaa.Hand
