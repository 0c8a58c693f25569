import Derived.Test.YtmindpofjnicfaaSend
namespace Go.Proofs.Ytmindpofjnicfaa.Hand
open Go.RowKit Go.Proofs.Ytmindpofjnicfaa.PA Go.Proofs.YtmindpofjnicfaaW.PrintWords Go.Proofs.YtmindpofjnicfaaW.PrintLast Go.Proofs.YtmindpofjnicfaaW.PrintMore
attribute [local go_sem] max2_int min2_int
/-- A store behind a row's length: the row stands. -/
theorem own_spare {w : World} {base : Nat} {e : TypeId} {size n c g : Nat} {xs : List Value} (h : w.ownsRow base e size (.slice (some ⟨g, 0, none⟩) n c) n xs) (j : Nat) (hj : n * size ≤ j) (u : Value) :
    (w.setCell ⟨g, j, none⟩ u).ownsRow base e size (.slice (some ⟨g, 0, none⟩) n c) n xs := by
  obtain ⟨h1, h2⟩ := h
  refine ⟨h1, .inr ?_⟩
  rcases h2 with ⟨h2, _⟩ | ⟨g', cap, cur, he, hb, hh, h3, h4, h5, h6⟩
  · cases h2
  · cases he
    refine ⟨g, c, cur.setIfInBounds j u, rfl, hb, blk_set hh j u, h3, h4, by simpa using h5, ?_⟩
    rw [← h6]
    apply List.ext_getElem?
    intro q
    rw [List.getElem?_take, List.getElem?_take]
    split
    · rename_i hq
      rw [Array.toList_setIfInBounds, List.getElem?_set_ne (by omega)]
    · rfl
theorem R_spare {α : Type} {d : Kd α} {e : Nat} {w : World} {base : Nat} {ok : Nat → Prop} {g n c : Nat} {xs : List α} (h : d.R e w base ok (.slice (some ⟨g, 0, none⟩) n c) xs) (hn : n = xs.length) (j : Nat) (hj : n * d.sz ≤ j) (u : Value) :
    d.R e (w.setCell ⟨g, j, none⟩ u) base ok (.slice (some ⟨g, 0, none⟩) n c) xs := by
  subst hn
  obtain ⟨h0, inner, ho, hr⟩ := h
  exact ⟨h0, inner, own_spare ho j hj u, hr.imp_ (fun _ _ hp => Kd.M_far (p := ⟨g, j, none⟩) hp (fun k hk => fun e => hk.2 (by simp [Value.ownBlock, e])) u)⟩
theorem R_room {α : Type} {d : Kd α} {e : Nat} {w : World} {base : Nat} {ok : Nat → Prop} {g n c : Nat} {xs : List α} (h : d.R e w base ok (.slice (some ⟨g, 0, none⟩) n c) xs) (hn : n = xs.length) : n ≤ c ∧ c ≤ maxLen ∧ ∀ j, j < c * d.sz → (∃ u, w.cell? ⟨g, j, none⟩ = some u) ∧ w.frozen? ⟨g, j, none⟩ = false := by
  subst hn
  obtain ⟨h0, inner, ho, hr⟩ := h
  rcases ho.2 with ⟨h2, _⟩ | ⟨g', cap, cur, he, hb, hh, h3, h4, h5, h6⟩
  · cases h2
  · cases he
    refine ⟨h3, h4, fun j hj => ⟨⟨cur[j]'(by omega), ?_⟩, blk_frozen hh j⟩⟩
    rw [blk_cell hh j, Array.getElem?_eq_getElem]
theorem spare_all {α : Type} {d : Kd α} {e : Nat} {w0 : World} {base : Nat} {ok : Nat → Prop} {g n c : Nat} {xs : List α} (hn : n = xs.length) (hg : base ≤ g) : ∀ (vs : List Value) (j : Nat) (w : World), d.R e w base ok (.slice (some ⟨g, 0, none⟩) n c) xs → n * d.sz ≤ j → Below base w0 w →
    d.R e (w.setCells g j vs) base ok (.slice (some ⟨g, 0, none⟩) n c) xs ∧ Below base w0 (w.setCells g j vs) ∧ Kept w (w.setCells g j vs) (fun k => k = g)
  | [], j, w, h, hj, hB => ⟨h, hB, Kept.refl _ _⟩
  | v :: vs, j, w, h, hj, hB => by
    obtain ⟨h1, h2, h3⟩ := spare_all hn hg vs (j + 1) (w.setCell ⟨g, j, none⟩ v) (R_spare h hn j hj v) (by omega) (hB.setCell hg v)
    exact ⟨h1, h2, (Kept.setCell (p := ⟨g, j, none⟩) (Kept.refl w (fun k => k = g)) (.inl rfl) v).then_ h3 (fun k hk => .inl hk)⟩
theorem zero28 (w : World) : (zeroValue 28).run Try.prog w = .ok (.agg #[.int .i64 0, .int .i64 0, .slice none 0 0]) w := by kernel_rfl
theorem clear_row {α : Type} {d : Kd α} (hsz : d.sz = 3) {w0 w : World} {base : Nat} {ok : Nat → Prop} {g n c : Nat} {xs : List α} (h : d.R 28 w base ok (.slice (some ⟨g, 0, none⟩) n c) xs) (hn : n = xs.length) (hB : Below base w0 w) (m : Nat) (hm : n + m ≤ c) (A : Option Addr) (hA : m ≠ 0 → A = some ⟨g, n * 3, none⟩) (c2 : Nat) :
    ∃ w', (∀ ty, (Builtin.clear_ #[41] ty #[.slice A m c2]).run Try.prog w = .ok (.tuple #[]) w') ∧ d.R 28 w' base ok (.slice (some ⟨g, 0, none⟩) n c) xs ∧ Below base w0 w' ∧ Kept w w' (fun k => k = g) := by
  by_cases h0 : m = 0
  · subst h0
    refine ⟨w, fun ty => ?_, h, hB, Kept.refl _ _⟩
    cases A <;> simp [Builtin.clear_, run_underlying Try.underlying41]
  · rw [hA h0]
    obtain ⟨_, _, hroom⟩ := R_room h hn
    have hg : base ≤ g := Kd.R_base h _ (by simp [Value.ownBlock])
    obtain ⟨h1, h2, h3⟩ := spare_all (w0 := w0) hn hg (Builtin.zeroCells (Value.agg #[.int .i64 0, .int .i64 0, .slice none 0 0]).cells m).toList (n * 3) w h (by rw [hsz]; exact Nat.le_refl _) hB
    refine ⟨_, fun ty => ?_, h1, h2, h3⟩
    have hzl : (Builtin.zeroCells (Value.agg #[.int .i64 0, .int .i64 0, .slice none 0 0]).cells m).toList.length = m * 3 := by simp [Builtin.zeroCells, Value.cells]
    have hst := run_storeCells_cells (P := Try.prog) g (n * 3) (Builtin.zeroCells (Value.agg #[.int .i64 0, .int .i64 0, .slice none 0 0]).cells m).toList 0 w
      (fun j hj => by rw [hzl] at hj; obtain ⟨⟨u, hu⟩, _⟩ := hroom (n * 3 + 0 + j) (by rw [hsz]; omega); rw [hu]; rfl)
      (fun j hj => by rw [hzl] at hj; exact (hroom (n * 3 + 0 + j) (by rw [hsz]; omega)).2)
      (fun v hv => by
        simp only [Builtin.zeroCells, Array.toList_map, List.mem_map, Value.cells] at hv
        obtain ⟨q, _, rfl⟩ := hv
        have : q % 3 < 3 := Nat.mod_lt _ (by decide)
        rcases (by omega : q % 3 = 0 ∨ q % 3 = 1 ∨ q % 3 = 2) with h | h | h <;> simp [h] <;> rfl)
    simp only [Nat.add_zero] at hst
    obtain ⟨q, rfl⟩ : ∃ q, m = q + 1 := ⟨m - 1, by omega⟩
    simp [Builtin.clear_, run_underlying Try.underlying41, hst]
set_option maxHeartbeats 1000000 in
theorem delete_calls {α : Type} (d : Kd α) (hsz : d.sz = 3) (w0 w : World) (ok : Nat → Prop) (r n c : Nat) (xs : List α) (hB : Below w0.heap.size w0 w) (hO : d.R 28 w w0.heap.size ok (.slice (some ⟨r, 0, none⟩) n c) xs) (hn : n = xs.length) (i : Nat) (hi : i < n) :
    Calls Try.prog 26 #[.slice (some ⟨r, 0, none⟩) n c, .int .i64 (i : Int), .int .i64 ((i : Int) + 1)] w fun e w' => e = .returned (.slice (some ⟨r, 0, none⟩) (n - 1) c) ∧
      d.R 28 w' w0.heap.size ok (.slice (some ⟨r, 0, none⟩) (n - 1) c) (xs.eraseIdx i) ∧ Below w0.heap.size w0 w' ∧ Kept w w' (fun k => k = r) := by
  obtain ⟨hnc, hcm, hroom⟩ := R_room hO hn
  have hbi : ((i : Int) == (i : Int) + 1) = false := beq_eq_false_iff_ne.2 (by omega)
  unfold maxLen at hcm
  have HO := Aside0.mk hO
  have HB := Aside0.mk hB
  have HN := Aside0.mk hn
  have HR := Aside0.mk hroom
  have HSZ := Aside0.mk hsz
  clear hO hB hn hroom hsz
  go_enter Try.func26, Try.ntmps26
  go_wp2
  have HB0 := Aside0.mk (HB.out.size)
  have HO2 := Aside0.mk (Kd.R_drew HO.out)
  have HB2 := Aside0.mk (HB.out.drew)
  have HB3 := Aside0.mk (HB2.out.size)
  have hic : i ≤ c := by omega
  have hic1 : i + 1 ≤ c := by omega
  have hj0 : 0 ≤ (i : Int) + 1 := by omega
  have hj1 : (i : Int) + 1 ≤ (n : Int) := by omega
  have hin : i ≤ n := by omega
  have hin1 : i + 1 ≤ n := by omega
  go_region_law (refine Kd.R_delete_step d (w0 := w0) (W := w.drew) w0.heap.size (by rfl) (.tmp 22) (.tmp 25) 41 28 rfl Try.underlying41 (by rw [HSZ.out]; exact (by kernel_rfl : (Try.prog.info? 28).map (·.size) = some 3)) (g := r) (n := n) (c := c) (k := i) (m := n - (i + 1)) (xs := xs) (ok := ok) rfl rfl (by rw [HSZ.out]; simp [Addr.add]) rfl HO2.out hi HB2.out HB3.out ?_; intro w1 h1 h2 h3)
  all_goals
    obtain ⟨w2, hcl, h4, h5, h6⟩ := clear_row HSZ.out h1 (by rw [List.length_eraseIdx, if_pos (by have := HN.out; omega), ← HN.out]) h2 (n - (n - 1)) (by omega) (some ⟨r, (n - 1) * 3, none⟩) (fun _ => rfl) (c - (n - 1))
    have h7 : Kept w w2 (fun k => k = r) := (Kept.of_grown h3 (Kept.drew (Kept.refl _ _)) (fun q hq => .inl (by cases hq; rfl))).then_ h6 (fun _ h => .inl h)
    go_wp2
    all_goals go_ret
    all_goals first
      | exact ⟨rfl, h4, h5, h7⟩
      | (subst h; exact ⟨rfl, h4, h5, h7⟩)
end Go.Proofs.Ytmindpofjnicfaa.Hand
