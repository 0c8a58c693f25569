import Derived.Test.YtmindpofjnicfaaDel
import Derived.Laws.ResultCell
namespace Go.Proofs.Ytmindpofjnicfaa.Hand
open Go.RowKit Go.Proofs.Ytmindpofjnicfaa.PA Go.Proofs.YtmindpofjnicfaaW.PrintWords Go.Proofs.YtmindpofjnicfaaW.PrintLast Go.Proofs.YtmindpofjnicfaaW.PrintMore
attribute [local go_sem] max2_int min2_int
theorem tag_out {α : Type} {d : Kd α} {e : Nat} {w : World} {base : Nat} {ok okm : Nat → Prop} {v : Value} {xs : List α} {f : Nat → Nat} {i : Nat} (h : (Kd.tag f d).R e w base ok v (xs.zipIdx.eraseIdx i)) (hm : ∀ k, okm k → some k ≠ v.ownBlock ∧ f k = i) :
    Kd.S d e w base (fun k => ok k ∧ ¬ okm k) v (xs.eraseIdx i) := by
  refine Kd.S_erase (f := f) ?_
  obtain ⟨h0, inner, ho, hr⟩ := h
  refine ⟨fun k hk => ⟨h0 k hk, fun h2 => (hm k h2).1 hk.symm⟩, inner, ho, hr.1, fun j p hj => ?_⟩
  have hp2 : p.2 ≠ i := by
    rw [List.getElem?_eraseIdx] at hj
    split at hj
    · rw [List.getElem?_zipIdx, Nat.zero_add] at hj
      obtain ⟨x, hx, rfl⟩ := Option.map_eq_some_iff.1 hj
      exact Nat.ne_of_lt ‹_›
    · rw [List.getElem?_zipIdx, Nat.zero_add] at hj
      obtain ⟨x, hx, rfl⟩ := Option.map_eq_some_iff.1 hj
      simp only; omega
  exact d.M_mono (fun k hk => ⟨⟨⟨hk.1.1, fun h2 => hp2 (hk.2.symm.trans (hm k h2).2)⟩, hk.1.2⟩, hk.2⟩) (hr.2 j p hj)
theorem o2_at (w : World) (o o2 : Obj) : ((w.alloc o).alloc o2).heap[w.heap.size + 1]? = some o2 := by
  have h := heap_alloc_new (w.alloc o) o2
  have e : (w.alloc o).heap.size = w.heap.size + 1 := by simp
  rw [e] at h
  exact h
theorem give_nil (p : Int) (w : World) : Calls Try.prog 11 #[.pointer none, .int .i64 p] w fun e w' => e = .returned (.tuple #[.agg #[.int .i64 0, .int .i64 0, .slice none 0 0], .bool false]) ∧ Below w.heap.size w w' := by
  go_enter Try.func11, Try.ntmps11
  go_wp2_with (go_at_call 25; refine (picked_nil _ _).mono ?_; rintro e w' ⟨rfl, rfl⟩)
  refine bodyPost_ret (v := .tuple #[.agg #[.int .i64 0, .int .i64 0, .slice none 0 0], .bool false]) ?_ rfl ⟨rfl, (Below.refl _ _).alloc (Nat.le_refl _) _⟩
  rw [results_cell_tmp rfl]
  go_simp
theorem give_none (g : Nat) (A : Option Addr) (c : Nat) (p : Int) (w : World) (h : w.cell? ⟨g, 0, none⟩ = some (.slice A 0 c)) : Calls Try.prog 11 #[.pointer (some ⟨g, 0, none⟩), .int .i64 p] w fun e w' => e = .returned (.tuple #[.agg #[.int .i64 0, .int .i64 0, .slice none 0 0], .bool false]) ∧ Below w.heap.size w w' := by
  go_enter Try.func11, Try.ntmps11
  go_wp2_with (go_at_call 25; refine (picked_none g A c p _ (Go.Lib.cell?_alloc_some _ h)).mono ?_; rintro e w' ⟨rfl, rfl⟩)
  refine bodyPost_ret (v := .tuple #[.agg #[.int .i64 0, .int .i64 0, .slice none 0 0], .bool false]) ?_ rfl ⟨rfl, (Below.refl _ _).alloc (Nat.le_refl _) _⟩
  rw [results_cell_tmp rfl]
  go_simp
theorem give_ends {w0 w w1 : World} {ok : Nat → Prop} {g r c : Nat} {l : List S28} {i : Nat} {f : Nat → Nat} {x0 x1 x2 : Value} {o o2 : Obj} {c0 c1 c2 : Value} {zg : Value} {xs : List Int}
    (hB : Below w0.heap.size w0 w) (hN : IsNet w w0.heap.size ok g (.slice (some ⟨r, 0, none⟩) l.length c) l) (hK : Kept ((w.alloc o).alloc o2) w1 (fun k => k = r)) (hB1 : Below w0.heap.size w0 w1)
    (hR : (Kd.tag f k28).R 28 w1 w0.heap.size (fun k => ok k ∧ k < w.heap.size) (.slice (some ⟨r, 0, none⟩) (l.length - 1) c) (l.zipIdx.eraseIdx i))
    (hres : w1.heap[w.heap.size]? = some (.cells #[c0, c1, c2] 28 (0, 0))) (hg : w1.heap[g]? = some (.cells #[zg] 53 (0, 0)))
    (hR2 : (Kd.int .u8).R 5 w w0.heap.size (fun k => (ok k ∧ some k ≠ (Value.slice (some ⟨r, 0, none⟩) l.length c).ownBlock) ∧ f k = i) x2 xs) (n1 : g ≠ w.heap.size) :
    let W := (((w1.setCell ⟨g, 0, none⟩ (.slice (some ⟨r, 0, none⟩) (l.length - 1) c)).setCell ⟨w.heap.size, 0, none⟩ x0).setCell ⟨w.heap.size, 1, none⟩ x1).setCell ⟨w.heap.size, 2, none⟩ x2
    W.heap[w.heap.size]? = some (.cells #[x0, x1, x2] 28 (0, 0)) ∧ ∃ okm, (Kd.int .u8).R 5 W w0.heap.size okm x2 xs ∧ (∀ k, okm k → ok k ∧ k ≠ g ∧ some k ≠ (Value.slice (some ⟨r, 0, none⟩) l.length c).ownBlock) ∧
      IsNet W w0.heap.size (fun k => ok k ∧ ¬ okm k) g (.slice (some ⟨r, 0, none⟩) (l.length - 1) c) (l.eraseIdx i) ∧ Below w0.heap.size w0 W ∧ Kept w W (fun k => k = g ∨ some k = (Value.slice (some ⟨r, 0, none⟩) l.length c).ownBlock) := by
  intro W
  have hy := hN.young
  have hs := hB.size
  have hKW : Kept w W (fun k => k = g ∨ some k = (Value.slice (some ⟨r, 0, none⟩) l.length c).ownBlock) :=
    ((((((((Kept.refl w _).alloc o).alloc o2).then_ hK (fun k hk => .inl (.inr (by rw [hk]; rfl)))).setCell (p := ⟨g, 0, none⟩) (.inl (.inl rfl)) _).setCell (p := ⟨w.heap.size, 0, none⟩) (.inr (Nat.le_refl _)) _).setCell (p := ⟨w.heap.size, 1, none⟩) (.inr (Nat.le_refl _)) _).setCell (p := ⟨w.heap.size, 2, none⟩) (.inr (Nat.le_refl _)) _)
  refine ⟨?_, fun k => (((ok k ∧ some k ≠ (Value.slice (some ⟨r, 0, none⟩) l.length c).ownBlock) ∧ f k = i) ∧ k ≠ g), ?_, fun k hk => ⟨hk.1.1.1, hk.2, hk.1.1.2⟩, ⟨?_, ?_, hy, ?_⟩, ?_, hKW⟩
  · have h := blk_set (blk_set (blk_set (blk_far (p := ⟨g, 0, none⟩) hres (Ne.symm n1) (.slice (some ⟨r, 0, none⟩) (l.length - 1) c)) 0 x0) 1 x1) 2 x2
    simpa using h
  · exact Kd.R_step (Kd.R_types hR2 hN.here (by intro q hq; simp [Kd.int, Kd.scalar] at hq; omega)) (fun k hk hlt => hKW.2 k hlt (fun h => h.elim hk.2 hk.1.1.2))
  · have h := blk_far (p := ⟨w.heap.size, 2, none⟩) (blk_far (p := ⟨w.heap.size, 1, none⟩) (blk_far (p := ⟨w.heap.size, 0, none⟩) (blk_set hg 0 (.slice (some ⟨r, 0, none⟩) (l.length - 1) c)) n1 x0) n1 x1) n1 x2
    simpa using h
  · exact ⟨hN.mine, fun h => h.2 rfl⟩
  · refine Kd.S_mono (tag_out (okm := fun k => (((ok k ∧ some k ≠ (Value.slice (some ⟨r, 0, none⟩) l.length c).ownBlock) ∧ f k = i) ∧ k ≠ g)) (f := f) (ok := fun k => ok k ∧ k < w.heap.size) ?_ (fun k hk => ⟨hk.1.1.2, hk.1.2⟩)) (fun k hk => ⟨hk.1.1, hk.2⟩)
    refine Kd.R_far (p := ⟨w.heap.size, 2, none⟩) (Kd.R_far (p := ⟨w.heap.size, 1, none⟩) (Kd.R_far (p := ⟨w.heap.size, 0, none⟩) (Kd.R_set hR hg e28 0 _) (fun q hq => ?_) _) (fun q hq => ?_) _) (fun q hq => ?_) _
    all_goals (have := hq.2; simp; omega)
  · exact (((hB1.setCell hy _).setCell hs _).setCell hs _).setCell hs _
set_option maxHeartbeats 1000000 in
theorem give_calls (w0 w : World) (ok : Nat → Prop) (g : Nat) (v : Value) (l : List S28) (hB : Below w0.heap.size w0 w) (hN : IsNet w w0.heap.size ok g v l) (p : Int) (hl : 0 < l.length) :
    Calls Try.prog 11 #[.pointer (some ⟨g, 0, none⟩), .int .i64 p] w fun e w' => ∃ (v2 v' : Value) (okm : Nat → Prop), e = .returned (.tuple #[.agg #[.int .i64 (rd_T28 l (pickOf p l.length)).f0, .int .i64 (rd_T28 l (pickOf p l.length)).f1, v2], .bool true]) ∧
      (Kd.int .u8).R 5 w' w0.heap.size okm v2 (rd_T28 l (pickOf p l.length)).f2 ∧ (∀ k, okm k → ok k ∧ k ≠ g ∧ some k ≠ v.ownBlock) ∧ IsNet w' w0.heap.size (fun k => ok k ∧ ¬ okm k) g v' (l.eraseIdx (pickOf p l.length).toNat) ∧ Below w0.heap.size w0 w' ∧
      Kept w w' (fun k => k = g ∨ some k = v.ownBlock) ∧ v'.ownBlock = v.ownBlock := by
  obtain ⟨r, c, rfl, hg0, hr0, hr1, hrow⟩ : ∃ r c, v = .slice (some ⟨r, 0, none⟩) l.length c ∧ w0.heap.size ≤ r ∧ r < w.heap.size ∧ True ∧ Kd.S k28 28 w w0.heap.size ok (.slice (some ⟨r, 0, none⟩) l.length c) l := by
    obtain ⟨r, c, h1, h2, h3, _⟩ := Kd.S_form hN.row hl
    exact ⟨r, c, h1, h2, h3, trivial, by rw [← h1]; exact hN.row⟩
  obtain ⟨i, hi⟩ : ∃ i : Nat, pickOf p l.length = (i : Int) := ⟨(pickOf p l.length).toNat, (Int.toNat_of_nonneg (Int.emod_nonneg (max 0 p) (by omega : (l.length : Int) ≠ 0))).symm⟩
  have hil : i < l.length := by have h2 : pickOf p l.length < l.length := by { unfold pickOf; exact Int.emod_lt_of_pos _ (by omega) }; omega
  have hpk := fun W h => picked_some g (some ⟨r, 0, none⟩) l.length c p W h hl
  rw [hi] at hpk ⊢
  obtain ⟨f, hR⟩ := hrow
  obtain ⟨cs, hcs, hM, hcell⟩ := Kd.R_getA hR ((⟨0, 0, []⟩ : S28), 0) (i : Int) (by omega) (by omega)
  have hgd : l.zipIdx.getD (i : Int).toNat ((⟨0, 0, []⟩ : S28), 0) = (rd_T28 l i, i) := by
    unfold rd_T28
    rw [Int.toNat_natCast, List.getD_eq_getElem?_getD, List.getElem?_zipIdx, List.getElem?_eq_getElem hil, List.getD_eq_getElem?_getD, List.getElem?_eq_getElem hil]
    simp
  rw [hgd] at hM
  obtain ⟨v2, rfl, hR2⟩ := k28_openM hM
  obtain ⟨A2, c2, rfl⟩ := Kd.R_slice hR2
  have z0 := hcell 0 _ rfl
  have z1 := hcell 1 _ rfl
  have z2 := hcell 2 _ rfl
  simp only [Int.toNat_natCast, Addr.add_lit, Nat.add_zero, Nat.zero_add, show (Kd.tag f k28).sz = 3 from rfl] at z0 z1 z2
  have z0 : ∀ o, (w.alloc o).cell? ⟨r, i * 3, none⟩ = _ := fun o => Go.Lib.cell?_alloc_some o z0
  have z1 : ∀ o, (w.alloc o).cell? ⟨r, i * 3 + 1, none⟩ = _ := fun o => Go.Lib.cell?_alloc_some o z1
  have z2 : ∀ o, (w.alloc o).cell? ⟨r, i * 3 + 2, none⟩ = _ := fun o => Go.Lib.cell?_alloc_some o z2
  have zg : ∀ o, (w.alloc o).cell? ⟨g, 0, none⟩ = some (.slice (some ⟨r, 0, none⟩) l.length c) := fun o => (blk_cell (blk_alloc hN.here o) 0).trans rfl
  have zf : ∀ o, (w.alloc o).frozen? ⟨g, 0, none⟩ = false := fun o => blk_frozen (blk_alloc hN.here o) 0
  have zg2 : ∀ o o2, ((w.alloc o).alloc o2).cell? ⟨g, 0, none⟩ = some (.slice (some ⟨r, 0, none⟩) l.length c) := fun o o2 => (blk_cell (blk_alloc (blk_alloc hN.here o) o2) 0).trans rfl
  have hcm : (i : Int) + 1 ≤ 9223372036854775807 := by
    obtain ⟨h1, h2, _⟩ := R_room hR (by rw [List.length_zipIdx])
    unfold maxLen at h2
    omega
  have HR2 := Aside0.mk hR2
  have HR := Aside0.mk (Kd.R_mono (Kd.R_bound hR) (ok' := fun k => ok k ∧ k < w.heap.size) (fun k hk => ⟨hk.1, hk.2.2.1⟩))
  have HN := Aside0.mk hN
  have HB := Aside0.mk hB
  clear hR2 hR hM hcell hgd hN hB hcs
  go_enter Try.func11, Try.ntmps11
  go_wp2_with (go_at_call 25; refine (hpk _ (zg _)).mono ?_; rintro e w' ⟨rfl, rfl⟩)
  refine (delete_calls (Kd.tag f k28) rfl w0 _ _ r l.length c l.zipIdx ((HB.out.alloc HB.out.size _).alloc (by have := HB.out.size; simp; omega) _) (Kd.R_alloc (Kd.R_alloc HR.out _) _) (by rw [List.length_zipIdx]) i hil).mono ?_
  rintro e w1 ⟨rfl, hRd, hBd, hKd⟩
  have hgs := blk_lt HN.out.here
  have hrg : g ≠ r := by
    intro e
    have := Kd.S_typed HN.out.row r rfl
    obtain ⟨cells, hc⟩ := this
    rw [← e, HN.out.here] at hc
    cases hc
  have hg1 := (hKd.2 g (by simp; omega) hrg).trans (blk_alloc (blk_alloc HN.out.here _) _)
  have hres := (hKd.2 w.heap.size (by simp; omega) (by omega)).trans (blk_alloc (heap_alloc_new w _) _)
  have hm1 := (hKd.2 (w.heap.size + 1) (by simp) (by omega)).trans (o2_at w _ _)
  have HRd := Aside0.mk hRd
  have HBd := Aside0.mk hBd
  have HKd := Aside0.mk hKd
  clear hRd hBd hKd
  have cg := (blk_cell hg1 0).trans rfl
  have fg := blk_frozen hg1 0
  have n1 : g ≠ w.heap.size := by omega
  have n2 : g ≠ w.heap.size + 1 := by omega
  have n3 : w.heap.size + 1 ≠ w.heap.size := by omega
  have m0 := (blk_cell hm1 0).trans rfl
  have m1 := (blk_cell hm1 1).trans rfl
  have m2 := (blk_cell hm1 2).trans rfl
  have r0 := (blk_cell hres 0).trans rfl
  have r1 := (blk_cell hres 1).trans rfl
  have r2 := (blk_cell hres 2).trans rfl
  have q0 := blk_frozen hres 0
  have q1 := blk_frozen hres 1
  have q2 := blk_frozen hres 2
  have HG1 := Aside0.mk hg1
  have HRES := Aside0.mk hres
  clear hg1 hres hm1
  go_wp2
  have hW := give_ends (w0 := w0) (w := w) (w1 := w1) (x0 := .int .i64 (rd_T28 l i).f0) (x1 := .int .i64 (rd_T28 l i).f1) (x2 := .slice A2 (rd_T28 l i).f2.length c2) HB.out HN.out HKd.out HBd.out HRd.out HRES.out HG1.out HR2.out n1
  refine bodyPost_ret (v := .tuple #[.agg #[.int .i64 (rd_T28 l i).f0, .int .i64 (rd_T28 l i).f1, .slice A2 (rd_T28 l i).f2.length c2], .bool true]) ?_ rfl ?_
  · have hb := hW.1
    have w0' := (blk_cell hb 0).trans rfl
    have w1' := (blk_cell hb 1).trans rfl
    have w2' := (blk_cell hb 2).trans rfl
    clear hW hb
    rw [results_cell_tmp rfl]
    go_simp
  · obtain ⟨_, okm, h1, h2, h3, h4, h5⟩ := hW
    exact ⟨_, .slice (some ⟨r, 0, none⟩) (l.length - 1) c, okm, rfl, h1, h2, h3, h4, h5, rfl⟩
end Go.Proofs.Ytmindpofjnicfaa.Hand
