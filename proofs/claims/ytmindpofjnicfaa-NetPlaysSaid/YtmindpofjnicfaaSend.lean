import Derived.Test.YtmindpofjnicfaaNet
namespace Go.Proofs.Ytmindpofjnicfaa.Hand
open Go.RowKit Go.Proofs.Ytmindpofjnicfaa.PA Go.Proofs.YtmindpofjnicfaaW.PrintWords Go.Proofs.YtmindpofjnicfaaW.PrintLast Go.Proofs.YtmindpofjnicfaaW.PrintMore
attribute [local go_sem] max2_int min2_int

theorem info28 : (Try.prog.info? 28).map (fun i => (i.zero, i.size, i.bytes)) = some (some (.agg #[.int .i64 0, .int .i64 0, .slice none 0 0]), 3, 40) := by kernel_rfl
def manyOf (n m : Nat) : Nat := min m (1024 - n)
theorem e28 : ∀ q, q ∈ 28 :: k28.E → q ≠ 53 := by
  intro q hq
  have : q = 28 ∨ q = 5 := by simpa [k28, Kd.iso, Kd.pair, Kd.slice, Kd.int, Kd.scalar] using hq
  omega
theorem send_ends {w0 w wr W2 w3 : World} {ok : Nat → Prop} {g : Nat} {v u : Value} {A1 : Option Addr} {c1 : Nat} {lk : List S28} {x : S28} (hy : w0.heap.size ≤ g) (hok : ok g)
    (HK : Kept w wr (fun q => q = g ∨ some q = v.ownBlock)) (HK2 : Kept wr W2 (fun _ => False)) (HG3 : W2.drew.grownBy w3 u.ownBlock) (HU : u.ownBlock = v.ownBlock ∨ ∃ b, u.ownBlock = some b ∧ w.heap.size ≤ b)
    (HAT : (Value.slice A1 (lk ++ [x]).length c1).ownBlock = u.ownBlock ∨ ∃ b, (Value.slice A1 (lk ++ [x]).length c1).ownBlock = some b ∧ W2.drew.heap.size ≤ b)
    (HS3 : Kd.S k28 28 w3 w0.heap.size (fun q => ok q ∨ w.heap.size ≤ q) (.slice A1 (lk ++ [x]).length c1) (lk ++ [x])) (HB3 : Below w0.heap.size w0 w3) {z : Value} (HGG : w3.heap[g]? = some (.cells #[z] 53 (0, 0))) :
    IsNet (w3.setCell ⟨g, 0, none⟩ (.slice A1 (lk ++ [x]).length c1)) w0.heap.size (fun q => ok q ∨ w.heap.size ≤ q) g (.slice A1 (lk ++ [x]).length c1) (lk ++ [x]) ∧ Below w0.heap.size w0 (w3.setCell ⟨g, 0, none⟩ (.slice A1 (lk ++ [x]).length c1)) ∧
      Kept w (w3.setCell ⟨g, 0, none⟩ (.slice A1 (lk ++ [x]).length c1)) (fun q => q = g ∨ some q = v.ownBlock) ∧
      ((Value.slice A1 (lk ++ [x]).length c1).ownBlock = v.ownBlock ∨ ∃ b, (Value.slice A1 (lk ++ [x]).length c1).ownBlock = some b ∧ w.heap.size ≤ b) := by
  have hs1 := HK.1
  have hs2 := HK2.1
  refine ⟨⟨by simpa using blk_set HGG 0 (.slice A1 (lk ++ [x]).length c1), .inl hok, hy, Kd.S_set HS3 HGG e28 0 _⟩, HB3.setCell hy _, ?_, ?_⟩
  · refine Kept.setCell (Kept.of_grown HG3 (Kept.drew (HK.then_ HK2 (fun _ h => h.elim))) (fun q hq => ?_)) (.inl (.inl rfl)) _
    rcases HU with h | ⟨b, h, hb⟩
    · exact .inl (.inr (by rw [← h]; exact hq.symm))
    · rw [h] at hq
      cases hq
      exact .inr hb
  · rcases HAT with h | ⟨b, h, hb⟩
    · rw [h]; exact HU
    · exact .inr ⟨b, h, by simp at hb; omega⟩
set_option maxHeartbeats 1000000 in
theorem send_calls (w0 w : World) (ok : Nat → Prop) (g : Nat) (v : Value) (l : List S28) (hB : Below w0.heap.size w0 w) (hN : IsNet w w0.heap.size ok g v l)
    (A : Option Addr) (c : Nat) (m : List S28) (hm : ∀ W', Kept w W' (fun k => k = g ∨ some k = v.ownBlock) → Kd.C k28 W' A m.length m) (hc : m.length ≤ c) (hd : ∀ x ∈ m, x.f2.length ≤ 140737488355328) (hl : l.length ≤ 1024) :
    Calls Try.prog 9 #[.pointer (some ⟨g, 0, none⟩), .slice A m.length c] w fun e w' => e = .returned (.int .i64 (manyOf l.length m.length)) ∧
      ∃ v', IsNet w' w0.heap.size (fun k => ok k ∨ w.heap.size ≤ k) g v' (l ++ m.take (manyOf l.length m.length)) ∧ Below w0.heap.size w0 w' ∧ Kept w w' (fun k => k = g ∨ some k = v.ownBlock) ∧
        (v'.ownBlock = v.ownBlock ∨ ∃ b, v'.ownBlock = some b ∧ w.heap.size ≤ b) := by
  obtain ⟨Av, cv, rfl, hlv, hCv⟩ := Kd.S_reads hN.row
  have h0 : w.cell? ⟨g, 0, none⟩ = some (.slice Av l.length cv) := (blk_cell hN.here 0).trans rfl
  obtain ⟨M, hM, HMe⟩ : ∃ M : Nat, (min (m.length : Int) (max 0 (1024 - (l.length : Int)))) = (M : Int) ∧ Aside0 (M = manyOf l.length m.length) := ⟨manyOf l.length m.length, by unfold manyOf; omega, ⟨rfl⟩⟩
  have hMm : M ≤ m.length := by omega
  have hMl : l.length + M ≤ 1024 := by omega
  have HRow := Aside0.mk hN.row
  have HCv := Aside0.mk hCv
  have HM := Aside0.mk hm
  have HD := Aside0.mk hd
  have HN := Aside0.mk hN
  have HB := Aside0.mk hB
  clear hCv hm hd hN hB
  go_enter Try.func9, Try.ntmps9
  go_wp2
  clear hM
  go_loopg [24] M (fun gk s24 wr => ∃ (k : Nat) (u : Value), k ≤ M ∧ M - k ≤ gk ∧ s24 = .int .i64 k ∧ Aside0 (IsNet wr w0.heap.size (fun q => ok q ∨ w.heap.size ≤ q) g u (l ++ m.take k)) ∧ Aside0 (Below w0.heap.size w0 wr) ∧ Aside0 (Kept w wr (fun q => q = g ∨ some q = (Value.slice Av l.length cv).ownBlock)) ∧ Aside0 (u.ownBlock = (Value.slice Av l.length cv).ownBlock ∨ ∃ b, u.ownBlock = some b ∧ w.heap.size ≤ b))
  case atStart =>
    exact ⟨0, _, Nat.zero_le _, by omega, rfl, ⟨by simpa using ⟨HN.out.here, .inl HN.out.mine, HN.out.young, Kd.S_mono HN.out.row (fun _ h => .inl h)⟩⟩, HB, ⟨Kept.refl _ _⟩, ⟨.inl rfl⟩⟩
  case round =>
    obtain ⟨k, u, hk, hgk, rfl, HI, HB1, HK, HU⟩ := hrel
    obtain ⟨lk, hlk, hlkl⟩ : ∃ lk, lk = l ++ m.take k ∧ lk.length ≤ 1024 := ⟨_, rfl, by simp; omega⟩
    rw [← hlk] at HI
    have HLk := Aside0.mk hlk
    clear hlk
    by_cases hlt : k < M
    · obtain ⟨gk, rfl⟩ : ∃ q, gk = q + 1 := ⟨gk - 1, by omega⟩
      have HRm := HM.out wr HK.out
      obtain ⟨ad, A2, c2, rfl, hx0, hx1, hx2, hc2, hr2⟩ := at_T28 HRm (k : Int) (by omega) (by omega)
      simp only [Int.toNat_natCast] at hx0 hx1 hx2
      have hmem : rd_T28 m (k : Int) ∈ m := by unfold rd_T28; rw [Int.toNat_natCast, List.getD_eq_getElem?_getD, List.getElem?_eq_getElem (by omega)]; exact List.getElem_mem _
      have HDk := Aside0.mk (HD.out _ hmem)
      have HR2 := Aside0.mk hr2
      have HC2 := Aside0.mk hc2
      generalize hx : rd_T28 m (k : Int) = x at *
      have HX := Aside0.mk hx
      clear hx hmem hr2 hc2 HRm
      obtain ⟨x0, x1, x2⟩ := x
      obtain ⟨Au, cu, rfl, hlu, hCu⟩ := Kd.S_reads HI.out.row
      have HCu := Aside0.mk hCu
      clear hCu
      have hgw : wr.cell? ⟨g, 0, none⟩ = some (.slice Au lk.length cu) := (blk_cell HI.out.here 0).trans rfl
      have HG := Aside0.mk HI.out.here
      go_wp2_with fail
      refine (clone_calls A2 c2 x2 _ (Kd.C_alloc HR2.out _) HDk.out).mono ?_
      rintro e w1 ⟨vd, rfl, hRd, hBd⟩
      obtain ⟨Ad, cd, rfl⟩ := Kd.R_slice hRd
      have HRd := Aside0.mk hRd
      have HBd := Aside0.mk hBd
      have hsz := hBd.size
      clear hRd hBd
      have hb7 : w1.heap[wr.heap.size]? = some (.cells #[.int .i64 x0, .int .i64 x1, .slice A2 x2.length c2] 28 (0, 0)) := (HBd.out.block _ (by simp)).trans (heap_alloc_new wr _)
      have c70 := (blk_cell hb7 0).trans rfl
      have c71 := (blk_cell hb7 1).trans rfl
      have c72 := (blk_cell hb7 2).trans rfl
      have hg1 : w1.heap[g]? = some (.cells #[.slice Au lk.length cu] 53 (0, 0)) := (HBd.out.block _ (by have := blk_lt HG.out; simp; omega)).trans (blk_alloc HG.out _)
      have cg := (blk_cell hg1 0).trans rfl
      have hne : g ≠ wr.heap.size := by have := blk_lt HG.out; omega
      have HB7 := Aside0.mk hb7
      have HG1 := Aside0.mk hg1
      have f72 := blk_frozen hb7 2
      have fg := blk_frozen hg1 0
      clear hb7 hg1
      go_wp2
      clear h0 hx0 hx1 hx2 c70 c71 c72 cg f72 fg
      have hb7 : (w1.setCell ⟨wr.heap.size, 2, none⟩ (.slice Ad x2.length cd)).heap[wr.heap.size]? = some (.cells #[.int .i64 x0, .int .i64 x1, .slice Ad x2.length cd] 28 (0, 0)) := by simpa using blk_set HB7.out 2 (.slice Ad x2.length cd)
      have hg1 := blk_far (p := ⟨wr.heap.size, 2, none⟩) HG1.out hne (.slice Ad x2.length cd)
      have hS1 : Kd.S k28 28 w1 w0.heap.size (fun q => (ok q ∨ w.heap.size ≤ q) ∧ q < wr.heap.size) (.slice Au lk.length cu) lk :=
        Kd.S_below (Kd.S_alloc (Kd.S_mono (Kd.S_bound HI.out.row) (fun q hq => ⟨hq.1, hq.2.2.1⟩)) _) HBd.out
      have hS2 := Kd.S_far (p := ⟨wr.heap.size, 2, none⟩) hS1 (fun q hq => by have := hq.2; simp; omega) (.slice Ad x2.length cd)
      have hD1 : (Kd.int .u8).R 5 w1 w0.heap.size (fun q => wr.heap.size + 1 ≤ q) (.slice Ad x2.length cd) x2 :=
        Kd.R_lower (Kd.R_mono (Kd.R_bound HRd.out) (fun q hq => by simpa using hq.2.1)) (by have := HB1.out.size; simp; omega)
      have hD2 := Kd.R_far (p := ⟨wr.heap.size, 2, none⟩) hD1 (fun q hq => by simp; omega) (.slice Ad x2.length cd)
      have hB2 : Below w0.heap.size w0 (w1.setCell ⟨wr.heap.size, 2, none⟩ (.slice Ad x2.length cd)) := (((HB1.out.alloc HB1.out.size _).trans (HBd.out.mono (by have := HB1.out.size; simp; omega))).setCell (by have := HB1.out.size; simp; omega) _)
      have hK2 : Kept wr (w1.setCell ⟨wr.heap.size, 2, none⟩ (.slice Ad x2.length cd)) (fun _ => False) := Kept.setCell (((Kept.refl _ _).alloc _).below HBd.out) (.inr (Nat.le_refl _)) _
      have hz2 : (w1.setCell ⟨wr.heap.size, 2, none⟩ (.slice Ad x2.length cd)).heap.size = w1.heap.size := by simp [World.setCell]
      generalize w1.setCell ⟨wr.heap.size, 2, none⟩ (.slice Ad x2.length cd) = W2 at *
      have c70 := (blk_cell hb7 0).trans rfl
      have c71 := (blk_cell hb7 1).trans rfl
      have c72 := (blk_cell hb7 2).trans rfl
      have cg := (blk_cell hg1 0).trans rfl
      have fg := blk_frozen hg1 0
      have HG2 := Aside0.mk hg1
      have HS2 := Aside0.mk hS2
      have HD2 := Aside0.mk hD2
      have HB2 := Aside0.mk hB2
      have HK2 := Aside0.mk hK2
      have HZ2 := Aside0.mk hz2
      clear hb7 hg1 hS1 hS2 hD1 hD2 hB2 hK2 hz2 hsz
      have HA1 : Aside0 (∀ q, wr.heap.size + 1 ≤ q → (ok q ∨ w.heap.size ≤ q) ∧ some q ≠ (Value.slice Au lk.length cu).ownBlock) := ⟨fun q hq => ⟨.inr (by have := HK.out.1; omega), fun e => by have := Kd.S_lt HI.out.row q e.symm; omega⟩⟩
      have HA3 : Aside0 (∀ q, ((ok q ∨ w.heap.size ≤ q) ∧ q < wr.heap.size) → (ok q ∨ w.heap.size ≤ q) ∧ ¬ wr.heap.size + 1 ≤ q) := ⟨fun q hq => ⟨hq.1, by omega⟩⟩
      have HA2 : Aside0 (∀ q, W2.drew.heap.size ≤ q → ok q ∨ w.heap.size ≤ q) := ⟨fun q hq => .inr (by have := HK.out.1; have := HK2.out.1; simp at hq; omega)⟩
      have HA4 : Aside0 (w0.heap.size ≤ W2.drew.heap.size) := ⟨by have := HB2.out.size; simpa using this⟩
      have HA5 : Aside0 ((lk.length + 1) * 40 ≤ 140737488355328) := ⟨by omega⟩
      have HX3 : Aside0 (∀ w3 : World, W2.drew.grownBy w3 (Value.slice Au lk.length cu).ownBlock → w3.heap[g]? = some (.cells #[.slice Au lk.length cu] 53 (0, 0))) := ⟨fun w3 hG => blk_grown (blk_drew HG2.out) hG (Kd.S_ne HS2.out HG2.out (by decide))⟩
      have cgA : ∀ o, (W2.alloc o).cell? ⟨g, 0, none⟩ = some (.slice Au lk.length cu) := fun o => (blk_cell (blk_alloc HG2.out o) 0).trans rfl
      go_region_law (refine Kd.S_append_step k28 (w0 := w0) (W := W2.drew) w0.heap.size (by rfl) (.tmp 36) (.tmp 38) 41 28 (.agg #[.int .i64 0, .int .i64 0, .slice none 0 0]) 40 rfl Try.underlying41 info28 rfl (by decide) (by decide) (.slice Au lk.length cu) lk ⟨x0, x1, x2⟩ [.int .i64 x0, .int .i64 x1, .slice Ad x2.length cd] (fun q => ok q ∨ w.heap.size ≤ q) (fun q => wr.heap.size + 1 ≤ q) rfl rfl (k28_mkM _ _ _ _ (Kd.R_drew HD2.out)) HA1.out HA2.out (Kd.S_drew (Kd.S_mono HS2.out HA3.out)) HB2.out.drew HA4.out HA5.out ?_; intro v1 w3 hS hB3 hG3 hat3; obtain ⟨A1, c1, rfl⟩ := Kd.S_slice hS; have hg3 := HX3.out w3 hG3; have cg3 := (blk_cell hg3 0).trans rfl; have fg3 := blk_frozen hg3 0; have HS3 := Aside0.mk hS; have HB3 := Aside0.mk hB3; have HG3 := Aside0.mk hG3; have HAT3 := Aside0.mk hat3; have HGG3 := Aside0.mk hg3; clear hS hB3 hG3 hat3 hg3)
      all_goals
        go_wp2
        go_roundg gk
        case measure => omega
        case rel =>
          obtain ⟨h1, h2, h3, h4⟩ := send_ends HN.out.young HN.out.mine HK.out HK2.out HG3.out HU.out HAT3.out HS3.out HB3.out HGG3.out
          have he : lk ++ [⟨x0, x1, x2⟩] = l ++ m.take (k + 1) := by
            rw [HLk.out, List.take_succ_eq_append_getElem (by omega), List.append_assoc, ← HX.out]
            unfold rd_T28
            rw [Int.toNat_natCast, List.getD_eq_getElem?_getD, List.getElem?_eq_getElem (by omega)]
            rfl
          simp only [List.length_append, List.length_cons, List.length_nil, Nat.zero_add] at h1 h2 h3 h4
          exact ⟨k + 1, .slice A1 (lk.length + 1) c1, by omega, by omega, by go_num, ⟨by rw [← he]; exact h1⟩, ⟨h2⟩, ⟨h3⟩, ⟨h4⟩⟩
    · go_wp2
      go_ret
      obtain rfl : k = M := by omega
      rw [← HMe.out]
      refine ⟨rfl, u, ?_, HB1.out, HK.out, HU.out⟩
      rw [← HLk.out]
      exact HI.out
end Go.Proofs.Ytmindpofjnicfaa.Hand
