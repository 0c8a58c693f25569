import Derived.Test.YtmindpofjnicfaaGive
namespace Go.Proofs.Ytmindpofjnicfaa.Hand
open Go.RowKit Go.Proofs.Ytmindpofjnicfaa.PA Go.Proofs.YtmindpofjnicfaaW.PrintWords Go.Proofs.YtmindpofjnicfaaW.PrintLast Go.Proofs.YtmindpofjnicfaaW.PrintMore
attribute [local go_sem] max2_int min2_int
theorem R_reads_step {α : Type} {d : Kd α} {e : Nat} {w W : World} {base : Nat} {okx S : Nat → Prop} {v : Value} {xs : List α} (h : d.R e w base okx v xs) (hK : Kept w W S) (ha : ∀ k, okx k → ¬ S k) : d.R e W base okx v xs :=
  Kd.R_step h (fun k hk hlt => hK.2 k hlt (ha k hk))
theorem reads_one {W : World} {base : Nat} {okx S : Nat → Prop} {q : Nat} {x : S28} {v2 : Value} (hR : (Kd.int .u8).R 5 W base okx v2 x.f2) (hx : ∀ k, okx k → ¬ S k) (hq : W.heap[q]? = some (.cells #[.int .i64 x.f0, .int .i64 x.f1, v2] 28 (0, 0))) (hqS : ¬ S q) :
    ∀ W', Kept W W' S → Kd.C k28 W' (some ⟨q, 0, none⟩) [x].length [x] := by
  intro W' hK
  have hb := (hK.2 q (blk_lt hq) hqS).trans hq
  have hM := k28_mkM W' base okx x (R_reads_step hR hK hx)
  refine ⟨rfl, by simp, fun _ => ⟨_, rfl, fun j p hj => ?_⟩⟩
  cases j with
  | zero =>
    cases hj
    refine ⟨_, rfl, k28.K_of_M hM, fun i u hu => ?_⟩
    have h := blk_cell hb i
    rw [show (⟨q, 0, none⟩ : Addr).add (0 * k28.sz + i) = ⟨q, i, none⟩ from by simp [Addr.add]; omega]
    rw [h]
    simpa using hu
  | succ j => simp at hj
theorem IsNet.alloc {W : World} {base : Nat} {ok : Nat → Prop} {g : Nat} {v : Value} {l : List S28} (h : IsNet W base ok g v l) (o : Obj) : IsNet (W.alloc o) base ok g v l := ⟨blk_alloc h.here o, h.mine, h.young, Kd.S_alloc h.row o⟩
theorem IsNet.mono {W : World} {base : Nat} {ok ok' : Nat → Prop} {g : Nat} {v : Value} {l : List S28} (h : IsNet W base ok g v l) (hm : ∀ k, ok k → ok' k) : IsNet W base ok' g v l := ⟨h.here, hm _ h.mine, h.young, Kd.S_mono h.row hm⟩
theorem send_one (w0 w : World) (ok okx : Nat → Prop) (g : Nat) (v : Value) (l : List S28) (hB : Below w0.heap.size w0 w) (hN : IsNet w w0.heap.size ok g v l) (x : S28) (q N : Nat) (v2 : Value) (hR : (Kd.int .u8).R 5 w w0.heap.size okx v2 x.f2)
    (hx : ∀ k, okx k → k ≠ g ∧ some k ≠ v.ownBlock) (hq : w.heap[q]? = some (.cells #[.int .i64 x.f0, .int .i64 x.f1, v2] 28 (0, 0))) (hN0 : g < N ∧ ∀ k, v.ownBlock = some k → k < N) (hqN : N ≤ q) (hd : x.f2.length ≤ 140737488355328) (hl : l.length ≤ 1024) :
    Calls Try.prog 9 #[.pointer (some ⟨g, 0, none⟩), .slice (some ⟨q, 0, none⟩) 1 1] w fun e w' => e = .returned (.int .i64 (manyOf l.length 1)) ∧ ∃ v', IsNet w' w0.heap.size (fun k => ok k ∨ w.heap.size ≤ k) g v' (l ++ [x].take (manyOf l.length 1)) ∧ Below w0.heap.size w0 w' ∧
      Kept w w' (fun k => k = g ∨ some k = v.ownBlock) ∧ (v'.ownBlock = v.ownBlock ∨ ∃ b, v'.ownBlock = some b ∧ w.heap.size ≤ b) :=
  send_calls w0 w ok g v l hB hN (some ⟨q, 0, none⟩) 1 [x] (reads_one hR (fun k hk h => h.elim (hx k hk).1 (hx k hk).2) hq (fun h => h.elim (fun e => by have := hN0.1; omega) (fun e => by have := hN0.2 q e.symm; omega))) (by simp) (by simpa using hd) hl
theorem twice_nil (p : Int) (w : World) : Calls Try.prog 10 #[.pointer none, .int .i64 p] w fun e w' => e = .returned (.bool false) ∧ Below w.heap.size w w' := by
  go_enter Try.func10, Try.ntmps10
  go_wp2_with (go_at_call 25; refine (picked_nil _ _).mono ?_; rintro e w' ⟨rfl, rfl⟩)
  go_ret
  exact ⟨rfl, Below.refl _ _⟩
theorem late_nil (p : Int) (w : World) : Calls Try.prog 21 #[.pointer none, .int .i64 p] w fun e w' => e = .returned (.bool false) ∧ Below w.heap.size w w' := by
  go_enter Try.func21, Try.ntmps21
  go_wp2_with (go_at_call 11; refine (give_nil _ _).mono ?_; rintro e w' ⟨rfl, hb⟩)
  go_ret
  exact ⟨rfl, hb.alloc hb.size _⟩
theorem twice_none (g : Nat) (A : Option Addr) (c : Nat) (p : Int) (w : World) (h : w.cell? ⟨g, 0, none⟩ = some (.slice A 0 c)) : Calls Try.prog 10 #[.pointer (some ⟨g, 0, none⟩), .int .i64 p] w fun e w' => e = .returned (.bool false) ∧ Below w.heap.size w w' := by
  go_enter Try.func10, Try.ntmps10
  go_wp2_with (go_at_call 25; refine (picked_none g A c p _ h).mono ?_; rintro e w' ⟨rfl, rfl⟩)
  go_ret
  exact ⟨rfl, Below.refl _ _⟩
theorem late_none (g : Nat) (A : Option Addr) (c : Nat) (p : Int) (w : World) (h : w.cell? ⟨g, 0, none⟩ = some (.slice A 0 c)) : Calls Try.prog 21 #[.pointer (some ⟨g, 0, none⟩), .int .i64 p] w fun e w' => e = .returned (.bool false) ∧ Below w.heap.size w w' := by
  go_enter Try.func21, Try.ntmps21
  go_wp2_with (go_at_call 11; refine (give_none g A c p _ h).mono ?_; rintro e w' ⟨rfl, hb⟩)
  go_ret
  exact ⟨rfl, hb.alloc hb.size _⟩
set_option maxHeartbeats 1000000 in
theorem late_calls (w0 w : World) (ok : Nat → Prop) (g : Nat) (v : Value) (l : List S28) (hB : Below w0.heap.size w0 w) (hN : IsNet w w0.heap.size ok g v l) (p : Int) (hl : 0 < l.length) (hl2 : l.length ≤ 1024) (hd : ∀ x ∈ l, x.f2.length ≤ 140737488355328) :
    Calls Try.prog 21 #[.pointer (some ⟨g, 0, none⟩), .int .i64 p] w fun e w' => e = .returned (.bool true) ∧ ∃ v', IsNet w' w0.heap.size (fun k => ok k ∨ w.heap.size ≤ k) g v' (l.eraseIdx (pickOf p l.length).toNat ++ [rd_T28 l (pickOf p l.length)]) ∧ Below w0.heap.size w0 w' ∧
      Kept w w' (fun k => k = g ∨ some k = v.ownBlock) ∧ (v'.ownBlock = v.ownBlock ∨ ∃ b, v'.ownBlock = some b ∧ w.heap.size ≤ b) := by
  have HN := Aside0.mk hN
  have HB := Aside0.mk hB
  have HG := fun W (hb : Below w0.heap.size w0 W) (hn : IsNet W w0.heap.size ok g v l) => give_calls w0 W ok g v l hb hn p hl
  obtain ⟨x, hx⟩ : ∃ x, x = rd_T28 l (pickOf p l.length) := ⟨_, rfl⟩
  obtain ⟨l2, hl2e⟩ : ∃ l2, l2 = l.eraseIdx (pickOf p l.length).toNat := ⟨_, rfl⟩
  simp only [← hx, ← hl2e] at HG ⊢
  have hil : (pickOf p l.length).toNat < l.length := by
    have h2 : pickOf p l.length < l.length := by { unfold pickOf; exact Int.emod_lt_of_pos _ (by omega) }
    omega
  have hxl : x.f2.length ≤ 140737488355328 := by
    refine hd x ?_
    rw [hx]
    unfold rd_T28
    rw [List.getD_eq_getElem?_getD, List.getElem?_eq_getElem hil]
    exact List.getElem_mem _
  have hll : l2.length < 1024 := by rw [hl2e, List.length_eraseIdx, if_pos hil]; omega
  clear hN hB hx hl2e hil
  go_enter Try.func21, Try.ntmps21
  go_wp2_with (go_at_call 11; refine (HG _ HB.out HN.out).mono ?_; rintro e w1 ⟨v2, v1, okm, rfl, hR, hok, hN1, hB1, hK1, hv1⟩; obtain ⟨A2, c2, rfl⟩ := Kd.R_slice hR; have HR := Aside0.mk hR; have HOK := Aside0.mk hok; have HN1 := Aside0.mk hN1; have HB1 := Aside0.mk hB1; have HK1 := Aside0.mk hK1; have HV1 := Aside0.mk hv1; clear hR hok hN1 hB1 hK1 hv1)
  have hs1 := HK1.out.1
  have hz1 := blk_lt HN1.out.here
  have hz2 := Kd.S_lt HN1.out.row
  refine (send_one w0 _ (fun k => ok k ∧ ¬ okm k) okm g v1 l2 ((HB1.out.alloc HB1.out.size _).alloc (by have := HB1.out.size; simp; omega) _) ((HN1.out.alloc _).alloc _) x (w1.heap.size + 1) w1.heap.size _ (Kd.R_alloc (Kd.R_alloc HR.out _) _)
    (fun k hk => ⟨(HOK.out k hk).2.1, by rw [HV1.out]; exact (HOK.out k hk).2.2⟩) (o2_at w1 _ _) ⟨hz1, hz2⟩ (by omega) hxl (by omega)).mono ?_
  rintro e w2 ⟨rfl, v3, hN3, hB3, hK3, hv3⟩
  have hmany : manyOf l2.length 1 = 1 := by unfold manyOf; omega
  rw [hmany] at hN3 ⊢
  have hfin : ∃ v', IsNet w2 w0.heap.size (fun k => ok k ∨ w.heap.size ≤ k) g v' (l2 ++ [x]) ∧ Below w0.heap.size w0 w2 ∧ Kept w w2 (fun k => k = g ∨ some k = v.ownBlock) ∧ (v'.ownBlock = v.ownBlock ∨ ∃ b, v'.ownBlock = some b ∧ w.heap.size ≤ b) := by
    refine ⟨v3, hN3.mono (fun k hk => hk.elim (fun h => .inl h.1) (fun h => .inr (by simp at h; omega))), hB3, ?_, ?_⟩
    · refine Kept.then_ ((HK1.out.alloc _).alloc _) hK3 (fun k hk => hk.elim (fun h => .inl (.inl h)) (fun h => .inl (.inr (by rw [h, HV1.out]))))
    · rcases hv3 with h | ⟨b, h, hb⟩
      · exact .inl (h.trans HV1.out)
      · exact .inr ⟨b, h, by simp at hb; omega⟩
  clear hN3 hB3 hK3 hv3
  have HF := Aside0.mk hfin
  clear hfin
  go_wp2
  go_ret
  exact ⟨rfl, HF.out⟩

/-- The picked message, read. -/
theorem pick_at {w : World} {base : Nat} {ok : Nat → Prop} {g : Nat} {v : Value} {l : List S28} (hN : IsNet w base ok g v l) (hl : 0 < l.length) (i : Int) (h0 : 0 ≤ i) (h1 : i < l.length) :
    ∃ r c A2 c2, v = .slice (some ⟨r, 0, none⟩) l.length c ∧ w.cell? ⟨r, i.toNat * 3, none⟩ = some (.int .i64 (rd_T28 l i).f0) ∧ w.cell? ⟨r, i.toNat * 3 + 1, none⟩ = some (.int .i64 (rd_T28 l i).f1) ∧ w.cell? ⟨r, i.toNat * 3 + 2, none⟩ = some (.slice A2 (rd_T28 l i).f2.length c2) ∧
      (Kd.int .u8).R 5 w base (fun k => (ok k ∧ some k ≠ v.ownBlock) ∧ k ≠ g) (.slice A2 (rd_T28 l i).f2.length c2) (rd_T28 l i).f2 := by
  obtain ⟨r, c, h1', h2, h3, _⟩ := Kd.S_form hN.row hl
  subst h1'
  obtain ⟨cs, hcs, hM, hcell⟩ := Kd.S_get hN.row (⟨0, 0, []⟩ : S28) i h0 h1
  obtain ⟨v2, rfl, hR2⟩ := k28_openM hM
  obtain ⟨A2, c2, rfl⟩ := Kd.R_slice hR2
  have z0 := hcell 0 _ rfl
  have z1 := hcell 1 _ rfl
  have z2 := hcell 2 _ rfl
  simp only [Addr.add_lit, Nat.add_zero, Nat.zero_add, show k28.sz = 3 from rfl] at z0 z1 z2
  exact ⟨r, c, A2, c2, rfl, z0, z1, z2, Kd.R_types hR2 hN.here (by intro q hq; simp [Kd.int, Kd.scalar] at hq; omega)⟩
theorem pick_lt (p : Int) (n : Nat) (hn : 0 < n) : ∃ i : Nat, pickOf p n = (i : Int) ∧ i < n := by
  have h2 : pickOf p n < n := by { unfold pickOf; exact Int.emod_lt_of_pos _ (by omega) }
  have h1 : 0 ≤ pickOf p n := Int.emod_nonneg (max 0 p) (by omega : (n : Int) ≠ 0)
  exact ⟨(pickOf p n).toNat, (Int.toNat_of_nonneg h1).symm, by omega⟩
set_option maxHeartbeats 1000000 in
theorem twice_calls (w0 w : World) (ok : Nat → Prop) (g : Nat) (v : Value) (l : List S28) (hB : Below w0.heap.size w0 w) (hN : IsNet w w0.heap.size ok g v l) (p : Int) (hl : 0 < l.length) (hl2 : l.length ≤ 1024) (hd : ∀ x ∈ l, x.f2.length ≤ 140737488355328) :
    Calls Try.prog 10 #[.pointer (some ⟨g, 0, none⟩), .int .i64 p] w fun e w' => e = .returned (.bool (decide (l.length < 1024))) ∧ ∃ v', IsNet w' w0.heap.size (fun k => ok k ∨ w.heap.size ≤ k) g v' (if l.length < 1024 then l ++ [rd_T28 l (pickOf p l.length)] else l) ∧ Below w0.heap.size w0 w' ∧
      Kept w w' (fun k => k = g ∨ some k = v.ownBlock) ∧ (v'.ownBlock = v.ownBlock ∨ ∃ b, v'.ownBlock = some b ∧ w.heap.size ≤ b) := by
  obtain ⟨i, hi, hil⟩ := pick_lt p l.length hl
  obtain ⟨r, c, A2, c2, rfl, z0, z1, z2, hR⟩ := pick_at hN hl (i : Int) (by omega) (by omega)
  have hpk := fun W h => picked_some g (some ⟨r, 0, none⟩) l.length c p W h hl
  have zg : w.cell? ⟨g, 0, none⟩ = some (.slice (some ⟨r, 0, none⟩) l.length c) := (blk_cell hN.here 0).trans rfl
  have hxl : (rd_T28 l i).f2.length ≤ 140737488355328 := by
    refine hd _ ?_
    unfold rd_T28
    rw [List.getD_eq_getElem?_getD, Int.toNat_natCast, List.getElem?_eq_getElem hil]
    exact List.getElem_mem _
  rw [hi] at hpk ⊢
  simp only [Int.toNat_natCast] at z0 z1 z2
  generalize rd_T28 l i = x at *
  have HN := Aside0.mk hN
  have HB := Aside0.mk hB
  have HR := Aside0.mk hR
  clear hN hB hR
  obtain ⟨x0, x1, x2⟩ := x
  go_enter Try.func10, Try.ntmps10
  go_wp2_with (go_at_call 25; refine (hpk _ zg).mono ?_; rintro e w' ⟨rfl, rfl⟩)
  have hz1 := blk_lt HN.out.here
  have hz2 := Kd.S_lt HN.out.row
  refine (send_one w0 _ ok _ g _ l (HB.out.alloc HB.out.size _) (HN.out.alloc _) ⟨x0, x1, x2⟩ w'.heap.size w'.heap.size _ (Kd.R_alloc HR.out _) (fun k hk => ⟨hk.2, hk.1.2⟩) (heap_alloc_new w' _) ⟨hz1, hz2⟩ (Nat.le_refl _) hxl hl2).mono ?_
  rintro e w2 ⟨rfl, v3, hN3, hB3, hK3, hv3⟩
  have hfin : ∃ v', IsNet w2 w0.heap.size (fun k => ok k ∨ w'.heap.size ≤ k) g v' (l ++ [⟨x0, x1, x2⟩].take (manyOf l.length 1)) ∧ Below w0.heap.size w0 w2 ∧ Kept w' w2 (fun k => k = g ∨ some k = (Value.slice (some ⟨r, 0, none⟩) l.length c).ownBlock) ∧ (v'.ownBlock = (Value.slice (some ⟨r, 0, none⟩) l.length c).ownBlock ∨ ∃ b, v'.ownBlock = some b ∧ w'.heap.size ≤ b) := by
    refine ⟨v3, hN3.mono (fun k hk => hk.elim (fun h => .inl h) (fun h => .inr (by simp at h; omega))), hB3, Kept.then_ ((Kept.refl _ _).alloc _) hK3 (fun k hk => .inl hk), ?_⟩
    rcases hv3 with h | ⟨b, h, hb⟩
    · exact .inl h
    · exact .inr ⟨b, h, by simp at hb; omega⟩
  clear hN3 hB3 hK3 hv3
  have HF := Aside0.mk hfin
  clear hfin
  by_cases hc : l.length < 1024
  · have hmany : manyOf l.length 1 = 1 := by unfold manyOf; omega
    rw [hmany] at HF ⊢
    go_wp2
    go_ret
    exact ⟨rfl, HF.out⟩
  · have hmany : manyOf l.length 1 = 0 := by unfold manyOf; omega
    rw [hmany] at HF ⊢
    go_wp2
    go_ret
    refine ⟨rfl, ?_⟩
    have := HF.out
    rw [List.take_zero, List.append_nil] at this
    exact this
end Go.Proofs.Ytmindpofjnicfaa.Hand
