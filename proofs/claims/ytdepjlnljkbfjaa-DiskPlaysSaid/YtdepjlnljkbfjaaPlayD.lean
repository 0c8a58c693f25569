/- does: one step on both disks, and both told the same. -/
import Derived.Test.YtdepjlnljkbfjaaPlayC
namespace Go.Proofs.Ytdepjlnljkbfjaa.Hand
open Go.RowKit Go.Proofs.Ytdepjlnljkbfjaa.PA Go.Proofs.Ytdepjlnljkbfjaa.MapP Go.Proofs.YtdepjlnljkbfjaaW.PrintWords Go.Proofs.YtdepjlnljkbfjaaW.PrintLast Go.Proofs.YtdepjlnljkbfjaaW.PrintMore
attribute [local go_sem] max2_int min2_int
set_option linter.unusedVariables false
set_option linter.unusedSimpArgs false
set_option linter.unusedSectionVars false
section
variable {W W' W1 w w0 : World} {Z Z' T : Nat → Prop} {d r : Nat} {S : DV} {R : RV} {ok : Nat → Prop}
theorem roomy_is (xs : List Int) (hl : xs.length ≤ 140737488351232) : haystacklaw10_roomy.f xs = some (xs ++ [171]) := by
  have e : wrap64 ((xs.length : Int) + 1) = ((xs.length + 1 : Nat) : Int) := by unfold wrap64; omega
  have e2 : (xs ++ [171] ++ [171]).take (xs.length + 1) = xs ++ [(171 : Int)] := by simp [List.take_append, List.take_of_length_le]
  simp only [haystacklaw10_roomy.f, Option.bind_some, List.nil_append, List.length_nil, List.length_append, List.length_cons, e, Int.toNat_natCast, e2]
  rw [if_pos (by omega), if_pos (by omega), if_pos (by omega), if_pos (by omega), if_pos (by omega)]
theorem drew_alloc (W : World) (o : Obj) : W.drew.alloc o = (W.alloc o).drew := rfl
theorem readV_len (hf : S.Fine) (s : ByteArray) : (readV S s).1.length ≤ 1073741824 := by
  unfold readV
  split
  · rename_i x hx
    have h2 := total_mem hx
    have := hf.used
    have := hf.r1
    simp only
    omega
  · simp
def Both (W w3 w : World) (Z : Nat → Prop) (d r : Nat) : Prop := ∃ S' R', Rel S' R' ∧ Pair w3 w Z d r S' R' ∧ Kept W w3 Z
theorem kept_cell {b i : Nat} {o : Obj} {v : Value} (hK : Kept W W' T) (hb : W.heap[b]? = some o) (hT : ¬ T b) (hc : W.cell? ⟨b, i, none⟩ = some v) : W'.cell? ⟨b, i, none⟩ = some v := by
  have hlt : b < W.heap.size := (Array.getElem?_eq_some_iff.1 hb).1
  rw [← hc]
  simp [World.cell?, hK.2 b hlt hT]
set_option maxRecDepth 100000 in
set_option maxHeartbeats 20000000 in
theorem does_calls (P : Pair W w Z d r S R) (hRel : Rel S R) (x0 x1 : Int) (s t : ByteArray) (hs : s.size ≤ maxLen) (ht : t.size ≤ maxLen) (hx1 : x1 ≤ 9223372036854775807) (A : Option Addr) (c n : Nat) (xs : List Int) (hn : n = xs.length) (hC : ∀ W', Kept W W' Z → Kd.C (Kd.int .u8) W' A xs.length xs) (hc : xs.length ≤ c) (hby : Bytes xs) (hxl : xs.length ≤ 100000) :
    Calls Try.prog 21 #[.pointer (some ⟨d, 0, none⟩), .pointer (some ⟨r, 0, none⟩), .agg #[.int .i64 x0, .int .i64 x1, .string s, .string t, .slice A n c]] W fun e W' => e = .returned (.bool true) ∧ Both W W' w Z d r := by
  obtain ⟨WB, hWB⟩ : ∃ WB, WB = W.alloc (.cells #[.int .i64 x0, .int .i64 x1, .string s, .string t, .slice A n c] 41) := ⟨_, rfl⟩
  obtain ⟨b9, hb9⟩ : ∃ b, b = W.heap.size := ⟨_, rfl⟩
  have hBW : Below W.heap.size W WB := by rw [hWB]; exact (Below.refl _ _).alloc (Nat.le_refl _) _
  have hsB : WB.heap.size = W.heap.size + 1 := by rw [hWB]; simp
  have h9 : WB.heap[b9]? = some (.cells #[.int .i64 x0, .int .i64 x1, .string s, .string t, .slice A n c] 41 (0, 0)) := by rw [hWB, hb9]; exact heap_alloc_new _ _
  obtain ⟨Z9, hZ9⟩ : ∃ Z9 : Nat → Prop, Z9 = fun k => (Z k ∧ k < W.heap.size) ∨ WB.heap.size ≤ k := ⟨_, rfl⟩
  have hP9 : Pair WB w Z9 d r S R := by rw [hZ9]; exact P.mark hBW
  have hzz : ∀ k, Z9 k → Z k := by
    rw [hZ9]
    rintro k (h | h)
    · exact h.1
    · exact P.new k (by omega)
  have hnz : ¬ Z9 b9 := by rw [hZ9, hb9]; rintro (h | h) <;> omega
  have hk9 : ∀ W', Kept WB W' Z9 → Kept W W' Z := fun W' hk => ((Kept.of_below hBW Z).then_ hk (fun k hk => .inl (hzz k hk)))
  have HC1 : Aside0 (∀ w3, Kept WB w3 Z9 → w3.cell? ⟨b9, 1, none⟩ = some (.int .i64 x1)) := ⟨fun w3 hk => kept_cell hk h9 hnz ((blk_cell h9 1).trans rfl)⟩
  have HC2 : Aside0 (∀ w3, Kept WB w3 Z9 → w3.cell? ⟨b9, 2, none⟩ = some (.string s)) := ⟨fun w3 hk => kept_cell hk h9 hnz ((blk_cell h9 2).trans rfl)⟩
  have HC3 : Aside0 (∀ w3, Kept WB w3 Z9 → w3.cell? ⟨b9, 3, none⟩ = some (.string t)) := ⟨fun w3 hk => kept_cell hk h9 hnz ((blk_cell h9 3).trans rfl)⟩
  have HC4 : Aside0 (∀ w3, Kept WB w3 Z9 → w3.cell? ⟨b9, 4, none⟩ = some (.slice A n c)) := ⟨fun w3 hk => kept_cell hk h9 hnz ((blk_cell h9 4).trans rfl)⟩
  have hKr := Kept.refl WB Z9
  have c90 : WB.cell? ⟨b9, 0, none⟩ = some (.int .i64 x0) := (blk_cell h9 0).trans rfl
  have HEND : Aside0 (∀ w3 S' R' (Z' : Nat → Prop), Rel S' R' → Pair w3 w Z' d r S' R' → (∀ k, k < w3.heap.size → Z' k → Z k) → Kept WB w3 Z9 → Both W w3 w Z d r) := ⟨fun w3 S' R' Z' h1 h2 h3 h4 => by
    refine ⟨S', R', h1, h2.zone h3 (fun k hk => P.new k ?_) P.old, hk9 _ h4⟩
    have := h4.1
    omega⟩
  have HZZ := Aside0.mk hzz
  have HP9 := Aside0.mk hP9
  have HREL := Aside0.mk hRel
  have HSZ := Aside0.mk hs
  have HTZ := Aside0.mk ht
  have HKR := Aside0.mk hKr
  have HX1 := Aside0.mk hx1
  have HNX := Aside0.mk hn
  have HCC : Aside0 (∀ W', Kept WB W' Z9 → Kd.C (Kd.int .u8) W' A xs.length xs) := ⟨fun W' h => hC W' (hk9 W' h)⟩
  have HCL := Aside0.mk hc
  have HBY := Aside0.mk hby
  have HXL := Aside0.mk hxl
  have HWB := Aside0.mk hWB
  have HB9 := Aside0.mk hb9
  have HZ9 := Aside0.mk hZ9
  have c91 := HC1.out _ hKr
  have c92 := HC2.out _ hKr
  have c93 := HC3.out _ hKr
  have c94 := HC4.out _ hKr
  have c91a := c91
  have c92a := c92
  have c94a := c94
  rw [hWB, hb9] at c90 c91a c92a c94a
  clear P hRel hC hBW hsB h9 hP9 hzz hnz hk9 hKr hs ht hx1 hn hc hby hxl hWB hb9 hZ9
  go_enter Try.func21, Try.ntmps21
  by_cases h2 : x0 = 2
  · subst h2
    as_aux_lemma =>
    obtain ⟨q, hq⟩ : ∃ q, q = (oneV syncX S s).1 := ⟨_, rfl⟩
    have HQ := Aside0.mk hq
    have hs1 := p_sync1 HP9.out.drew s HSZ.out
    rw [← hq, drew_alloc] at hs1
    have HS1 := Aside0.mk hs1
    have HS2 : Aside0 (∀ w3, Pair w3 w Z9 d r (oneV syncX S s).2 R → Calls Try.prog 51 #[.pointer (some ⟨r, 0, none⟩), .string s] w3 fun e W' => e = .returned (.int .i64 q) ∧ Pair W' w Z9 d r (oneV syncX S s).2 (syncR R s).2 ∧ Kept w3 W' Z9) := ⟨fun w3 h => by rw [hq, ← (rel_sync HREL.out s).1]; exact p_sync2 h s HSZ.out⟩
    clear hq hs1 c91a c92a c94a
    go_wp2
    rw [← HB9.out, ← HWB.out]
    refine start_ (n := 11) (S := fun w' => w'.cell? ⟨b9, 2, none⟩ = some (.string s)) (ds := [8]) #[false, false, false, false, false, false, false, false, false, false, false] (by kernel_rfl) rfl rfl (c92) (fun hHeld => ?_)
    refine pure_ (i := 0) (N := some 74) (v := ?_) (a' := ?_) #[true, false, false, false, false, false, false, false, false, false, false] rfl rfl (by kernel_rfl) (fun _ _ _ h => h) (Or.inl ⟨by rfl, ?_⟩) ?_ ?_
    rotate_left
    · intro w'
      go_simp
      with_reducible rfl
    rotate_left
    · simp only [Act.put, List.setIfInBounds_toArray, List.set_cons_zero, List.set_cons_succ, i64_w, i32_w]
      rfl
    refine pure_ (i := 1) (N := some 75) (v := ?_) (a' := ?_) #[true, true, false, false, false, false, false, false, false, false, false] rfl rfl (by kernel_rfl) (fun _ _ _ h => h) (Or.inl ⟨by rfl, ?_⟩) ?_ ?_
    rotate_left
    · intro w'
      go_simp
      with_reducible rfl
    rotate_left
    · simp only [Act.put, List.setIfInBounds_toArray, List.set_cons_zero, List.set_cons_succ, i64_w, i32_w]
      rfl
    refine pure_ (i := 5) (N := some 79) (v := ?_) (a' := ?_) #[true, true, false, false, false, true, false, false, false, false, false] rfl rfl (by kernel_rfl) (fun _ _ _ h => h) (Or.inl ⟨by rfl, ?_⟩) ?_ ?_
    rotate_left
    · intro w'
      go_simp
      with_reducible rfl
    rotate_left
    · simp only [Act.put, List.setIfInBounds_toArray, List.set_cons_zero, List.set_cons_succ, i64_w, i32_w]
      rfl
    refine pure_ (i := 6) (N := some 80) (v := ?_) (a' := ?_) #[true, true, false, false, false, true, true, false, false, false, false] rfl rfl (by kernel_rfl) (fun _ _ _ h => h) (Or.inl ⟨by rfl, ?_⟩) ?_ ?_
    rotate_left
    · intro w'
      go_simp
      with_reducible rfl
    rotate_left
    · simp only [Act.put, List.setIfInBounds_toArray, List.set_cons_zero, List.set_cons_succ, i64_w, i32_w]
      rfl
    refine take_ (i := 2) (N := some 76) (v := ?_) (a' := ?_) #[true, true, true, false, false, true, true, false, false, false, false] rfl rfl (by kernel_rfl) (fun _ _ _ h => h) (Or.inl ⟨by rfl, ?_⟩) hHeld ?_ ?_
    rotate_left
    · intro w' s0
      go_simp
      with_reducible rfl
    rotate_left
    · simp only [Act.put, List.setIfInBounds_toArray, List.set_cons_zero, List.set_cons_succ, i64_w, i32_w]
      rfl
    refine take_ (i := 7) (N := some 81) (v := ?_) (a' := ?_) #[true, true, true, false, false, true, true, true, false, false, false] rfl rfl (by kernel_rfl) (fun _ _ _ h => h) (Or.inl ⟨by rfl, ?_⟩) hHeld ?_ ?_
    rotate_left
    · intro w' s0
      go_simp
      with_reducible rfl
    rotate_left
    · simp only [Act.put, List.setIfInBounds_toArray, List.set_cons_zero, List.set_cons_succ, i64_w, i32_w]
      rfl
    refine one_ (i := 3) (N := some 77) #[true, true, true, true, false, true, true, true, false, false, false] rfl rfl (by kernel_rfl) (by decide) (fun K hK => ?_)
    refine value_ (w1 := ?_) (v := ?_) (by rfl) rfl ?_ ?_
    rotate_left 2
    · go_simp
      constructor
      · rfl
      · rfl
    refine hK.out _ _ ((Go.Lib.cell?_alloc_some _ hHeld)) (fun hHeld => ?_)
    clear hK K
    refine norm_ (a' := ?_) ?_ ?_
    rotate_left
    · show Act.put _ (some 77) _ = _
      simp only [Act.put, List.setIfInBounds_toArray, List.set_cons_zero, List.set_cons_succ, i64_w, i32_w]
      rfl
    refine one_ (i := 4) (N := some 78) #[true, true, true, true, true, true, true, true, false, false, false] rfl rfl (by kernel_rfl) (by decide) (fun K hK => ?_)
    refine goes_ Try.func39 (by kernel_rfl) rfl #[.pointer (some ⟨d, 0, none⟩), .slice (some ⟨WB.drew.heap.size, 0, none⟩) 1 1] (by rfl) rfl rfl (by simp only [List.map_toArray, List.map_cons, List.map_nil]; rfl) ?_
    with_reducible refine (HS1.out).mono ?_
    rintro e w3 ⟨rfl, hP3, hK3⟩
    refine ⟨_, rfl, ?_⟩
    refine hK.out _ _ ((HC2.out w3 hK3)) (fun hHeld => ?_)
    clear hK K
    refine norm_ (a' := ?_) ?_ ?_
    rotate_left
    · show Act.put _ (some 78) _ = _
      simp only [Act.put, List.setIfInBounds_toArray, List.set_cons_zero, List.set_cons_succ, i64_w, i32_w]
      rfl
    refine last_ (i := 8) (N := some 82) #[true, true, true, true, true, true, true, true, true, false, false] rfl rfl (by kernel_rfl) (by decide) (fun K hK => ?_)
    refine goes_ Try.func51 (by kernel_rfl) rfl #[.pointer (some ⟨r, 0, none⟩), .string s] (by rfl) rfl rfl (by simp only [List.map_toArray, List.map_cons, List.map_nil]; rfl) ?_
    with_reducible refine (HS2.out w3 hP3).mono ?_
    rintro e w4 ⟨rfl, hP4, hK4⟩
    refine ⟨_, rfl, ?_⟩
    refine hK.out _ _ ?_
    clear hK K
    refine norm_ (a' := ?_) ?_ ?_
    rotate_left
    · show Act.put _ (some 82) _ = _
      simp only [Act.put, List.setIfInBounds_toArray, List.set_cons_zero, List.set_cons_succ, i64_w, i32_w]
      rfl
    refine pure_ (i := 9) (N := some 83) (v := ?_) (a' := ?_) #[true, true, true, true, true, true, true, true, true, true, false] rfl rfl (by kernel_rfl) (fun _ _ _ h => h) (Or.inl ⟨by rfl, ?_⟩) ?_ ?_
    rotate_left
    · intro w'
      go_simp
      with_reducible rfl
    rotate_left
    · simp only [Act.put, List.setIfInBounds_toArray, List.set_cons_zero, List.set_cons_succ, i64_w, i32_w]
      rfl
    refine pure_ (i := 10) (N := some 6) (v := ?_) (a' := ?_) #[true, true, true, true, true, true, true, true, true, true, true] rfl rfl (by kernel_rfl) (fun _ _ _ h => h) (Or.inl ⟨by rfl, ?_⟩) ?_ ?_
    rotate_left
    · intro w'
      go_simp
      with_reducible rfl
    rotate_left
    · simp only [Act.put, List.setIfInBounds_toArray, List.set_cons_zero, List.set_cons_succ, i64_w, i32_w]
      rfl
    refine done_ (by kernel_rfl) ?_
    clear hHeld
    go_wp2
    go_ret
    exact ⟨by simp, HEND.out w4 _ _ Z9 (rel_sync HREL.out s).2 hP4 (fun k _ h => HZZ.out k h) (Kept.then_ (show Kept WB w3 Z9 from hK3) hK4 (fun k hk => .inl hk))⟩
  by_cases h3 : x0 = 3
  · subst h3
    as_aux_lemma =>
    obtain ⟨q, hq⟩ : ∃ q, q = (truncV S s x1).1 := ⟨_, rfl⟩
    have HQ := Aside0.mk hq
    have hs1 := p_trunc1 HP9.out.drew s HSZ.out x1
    rw [← hq] at hs1
    have HS1 := Aside0.mk hs1
    have HS2 : Aside0 (∀ w3, Pair w3 w Z9 d r (truncV S s x1).2 R → Calls Try.prog 53 #[.pointer (some ⟨r, 0, none⟩), .string s, .int .i64 x1] w3 fun e W' => e = .returned (.int .i64 q) ∧ Pair W' w Z9 d r (truncV S s x1).2 (truncR R s x1).2 ∧ Kept w3 W' Z9) := ⟨fun w3 h => by rw [hq, ← (rel_trunc HREL.out s x1).1]; exact p_trunc2 h s HSZ.out x1⟩
    clear hq hs1 c91a c92a c94a
    go_wp2
    rw [← HB9.out, ← HWB.out]
    refine start_ (n := 14) (S := fun w' => w'.cell? ⟨b9, 2, none⟩ = some (.string s) ∧ w'.cell? ⟨b9, 1, none⟩ = some (.int .i64 x1)) (ds := [11]) #[false, false, false, false, false, false, false, false, false, false, false, false, false, false] (by kernel_rfl) rfl rfl ⟨c92, c91⟩ (fun hHeld => ?_)
    refine pure_ (i := 0) (N := some 86) (v := ?_) (a' := ?_) #[true, false, false, false, false, false, false, false, false, false, false, false, false, false] rfl rfl (by kernel_rfl) (fun _ _ _ h => h) (Or.inl ⟨by rfl, ?_⟩) ?_ ?_
    rotate_left
    · intro w'
      go_simp
      with_reducible rfl
    rotate_left
    · simp only [Act.put, List.setIfInBounds_toArray, List.set_cons_zero, List.set_cons_succ, i64_w, i32_w]
      rfl
    refine pure_ (i := 1) (N := some 87) (v := ?_) (a' := ?_) #[true, true, false, false, false, false, false, false, false, false, false, false, false, false] rfl rfl (by kernel_rfl) (fun _ _ _ h => h) (Or.inl ⟨by rfl, ?_⟩) ?_ ?_
    rotate_left
    · intro w'
      go_simp
      with_reducible rfl
    rotate_left
    · simp only [Act.put, List.setIfInBounds_toArray, List.set_cons_zero, List.set_cons_succ, i64_w, i32_w]
      rfl
    refine pure_ (i := 3) (N := some 89) (v := ?_) (a' := ?_) #[true, true, false, true, false, false, false, false, false, false, false, false, false, false] rfl rfl (by kernel_rfl) (fun _ _ _ h => h) (Or.inl ⟨by rfl, ?_⟩) ?_ ?_
    rotate_left
    · intro w'
      go_simp
      with_reducible rfl
    rotate_left
    · simp only [Act.put, List.setIfInBounds_toArray, List.set_cons_zero, List.set_cons_succ, i64_w, i32_w]
      rfl
    refine pure_ (i := 6) (N := some 92) (v := ?_) (a' := ?_) #[true, true, false, true, false, false, true, false, false, false, false, false, false, false] rfl rfl (by kernel_rfl) (fun _ _ _ h => h) (Or.inl ⟨by rfl, ?_⟩) ?_ ?_
    rotate_left
    · intro w'
      go_simp
      with_reducible rfl
    rotate_left
    · simp only [Act.put, List.setIfInBounds_toArray, List.set_cons_zero, List.set_cons_succ, i64_w, i32_w]
      rfl
    refine pure_ (i := 7) (N := some 93) (v := ?_) (a' := ?_) #[true, true, false, true, false, false, true, true, false, false, false, false, false, false] rfl rfl (by kernel_rfl) (fun _ _ _ h => h) (Or.inl ⟨by rfl, ?_⟩) ?_ ?_
    rotate_left
    · intro w'
      go_simp
      with_reducible rfl
    rotate_left
    · simp only [Act.put, List.setIfInBounds_toArray, List.set_cons_zero, List.set_cons_succ, i64_w, i32_w]
      rfl
    refine pure_ (i := 9) (N := some 95) (v := ?_) (a' := ?_) #[true, true, false, true, false, false, true, true, false, true, false, false, false, false] rfl rfl (by kernel_rfl) (fun _ _ _ h => h) (Or.inl ⟨by rfl, ?_⟩) ?_ ?_
    rotate_left
    · intro w'
      go_simp
      with_reducible rfl
    rotate_left
    · simp only [Act.put, List.setIfInBounds_toArray, List.set_cons_zero, List.set_cons_succ, i64_w, i32_w]
      rfl
    refine take_ (i := 2) (N := some 88) (v := ?_) (a' := ?_) #[true, true, true, true, false, false, true, true, false, true, false, false, false, false] rfl rfl (by kernel_rfl) (fun _ _ _ h => h) (Or.inl ⟨by rfl, ?_⟩) hHeld ?_ ?_
    rotate_left
    · rintro w' ⟨s0, s1⟩
      go_simp
      with_reducible rfl
    rotate_left
    · simp only [Act.put, List.setIfInBounds_toArray, List.set_cons_zero, List.set_cons_succ, i64_w, i32_w]
      rfl
    refine take_ (i := 4) (N := some 90) (v := ?_) (a' := ?_) #[true, true, true, true, true, false, true, true, false, true, false, false, false, false] rfl rfl (by kernel_rfl) (fun _ _ _ h => h) (Or.inl ⟨by rfl, ?_⟩) hHeld ?_ ?_
    rotate_left
    · rintro w' ⟨s0, s1⟩
      go_simp
      with_reducible rfl
    rotate_left
    · simp only [Act.put, List.setIfInBounds_toArray, List.set_cons_zero, List.set_cons_succ, i64_w, i32_w]
      rfl
    refine take_ (i := 8) (N := some 94) (v := ?_) (a' := ?_) #[true, true, true, true, true, false, true, true, true, true, false, false, false, false] rfl rfl (by kernel_rfl) (fun _ _ _ h => h) (Or.inl ⟨by rfl, ?_⟩) hHeld ?_ ?_
    rotate_left
    · rintro w' ⟨s0, s1⟩
      go_simp
      with_reducible rfl
    rotate_left
    · simp only [Act.put, List.setIfInBounds_toArray, List.set_cons_zero, List.set_cons_succ, i64_w, i32_w]
      rfl
    refine take_ (i := 10) (N := some 96) (v := ?_) (a' := ?_) #[true, true, true, true, true, false, true, true, true, true, true, false, false, false] rfl rfl (by kernel_rfl) (fun _ _ _ h => h) (Or.inl ⟨by rfl, ?_⟩) hHeld ?_ ?_
    rotate_left
    · rintro w' ⟨s0, s1⟩
      go_simp
      with_reducible rfl
    rotate_left
    · simp only [Act.put, List.setIfInBounds_toArray, List.set_cons_zero, List.set_cons_succ, i64_w, i32_w]
      rfl
    refine one_ (i := 5) (N := some 91) #[true, true, true, true, true, true, true, true, true, true, true, false, false, false] rfl rfl (by kernel_rfl) (by decide) (fun K hK => ?_)
    refine goes_ Try.func52 (by kernel_rfl) rfl #[.pointer (some ⟨d, 0, none⟩), .string s, .int .i64 x1] (by rfl) rfl rfl (by simp only [List.map_toArray, List.map_cons, List.map_nil]; rfl) ?_
    with_reducible refine (HS1.out).mono ?_
    rintro e w3 ⟨rfl, hP3, hK3⟩
    refine ⟨_, rfl, ?_⟩
    refine hK.out _ _ ⟨(HC2.out w3 hK3), (HC1.out w3 hK3)⟩ (fun hHeld => ?_)
    clear hK K
    refine norm_ (a' := ?_) ?_ ?_
    rotate_left
    · show Act.put _ (some 91) _ = _
      simp only [Act.put, List.setIfInBounds_toArray, List.set_cons_zero, List.set_cons_succ, i64_w, i32_w]
      rfl
    refine last_ (i := 11) (N := some 97) #[true, true, true, true, true, true, true, true, true, true, true, true, false, false] rfl rfl (by kernel_rfl) (by decide) (fun K hK => ?_)
    refine goes_ Try.func53 (by kernel_rfl) rfl #[.pointer (some ⟨r, 0, none⟩), .string s, .int .i64 x1] (by rfl) rfl rfl (by simp only [List.map_toArray, List.map_cons, List.map_nil]; rfl) ?_
    with_reducible refine (HS2.out w3 hP3).mono ?_
    rintro e w4 ⟨rfl, hP4, hK4⟩
    refine ⟨_, rfl, ?_⟩
    refine hK.out _ _ ?_
    clear hK K
    refine norm_ (a' := ?_) ?_ ?_
    rotate_left
    · show Act.put _ (some 97) _ = _
      simp only [Act.put, List.setIfInBounds_toArray, List.set_cons_zero, List.set_cons_succ, i64_w, i32_w]
      rfl
    refine pure_ (i := 12) (N := some 98) (v := ?_) (a' := ?_) #[true, true, true, true, true, true, true, true, true, true, true, true, true, false] rfl rfl (by kernel_rfl) (fun _ _ _ h => h) (Or.inl ⟨by rfl, ?_⟩) ?_ ?_
    rotate_left
    · intro w'
      go_simp
      with_reducible rfl
    rotate_left
    · simp only [Act.put, List.setIfInBounds_toArray, List.set_cons_zero, List.set_cons_succ, i64_w, i32_w]
      rfl
    refine pure_ (i := 13) (N := some 6) (v := ?_) (a' := ?_) #[true, true, true, true, true, true, true, true, true, true, true, true, true, true] rfl rfl (by kernel_rfl) (fun _ _ _ h => h) (Or.inl ⟨by rfl, ?_⟩) ?_ ?_
    rotate_left
    · intro w'
      go_simp
      with_reducible rfl
    rotate_left
    · simp only [Act.put, List.setIfInBounds_toArray, List.set_cons_zero, List.set_cons_succ, i64_w, i32_w]
      rfl
    refine done_ (by kernel_rfl) ?_
    clear hHeld
    go_wp2
    go_ret
    exact ⟨by simp, HEND.out w4 _ _ Z9 (rel_trunc HREL.out s x1).2 hP4 (fun k _ h => HZZ.out k h) (Kept.then_ (show Kept WB w3 Z9 from hK3) hK4 (fun k hk => .inl hk))⟩
  by_cases h4 : x0 = 4
  · subst h4
    as_aux_lemma =>
    obtain ⟨q, hq⟩ : ∃ q, q = (renameV S s t).1 := ⟨_, rfl⟩
    have HQ := Aside0.mk hq
    have hs1 := p_rename1 HP9.out.drew s t HSZ.out HTZ.out
    rw [← hq] at hs1
    have HS1 := Aside0.mk hs1
    have HS2 : Aside0 (∀ w3, Pair w3 w Z9 d r (renameV S s t).2 R → Calls Try.prog 54 #[.pointer (some ⟨r, 0, none⟩), .string s, .string t] w3 fun e W' => e = .returned (.int .i64 q) ∧ Pair W' w Z9 d r (renameV S s t).2 (renR R s t).2 ∧ Kept w3 W' Z9) := ⟨fun w3 h => by rw [hq, ← (rel_rename HREL.out s t).1]; exact p_rename2 h s t HSZ.out HTZ.out⟩
    clear hq hs1 c91a c92a c94a
    go_wp2
    rw [← HB9.out, ← HWB.out]
    refine start_ (n := 14) (S := fun w' => w'.cell? ⟨b9, 2, none⟩ = some (.string s) ∧ w'.cell? ⟨b9, 3, none⟩ = some (.string t)) (ds := [11]) #[false, false, false, false, false, false, false, false, false, false, false, false, false, false] (by kernel_rfl) rfl rfl ⟨c92, c93⟩ (fun hHeld => ?_)
    refine pure_ (i := 0) (N := some 101) (v := ?_) (a' := ?_) #[true, false, false, false, false, false, false, false, false, false, false, false, false, false] rfl rfl (by kernel_rfl) (fun _ _ _ h => h) (Or.inl ⟨by rfl, ?_⟩) ?_ ?_
    rotate_left
    · intro w'
      go_simp
      with_reducible rfl
    rotate_left
    · simp only [Act.put, List.setIfInBounds_toArray, List.set_cons_zero, List.set_cons_succ, i64_w, i32_w]
      rfl
    refine pure_ (i := 1) (N := some 102) (v := ?_) (a' := ?_) #[true, true, false, false, false, false, false, false, false, false, false, false, false, false] rfl rfl (by kernel_rfl) (fun _ _ _ h => h) (Or.inl ⟨by rfl, ?_⟩) ?_ ?_
    rotate_left
    · intro w'
      go_simp
      with_reducible rfl
    rotate_left
    · simp only [Act.put, List.setIfInBounds_toArray, List.set_cons_zero, List.set_cons_succ, i64_w, i32_w]
      rfl
    refine pure_ (i := 3) (N := some 104) (v := ?_) (a' := ?_) #[true, true, false, true, false, false, false, false, false, false, false, false, false, false] rfl rfl (by kernel_rfl) (fun _ _ _ h => h) (Or.inl ⟨by rfl, ?_⟩) ?_ ?_
    rotate_left
    · intro w'
      go_simp
      with_reducible rfl
    rotate_left
    · simp only [Act.put, List.setIfInBounds_toArray, List.set_cons_zero, List.set_cons_succ, i64_w, i32_w]
      rfl
    refine pure_ (i := 6) (N := some 107) (v := ?_) (a' := ?_) #[true, true, false, true, false, false, true, false, false, false, false, false, false, false] rfl rfl (by kernel_rfl) (fun _ _ _ h => h) (Or.inl ⟨by rfl, ?_⟩) ?_ ?_
    rotate_left
    · intro w'
      go_simp
      with_reducible rfl
    rotate_left
    · simp only [Act.put, List.setIfInBounds_toArray, List.set_cons_zero, List.set_cons_succ, i64_w, i32_w]
      rfl
    refine pure_ (i := 7) (N := some 108) (v := ?_) (a' := ?_) #[true, true, false, true, false, false, true, true, false, false, false, false, false, false] rfl rfl (by kernel_rfl) (fun _ _ _ h => h) (Or.inl ⟨by rfl, ?_⟩) ?_ ?_
    rotate_left
    · intro w'
      go_simp
      with_reducible rfl
    rotate_left
    · simp only [Act.put, List.setIfInBounds_toArray, List.set_cons_zero, List.set_cons_succ, i64_w, i32_w]
      rfl
    refine pure_ (i := 9) (N := some 110) (v := ?_) (a' := ?_) #[true, true, false, true, false, false, true, true, false, true, false, false, false, false] rfl rfl (by kernel_rfl) (fun _ _ _ h => h) (Or.inl ⟨by rfl, ?_⟩) ?_ ?_
    rotate_left
    · intro w'
      go_simp
      with_reducible rfl
    rotate_left
    · simp only [Act.put, List.setIfInBounds_toArray, List.set_cons_zero, List.set_cons_succ, i64_w, i32_w]
      rfl
    refine take_ (i := 2) (N := some 103) (v := ?_) (a' := ?_) #[true, true, true, true, false, false, true, true, false, true, false, false, false, false] rfl rfl (by kernel_rfl) (fun _ _ _ h => h) (Or.inl ⟨by rfl, ?_⟩) hHeld ?_ ?_
    rotate_left
    · rintro w' ⟨s0, s1⟩
      go_simp
      with_reducible rfl
    rotate_left
    · simp only [Act.put, List.setIfInBounds_toArray, List.set_cons_zero, List.set_cons_succ, i64_w, i32_w]
      rfl
    refine take_ (i := 4) (N := some 105) (v := ?_) (a' := ?_) #[true, true, true, true, true, false, true, true, false, true, false, false, false, false] rfl rfl (by kernel_rfl) (fun _ _ _ h => h) (Or.inl ⟨by rfl, ?_⟩) hHeld ?_ ?_
    rotate_left
    · rintro w' ⟨s0, s1⟩
      go_simp
      with_reducible rfl
    rotate_left
    · simp only [Act.put, List.setIfInBounds_toArray, List.set_cons_zero, List.set_cons_succ, i64_w, i32_w]
      rfl
    refine take_ (i := 8) (N := some 109) (v := ?_) (a' := ?_) #[true, true, true, true, true, false, true, true, true, true, false, false, false, false] rfl rfl (by kernel_rfl) (fun _ _ _ h => h) (Or.inl ⟨by rfl, ?_⟩) hHeld ?_ ?_
    rotate_left
    · rintro w' ⟨s0, s1⟩
      go_simp
      with_reducible rfl
    rotate_left
    · simp only [Act.put, List.setIfInBounds_toArray, List.set_cons_zero, List.set_cons_succ, i64_w, i32_w]
      rfl
    refine take_ (i := 10) (N := some 111) (v := ?_) (a' := ?_) #[true, true, true, true, true, false, true, true, true, true, true, false, false, false] rfl rfl (by kernel_rfl) (fun _ _ _ h => h) (Or.inl ⟨by rfl, ?_⟩) hHeld ?_ ?_
    rotate_left
    · rintro w' ⟨s0, s1⟩
      go_simp
      with_reducible rfl
    rotate_left
    · simp only [Act.put, List.setIfInBounds_toArray, List.set_cons_zero, List.set_cons_succ, i64_w, i32_w]
      rfl
    refine one_ (i := 5) (N := some 106) #[true, true, true, true, true, true, true, true, true, true, true, false, false, false] rfl rfl (by kernel_rfl) (by decide) (fun K hK => ?_)
    refine goes_ Try.func40 (by kernel_rfl) rfl #[.pointer (some ⟨d, 0, none⟩), .string s, .string t] (by rfl) rfl rfl (by simp only [List.map_toArray, List.map_cons, List.map_nil]; rfl) ?_
    with_reducible refine (HS1.out).mono ?_
    rintro e w3 ⟨rfl, hP3, hK3⟩
    refine ⟨_, rfl, ?_⟩
    refine hK.out _ _ ⟨(HC2.out w3 hK3), (HC3.out w3 hK3)⟩ (fun hHeld => ?_)
    clear hK K
    refine norm_ (a' := ?_) ?_ ?_
    rotate_left
    · show Act.put _ (some 106) _ = _
      simp only [Act.put, List.setIfInBounds_toArray, List.set_cons_zero, List.set_cons_succ, i64_w, i32_w]
      rfl
    refine last_ (i := 11) (N := some 112) #[true, true, true, true, true, true, true, true, true, true, true, true, false, false] rfl rfl (by kernel_rfl) (by decide) (fun K hK => ?_)
    refine goes_ Try.func54 (by kernel_rfl) rfl #[.pointer (some ⟨r, 0, none⟩), .string s, .string t] (by rfl) rfl rfl (by simp only [List.map_toArray, List.map_cons, List.map_nil]; rfl) ?_
    with_reducible refine (HS2.out w3 hP3).mono ?_
    rintro e w4 ⟨rfl, hP4, hK4⟩
    refine ⟨_, rfl, ?_⟩
    refine hK.out _ _ ?_
    clear hK K
    refine norm_ (a' := ?_) ?_ ?_
    rotate_left
    · show Act.put _ (some 112) _ = _
      simp only [Act.put, List.setIfInBounds_toArray, List.set_cons_zero, List.set_cons_succ, i64_w, i32_w]
      rfl
    refine pure_ (i := 12) (N := some 113) (v := ?_) (a' := ?_) #[true, true, true, true, true, true, true, true, true, true, true, true, true, false] rfl rfl (by kernel_rfl) (fun _ _ _ h => h) (Or.inl ⟨by rfl, ?_⟩) ?_ ?_
    rotate_left
    · intro w'
      go_simp
      with_reducible rfl
    rotate_left
    · simp only [Act.put, List.setIfInBounds_toArray, List.set_cons_zero, List.set_cons_succ, i64_w, i32_w]
      rfl
    refine pure_ (i := 13) (N := some 6) (v := ?_) (a' := ?_) #[true, true, true, true, true, true, true, true, true, true, true, true, true, true] rfl rfl (by kernel_rfl) (fun _ _ _ h => h) (Or.inl ⟨by rfl, ?_⟩) ?_ ?_
    rotate_left
    · intro w'
      go_simp
      with_reducible rfl
    rotate_left
    · simp only [Act.put, List.setIfInBounds_toArray, List.set_cons_zero, List.set_cons_succ, i64_w, i32_w]
      rfl
    refine done_ (by kernel_rfl) ?_
    clear hHeld
    go_wp2
    go_ret
    exact ⟨by simp, HEND.out w4 _ _ Z9 (rel_rename HREL.out s t).2 hP4 (fun k _ h => HZZ.out k h) (Kept.then_ (show Kept WB w3 Z9 from hK3) hK4 (fun k hk => .inl hk))⟩
  by_cases h5 : x0 = 5
  · subst h5
    as_aux_lemma =>
    obtain ⟨q, hq⟩ : ∃ q, q = (oneV removeX S s).1 := ⟨_, rfl⟩
    have HQ := Aside0.mk hq
    have hs1 := p_remove1 HP9.out.drew s HSZ.out
    rw [← hq, drew_alloc] at hs1
    have HS1 := Aside0.mk hs1
    have HS2 : Aside0 (∀ w3, Pair w3 w Z9 d r (oneV removeX S s).2 R → Calls Try.prog 55 #[.pointer (some ⟨r, 0, none⟩), .string s] w3 fun e W' => e = .returned (.int .i64 q) ∧ Pair W' w Z9 d r (oneV removeX S s).2 (removeR R s).2 ∧ Kept w3 W' Z9) := ⟨fun w3 h => by rw [hq, ← (rel_remove HREL.out s).1]; exact p_remove2 h s HSZ.out⟩
    clear hq hs1 c91a c92a c94a
    go_wp2
    rw [← HB9.out, ← HWB.out]
    refine start_ (n := 11) (S := fun w' => w'.cell? ⟨b9, 2, none⟩ = some (.string s)) (ds := [8]) #[false, false, false, false, false, false, false, false, false, false, false] (by kernel_rfl) rfl rfl (c92) (fun hHeld => ?_)
    refine pure_ (i := 0) (N := some 116) (v := ?_) (a' := ?_) #[true, false, false, false, false, false, false, false, false, false, false] rfl rfl (by kernel_rfl) (fun _ _ _ h => h) (Or.inl ⟨by rfl, ?_⟩) ?_ ?_
    rotate_left
    · intro w'
      go_simp
      with_reducible rfl
    rotate_left
    · simp only [Act.put, List.setIfInBounds_toArray, List.set_cons_zero, List.set_cons_succ, i64_w, i32_w]
      rfl
    refine pure_ (i := 1) (N := some 117) (v := ?_) (a' := ?_) #[true, true, false, false, false, false, false, false, false, false, false] rfl rfl (by kernel_rfl) (fun _ _ _ h => h) (Or.inl ⟨by rfl, ?_⟩) ?_ ?_
    rotate_left
    · intro w'
      go_simp
      with_reducible rfl
    rotate_left
    · simp only [Act.put, List.setIfInBounds_toArray, List.set_cons_zero, List.set_cons_succ, i64_w, i32_w]
      rfl
    refine pure_ (i := 5) (N := some 121) (v := ?_) (a' := ?_) #[true, true, false, false, false, true, false, false, false, false, false] rfl rfl (by kernel_rfl) (fun _ _ _ h => h) (Or.inl ⟨by rfl, ?_⟩) ?_ ?_
    rotate_left
    · intro w'
      go_simp
      with_reducible rfl
    rotate_left
    · simp only [Act.put, List.setIfInBounds_toArray, List.set_cons_zero, List.set_cons_succ, i64_w, i32_w]
      rfl
    refine pure_ (i := 6) (N := some 122) (v := ?_) (a' := ?_) #[true, true, false, false, false, true, true, false, false, false, false] rfl rfl (by kernel_rfl) (fun _ _ _ h => h) (Or.inl ⟨by rfl, ?_⟩) ?_ ?_
    rotate_left
    · intro w'
      go_simp
      with_reducible rfl
    rotate_left
    · simp only [Act.put, List.setIfInBounds_toArray, List.set_cons_zero, List.set_cons_succ, i64_w, i32_w]
      rfl
    refine take_ (i := 2) (N := some 118) (v := ?_) (a' := ?_) #[true, true, true, false, false, true, true, false, false, false, false] rfl rfl (by kernel_rfl) (fun _ _ _ h => h) (Or.inl ⟨by rfl, ?_⟩) hHeld ?_ ?_
    rotate_left
    · intro w' s0
      go_simp
      with_reducible rfl
    rotate_left
    · simp only [Act.put, List.setIfInBounds_toArray, List.set_cons_zero, List.set_cons_succ, i64_w, i32_w]
      rfl
    refine take_ (i := 7) (N := some 123) (v := ?_) (a' := ?_) #[true, true, true, false, false, true, true, true, false, false, false] rfl rfl (by kernel_rfl) (fun _ _ _ h => h) (Or.inl ⟨by rfl, ?_⟩) hHeld ?_ ?_
    rotate_left
    · intro w' s0
      go_simp
      with_reducible rfl
    rotate_left
    · simp only [Act.put, List.setIfInBounds_toArray, List.set_cons_zero, List.set_cons_succ, i64_w, i32_w]
      rfl
    refine one_ (i := 3) (N := some 119) #[true, true, true, true, false, true, true, true, false, false, false] rfl rfl (by kernel_rfl) (by decide) (fun K hK => ?_)
    refine value_ (w1 := ?_) (v := ?_) (by rfl) rfl ?_ ?_
    rotate_left 2
    · go_simp
      constructor
      · rfl
      · rfl
    refine hK.out _ _ ((Go.Lib.cell?_alloc_some _ hHeld)) (fun hHeld => ?_)
    clear hK K
    refine norm_ (a' := ?_) ?_ ?_
    rotate_left
    · show Act.put _ (some 119) _ = _
      simp only [Act.put, List.setIfInBounds_toArray, List.set_cons_zero, List.set_cons_succ, i64_w, i32_w]
      rfl
    refine one_ (i := 4) (N := some 120) #[true, true, true, true, true, true, true, true, false, false, false] rfl rfl (by kernel_rfl) (by decide) (fun K hK => ?_)
    refine goes_ Try.func38 (by kernel_rfl) rfl #[.pointer (some ⟨d, 0, none⟩), .slice (some ⟨WB.drew.heap.size, 0, none⟩) 1 1] (by rfl) rfl rfl (by simp only [List.map_toArray, List.map_cons, List.map_nil]; rfl) ?_
    with_reducible refine (HS1.out).mono ?_
    rintro e w3 ⟨rfl, hP3, hK3⟩
    refine ⟨_, rfl, ?_⟩
    refine hK.out _ _ ((HC2.out w3 hK3)) (fun hHeld => ?_)
    clear hK K
    refine norm_ (a' := ?_) ?_ ?_
    rotate_left
    · show Act.put _ (some 120) _ = _
      simp only [Act.put, List.setIfInBounds_toArray, List.set_cons_zero, List.set_cons_succ, i64_w, i32_w]
      rfl
    refine last_ (i := 8) (N := some 124) #[true, true, true, true, true, true, true, true, true, false, false] rfl rfl (by kernel_rfl) (by decide) (fun K hK => ?_)
    refine goes_ Try.func55 (by kernel_rfl) rfl #[.pointer (some ⟨r, 0, none⟩), .string s] (by rfl) rfl rfl (by simp only [List.map_toArray, List.map_cons, List.map_nil]; rfl) ?_
    with_reducible refine (HS2.out w3 hP3).mono ?_
    rintro e w4 ⟨rfl, hP4, hK4⟩
    refine ⟨_, rfl, ?_⟩
    refine hK.out _ _ ?_
    clear hK K
    refine norm_ (a' := ?_) ?_ ?_
    rotate_left
    · show Act.put _ (some 124) _ = _
      simp only [Act.put, List.setIfInBounds_toArray, List.set_cons_zero, List.set_cons_succ, i64_w, i32_w]
      rfl
    refine pure_ (i := 9) (N := some 125) (v := ?_) (a' := ?_) #[true, true, true, true, true, true, true, true, true, true, false] rfl rfl (by kernel_rfl) (fun _ _ _ h => h) (Or.inl ⟨by rfl, ?_⟩) ?_ ?_
    rotate_left
    · intro w'
      go_simp
      with_reducible rfl
    rotate_left
    · simp only [Act.put, List.setIfInBounds_toArray, List.set_cons_zero, List.set_cons_succ, i64_w, i32_w]
      rfl
    refine pure_ (i := 10) (N := some 6) (v := ?_) (a' := ?_) #[true, true, true, true, true, true, true, true, true, true, true] rfl rfl (by kernel_rfl) (fun _ _ _ h => h) (Or.inl ⟨by rfl, ?_⟩) ?_ ?_
    rotate_left
    · intro w'
      go_simp
      with_reducible rfl
    rotate_left
    · simp only [Act.put, List.setIfInBounds_toArray, List.set_cons_zero, List.set_cons_succ, i64_w, i32_w]
      rfl
    refine done_ (by kernel_rfl) ?_
    clear hHeld
    go_wp2
    go_ret
    exact ⟨by simp, HEND.out w4 _ _ Z9 (rel_remove HREL.out s).2 hP4 (fun k _ h => HZZ.out k h) (Kept.then_ (show Kept WB w3 Z9 from hK3) hK4 (fun k hk => .inl hk))⟩
  by_cases h6 : x0 = 6
  · subst h6
    as_aux_lemma =>
    go_wp2_with fail
    rw [← HB9.out, ← HWB.out]
    refine (p_fuse1 HP9.out x1 HX1.out).mono ?_
    rintro e w3 ⟨rfl, hP3, hK3⟩
    have c91b := HC1.out w3 hK3
    have HP3 := Aside0.mk hP3
    have HK3 := Aside0.mk hK3
    clear hP3 hK3 c90 c91 c92 c93 c94 c91a c92a c94a
    go_wp2_with fail
    refine (p_fuse2 HP3.out x1 HX1.out).mono ?_
    rintro e w4 ⟨rfl, hP4, hK4⟩
    have HP4 := Aside0.mk hP4
    have HK4 := Aside0.mk hK4
    clear hP4 hK4 c91b
    go_wp2
    go_ret
    exact ⟨rfl, HEND.out w4 _ _ Z9 (rel_fuse HREL.out x1 HX1.out) HP4.out (fun k _ h => HZZ.out k h) (HK3.out.then_ HK4.out (fun k hk => .inl hk))⟩
  by_cases h7 : x0 = 7
  · subst h7
    as_aux_lemma =>
    go_wp2_with fail
    rw [← HB9.out, ← HWB.out]
    refine (p_crash1 HP9.out x1).mono ?_
    rintro e w3 ⟨rfl, hP3, hK3⟩
    have c91b := HC1.out w3 hK3
    have HP3 := Aside0.mk hP3
    have HK3 := Aside0.mk hK3
    clear hP3 hK3 c90 c91 c92 c93 c94 c91a c92a c94a
    go_wp2_with fail
    refine (p_crash2 HP3.out x1).mono ?_
    rintro e w4 ⟨rfl, hP4, hK4⟩
    have HP4 := Aside0.mk hP4
    have HK4 := Aside0.mk hK4
    clear hP4 hK4 c91b
    go_wp2
    go_ret
    exact ⟨rfl, HEND.out w4 _ _ Z9 (rel_crash HREL.out x1) HP4.out (fun k _ h => HZZ.out k h) (HK3.out.then_ HK4.out (fun k hk => .inl hk))⟩
  by_cases h1 : x0 = 1
  · subst h1
    as_aux_lemma =>
    have hr8 := haystacklaw10_roomy.calls A c xs (xs ++ [171]) WB (HCC.out _ HKR.out) HCL.out (roomy_is xs (by have := HXL.out; omega))
    rw [← HNX.out] at hr8
    have HR8 := Aside0.mk hr8
    clear hr8 c90 c91 c92 c93 c94 c91a c92a h2 h3 h4 h5 h6 h7
    have c90 : (W.alloc (.cells #[.int .i64 1, .int .i64 x1, .string s, .string t, .slice A n c] 41)).cell? ⟨W.heap.size, 0, none⟩ = some (.int .i64 1) := (blk_cell (heap_alloc_new W (.cells #[.int .i64 1, .int .i64 x1, .string s, .string t, .slice A n c] 41)) 0).trans rfl
    go_wp2_with fail
    rw [← HB9.out, ← HWB.out]
    refine (HR8.out).mono ?_
    rintro e W8 ⟨v7, rfl, hR7, hB7⟩
    obtain ⟨A7, c7, rfl⟩ := Kd.R_slice hR7
    have e171 : (xs ++ [(171 : Int)]).length = n + 1 := by rw [HNX.out]; simp
    rw [e171] at hR7 ⊢
    have hn7 : n + 1 ≤ c7 := (Kd.R_reads' hR7).2.1
    have hC7 : Kd.C (Kd.int .u8) W8 A7 (n + 1) (xs ++ [171]) := by
      have h := (Kd.R_reads' hR7).2.2
      first | exact h | (rw [e171] at h; exact h)
    have hC7a : Kd.C (Kd.int .u8) W8 A7 xs.length xs := by
      have ht := (Kd.reads_of_C (d := (0 : Int)) hC7).take_ xs.length (by have := HNX.out; omega)
      rw [show (xs ++ [(171 : Int)]).take xs.length = xs from by simp] at ht
      exact Kd.C_of_reads ht
    obtain ⟨Z8, hZ8⟩ : ∃ Z8 : Nat → Prop, Z8 = fun k => (Z9 k ∧ k < WB.heap.size) ∨ W8.heap.size ≤ k := ⟨_, rfl⟩
    have hP8 := HP9.out.mark hB7
    rw [← hZ8] at hP8
    have hz89 : ∀ k, Z8 k → Z9 k := by
      rw [hZ8]
      rintro k (h | h)
      · exact h.1
      · exact HP9.out.new k (Nat.le_trans hB7.size h)
    have hk89 : ∀ w3, Kept W8 w3 Z8 → Kept WB w3 Z9 := fun w3 hk => (Kept.of_below hB7 Z9).then_ hk (fun k hk => .inl (hz89 k hk))
    have hfar : ∀ k, some k = (Value.slice A7 (n + 1) c7).ownBlock → ¬ Z8 k := by
      intro k hk hz
      obtain ⟨h3, h4, h5⟩ := (Kd.R_bound hR7).1 k hk.symm
      rw [hZ8] at hz
      rcases hz with h2 | h2 <;> omega
    replace HC2 : Aside0 (∀ w3, Kept W8 w3 Z8 → w3.cell? ⟨b9, 2, none⟩ = some (.string s)) := ⟨fun w3 hk => HC2.out w3 (hk89 w3 hk)⟩
    replace HC4 : Aside0 (∀ w3, Kept W8 w3 Z8 → w3.cell? ⟨b9, 4, none⟩ = some (.slice A n c)) := ⟨fun w3 hk => HC4.out w3 (hk89 w3 hk)⟩
    obtain ⟨q, hq⟩ : ∃ q, q = (appendV S s xs).1 := ⟨_, rfl⟩
    have hs1 := p_append1 hP8.drew s HSZ.out A7 c7 n xs HNX.out hC7a (by have := HNX.out; omega) HBY.out (by have := HXL.out; omega)
    rw [← hq, drew_alloc] at hs1
    have HS1 := Aside0.mk hs1
    have HS2 : Aside0 (∀ w3, Pair w3 w Z8 d r (appendV S s xs).2 R → Kept W8.drew w3 Z8 → Calls Try.prog 32 #[.pointer (some ⟨r, 0, none⟩), .string s, .slice A n c] w3 fun e W' => e = .returned (.int .i64 q) ∧ Pair W' w Z8 d r (appendV S s xs).2 (appendR R s xs).2 ∧ Kept w3 W' Z8) := ⟨fun w3 h hk => by
      rw [hq, ← (rel_append HREL.out s xs).1]
      exact p_append2 h s HSZ.out A c n xs HNX.out (fun W' hk2 => HCC.out W' (hk89 W' (Kept.then_ (show Kept W8 w3 Z8 from hk) hk2 (fun k hk => .inl hk)))) HCL.out (by have := HXL.out; omega)⟩
    have HK7 : Aside0 (∀ W', Kept W8 W' Z8 → (Kd.int .u8).R 5 W' WB.heap.size (fun _ => True) (.slice A7 (n + 1) c7) (xs ++ [171])) := ⟨fun W' hk => Kd.R_mono (Kd.R_kept (Kd.R_bound hR7) hk (fun k hk hz => by
      obtain ⟨h3, h4, h5⟩ := hk
      rw [hZ8] at hz
      rcases hz with h2 | h2 <;> omega)) (fun _ _ => trivial)⟩
    have HS3 : Aside0 (∀ {w3 : World} (w4 : World), Kept W8.drew w3 Z8 → Kept w3 w4 Z8 → Calls Try.prog 49 #[.slice A7 (n + 1) c7, .slice A n c] w4 fun e w' => e = .returned (.bool true) ∧ Drawn0 w4 w') := ⟨fun {w3} w4 h1 h2 => by
      have hk := Kept.then_ (show Kept W8 w3 Z8 from h1) h2 (fun k hk => .inl hk)
      have hc4 : Kd.C (Kd.int .u8) w4 A7 (n + 1) (xs ++ [171]) := by
        have h := (Kd.R_reads' (HK7.out w4 hk)).2.2
        first | exact h | (rw [e171] at h; exact h)
      exact stands_calls hc4 HNX.out hn7 (by rw [HNX.out]; exact HCC.out w4 (hk89 w4 hk)) (by have := HCL.out; have := HNX.out; omega) (by have := HXL.out; omega)⟩
    have c92 := HC2.out W8 (Kept.refl _ _)
    have c94 := HC4.out W8 (Kept.refl _ _)
    have hnc : (n : Int) ≤ (c7 : Int) := by omega
    have HOWN : Aside0 (∀ k, some k = (Value.slice A7 (n + 1) c7).ownBlock → WB.heap.size ≤ k) := ⟨fun k hk => ((Kd.R_bound hR7).1 k hk.symm).2.1⟩
    have HZ89 := Aside0.mk hz89
    have HK89 := Aside0.mk hk89
    have HFAR := Aside0.mk hfar
    have HB7 := Aside0.mk hB7
    have HE171 := Aside0.mk e171
    clear hR7 hC7 hC7a hZ8 hP8 hz89 hk89 hfar hq hs1 hB7 e171 c94a c90 hn7
    go_wp2
    refine start_ (n := 24) (S := fun w' => w'.cell? ⟨b9, 2, none⟩ = some (.string s) ∧ w'.cell? ⟨b9, 4, none⟩ = some (.slice A n c)) (ds := [21]) #[false, false, false, false, false, false, false, false, false, false, false, false, false, false, false, false, false, false, false, false, false, false, false, false] (by kernel_rfl) rfl rfl ⟨c92, c94⟩ (fun hHeld => ?_)
    refine pure_ (i := 0) (N := some 46) (v := ?_) (a' := ?_) #[true, false, false, false, false, false, false, false, false, false, false, false, false, false, false, false, false, false, false, false, false, false, false, false] rfl rfl (by kernel_rfl) (fun _ _ _ h => h) (Or.inl ⟨by rfl, ?_⟩) ?_ ?_
    rotate_left
    · intro w'
      go_simp
      with_reducible rfl
    rotate_left
    · simp only [Act.put, List.setIfInBounds_toArray, List.set_cons_zero, List.set_cons_succ, i64_w, i32_w]
      rfl
    refine pure_ (i := 1) (N := some 47) (v := ?_) (a' := ?_) #[true, true, false, false, false, false, false, false, false, false, false, false, false, false, false, false, false, false, false, false, false, false, false, false] rfl rfl (by kernel_rfl) (fun _ _ _ h => h) (Or.inl ⟨by rfl, ?_⟩) ?_ ?_
    rotate_left
    · intro w'
      go_simp
      with_reducible rfl
    rotate_left
    · simp only [Act.put, List.setIfInBounds_toArray, List.set_cons_zero, List.set_cons_succ, i64_w, i32_w]
      rfl
    refine pure_ (i := 3) (N := some 49) (v := ?_) (a' := ?_) #[true, true, false, true, false, false, false, false, false, false, false, false, false, false, false, false, false, false, false, false, false, false, false, false] rfl rfl (by kernel_rfl) (fun _ _ _ h => h) (Or.inl ⟨by rfl, ?_⟩) ?_ ?_
    rotate_left
    · intro w'
      go_simp
      with_reducible rfl
    rotate_left
    · simp only [Act.put, List.setIfInBounds_toArray, List.set_cons_zero, List.set_cons_succ, i64_w, i32_w]
      rfl
    refine pure_ (i := 4) (N := some 50) (v := ?_) (a' := ?_) #[true, true, false, true, true, false, false, false, false, false, false, false, false, false, false, false, false, false, false, false, false, false, false, false] rfl rfl (by kernel_rfl) (fun _ _ _ h => h) (Or.inl ⟨by rfl, ?_⟩) ?_ ?_
    rotate_left
    · intro w'
      go_simp
      with_reducible rfl
    rotate_left
    · simp only [Act.put, List.setIfInBounds_toArray, List.set_cons_zero, List.set_cons_succ, i64_w, i32_w]
      rfl
    refine pure_ (i := 10) (N := some 56) (v := ?_) (a' := ?_) #[true, true, false, true, true, false, false, false, false, false, true, false, false, false, false, false, false, false, false, false, false, false, false, false] rfl rfl (by kernel_rfl) (fun _ _ _ h => h) (Or.inl ⟨by rfl, ?_⟩) ?_ ?_
    rotate_left
    · intro w'
      go_simp
      with_reducible rfl
    rotate_left
    · simp only [Act.put, List.setIfInBounds_toArray, List.set_cons_zero, List.set_cons_succ, i64_w, i32_w]
      rfl
    refine pure_ (i := 11) (N := some 57) (v := ?_) (a' := ?_) #[true, true, false, true, true, false, false, false, false, false, true, true, false, false, false, false, false, false, false, false, false, false, false, false] rfl rfl (by kernel_rfl) (fun _ _ _ h => h) (Or.inl ⟨by rfl, ?_⟩) ?_ ?_
    rotate_left
    · intro w'
      go_simp
      with_reducible rfl
    rotate_left
    · simp only [Act.put, List.setIfInBounds_toArray, List.set_cons_zero, List.set_cons_succ, i64_w, i32_w]
      rfl
    refine pure_ (i := 13) (N := some 59) (v := ?_) (a' := ?_) #[true, true, false, true, true, false, false, false, false, false, true, true, false, true, false, false, false, false, false, false, false, false, false, false] rfl rfl (by kernel_rfl) (fun _ _ _ h => h) (Or.inl ⟨by rfl, ?_⟩) ?_ ?_
    rotate_left
    · intro w'
      go_simp
      with_reducible rfl
    rotate_left
    · simp only [Act.put, List.setIfInBounds_toArray, List.set_cons_zero, List.set_cons_succ, i64_w, i32_w]
      rfl
    refine take_ (i := 2) (N := some 48) (v := ?_) (a' := ?_) #[true, true, true, true, true, false, false, false, false, false, true, true, false, true, false, false, false, false, false, false, false, false, false, false] rfl rfl (by kernel_rfl) (fun _ _ _ h => h) (Or.inl ⟨by rfl, ?_⟩) hHeld ?_ ?_
    rotate_left
    · rintro w' ⟨s0, s1⟩
      go_simp
      with_reducible rfl
    rotate_left
    · simp only [Act.put, List.setIfInBounds_toArray, List.set_cons_zero, List.set_cons_succ, i64_w, i32_w]
      rfl
    refine take_ (i := 5) (N := some 51) (v := ?_) (a' := ?_) #[true, true, true, true, true, true, false, false, false, false, true, true, false, true, false, false, false, false, false, false, false, false, false, false] rfl rfl (by kernel_rfl) (fun _ _ _ h => h) (Or.inl ⟨by rfl, ?_⟩) hHeld ?_ ?_
    rotate_left
    · rintro w' ⟨s0, s1⟩
      go_simp
      with_reducible rfl
    rotate_left
    · simp only [Act.put, List.setIfInBounds_toArray, List.set_cons_zero, List.set_cons_succ, i64_w, i32_w]
      rfl
    refine pure_ (i := 6) (N := some 52) (v := ?_) (a' := ?_) #[true, true, true, true, true, true, true, false, false, false, true, true, false, true, false, false, false, false, false, false, false, false, false, false] rfl rfl (by kernel_rfl) (fun _ _ _ h => h) (Or.inl ⟨by rfl, ?_⟩) ?_ ?_
    rotate_left
    · intro w'
      go_simp
      with_reducible rfl
    rotate_left
    · simp only [Act.put, List.setIfInBounds_toArray, List.set_cons_zero, List.set_cons_succ, i64_w, i32_w]
      rfl
    refine pure_ (i := 7) (N := some 53) (v := ?_) (a' := ?_) #[true, true, true, true, true, true, true, true, false, false, true, true, false, true, false, false, false, false, false, false, false, false, false, false] rfl rfl (by kernel_rfl) (fun _ _ _ h => h) (Or.inl ⟨by rfl, ?_⟩) ?_ ?_
    rotate_left
    · intro w'
      go_simp
      with_reducible rfl
    rotate_left
    · simp only [Act.put, List.setIfInBounds_toArray, List.set_cons_zero, List.set_cons_succ, i64_w, i32_w]
      rfl
    refine take_ (i := 12) (N := some 58) (v := ?_) (a' := ?_) #[true, true, true, true, true, true, true, true, false, false, true, true, true, true, false, false, false, false, false, false, false, false, false, false] rfl rfl (by kernel_rfl) (fun _ _ _ h => h) (Or.inl ⟨by rfl, ?_⟩) hHeld ?_ ?_
    rotate_left
    · rintro w' ⟨s0, s1⟩
      go_simp
      with_reducible rfl
    rotate_left
    · simp only [Act.put, List.setIfInBounds_toArray, List.set_cons_zero, List.set_cons_succ, i64_w, i32_w]
      rfl
    refine take_ (i := 14) (N := some 60) (v := ?_) (a' := ?_) #[true, true, true, true, true, true, true, true, false, false, true, true, true, true, true, false, false, false, false, false, false, false, false, false] rfl rfl (by kernel_rfl) (fun _ _ _ h => h) (Or.inl ⟨by rfl, ?_⟩) hHeld ?_ ?_
    rotate_left
    · rintro w' ⟨s0, s1⟩
      go_simp
      with_reducible rfl
    rotate_left
    · simp only [Act.put, List.setIfInBounds_toArray, List.set_cons_zero, List.set_cons_succ, i64_w, i32_w]
      rfl
    refine one_ (i := 8) (N := some 54) #[true, true, true, true, true, true, true, true, true, false, true, true, true, true, true, false, false, false, false, false, false, false, false, false] rfl rfl (by kernel_rfl) (by decide) (fun K hK => ?_)
    refine value_ (w1 := ?_) (v := ?_) (by rfl) rfl ?_ ?_
    rotate_left 2
    · go_simp
      constructor
      · rfl
      · rfl
    refine hK.out _ _ ⟨(Go.Lib.cell?_alloc_some _ hHeld.1), (Go.Lib.cell?_alloc_some _ hHeld.2)⟩ (fun hHeld => ?_)
    clear hK K
    refine norm_ (a' := ?_) ?_ ?_
    rotate_left
    · show Act.put _ (some 54) _ = _
      simp only [Act.put, List.setIfInBounds_toArray, List.set_cons_zero, List.set_cons_succ, i64_w, i32_w]
      rfl
    refine one_ (i := 9) (N := some 55) #[true, true, true, true, true, true, true, true, true, true, true, true, true, true, true, false, false, false, false, false, false, false, false, false] rfl rfl (by kernel_rfl) (by decide) (fun K hK => ?_)
    refine goes_ Try.func20 (by kernel_rfl) rfl #[.pointer (some ⟨d, 0, none⟩), .string s, .slice (some ⟨W8.drew.heap.size, 0, none⟩) 1 1] (by rfl) rfl rfl (by simp only [List.map_toArray, List.map_cons, List.map_nil]; rfl) ?_
    with_reducible refine (HS1.out).mono ?_
    rintro e w3 ⟨rfl, hP3, hK3⟩
    refine ⟨_, rfl, ?_⟩
    refine hK.out _ _ ⟨(HC2.out w3 hK3), (HC4.out w3 hK3)⟩ (fun hHeld => ?_)
    clear hK K
    refine norm_ (a' := ?_) ?_ ?_
    rotate_left
    · show Act.put _ (some 55) _ = _
      simp only [Act.put, List.setIfInBounds_toArray, List.set_cons_zero, List.set_cons_succ, i64_w, i32_w]
      rfl
    refine one_ (i := 15) (N := some 61) #[true, true, true, true, true, true, true, true, true, true, true, true, true, true, true, true, false, false, false, false, false, false, false, false] rfl rfl (by kernel_rfl) (by decide) (fun K hK => ?_)
    refine goes_ Try.func32 (by kernel_rfl) rfl #[.pointer (some ⟨r, 0, none⟩), .string s, .slice A n c] (by rfl) rfl rfl (by simp only [List.map_toArray, List.map_cons, List.map_nil]; rfl) ?_
    with_reducible refine (HS2.out w3 hP3 hK3).mono ?_
    rintro e w4 ⟨rfl, hP4, hK4⟩
    refine ⟨_, rfl, ?_⟩
    refine hK.out _ _ ⟨(HC2.out w4 (hK3.then_ hK4 (fun k hk => .inl hk))), (HC4.out w4 (hK3.then_ hK4 (fun k hk => .inl hk)))⟩ (fun hHeld => ?_)
    clear hK K
    refine norm_ (a' := ?_) ?_ ?_
    rotate_left
    · show Act.put _ (some 61) _ = _
      simp only [Act.put, List.setIfInBounds_toArray, List.set_cons_zero, List.set_cons_succ, i64_w, i32_w]
      rfl
    refine pure_ (i := 16) (N := some 62) (v := ?_) (a' := ?_) #[true, true, true, true, true, true, true, true, true, true, true, true, true, true, true, true, true, false, false, false, false, false, false, false] rfl rfl (by kernel_rfl) (fun _ _ _ h => h) (Or.inl ⟨by rfl, ?_⟩) ?_ ?_
    rotate_left
    · intro w'
      go_simp
      with_reducible rfl
    rotate_left
    · simp only [Act.put, List.setIfInBounds_toArray, List.set_cons_zero, List.set_cons_succ, i64_w, i32_w]
      rfl
    refine pure_ (i := 17) (N := some 63) (v := ?_) (a' := ?_) #[true, true, true, true, true, true, true, true, true, true, true, true, true, true, true, true, true, true, false, false, false, false, false, false] rfl rfl (by kernel_rfl) (fun _ _ _ h => h) (Or.inl ⟨by rfl, ?_⟩) ?_ ?_
    rotate_left
    · intro w'
      go_simp
      with_reducible rfl
    rotate_left
    · simp only [Act.put, List.setIfInBounds_toArray, List.set_cons_zero, List.set_cons_succ, i64_w, i32_w]
      rfl
    refine pure_ (i := 18) (N := some 64) (v := ?_) (a' := ?_) #[true, true, true, true, true, true, true, true, true, true, true, true, true, true, true, true, true, true, true, false, false, false, false, false] rfl rfl (by kernel_rfl) (fun _ _ _ h => h) (Or.inl ⟨by rfl, ?_⟩) ?_ ?_
    rotate_left
    · intro w'
      go_simp
      with_reducible rfl
    rotate_left
    · simp only [Act.put, List.setIfInBounds_toArray, List.set_cons_zero, List.set_cons_succ, i64_w, i32_w]
      rfl
    refine pure_ (i := 19) (N := some 65) (v := ?_) (a' := ?_) #[true, true, true, true, true, true, true, true, true, true, true, true, true, true, true, true, true, true, true, true, false, false, false, false] rfl rfl (by kernel_rfl) (fun _ _ _ h => h) (Or.inl ⟨by rfl, ?_⟩) ?_ ?_
    rotate_left
    · intro w'
      go_simp
      with_reducible rfl
    rotate_left
    · simp only [Act.put, List.setIfInBounds_toArray, List.set_cons_zero, List.set_cons_succ, i64_w, i32_w]
      rfl
    refine take_ (i := 20) (N := some 66) (v := ?_) (a' := ?_) #[true, true, true, true, true, true, true, true, true, true, true, true, true, true, true, true, true, true, true, true, true, false, false, false] rfl rfl (by kernel_rfl) (fun _ _ _ h => h) (Or.inl ⟨by rfl, ?_⟩) hHeld ?_ ?_
    rotate_left
    · rintro w' ⟨s0, s1⟩
      go_simp
      with_reducible rfl
    rotate_left
    · simp only [Act.put, List.setIfInBounds_toArray, List.set_cons_zero, List.set_cons_succ, i64_w, i32_w]
      rfl
    refine last_ (i := 21) (N := some 67) #[true, true, true, true, true, true, true, true, true, true, true, true, true, true, true, true, true, true, true, true, true, true, false, false] rfl rfl (by kernel_rfl) (by decide) (fun K hK => ?_)
    refine goes_ Try.func49 (by kernel_rfl) rfl #[.slice A7 (n + 1) c7, .slice A n c] (by rfl) rfl rfl (by simp only [List.map_toArray, List.map_cons, List.map_nil]; rfl) ?_
    with_reducible refine (HS3.out w4 hK3 hK4).mono ?_
    rintro e w5 ⟨rfl, hd5⟩
    refine ⟨_, rfl, ?_⟩
    refine hK.out _ _ ?_
    clear hK K
    refine norm_ (a' := ?_) ?_ ?_
    rotate_left
    · show Act.put _ (some 67) _ = _
      simp only [Act.put, List.setIfInBounds_toArray, List.set_cons_zero, List.set_cons_succ, i64_w, i32_w]
      rfl
    refine pure_ (i := 22) (N := some 68) (v := ?_) (a' := ?_) #[true, true, true, true, true, true, true, true, true, true, true, true, true, true, true, true, true, true, true, true, true, true, true, false] rfl rfl (by kernel_rfl) (fun _ _ _ h => h) (Or.inl ⟨by rfl, ?_⟩) ?_ ?_
    rotate_left
    · intro w'
      go_simp
      with_reducible rfl
    rotate_left
    · simp only [Act.put, List.setIfInBounds_toArray, List.set_cons_zero, List.set_cons_succ, i64_w, i32_w]
      rfl
    refine pure_ (i := 23) (N := some 8) (v := ?_) (a' := ?_) #[true, true, true, true, true, true, true, true, true, true, true, true, true, true, true, true, true, true, true, true, true, true, true, true] rfl rfl (by kernel_rfl) (fun _ _ _ h => h) (Or.inl ⟨by rfl, ?_⟩) ?_ ?_
    rotate_left
    · intro w'
      go_simp
      with_reducible rfl
    rotate_left
    · simp only [Act.put, List.setIfInBounds_toArray, List.set_cons_zero, List.set_cons_succ, i64_w, i32_w]
      rfl
    refine done_ (by kernel_rfl) ?_
    clear hHeld
    have HK5 : Aside0 (Kept W8 w4 Z8) := ⟨Kept.then_ (show Kept W8 w3 Z8 from hK3) hK4 (fun k hk => .inl hk)⟩
    have HP5 := Aside0.mk (hP4.below hd5.below)
    have HK6 : Aside0 (Kept W8 w5 Z8) := ⟨HK5.out.then_ (Kept.of_below hd5.below (fun _ => False)) (fun k hk => hk.elim)⟩
    clear hP3 hK3 hP4 hK4 hd5 c92 c94
    go_wp2_with fail
    refine (spoil_calls (w0 := w) (Kd.R_lower (HK7.out w5 HK6.out) HP9.out.base.size) HP5.out.base (by have := HXL.out; simp; omega)).mono ?_
    rintro e w6 ⟨rfl, hK7, hB7⟩
    have HP7 := Aside0.mk (HP5.out.kept hK7 (fun k hk => HFAR.out k hk) hB7)
    have HK8 : Aside0 (Kept WB w6 Z9) := ⟨(HK89.out w5 HK6.out).then_ hK7 (fun k hk => .inr (HOWN.out k hk))⟩
    clear hK7 hB7
    go_wp2
    go_ret
    exact ⟨by simp, HEND.out w6 _ _ Z8 (rel_append HREL.out s xs).2 HP7.out (fun k _ h => HZZ.out k (HZ89.out k h)) HK8.out⟩
  as_aux_lemma =>
  obtain ⟨ys, q, hyq⟩ : ∃ ys q, readV S s = (ys, q) := ⟨_, _, rfl⟩
  have hyl := readV_len HP9.out.fine s
  have k1 := p_read1 HP9.out s HSZ.out
  rw [hyq] at k1 hyl
  have K1 := Aside0.mk k1
  have K2 : Aside0 (∀ Z1 W1, Pair W1 w Z1 d r S R → Calls Try.prog 35 #[.pointer (some ⟨r, 0, none⟩), .string s] W1 fun e w' => ∃ A c, e = .returned (.tuple #[.slice A ys.length c, .int .i64 q]) ∧ ys.length ≤ c ∧ Kd.C (Kd.int .u8) w' A ys.length ys ∧ Below W1.heap.size W1 w') := ⟨fun Z1 W1 h => by have := p_read2 h s; rw [← rel_read HREL.out, hyq] at this; exact this⟩
  have HYL : Aside0 (ys.length ≤ 1073741824) := ⟨hyl⟩
  clear k1 hyl hyq
  go_wp2_with fail
  rw [← HB9.out, ← HWB.out]
  refine (K1.out).mono ?_
  rintro e w3 ⟨A3, c3, rfl, hR3, hB3⟩
  obtain ⟨Z3, hZ3⟩ : ∃ Z3 : Nat → Prop, Z3 = fun k => (Z9 k ∧ k < WB.heap.size) ∨ w3.heap.size ≤ k := ⟨_, rfl⟩
  have hP3 := HP9.out.mark hB3
  rw [← hZ3] at hP3
  have c92b := HC2.out w3 (Kept.of_below hB3 _)
  have HP3 := Aside0.mk hP3
  have HB3 := Aside0.mk hB3
  have HR3 := Aside0.mk hR3
  have HZ3 := Aside0.mk hZ3
  clear hP3 hB3 hR3 hZ3 c90 c91 c92 c93 c94 c91a c92a c94a K1
  go_wp2_with fail
  refine (K2.out _ _ HP3.out).mono ?_
  rintro e w4 ⟨A4, c4, rfl, hc4, hC4, hB4⟩
  have HP4 := Aside0.mk (HP3.out.below hB4)
  have HB4 := Aside0.mk hB4
  have HC4' := Aside0.mk hC4
  have HL4 := Aside0.mk hc4
  clear hc4 hC4 hB4 c92b K2
  go_wp2_with fail
  have hRx := Kd.R_reads' (Kd.R_below HR3.out HB4.out)
  refine (haystacklaw10_same.calls (ys.length + 1) A3 c3 ys A4 c4 ys true w4 hRx.2.2 hRx.2.1 HC4'.out HL4.out (same_refl ys (by have := HYL.out; omega))).mono ?_
  rintro e w5 ⟨rfl, hd5⟩
  have HP5 := Aside0.mk (HP4.out.below hd5.below)
  have hB35 := HB4.out.trans (hd5.below.mono HB4.out.size)
  have HB5 : Aside0 (Below WB.heap.size WB w5) := ⟨HB3.out.trans (hB35.mono HB3.out.size)⟩
  have HR5 := Aside0.mk (Kd.R_below HR3.out hB35)
  clear hd5 hRx hB35
  go_wp2_with fail
  refine (spoil_calls (w0 := WB) HR5.out HB5.out (by have := HYL.out; omega)).mono ?_
  rintro e w6 ⟨rfl, hK6, hB6⟩
  have HP6 : Aside0 (Pair w6 w Z3 d r S R) := ⟨HP5.out.kept hK6 (fun k hk hz => by
    have h1 := (Kd.R_bound HR3.out).1 k hk.symm
    have h2 : Z3 k := hz
    rw [HZ3.out] at h2
    obtain ⟨h3, h4, h5⟩ := h1
    rcases h2 with h2 | h2
    · omega
    · omega) (HP9.out.base.trans (hB6.mono HP9.out.base.size))⟩
  have HB6 := Aside0.mk hB6
  clear hK6 hB6
  go_wp2
  go_ret
  refine ⟨by simp, HEND.out w6 S R Z3 HREL.out HP6.out (fun k _ h => ?_) (Kept.of_below HB6.out _)⟩
  have h2 : Z3 k := h
  rw [HZ3.out] at h2
  rcases h2 with h2 | h2
  · exact HZZ.out k h2.1
  · exact HZZ.out k (HP9.out.new k (Nat.le_trans HB3.out.size h2))
end
end Go.Proofs.Ytdepjlnljkbfjaa.Hand
