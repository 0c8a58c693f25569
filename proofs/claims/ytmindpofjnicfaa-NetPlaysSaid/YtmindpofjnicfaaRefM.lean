/- The reference's Net in memory: its state, Give, Twice, Late. -/
import Derived.Test.YtmindpofjnicfaaRefN
namespace Go.Proofs.Ytmindpofjnicfaa.Hand
open Go.RowKit Go.Proofs.Ytmindpofjnicfaa.PA Go.Proofs.YtmindpofjnicfaaW.PrintWords Go.Proofs.YtmindpofjnicfaaW.PrintLast Go.Proofs.YtmindpofjnicfaaW.PrintMore
attribute [local go_sem] max2_int min2_int
set_option linter.unusedVariables false
set_option linter.unusedSimpArgs false
section
variable {W W' w w0 : World} {ok ok' : Nat → Prop} {h : Nat} {l : List S28} {v : Value}
theorem reads_take {α : Type} {Rr : α → List Value → Prop} {size : Nat} {A : Option Addr} {ps : List α} (h : ReadsRow Rr size W A ps.length ps) (m : Nat) (hm : m ≤ ps.length) : ReadsRow Rr size W A m (ps.take m) := by
  refine ⟨by rw [List.length_take]; omega, by have := h.2.1; omega, fun h0 => ?_⟩
  obtain ⟨ad, e, hc⟩ := h.2.2 (by omega)
  exact ⟨ad, e, fun j p hj => hc j p (by rw [List.getElem?_take] at hj; split at hj <;> first | exact hj | cases hj)⟩
theorem reads_drop {α : Type} {Rr : α → List Value → Prop} {size : Nat} {g : Nat} {ps : List α} (h : ReadsRow Rr size W (some ⟨g, 0, none⟩) ps.length ps) (m : Nat) (hm : m ≤ ps.length) (A : Option Addr) (hA : A = some ⟨g, m * size, none⟩ ∨ ps.length - m = 0) : ReadsRow Rr size W A (ps.length - m) (ps.drop m) := by
  refine ⟨by rw [List.length_drop], by have := h.2.1; omega, fun h0 => ?_⟩
  obtain ⟨ad, e, hc⟩ := h.2.2 (by omega)
  cases e
  rcases hA with rfl | hA
  · refine ⟨_, rfl, fun j p hj => ?_⟩
    rw [List.getElem?_drop] at hj
    obtain ⟨cs, h1, h2, h3⟩ := hc (m + j) p hj
    refine ⟨cs, h1, h2, fun i u hu => ?_⟩
    have := h3 i u hu
    rw [Addr.add_lit] at this ⊢
    rw [show m * size + (j * size + i) = 0 + ((m + j) * size + i) from by rw [Nat.add_mul]; omega]
    exact this
  · omega
/-- append(append([]Msg{}, l[:i]...), l[i+1:]...). -/
theorem two_rows {base g c : Nat} (hR : Kd.R k28 28 W base ok (.slice (some ⟨g, 0, none⟩) l.length c) l) (hb : base ≤ W.heap.size) (hm : l.length ≤ 1025) (i : Nat) (hi : i < l.length) (A2 : Option Addr) (hA2 : A2 = some ⟨g, (i + 1) * 3, none⟩ ∨ l.length - (i + 1) = 0) (c1 c2 : Nat) :
    ∃ v6 W6 v7 W7, (Builtin.append_ #[41, 41] 41 #[.slice (some ⟨W.heap.size, 0, none⟩) 0 0, .slice (some ⟨g, 0, none⟩) i c1]).run Try.prog (W.alloc (.cells #[] 28)) = .ok v6 W6 ∧ (Builtin.append_ #[41, 41] 41 #[v6, .slice A2 (l.length - (i + 1)) c2]).run Try.prog W6 = .ok v7 W7 ∧
      Kd.R k28 28 W7 base (fun q => ok q ∨ W.heap.size ≤ q) v7 (l.eraseIdx i) ∧ Below W.heap.size W W6 ∧ Below W.heap.size W W7 ∧ (∃ A n c, v6 = .slice A n c) ∧ (∃ A n c, v7 = .slice A n c) := by
  obtain ⟨A, c', e1, hcl, hrd⟩ := hR.2.reads
  injection e1 with e1 _ e3
  subst e1
  obtain ⟨okp, hokp⟩ : ∃ okp : Nat → Prop, okp = fun k => ok k ∧ k < W.heap.size := ⟨_, rfl⟩
  have hmv : ∀ W', Below W.heap.size W W' → ReadsRow (k28.M W' base okp) 3 W' (some ⟨g, 0, none⟩) l.length l := fun W' hbw => ReadsRow.imp_ hrd hbw (fun p cs hp => k28.M_mono (fun k hk => by rw [hokp]; exact ⟨hk.1.1, hk.2.2.1⟩) (Kd.M_below (k28.M_bound hp) hbw))
  have hb0 : Below W.heap.size W (W.alloc (.cells #[] 28)) := (Below.refl _ _).alloc (Nat.le_refl _) _
  obtain ⟨v6, W6, hr6, hR6, hG6, hat6⟩ := rows_run k28 (W := W.alloc (.cells #[] 28)) base 41 28 (.agg #[.int .i64 0, .int .i64 0, .slice none 0 0]) 40 Try.underlying41 info28 rfl (by decide) (by decide) _ [] (l.take i) (some ⟨g, 0, none⟩) i c1 (fun q => ok q ∨ W.heap.size ≤ q) okp (made_R k28 28 W base _ hb (.inr (Nat.le_refl _))) (reads_take (hmv _ hb0) i (by omega)) (fun _ _ h => h)
    (fun k hk => by rw [hokp] at hk; exact ⟨.inl hk.1, fun e => by have := own_new e.symm; omega⟩) (fun k hk => .inr (by simp at hk; omega)) (by simp; omega) (by simp; omega)
  rw [List.nil_append] at hR6
  have how6 : ∀ k, v6.ownBlock = some k → W.heap.size ≤ k := fun k hk => hat6.elim (fun h => by rw [h] at hk; have := own_new hk; omega) (fun ⟨b, h, hb⟩ => by rw [h] at hk; injection hk with hk; simp at hb; omega)
  have hb6 : Below W.heap.size W W6 := hb0.grown hG6 (by simp) (fun k hk => by have := own_new hk; omega)
  obtain ⟨v7, W7, hr7, hR7, hG7, hat7⟩ := rows_run k28 (W := W6) base 41 28 (.agg #[.int .i64 0, .int .i64 0, .slice none 0 0]) 40 Try.underlying41 info28 rfl (by decide) (by decide) v6 (l.take i) (l.drop (i + 1)) A2 (l.length - (i + 1)) c2 (fun q => ok q ∨ W.heap.size ≤ q) okp hR6 (reads_drop (hmv _ hb6) (i + 1) (by omega) A2 hA2) (fun _ _ h => h)
    (fun k hk => by rw [hokp] at hk; exact ⟨.inl hk.1, fun e => by have := how6 k e.symm; omega⟩) (fun k hk => .inr (by have := hb6.size; omega)) (by have := hb6.size; omega) (by simp; omega)
  rw [← List.eraseIdx_eq_take_drop_succ] at hR7
  obtain ⟨A6, c6, h6⟩ := Kd.R_slice hR6
  obtain ⟨A7, c7, h7⟩ := Kd.R_slice hR7
  exact ⟨v6, W6, v7, W7, hr6, hr7, hR7, hb6, hb6.grown hG7 hb6.size how6, ⟨A6, _, c6, h6⟩, ⟨A7, _, c7, h7⟩⟩
theorem rpick {base : Nat} (H : IsRN W base ok h v l) (hl : 0 < l.length) (i : Int) (h0 : 0 ≤ i) (h1 : i < l.length) :
    ∃ r c A2 c2, v = .slice (some ⟨r, 0, none⟩) l.length c ∧ l.length ≤ c ∧ W.cell? ⟨r, i.toNat * 3, none⟩ = some (.int .i64 (rd_T28 l i).f0) ∧ W.cell? ⟨r, i.toNat * 3 + 1, none⟩ = some (.int .i64 (rd_T28 l i).f1) ∧ W.cell? ⟨r, i.toNat * 3 + 2, none⟩ = some (.slice A2 (rd_T28 l i).f2.length c2) ∧
      (Kd.int .u8).R 5 W base (fun k => (ok k ∧ some k ≠ v.ownBlock) ∧ k ≠ h) (.slice A2 (rd_T28 l i).f2.length c2) (rd_T28 l i).f2 := by
  obtain ⟨r, c, h1', h2, h3, _⟩ := Kd.R_form H.row hl
  obtain ⟨_, c', e1, hcc, _⟩ := Kd.R_reads H.row
  subst h1'
  injection e1 with _ _ e1
  subst e1
  obtain ⟨cs, hcs, hM, hcell⟩ := Kd.R_getA H.row (⟨0, 0, []⟩ : S28) i h0 h1
  obtain ⟨v2, rfl, hR2⟩ := k28_openM hM
  obtain ⟨A2, c2, rfl⟩ := Kd.R_slice hR2
  have z0 := hcell 0 _ rfl
  have z1 := hcell 1 _ rfl
  have z2 := hcell 2 _ rfl
  simp only [Addr.add_lit, Nat.add_zero, Nat.zero_add, show k28.sz = 3 from rfl] at z0 z1 z2
  exact ⟨r, c, A2, c2, rfl, hcc, z0, z1, z2, Kd.R_types hR2 H.here (by intro q hq; simp [Kd.int, Kd.scalar] at hq; omega)⟩
theorem one_row (W6 : World) (x0 x1 : Int) (x2 : List Int) (u : Value) : ReadsRow (fun (x : S28) (cs : List Value) => x = ⟨x0, x1, x2⟩ ∧ cs = [.int .i64 x0, .int .i64 x1, u]) 3 (W6.alloc (.cells #[.int .i64 x0, .int .i64 x1, u] 28)) (some ⟨W6.heap.size, 0, none⟩) 1 [⟨x0, x1, x2⟩] := by
  refine ⟨rfl, by omega, fun _ => ⟨_, rfl, fun j p hj => ?_⟩⟩
  match j with
  | 0 =>
    cases hj
    refine ⟨_, rfl, ⟨rfl, rfl⟩, fun i u hu => ?_⟩
    rw [add_plain, blk_cell (heap_alloc_new W6 _), Nat.zero_mul, Nat.zero_add]
    rw [← hu]
    simp
  | j + 1 => simp at hj
theorem rd_mem {l : List S28} {i : Nat} (hi : i < l.length) : rd_T28 l (i : Int) ∈ l := by
  unfold rd_T28
  rw [List.getD_eq_getElem?_getD, Int.toNat_natCast, List.getElem?_eq_getElem hi]
  exact List.getElem_mem _
set_option maxRecDepth 100000 in
set_option maxHeartbeats 4000000 in
theorem rtwice_calls (H : RNUp w w0 ok h l) (p : Int) (hl2 : l.length ≤ 1024) (hd : ∀ x ∈ l, x.f2.length ≤ 140737488355328) :
    Calls Try.prog 20 #[.pointer (some ⟨h, 0, none⟩), .int .i64 p] w fun e w' => e = .returned (.bool (twiceB l)) ∧ RNUp w' w0 (fun k => ok k ∨ w.heap.size ≤ k) h (twiceL p l) ∧ Kept w w' ok := by
  have HH := Aside0.mk H
  obtain ⟨⟨v, hI⟩, hB⟩ := H
  obtain ⟨Av, cv, rfl, hcv, _, hgw, _⟩ := hI.slice
  by_cases hl : l.length = 0
  · have htb : twiceB l = false := by simp [twiceB, hl]
    have htl : twiceL p l = l := by unfold twiceL; rw [htb]; rfl
    have HE : Aside0 (twiceB l = false ∧ twiceL p l = l) := ⟨htb, htl⟩
    clear htb htl
    rw [HE.out.1, HE.out.2]
    rw [hl] at hgw
    clear hI hB hcv hl
    go_enter Try.func20, Try.ntmps20
    go_wp2
    go_ret
    exact ⟨rfl, HH.out.mono (fun _ h => .inl h), Kept.refl _ _⟩
  · obtain ⟨i, hi, hil⟩ := pick_lt p l.length (by omega)
    have hxl := hd _ (rd_mem hil)
    obtain ⟨g, c, A2, c2, e1, _, hx0, hx1, hx2, hR⟩ := rpick hI (by omega) (i : Int) (by omega) (by omega)
    injection e1 with e1 _ e2
    subst e1
    replace e2 := e2.symm
    subst e2
    have HT : Aside0 (twiceL p l = if l.length < 1024 then l ++ [rd_T28 l i] else l) := ⟨by
      unfold twiceL twiceB
      rw [hi]
      simp only [show (0 < l.length) = True from by simp; omega, decide_true, Bool.true_and, decide_eq_true_eq]⟩
    have HTB : Aside0 (twiceB l = decide (l.length < 1024)) := ⟨by simp only [twiceB, show (0 < l.length) = True from by simp; omega, decide_true, Bool.true_and]⟩
    rw [HT.out, HTB.out]
    simp only [Int.toNat_natCast] at hx0 hx1 hx2
    generalize rd_T28 l i = x at *
    obtain ⟨x0, x1, x2⟩ := x
    simp only at hx0 hx1 hx2 hR hxl
    have hK0 : Kept w (w.alloc (.cells #[.int .i64 x0, .int .i64 x1, .slice A2 x2.length c2] 28)).drew (fun _ => False) := ((Kept.refl w _).alloc _).drew
    have hs := rsend_calls (w := (w.alloc (.cells #[.int .i64 x0, .int .i64 x1, .slice A2 x2.length c2] 28)).drew) (w0 := w0) (h := h) (l := l) (ok := ok) (v0 := .slice (some ⟨g, 0, none⟩) l.length c) ⟨(hK0.2 h (blk_lt hI.here) (fun h => h)).trans hI.here, hI.mine, hI.young, Kd.R_drew (Kd.R_alloc hI.row _)⟩ (bdrew (hB.alloc hB.size _)) (some ⟨w.heap.size, 0, none⟩) 1 [⟨x0, x1, x2⟩]
      (reads_one (x := ⟨x0, x1, x2⟩) (Kd.R_drew (Kd.R_alloc hR _)) (fun k hk e => e.elim hk.2 hk.1.2) (heap_alloc_new w _) (fun e => e.elim (fun e => by have := blk_lt hI.here; omega) (fun e => by have := Kd.R_lt hI.row _ e.symm; simp at this))) (by simp) (by simpa using hxl) hl2
    have hin := hI.in_ok
    have HIN := Aside0.mk hin
    clear hK0 hin
    simp only [List.length_cons, List.length_nil, Nat.zero_add] at hs
    have HS := Aside0.mk hs
    obtain ⟨n, hn⟩ : ∃ n, n = l.length := ⟨_, rfl⟩
    obtain ⟨nx, hnx⟩ : ∃ nx, nx = x2.length := ⟨_, rfl⟩
    rw [← hn] at hgw hcv hil hl hi
    rw [← hnx] at hx2 HS
    unfold pickOf at hi
    rw [← Int.tmod_eq_emod_of_nonneg (by omega)] at hi
    have HN := Aside0.mk hn
    clear hs hI hB hR hn hnx HT HTB hxl
    go_enter Try.func20, Try.ntmps20
    go_wp2
    refine start_ (n := 19) (S := fun w' => w'.cell? ⟨h, 0, none⟩ = some (.slice (some ⟨g, 0, none⟩) n c) ∧ w'.cell? ⟨g, i * 3, none⟩ = some (.int .i64 x0) ∧ w'.cell? ⟨g, i * 3 + 1, none⟩ = some (.int .i64 x1) ∧ w'.cell? ⟨g, i * 3 + 2, none⟩ = some (.slice A2 nx c2)) (ds := [16]) #[false, false, false, false, false, false, false, false, false, false, false, false, false, false, false, false, false, false, false] (by kernel_rfl) rfl rfl ⟨hgw, hx0, hx1, hx2⟩ (fun hHeld => ?_)
    refine pure_ (i := 0) (N := some 11) (v := ?_) (a' := ?_) #[true, false, false, false, false, false, false, false, false, false, false, false, false, false, false, false, false, false, false] rfl rfl (by kernel_rfl) (fun _ _ _ h => h) (Or.inl ⟨by rfl, ?_⟩) ?_ ?_
    rotate_left
    · intro w'
      go_simp
      with_reducible rfl
    rotate_left
    · simp only [Act.put, List.setIfInBounds_toArray, List.set_cons_zero, List.set_cons_succ, i64_w, i32_w]
      rfl
    refine pure_ (i := 1) (N := some 12) (v := ?_) (a' := ?_) #[true, true, false, false, false, false, false, false, false, false, false, false, false, false, false, false, false, false, false] rfl rfl (by kernel_rfl) (fun _ _ _ h => h) (Or.inl ⟨by rfl, ?_⟩) ?_ ?_
    rotate_left
    · intro w'
      go_simp
      with_reducible rfl
    rotate_left
    · simp only [Act.put, List.setIfInBounds_toArray, List.set_cons_zero, List.set_cons_succ, i64_w, i32_w]
      rfl
    refine pure_ (i := 2) (N := some 13) (v := ?_) (a' := ?_) #[true, true, true, false, false, false, false, false, false, false, false, false, false, false, false, false, false, false, false] rfl rfl (by kernel_rfl) (fun _ _ _ h => h) (Or.inl ⟨by rfl, ?_⟩) ?_ ?_
    rotate_left
    · intro w'
      go_simp
      with_reducible rfl
    rotate_left
    · simp only [Act.put, List.setIfInBounds_toArray, List.set_cons_zero, List.set_cons_succ, i64_w, i32_w]
      rfl
    refine pure_ (i := 3) (N := some 14) (v := ?_) (a' := ?_) #[true, true, true, true, false, false, false, false, false, false, false, false, false, false, false, false, false, false, false] rfl rfl (by kernel_rfl) (fun _ _ _ h => h) (Or.inl ⟨by rfl, ?_⟩) ?_ ?_
    rotate_left
    · intro w'
      go_simp
      with_reducible rfl
    rotate_left
    · simp only [Act.put, List.setIfInBounds_toArray, List.set_cons_zero, List.set_cons_succ, i64_w, i32_w]
      rfl
    refine pure_ (i := 5) (N := some 16) (v := ?_) (a' := ?_) #[true, true, true, true, false, true, false, false, false, false, false, false, false, false, false, false, false, false, false] rfl rfl (by kernel_rfl) (fun _ _ _ h => h) (Or.inl ⟨by rfl, ?_⟩) ?_ ?_
    rotate_left
    · intro w'
      go_simp
      with_reducible rfl
    rotate_left
    · simp only [Act.put, List.setIfInBounds_toArray, List.set_cons_zero, List.set_cons_succ, i64_w, i32_w]
      rfl
    refine pure_ (i := 6) (N := some 17) (v := ?_) (a' := ?_) #[true, true, true, true, false, true, true, false, false, false, false, false, false, false, false, false, false, false, false] rfl rfl (by kernel_rfl) (fun _ _ _ h => h) (Or.inl ⟨by rfl, ?_⟩) ?_ ?_
    rotate_left
    · intro w'
      go_simp
      with_reducible rfl
    rotate_left
    · simp only [Act.put, List.setIfInBounds_toArray, List.set_cons_zero, List.set_cons_succ, i64_w, i32_w]
      rfl
    refine pure_ (i := 7) (N := some 18) (v := ?_) (a' := ?_) #[true, true, true, true, false, true, true, true, false, false, false, false, false, false, false, false, false, false, false] rfl rfl (by kernel_rfl) (fun _ _ _ h => h) (Or.inl ⟨by rfl, ?_⟩) ?_ ?_
    rotate_left
    · intro w'
      go_simp
      with_reducible rfl
    rotate_left
    · simp only [Act.put, List.setIfInBounds_toArray, List.set_cons_zero, List.set_cons_succ, i64_w, i32_w]
      rfl
    refine pure_ (i := 8) (N := some 19) (v := ?_) (a' := ?_) #[true, true, true, true, false, true, true, true, true, false, false, false, false, false, false, false, false, false, false] rfl rfl (by kernel_rfl) (fun _ _ _ h => h) (Or.inl ⟨by rfl, ?_⟩) ?_ ?_
    rotate_left
    · intro w'
      go_simp
      with_reducible rfl
    rotate_left
    · simp only [Act.put, List.setIfInBounds_toArray, List.set_cons_zero, List.set_cons_succ, i64_w, i32_w]
      rfl
    refine pure_ (i := 9) (N := some 20) (v := ?_) (a' := ?_) #[true, true, true, true, false, true, true, true, true, true, false, false, false, false, false, false, false, false, false] rfl rfl (by kernel_rfl) (fun _ _ _ h => h) (Or.inl ⟨by rfl, ?_⟩) ?_ ?_
    rotate_left
    · intro w'
      go_simp
      with_reducible rfl
    rotate_left
    · simp only [Act.put, List.setIfInBounds_toArray, List.set_cons_zero, List.set_cons_succ, i64_w, i32_w]
      rfl
    refine take_ (i := 4) (N := some 15) (v := ?_) (a' := ?_) #[true, true, true, true, true, true, true, true, true, true, false, false, false, false, false, false, false, false, false] rfl rfl (by kernel_rfl) (fun _ _ _ h => h) (Or.inl ⟨by rfl, ?_⟩) hHeld ?_ ?_
    rotate_left
    · rintro w' ⟨s0, s1, s2, s3⟩
      go_simp
      with_reducible rfl
    rotate_left
    · simp only [Act.put, List.setIfInBounds_toArray, List.set_cons_zero, List.set_cons_succ, i64_w, i32_w]
      rfl
    refine take_ (i := 10) (N := some 21) (v := ?_) (a' := ?_) #[true, true, true, true, true, true, true, true, true, true, true, false, false, false, false, false, false, false, false] rfl rfl (by kernel_rfl) (fun _ _ _ h => h) (Or.inl ⟨by rfl, ?_⟩) hHeld ?_ ?_
    rotate_left
    · rintro w' ⟨s0, s1, s2, s3⟩
      go_simp
      with_reducible rfl
    rotate_left
    · simp only [Act.put, List.setIfInBounds_toArray, List.set_cons_zero, List.set_cons_succ, i64_w, i32_w]
      rfl
    refine pure_ (i := 11) (N := some 22) (v := ?_) (a' := ?_) #[true, true, true, true, true, true, true, true, true, true, true, true, false, false, false, false, false, false, false] rfl rfl (by kernel_rfl) (fun _ _ _ h => h) (Or.inl ⟨by rfl, ?_⟩) ?_ ?_
    rotate_left
    · intro w'
      go_simp
      with_reducible rfl
    rotate_left
    · simp only [Act.put, List.setIfInBounds_toArray, List.set_cons_zero, List.set_cons_succ, i64_w, i32_w]
      rfl
    refine pure_ (i := 12) (N := some 23) (v := ?_) (a' := ?_) #[true, true, true, true, true, true, true, true, true, true, true, true, true, false, false, false, false, false, false] rfl rfl (by kernel_rfl) (fun _ _ _ h => h) (Or.inl ⟨by rfl, ?_⟩) ?_ ?_
    rotate_left
    · intro w'
      go_simp
      with_reducible rfl
    rotate_left
    · simp only [Act.put, List.setIfInBounds_toArray, List.set_cons_zero, List.set_cons_succ, i64_w, i32_w]
      rfl
    refine pure_ (i := 13) (N := some 24) (v := ?_) (a' := ?_) #[true, true, true, true, true, true, true, true, true, true, true, true, true, true, false, false, false, false, false] rfl rfl (by kernel_rfl) (fun _ _ _ h => h) (Or.inl ⟨by rfl, ?_⟩) ?_ ?_
    rotate_left
    · intro w'
      go_simp
      with_reducible rfl
    rotate_left
    · simp only [Act.put, List.setIfInBounds_toArray, List.set_cons_zero, List.set_cons_succ, i64_w, i32_w]
      rfl
    refine take_ (i := 14) (N := some 25) (v := ?_) (a' := ?_) #[true, true, true, true, true, true, true, true, true, true, true, true, true, true, true, false, false, false, false] rfl rfl (by kernel_rfl) (fun _ _ _ h => h) (Or.inl ⟨by rfl, ?_⟩) hHeld ?_ ?_
    rotate_left
    · rintro w' ⟨s0, s1, s2, s3⟩
      go_simp
      with_reducible rfl
    rotate_left
    · simp only [Act.put, List.setIfInBounds_toArray, List.set_cons_zero, List.set_cons_succ, i64_w, i32_w]
      rfl
    refine one_ (i := 15) (N := some 26) #[true, true, true, true, true, true, true, true, true, true, true, true, true, true, true, true, false, false, false] rfl rfl (by kernel_rfl) (by decide) (fun K hK => ?_)
    refine value_ (w1 := ?_) (v := ?_) (by rfl) rfl ?_ ?_
    rotate_left 2
    · go_simp
      constructor
      · rfl
      · rfl
    refine hK.out _ _ ⟨(Go.Lib.cell?_alloc_some _ hHeld.1), (Go.Lib.cell?_alloc_some _ hHeld.2.1), (Go.Lib.cell?_alloc_some _ hHeld.2.2.1), (Go.Lib.cell?_alloc_some _ hHeld.2.2.2)⟩ (fun hHeld => ?_)
    clear hK K
    refine norm_ (a' := ?_) ?_ ?_
    rotate_left
    · show Act.put _ (some 26) _ = _
      simp only [Act.put, List.setIfInBounds_toArray, List.set_cons_zero, List.set_cons_succ, i64_w, i32_w]
      rfl
    refine last_ (i := 16) (N := some 27) #[true, true, true, true, true, true, true, true, true, true, true, true, true, true, true, true, true, false, false] rfl rfl (by kernel_rfl) (by decide) (fun K hK => ?_)
    refine goes_ Try.func16 (by kernel_rfl) rfl #[.pointer (some ⟨h, 0, none⟩), .slice (some ⟨w.heap.size, 0, none⟩) 1 1] (by rfl) rfl rfl (by simp only [List.map_toArray, List.map_cons, List.map_nil]; rfl) ?_
    with_reducible refine (HS.out).mono ?_
    rintro e w3 ⟨rfl, hU3, hK3⟩
    refine ⟨_, rfl, ?_⟩
    refine hK.out _ _ ?_
    clear hK K
    refine norm_ (a' := ?_) ?_ ?_
    rotate_left
    · show Act.put _ (some 27) _ = _
      simp only [Act.put, List.setIfInBounds_toArray, List.set_cons_zero, List.set_cons_succ, i64_w, i32_w]
      rfl
    refine pure_ (i := 17) (N := some 28) (v := ?_) (a' := ?_) #[true, true, true, true, true, true, true, true, true, true, true, true, true, true, true, true, true, true, false] rfl rfl (by kernel_rfl) (fun _ _ _ h => h) (Or.inl ⟨by rfl, ?_⟩) ?_ ?_
    rotate_left
    · intro w'
      go_simp
      with_reducible rfl
    rotate_left
    · simp only [Act.put, List.setIfInBounds_toArray, List.set_cons_zero, List.set_cons_succ, i64_w, i32_w]
      rfl
    refine pure_ (i := 18) (N := some 4) (v := ?_) (a' := ?_) #[true, true, true, true, true, true, true, true, true, true, true, true, true, true, true, true, true, true, true] rfl rfl (by kernel_rfl) (fun _ _ _ h => h) (Or.inl ⟨by rfl, ?_⟩) ?_ ?_
    rotate_left
    · intro w'
      go_simp
      with_reducible rfl
    rotate_left
    · simp only [Act.put, List.setIfInBounds_toArray, List.set_cons_zero, List.set_cons_succ, i64_w, i32_w]
      rfl
    refine done_ (by kernel_rfl) ?_
    clear hHeld
    have hU := hU3.mono (ok' := fun k => ok k ∨ w.heap.size ≤ k) (fun k hk => hk.imp_right (fun h => by simp at h; omega))
    have hK : Kept w w3 ok := (((Kept.refl w ok).alloc _).drew).then_ hK3 (fun k hk => .inl (HIN.out k hk))
    clear hU3 hK3
    by_cases hc : l.length < 1024
    · have hm1 : manyOf l.length 1 = 1 := by unfold manyOf; omega
      rw [hm1] at hU ⊢
      have HU := Aside0.mk hU
      have HK := Aside0.mk hK
      clear hU hK
      go_wp2
      go_ret
      exact ⟨rfl, HU.out, HK.out⟩
    · have hm1 : manyOf l.length 1 = 0 := by unfold manyOf; omega
      rw [hm1] at hU ⊢
      rw [List.take_zero, List.append_nil] at hU
      have HU := Aside0.mk hU
      have HK := Aside0.mk hK
      clear hU hK
      go_wp2
      go_ret
      exact ⟨rfl, HU.out, HK.out⟩
set_option maxRecDepth 100000 in
set_option maxHeartbeats 4000000 in
theorem rgive_calls (H : RNUp w w0 ok h l) (p : Int) (hl2 : l.length ≤ 1024) :
    Calls Try.prog 19 #[.pointer (some ⟨h, 0, none⟩), .int .i64 p] w fun e w' => ∃ (A : Option Addr) (c : Nat), e = .returned (.tuple #[.agg #[.int .i64 (giveX p l).f0, .int .i64 (giveX p l).f1, .slice A (giveX p l).f2.length c], .bool (decide (0 < l.length))]) ∧
      (Kd.int .u8).R 5 w' w0.heap.size (fun k => ok k ∧ k < w.heap.size) (.slice A (giveX p l).f2.length c) (giveX p l).f2 ∧ RNUp w' w0 (fun k => ok k ∨ w.heap.size ≤ k) h (giveL p l) ∧ Kept w w' (fun k => k = h) := by
  have HH := Aside0.mk H
  obtain ⟨⟨v, hI⟩, hB⟩ := H
  obtain ⟨Av, cv, rfl, hcv, _, hgw, _⟩ := hI.slice
  by_cases hl : l.length = 0
  · have HE : Aside0 (l = []) := ⟨List.eq_nil_of_length_eq_zero hl⟩
    obtain rfl := HE.out
    simp only [List.length_nil] at hgw
    have hg2 := fun o => Go.Lib.cell?_alloc_some o hgw
    have HB := Aside0.mk ((HH.out.alloc (.cells #[.int .i64 0, .int .i64 0, .slice none 0 0] 28)).mono (fun k hk => (.inl hk : ok k ∨ w.heap.size ≤ k)))
    clear hI hB hcv hl
    go_enter Try.func19, Try.ntmps19
    go_wp2
    refine bodyPost_ret (v := .tuple #[.agg #[.int .i64 0, .int .i64 0, .slice none 0 0], .bool false]) ?_ rfl ⟨none, 0, rfl, Kd.R_nil _ _ _ _ _, HB.out, (Kept.refl _ _).alloc _⟩
    rw [results_cell_tmp rfl]
    go_simp
  · obtain ⟨i, hi, hil⟩ := pick_lt p l.length (by omega)
    obtain ⟨g, c, A2, c2, e1, _, hx0, hx1, hx2, hR⟩ := rpick hI (by omega) (i : Int) (by omega) (by omega)
    injection e1 with e1 _ e2
    subst e1
    replace e2 := e2.symm
    subst e2
    have HE : Aside0 (giveX p l = rd_T28 l i ∧ giveL p l = l.eraseIdx i ∧ decide (0 < l.length) = true) := ⟨by
      unfold giveX giveL
      rw [if_neg hl, if_neg hl, hi, Int.toNat_natCast]
      exact ⟨rfl, rfl, decide_eq_true (by omega)⟩⟩
    simp only [HE.out.1, HE.out.2.1, HE.out.2.2]
    simp only [Int.toNat_natCast] at hx0 hx1 hx2
    generalize rd_T28 l i = x at *
    obtain ⟨x0, x1, x2⟩ := x
    simp only at hx0 hx1 hx2 hR ⊢
    obtain ⟨n, hn⟩ : ∃ n, n = l.length := ⟨_, rfl⟩
    obtain ⟨nx, hnx⟩ : ∃ nx, nx = x2.length := ⟨_, rfl⟩
    have HN := Aside0.mk hn
    have HNX := Aside0.mk hnx
    have HI := Aside0.mk hI
    have HR := Aside0.mk hR
    rw [← hn] at hgw hcv hil hl hi hl2
    rw [← hnx] at hx2 ⊢
    unfold pickOf at hi
    rw [← Int.tmod_eq_emod_of_nonneg (by omega)] at hi
    have hgw1 := fun o => Go.Lib.cell?_alloc_some o hgw
    have hy0 := fun o => Go.Lib.cell?_alloc_some o hx0
    have hy1 := fun o => Go.Lib.cell?_alloc_some o hx1
    have hy2 := fun o => Go.Lib.cell?_alloc_some o hx2
    clear hI hB hR hn hnx HE
    go_enter Try.func19, Try.ntmps19
    go_wp2
    obtain ⟨w2, hw2⟩ : ∃ w2, w2 = (w.alloc (.cells #[.int .i64 0, .int .i64 0, .slice none 0 0] 28)).alloc (.cells #[.int .i64 x0, .int .i64 x1, .slice A2 nx c2] 28) := ⟨_, rfl⟩
    rw [← hw2]
    have hb2 : Below w.heap.size w w2 := by rw [hw2]; exact ((Below.refl _ _).alloc (Nat.le_refl _) _).alloc (by simp) _
    have hz2 : w2.heap.size = w.heap.size + 2 := by rw [hw2]; simp
    have hres2 : w2.heap[w.heap.size]? = some (.cells #[.int .i64 0, .int .i64 0, .slice none 0 0] 28) := by rw [hw2]; exact blk_alloc (heap_alloc_new w _) _
    have hm2 : w2.heap[w.heap.size + 1]? = some (.cells #[.int .i64 x0, .int .i64 x1, .slice A2 nx c2] 28) := by rw [hw2]; exact o2_at w _ _
    have hI2 := HI.out.bound
    have hR2 := Kd.R_drew (Kd.R_below hI2.row hb2)
    have hgw3 : w2.drew.cell? ⟨h, 0, none⟩ = some (.slice (some ⟨g, 0, none⟩) n c) := cell_below hgw (bdrew hb2)
    clear hw2 hgw1 hy0 hy1 hy2 hx0 hx1 hx2 hgw
    obtain ⟨A3, hA3⟩ : ∃ A3 : Option Addr, A3 = if c = i + 1 then some ⟨g, 0, none⟩ else some ⟨g, (i + 1) * 3, none⟩ := ⟨_, rfl⟩
    obtain ⟨v6, W6, v7, W7, hr6, hr7, hR7, hb6, hb7, ⟨B6, n6, d6, hv6⟩, ⟨B7, n7, d7, hv7⟩⟩ := two_rows hR2 (Nat.le_trans HH.out.2.size hb2.size) (by have := HN.out; omega) i (by have := HN.out; omega) A3 (by
      rw [hA3]
      split
      · right; have := HN.out; omega
      · left; rfl) c (c - (i + 1))
    subst hv6 hv7
    have hc6 : W6.cell? ⟨h, 0, none⟩ = _ := cell_below hgw3 hb6
    have hh7 : W7.heap[h]? = some (.cells #[.slice (some ⟨g, 0, none⟩) l.length c] 46 (0, 0)) := (hb7.block h (by have := blk_lt HI.out.here; have := hb2.size; simp; omega)).trans ((hb2.block h (blk_lt HI.out.here)).trans HI.out.here)
    have hres7 := (hb7.block w.heap.size (by simp; omega)).trans hres2
    have hm7 := (hb7.block (w.heap.size + 1) (by simp; omega)).trans hm2
    have hK7 : Kept w W7 (fun _ => False) := ((Kept.refl w _).below (bdrew hb2)).below hb7
    have hB7 : Below w0.heap.size w0 W7 := HH.out.2.trans (((bdrew hb2).trans (hb7.mono (bdrew hb2).size)).mono HH.out.2.size)
    have hlt := blk_lt HI.out.here
    have n1 : h ≠ w.heap.size := by omega
    have n2 : h ≠ w.heap.size + 1 := by omega
    have n3 : w.heap.size + 1 ≠ w.heap.size := by omega
    have ch := (blk_cell hh7 0).trans rfl
    have fh := blk_frozen hh7 0
    have m0 := (blk_cell hm7 0).trans rfl
    have m1 := (blk_cell hm7 1).trans rfl
    have m2 := (blk_cell hm7 2).trans rfl
    have r0 := (blk_cell hres7 0).trans rfl
    have r1 := (blk_cell hres7 1).trans rfl
    have r2 := (blk_cell hres7 2).trans rfl
    have q0 := blk_frozen hres7 0
    have q1 := blk_frozen hres7 1
    have q2 := blk_frozen hres7 2
    rw [← HN.out] at hr7
    have HRUN6 := Aside0.mk hr6
    have HRUN7 := Aside0.mk hr7
    have HC6 := Aside0.mk hc6
    have HR7 := Aside0.mk hR7
    have HH7 := Aside0.mk hh7
    have HRES7 := Aside0.mk hres7
    have HK7 := Aside0.mk hK7
    have HB7 := Aside0.mk hB7
    have HZ2 := Aside0.mk hz2
    clear hr6 hr7 hc6 hR7 hb6 hb7 hh7 hres7 hm7 hK7 hB7 hres2 hm2 hI2 hR2 hz2 hb2
    have hnI : (i : Int) < n := by omega
    have hw1 : wrap64 ((i : Int) + 1) = ((i + 1 : Nat) : Int) := by unfold wrap64; omega
    have hnI2 : (i : Int) + 1 ≤ n := by omega
    have hnI3 : (0 : Int) ≤ (i : Int) + 1 := by omega
    have hncI : (n : Int) ≤ c := by omega
    have hicI : (i : Int) ≤ c := by omega
    clear hi
    by_cases hci : c = i + 1
    case' pos =>
      rw [if_pos hci] at hA3
      subst hA3
      have hci2 : (c = i + 1) = True := eq_true hci
      clear hci
    case' neg =>
      rw [if_neg hci] at hA3
      subst hA3
    all_goals
      refine start_ (n := 20) (S := fun w' => w'.cell? ⟨h, 0, none⟩ = some (.slice (some ⟨g, 0, none⟩) n c)) (ds := [16, 19]) #[false, false, false, false, false, false, false, false, false, false, false, false, false, false, false, false, false, false, false, false] (by kernel_rfl) rfl rfl (hgw3) (fun hHeld => ?_)
      refine pure_ (i := 0) (N := some 30) (v := ?_) (a' := ?_) #[true, false, false, false, false, false, false, false, false, false, false, false, false, false, false, false, false, false, false, false] rfl rfl (by kernel_rfl) (fun _ _ _ h => h) (Or.inl ⟨by rfl, ?_⟩) ?_ ?_
      rotate_left
      · intro w'
        go_simp
        with_reducible rfl
      rotate_left
      · simp only [Act.put, List.setIfInBounds_toArray, List.set_cons_zero, List.set_cons_succ, i64_w, i32_w]
        rfl
      refine pure_ (i := 2) (N := some 32) (v := ?_) (a' := ?_) #[true, false, true, false, false, false, false, false, false, false, false, false, false, false, false, false, false, false, false, false] rfl rfl (by kernel_rfl) (fun _ _ _ h => h) (Or.inl ⟨by rfl, ?_⟩) ?_ ?_
      rotate_left
      · intro w'
        go_simp
        with_reducible rfl
      rotate_left
      · simp only [Act.put, List.setIfInBounds_toArray, List.set_cons_zero, List.set_cons_succ, i64_w, i32_w]
        rfl
      refine pure_ (i := 3) (N := some 33) (v := ?_) (a' := ?_) #[true, false, true, true, false, false, false, false, false, false, false, false, false, false, false, false, false, false, false, false] rfl rfl (by kernel_rfl) (fun _ _ _ h => h) (Or.inl ⟨by rfl, ?_⟩) ?_ ?_
      rotate_left
      · intro w'
        go_simp
        with_reducible rfl
      rotate_left
      · simp only [Act.put, List.setIfInBounds_toArray, List.set_cons_zero, List.set_cons_succ, i64_w, i32_w]
        rfl
      refine pure_ (i := 4) (N := some 34) (v := ?_) (a' := ?_) #[true, false, true, true, true, false, false, false, false, false, false, false, false, false, false, false, false, false, false, false] rfl rfl (by kernel_rfl) (fun _ _ _ h => h) (Or.inl ⟨by rfl, ?_⟩) ?_ ?_
      rotate_left
      · intro w'
        go_simp
        with_reducible rfl
      rotate_left
      · simp only [Act.put, List.setIfInBounds_toArray, List.set_cons_zero, List.set_cons_succ, i64_w, i32_w]
        rfl
      refine pure_ (i := 6) (N := some 36) (v := ?_) (a' := ?_) #[true, false, true, true, true, false, true, false, false, false, false, false, false, false, false, false, false, false, false, false] rfl rfl (by kernel_rfl) (fun _ _ _ h => h) (Or.inl ⟨by rfl, ?_⟩) ?_ ?_
      rotate_left
      · intro w'
        go_simp
        with_reducible rfl
      rotate_left
      · simp only [Act.put, List.setIfInBounds_toArray, List.set_cons_zero, List.set_cons_succ, i64_w, i32_w]
        rfl
      refine pure_ (i := 9) (N := some 39) (v := ?_) (a' := ?_) #[true, false, true, true, true, false, true, false, false, true, false, false, false, false, false, false, false, false, false, false] rfl rfl (by kernel_rfl) (fun _ _ _ h => h) (Or.inl ⟨by rfl, ?_⟩) ?_ ?_
      rotate_left
      · intro w'
        go_simp
        with_reducible rfl
      rotate_left
      · simp only [Act.put, List.setIfInBounds_toArray, List.set_cons_zero, List.set_cons_succ, i64_w, i32_w]
        rfl
      refine pure_ (i := 10) (N := some 40) (v := ?_) (a' := ?_) #[true, false, true, true, true, false, true, false, false, true, true, false, false, false, false, false, false, false, false, false] rfl rfl (by kernel_rfl) (fun _ _ _ h => h) (Or.inl ⟨by rfl, ?_⟩) ?_ ?_
      rotate_left
      · intro w'
        go_simp
        with_reducible rfl
      rotate_left
      · simp only [Act.put, List.setIfInBounds_toArray, List.set_cons_zero, List.set_cons_succ, i64_w, i32_w]
        rfl
      refine pure_ (i := 11) (N := some 41) (v := ?_) (a' := ?_) #[true, false, true, true, true, false, true, false, false, true, true, true, false, false, false, false, false, false, false, false] rfl rfl (by kernel_rfl) (fun _ _ _ h => h) (Or.inl ⟨by rfl, ?_⟩) ?_ ?_
      rotate_left
      · intro w'
        go_simp
        with_reducible rfl
      rotate_left
      · simp only [Act.put, List.setIfInBounds_toArray, List.set_cons_zero, List.set_cons_succ, i64_w, i32_w]
        rfl
      refine pure_ (i := 13) (N := some 43) (v := ?_) (a' := ?_) #[true, false, true, true, true, false, true, false, false, true, true, true, false, true, false, false, false, false, false, false] rfl rfl (by kernel_rfl) (fun _ _ _ h => h) (Or.inl ⟨by rfl, ?_⟩) ?_ ?_
      rotate_left
      · intro w'
        go_simp
        with_reducible rfl
      rotate_left
      · simp only [Act.put, List.setIfInBounds_toArray, List.set_cons_zero, List.set_cons_succ, i64_w, i32_w]
        rfl
      refine pure_ (i := 14) (N := some 44) (v := ?_) (a' := ?_) #[true, false, true, true, true, false, true, false, false, true, true, true, false, true, true, false, false, false, false, false] rfl rfl (by kernel_rfl) (fun _ _ _ h => h) (Or.inl ⟨by rfl, ?_⟩) ?_ ?_
      rotate_left
      · intro w'
        go_simp
        with_reducible rfl
      rotate_left
      · simp only [Act.put, List.setIfInBounds_toArray, List.set_cons_zero, List.set_cons_succ, i64_w, i32_w]
        rfl
      refine take_ (i := 5) (N := some 35) (v := ?_) (a' := ?_) #[true, false, true, true, true, true, true, false, false, true, true, true, false, true, true, false, false, false, false, false] rfl rfl (by kernel_rfl) (fun _ _ _ h => h) (Or.inl ⟨by rfl, ?_⟩) hHeld ?_ ?_
      rotate_left
      · intro w' s0
        go_simp
        with_reducible rfl
      rotate_left
      · simp only [Act.put, List.setIfInBounds_toArray, List.set_cons_zero, List.set_cons_succ, i64_w, i32_w]
        rfl
      refine pure_ (i := 7) (N := some 37) (v := ?_) (a' := ?_) #[true, false, true, true, true, true, true, true, false, true, true, true, false, true, true, false, false, false, false, false] rfl rfl (by kernel_rfl) (fun _ _ _ h => h) (Or.inl ⟨by rfl, ?_⟩) ?_ ?_
      rotate_left
      · intro w'
        go_simp
        with_reducible rfl
      rotate_left
      · simp only [Act.put, List.setIfInBounds_toArray, List.set_cons_zero, List.set_cons_succ, i64_w, i32_w]
        rfl
      refine take_ (i := 12) (N := some 42) (v := ?_) (a' := ?_) #[true, false, true, true, true, true, true, true, false, true, true, true, true, true, true, false, false, false, false, false] rfl rfl (by kernel_rfl) (fun _ _ _ h => h) (Or.inl ⟨by rfl, ?_⟩) hHeld ?_ ?_
      rotate_left
      · intro w' s0
        go_simp
        with_reducible rfl
      rotate_left
      · simp only [Act.put, List.setIfInBounds_toArray, List.set_cons_zero, List.set_cons_succ, i64_w, i32_w]
        rfl
      refine pure_ (i := 15) (N := some 45) (v := ?_) (a' := ?_) #[true, false, true, true, true, true, true, true, false, true, true, true, true, true, true, true, false, false, false, false] rfl rfl (by kernel_rfl) (fun _ _ _ h => h) (Or.inl ⟨by rfl, ?_⟩) ?_ ?_
      rotate_left
      · intro w'
        go_simp
        with_reducible rfl
      rotate_left
      · simp only [Act.put, List.setIfInBounds_toArray, List.set_cons_zero, List.set_cons_succ, i64_w, i32_w]
        rfl
      refine one_ (i := 1) (N := some 31) #[true, true, true, true, true, true, true, true, false, true, true, true, true, true, true, true, false, false, false, false] rfl rfl (by kernel_rfl) (by decide) (fun K hK => ?_)
      refine value_ (w1 := ?_) (v := ?_) (by rfl) rfl ?_ ?_
      rotate_left 2
      · go_simp
        constructor
        · rfl
        · rfl
      refine hK.out _ _ ((Go.Lib.cell?_alloc_some _ hHeld)) (fun hHeld => ?_)
      clear hK K
      refine norm_ (a' := ?_) ?_ ?_
      rotate_left
      · show Act.put _ (some 31) _ = _
        simp only [Act.put, List.setIfInBounds_toArray, List.set_cons_zero, List.set_cons_succ, i64_w, i32_w]
        rfl
      refine one_ (i := 8) (N := some 38) #[true, true, true, true, true, true, true, true, true, true, true, true, true, true, true, true, false, false, false, false] rfl rfl (by kernel_rfl) (by decide) (fun K hK => ?_)
      refine append_step (by rfl) (.tmp 31) (.tmp 37) 41 rfl _ _ rfl rfl _ HRUN6.out rfl ?_
      refine hK.out _ _ (HC6.out) (fun hHeld => ?_)
      clear hK K
      refine norm_ (a' := ?_) ?_ ?_
      rotate_left
      · show Act.put _ (some 38) _ = _
        simp only [Act.put, List.setIfInBounds_toArray, List.set_cons_zero, List.set_cons_succ, i64_w, i32_w]
        rfl
      refine last_ (i := 16) (N := some 46) #[true, true, true, true, true, true, true, true, true, true, true, true, true, true, true, true, true, false, false, false] rfl rfl (by kernel_rfl) (by decide) (fun K hK => ?_)
      refine append_step (by rfl) (.tmp 38) (.tmp 45) 41 rfl _ _ rfl rfl _ HRUN7.out rfl ?_
      refine hK.out _ _ ?_
      clear hK K
      refine norm_ (a' := ?_) ?_ ?_
      rotate_left
      · show Act.put _ (some 46) _ = _
        simp only [Act.put, List.setIfInBounds_toArray, List.set_cons_zero, List.set_cons_succ, i64_w, i32_w]
        rfl
      refine pure_ (i := 17) (N := some 47) (v := ?_) (a' := ?_) #[true, true, true, true, true, true, true, true, true, true, true, true, true, true, true, true, true, true, false, false] rfl rfl (by kernel_rfl) (fun _ _ _ h => h) (Or.inl ⟨by rfl, ?_⟩) ?_ ?_
      rotate_left
      · intro w'
        go_simp
        with_reducible rfl
      rotate_left
      · simp only [Act.put, List.setIfInBounds_toArray, List.set_cons_zero, List.set_cons_succ, i64_w, i32_w]
        rfl
      refine pure_ (i := 18) (N := some 48) (v := ?_) (a' := ?_) #[true, true, true, true, true, true, true, true, true, true, true, true, true, true, true, true, true, true, true, false] rfl rfl (by kernel_rfl) (fun _ _ _ h => h) (Or.inl ⟨by rfl, ?_⟩) ?_ ?_
      rotate_left
      · intro w'
        go_simp
        with_reducible rfl
      rotate_left
      · simp only [Act.put, List.setIfInBounds_toArray, List.set_cons_zero, List.set_cons_succ, i64_w, i32_w]
        rfl
      refine last_ (i := 19) (N := none) #[true, true, true, true, true, true, true, true, true, true, true, true, true, true, true, true, true, true, true, true] rfl rfl (by kernel_rfl) (by decide) (fun K hK => ?_)
      refine skip_ (w1 := ?_) (by rfl) rfl ?_ ?_
      rotate_left
      · go_simp
        rfl
      refine hK.out _ _ ?_
      clear hK K
      refine done_ (by kernel_rfl) ?_
      clear hHeld
      go_wp2
      have hb := blk_set (blk_set (blk_set (blk_far (p := ⟨h, 0, none⟩) HRES7.out (Ne.symm n1) (.slice B7 n7 d7)) 0 (.int .i64 x0)) 1 (.int .i64 x1)) 2 (.slice A2 nx c2)
      have hKf : Kept w ((((W7.setCell ⟨h, 0, none⟩ (.slice B7 n7 d7)).setCell ⟨w.heap.size, 0, none⟩ (.int .i64 x0)).setCell ⟨w.heap.size, 1, none⟩ (.int .i64 x1)).setCell ⟨w.heap.size, 2, none⟩ (.slice A2 nx c2)) (fun k => k = h) :=
        ((((kept_mono HK7.out (S' := fun k => k = h) (fun _ h => h.elim)).setCell (p := ⟨h, 0, none⟩) (.inl rfl) _).setCell (p := ⟨w.heap.size, 0, none⟩) (.inr (Nat.le_refl _)) _).setCell (p := ⟨w.heap.size, 1, none⟩) (.inr (Nat.le_refl _)) _).setCell (p := ⟨w.heap.size, 2, none⟩) (.inr (Nat.le_refl _)) _
      refine bodyPost_ret (v := .tuple #[.agg #[.int .i64 x0, .int .i64 x1, .slice A2 nx c2], .bool true]) ?_ rfl ⟨A2, c2, rfl, ?_, ⟨⟨.slice B7 n7 d7, ?_, .inl HI.out.mine, HI.out.young, ?_⟩, ?_⟩, hKf⟩
      · have w0' := (blk_cell hb 0).trans rfl
        have w1' := (blk_cell hb 1).trans rfl
        have w2' := (blk_cell hb 2).trans rfl
        clear hb hKf
        rw [results_cell_tmp rfl]
        go_simp
      · have hr := R_reads_step (Kd.R_bound HR.out) hKf (fun k hk e => hk.1.2 e)
        rw [← HNX.out] at hr
        exact Kd.R_mono hr (fun k hk => ⟨hk.1.1.1, hk.2.2.1⟩)
      · have h1 := blk_far (p := ⟨w.heap.size, 2, none⟩) (blk_far (p := ⟨w.heap.size, 1, none⟩) (blk_far (p := ⟨w.heap.size, 0, none⟩) (blk_set HH7.out 0 (.slice B7 n7 d7)) n1 (.int .i64 x0)) n1 (.int .i64 x1)) n1 (.slice A2 nx c2)
        simpa using h1
      · refine Kd.R_mono (ok := fun q => (ok q ∧ w0.heap.size ≤ q ∧ q < w.heap.size) ∨ w2.drew.heap.size ≤ q) (Kd.R_far (p := ⟨w.heap.size, 2, none⟩) (Kd.R_far (p := ⟨w.heap.size, 1, none⟩) (Kd.R_far (p := ⟨w.heap.size, 0, none⟩) (Kd.R_set HR7.out HH7.out info41 0 _) (fun q hq => ?_) _) (fun q hq => ?_) _) (fun q hq => ?_) _) (fun q hq => hq.imp (fun e => e.1) (fun e => ?_))
        all_goals have := HZ2.out
        · rcases hq with e | e
          · have := e.2.2; simp; omega
          · simp at e ⊢; omega
        · rcases hq with e | e
          · have := e.2.2; simp; omega
          · simp at e ⊢; omega
        · rcases hq with e | e
          · have := e.2.2; simp; omega
          · simp at e ⊢; omega
        · simp at e; omega
      · have hs := HH.out.2.size
        exact (((HB7.out.setCell HI.out.young _).setCell hs _).setCell hs _).setCell hs _
set_option maxRecDepth 100000 in
set_option maxHeartbeats 4000000 in
theorem rlate_calls (H : RNUp w w0 ok h l) (p : Int) (hl2 : l.length ≤ 1024) :
    Calls Try.prog 22 #[.pointer (some ⟨h, 0, none⟩), .int .i64 p] w fun e w' => e = .returned (.bool (decide (0 < l.length))) ∧ RNUp w' w0 (fun k => ok k ∨ w.heap.size ≤ k) h (lateL p l) ∧ Kept w w' ok := by
  have hlt := H.fits
  have hoh : ok h := H.1.choose_spec.mine
  have HOH := Aside0.mk hoh
  have HH := Aside0.mk H.bound
  have HG := Aside0.mk (rgive_calls H.bound p hl2)
  clear H hoh
  by_cases hl : l.length = 0
  · have hd : decide (0 < l.length) = false := decide_eq_false (by omega)
    have hE : lateL p l = giveL p l := by unfold lateL giveL; rw [if_pos hl, if_pos hl]
    have HE := Aside0.mk hE
    rw [hd] at HG ⊢
    rw [HE.out]
    clear hE hd
    go_enter Try.func22, Try.ntmps22
    go_wp2_with fail
    refine HG.out.mono ?_
    rintro e w1 ⟨A, c, rfl, hR, hU, hK⟩
    have HU := Aside0.mk (hU.mono (ok' := fun k => ok k ∨ w.heap.size ≤ k) (fun k hk => hk.imp (fun e => e.1) id))
    have HK := Aside0.mk (kept_mono hK (S' := ok) (fun k hk => by rw [hk]; exact HOH.out))
    clear hR hU hK
    go_wp2
    go_ret
    exact ⟨rfl, HU.out.alloc _, HK.out.alloc _⟩
  · have hd : decide (0 < l.length) = true := decide_eq_true (by omega)
    have hE : lateL p l = giveL p l ++ [giveX p l] := by unfold lateL giveL giveX; rw [if_neg hl, if_neg hl, if_neg hl]
    have hgl : (giveL p l).length < 1024 := by
      unfold giveL
      rw [if_neg hl, List.length_eraseIdx]
      obtain ⟨i, hi, hil⟩ := pick_lt p l.length (by omega)
      rw [hi, Int.toNat_natCast, if_pos hil]
      omega
    rw [hd] at HG ⊢
    rw [hE]
    clear hE hd
    generalize giveL p l = l2 at *
    generalize giveX p l = x at *
    obtain ⟨x0, x1, x2⟩ := x
    go_enter Try.func22, Try.ntmps22
    go_wp2_with fail
    refine HG.out.mono ?_
    rintro e w1 ⟨A2, c2, rfl, hR, hU, hK⟩
    obtain ⟨⟨v, hI⟩, hB⟩ := hU
    obtain ⟨Av, cv, rfl, hcv, _, hgw, _⟩ := hI.slice
    have HI := Aside0.mk hI
    have HB := Aside0.mk hB
    have HR := Aside0.mk hR
    have HK := Aside0.mk hK
    obtain ⟨n, hn⟩ : ∃ n, n = l2.length := ⟨_, rfl⟩
    rw [← hn] at hgw
    have HN := Aside0.mk hn
    have hgw1 := fun o => Go.Lib.cell?_alloc_some o hgw
    clear hI hB hR hK hcv hn hgw
    go_wp2
    obtain ⟨nx, hnx⟩ : ∃ nx, nx = x2.length := ⟨_, rfl⟩
    have HR2 := Aside0.mk (Kd.R_apartR HR.out HI.out.row (by intro q hq; simp [Kd.int, Kd.scalar] at hq; omega))
    rw [← hnx] at HR2 ⊢
    have HNX := Aside0.mk hnx
    clear hnx
    obtain ⟨w2, hw2⟩ : ∃ w2, w2 = w1.alloc (.cells #[.int .i64 x0, .int .i64 x1, .slice A2 nx c2] 28) := ⟨_, rfl⟩
    rw [← hw2]
    have hb2 : Below w1.heap.size w1 w2 := by rw [hw2]; exact (Below.refl _ _).alloc (Nat.le_refl _) _
    have hm2 : w2.drew.heap[w1.heap.size]? = some (.cells #[.int .i64 x0, .int .i64 x1, .slice A2 nx c2] 28) := by rw [hw2]; exact heap_alloc_new w1 _
    have m0 := (blk_cell hm2 0).trans rfl
    have m1 := (blk_cell hm2 1).trans rfl
    have m2 := (blk_cell hm2 2).trans rfl
    have hgw2 : w2.drew.cell? ⟨h, 0, none⟩ = some (.slice Av n cv) := by rw [hw2]; exact hgw1 _
    have hb3 := bdrew hb2
    have hsz := HB.out.size
    have hs2 := hb2.size
    have hk1 := HK.out.1
    obtain ⟨v7, W7, hr7, hR7, hG7, hat7⟩ := rows_run k28 (W := w2.drew.alloc (.cells #[.int .i64 x0, .int .i64 x1, .slice A2 nx c2] 28)) (Rr := fun (x : S28) (cs : List Value) => x = ⟨x0, x1, x2⟩ ∧ cs = [.int .i64 x0, .int .i64 x1, .slice A2 nx c2]) w0.heap.size 41 28 (.agg #[.int .i64 0, .int .i64 0, .slice none 0 0]) 40 Try.underlying41 info28 rfl (by decide) (by decide) (.slice Av l2.length cv) l2 [⟨x0, x1, x2⟩] (some ⟨w2.drew.heap.size, 0, none⟩) 1 1 (fun q => ok q ∨ w.heap.size ≤ q)
      (fun k => ((ok k ∧ w0.heap.size ≤ k ∧ k < w.heap.size) ∧ k < w.heap.size) ∧ some k ≠ (Value.slice Av l2.length cv).ownBlock) (Kd.R_mono (Kd.R_alloc (Kd.R_below HI.out.row hb3) _) (fun q hq => hq.imp (fun e => e.1) id)) (one_row _ x0 x1 x2 _) (fun y cs hy => by obtain ⟨rfl, rfl⟩ := hy; exact k28_mkM _ _ _ ⟨x0, x1, x2⟩ (Kd.R_alloc (Kd.R_below HR2.out hb3) _)) (fun k hk => ⟨.inl hk.1.1.1, hk.2⟩) (fun q hq => .inr (by simp at hq; omega)) (by simp; omega) (by have := HN.out; omega)
    obtain ⟨A7, c7, hv7⟩ := Kd.R_slice hR7
    subst hv7
    simp only [List.length_append, List.length_cons, List.length_nil, Nat.zero_add] at hr7 hR7 hat7
    have hK7 : Kept w1 W7 (fun q => some q = (Value.slice Av l2.length cv).ownBlock) := Kept.of_grown hG7 ((((Kept.refl w1 _).below hb2).drew).alloc _) (fun q hq => .inl hq.symm)
    have hg7 : W7.heap[h]? = some (.cells #[.slice Av l2.length cv] 46 (0, 0)) := (hK7.2 h (blk_lt HI.out.here) (fun e => HI.out.ne h e.symm rfl)).trans HI.out.here
    have hB7 : Below w0.heap.size w0 W7 := (((HB.out.trans (hb3.mono hsz)).alloc (by simp; omega) _)).grown hG7 (by simp; omega) (fun k hk => Kd.R_base HI.out.row k hk)
    have hc7 := (blk_cell hg7 0).trans rfl
    have fz7 := blk_frozen hg7 0
    have hKf : Kept w (W7.setCell ⟨h, 0, none⟩ (.slice A7 (l2.length + 1) c7)) ok := ((kept_mono HK.out (S' := ok) (fun k hk => by rw [hk]; exact HOH.out)).then_ hK7 (fun q hq => (HI.out.row.1 q hq.symm).imp (fun e => e.1) id)).setCell (p := ⟨h, 0, none⟩) (.inl HOH.out) _
    have hUf : RNUp (W7.setCell ⟨h, 0, none⟩ (.slice A7 (l2.length + 1) c7)) w0 (fun k => ok k ∨ w.heap.size ≤ k) h (l2 ++ [⟨x0, x1, x2⟩]) := ⟨⟨_, IsRN.put hg7 (.inl HOH.out) HI.out.young hR7⟩, hB7.setCell HI.out.young _⟩
    rw [← HN.out] at hr7 hKf hUf
    have HRUN7 := Aside0.mk hr7
    have HKF := Aside0.mk hKf
    have HUF := Aside0.mk hUf
    clear hr7 hR7 hG7 hat7 hK7 hg7 hB7 hKf hUf hb2 hb3 hm2 hw2 hs2 hk1 hsz hgw1
    refine start_ (n := 11) (S := fun w' => w'.cell? ⟨h, 0, none⟩ = some (.slice Av n cv) ∧ w'.cell? ⟨w1.heap.size, 0, none⟩ = some (.int .i64 x0) ∧ w'.cell? ⟨w1.heap.size, 1, none⟩ = some (.int .i64 x1) ∧ w'.cell? ⟨w1.heap.size, 2, none⟩ = some (.slice A2 nx c2)) (ds := [7, 10]) #[false, false, false, false, false, false, false, false, false, false, false] (by kernel_rfl) rfl rfl ⟨hgw2, m0, m1, m2⟩ (fun hHeld => ?_)
    refine pure_ (i := 0) (N := some 14) (v := ?_) (a' := ?_) #[true, false, false, false, false, false, false, false, false, false, false] rfl rfl (by kernel_rfl) (fun _ _ _ h => h) (Or.inl ⟨by rfl, ?_⟩) ?_ ?_
    rotate_left
    · intro w'
      go_simp
      with_reducible rfl
    rotate_left
    · simp only [Act.put, List.setIfInBounds_toArray, List.set_cons_zero, List.set_cons_succ, i64_w, i32_w]
      rfl
    refine pure_ (i := 1) (N := some 15) (v := ?_) (a' := ?_) #[true, true, false, false, false, false, false, false, false, false, false] rfl rfl (by kernel_rfl) (fun _ _ _ h => h) (Or.inl ⟨by rfl, ?_⟩) ?_ ?_
    rotate_left
    · intro w'
      go_simp
      with_reducible rfl
    rotate_left
    · simp only [Act.put, List.setIfInBounds_toArray, List.set_cons_zero, List.set_cons_succ, i64_w, i32_w]
      rfl
    refine pure_ (i := 2) (N := some 16) (v := ?_) (a' := ?_) #[true, true, true, false, false, false, false, false, false, false, false] rfl rfl (by kernel_rfl) (fun _ _ _ h => h) (Or.inl ⟨by rfl, ?_⟩) ?_ ?_
    rotate_left
    · intro w'
      go_simp
      with_reducible rfl
    rotate_left
    · simp only [Act.put, List.setIfInBounds_toArray, List.set_cons_zero, List.set_cons_succ, i64_w, i32_w]
      rfl
    refine pure_ (i := 3) (N := some 17) (v := ?_) (a' := ?_) #[true, true, true, true, false, false, false, false, false, false, false] rfl rfl (by kernel_rfl) (fun _ _ _ h => h) (Or.inl ⟨by rfl, ?_⟩) ?_ ?_
    rotate_left
    · intro w'
      go_simp
      with_reducible rfl
    rotate_left
    · simp only [Act.put, List.setIfInBounds_toArray, List.set_cons_zero, List.set_cons_succ, i64_w, i32_w]
      rfl
    refine take_ (i := 4) (N := some 18) (v := ?_) (a' := ?_) #[true, true, true, true, true, false, false, false, false, false, false] rfl rfl (by kernel_rfl) (fun _ _ _ h => h) (Or.inl ⟨by rfl, ?_⟩) hHeld ?_ ?_
    rotate_left
    · rintro w' ⟨s0, s1, s2, s3⟩
      go_simp
      with_reducible rfl
    rotate_left
    · simp only [Act.put, List.setIfInBounds_toArray, List.set_cons_zero, List.set_cons_succ, i64_w, i32_w]
      rfl
    refine take_ (i := 5) (N := some 19) (v := ?_) (a' := ?_) #[true, true, true, true, true, true, false, false, false, false, false] rfl rfl (by kernel_rfl) (fun _ _ _ h => h) (Or.inl ⟨by rfl, ?_⟩) hHeld ?_ ?_
    rotate_left
    · rintro w' ⟨s0, s1, s2, s3⟩
      go_simp
      with_reducible rfl
    rotate_left
    · simp only [Act.put, List.setIfInBounds_toArray, List.set_cons_zero, List.set_cons_succ, i64_w, i32_w]
      rfl
    refine one_ (i := 6) (N := some 20) #[true, true, true, true, true, true, true, false, false, false, false] rfl rfl (by kernel_rfl) (by decide) (fun K hK => ?_)
    refine value_ (w1 := ?_) (v := ?_) (by rfl) rfl ?_ ?_
    rotate_left 2
    · go_simp
      constructor
      · rfl
      · rfl
    refine hK.out _ _ ⟨(Go.Lib.cell?_alloc_some _ hHeld.1), (Go.Lib.cell?_alloc_some _ hHeld.2.1), (Go.Lib.cell?_alloc_some _ hHeld.2.2.1), (Go.Lib.cell?_alloc_some _ hHeld.2.2.2)⟩ (fun hHeld => ?_)
    clear hK K
    refine norm_ (a' := ?_) ?_ ?_
    rotate_left
    · show Act.put _ (some 20) _ = _
      simp only [Act.put, List.setIfInBounds_toArray, List.set_cons_zero, List.set_cons_succ, i64_w, i32_w]
      rfl
    refine last_ (i := 7) (N := some 21) #[true, true, true, true, true, true, true, true, false, false, false] rfl rfl (by kernel_rfl) (by decide) (fun K hK => ?_)
    refine append_step (by rfl) (.tmp 18) (.tmp 20) 41 rfl _ _ rfl rfl _ HRUN7.out rfl ?_
    refine hK.out _ _ ?_
    clear hK K
    refine norm_ (a' := ?_) ?_ ?_
    rotate_left
    · show Act.put _ (some 21) _ = _
      simp only [Act.put, List.setIfInBounds_toArray, List.set_cons_zero, List.set_cons_succ, i64_w, i32_w]
      rfl
    refine pure_ (i := 8) (N := some 22) (v := ?_) (a' := ?_) #[true, true, true, true, true, true, true, true, true, false, false] rfl rfl (by kernel_rfl) (fun _ _ _ h => h) (Or.inl ⟨by rfl, ?_⟩) ?_ ?_
    rotate_left
    · intro w'
      go_simp
      with_reducible rfl
    rotate_left
    · simp only [Act.put, List.setIfInBounds_toArray, List.set_cons_zero, List.set_cons_succ, i64_w, i32_w]
      rfl
    refine pure_ (i := 9) (N := some 23) (v := ?_) (a' := ?_) #[true, true, true, true, true, true, true, true, true, true, false] rfl rfl (by kernel_rfl) (fun _ _ _ h => h) (Or.inl ⟨by rfl, ?_⟩) ?_ ?_
    rotate_left
    · intro w'
      go_simp
      with_reducible rfl
    rotate_left
    · simp only [Act.put, List.setIfInBounds_toArray, List.set_cons_zero, List.set_cons_succ, i64_w, i32_w]
      rfl
    refine last_ (i := 10) (N := none) #[true, true, true, true, true, true, true, true, true, true, true] rfl rfl (by kernel_rfl) (by decide) (fun K hK => ?_)
    refine skip_ (w1 := ?_) (by rfl) rfl ?_ ?_
    rotate_left
    · go_simp
      rfl
    refine hK.out _ _ ?_
    clear hK K
    refine done_ (by kernel_rfl) ?_
    clear hHeld
    go_wp2
    go_ret
    exact ⟨rfl, HUF.out, HKF.out⟩
end
end Go.Proofs.Ytmindpofjnicfaa.Hand
