/- The net and the reference's Net in one memory: what each call makes of both. -/
import Derived.Test.YtmindpofjnicfaaPlaysA
namespace Go.Proofs.Ytmindpofjnicfaa.Hand
open Go.RowKit Go.Proofs.Ytmindpofjnicfaa.PA Go.Proofs.Ytmindpofjnicfaa.Opens Go.Proofs.YtmindpofjnicfaaW.PrintWords Go.Proofs.YtmindpofjnicfaaW.PrintLast Go.Proofs.YtmindpofjnicfaaW.PrintMore
set_option linter.unusedVariables false
set_option linter.unusedSimpArgs false
structure Pair (W w : World) (Z : Nat → Prop) (ga h : Nat) (L1 L2 : List S28) : Prop where
  out : ∃ o1 o2, NetUp W w o1 ga L1 ∧ RNUp W w o2 h L2 ∧ (∀ k, o1 k → ¬ o2 k) ∧ (∀ k, o1 k → k < W.heap.size ∧ Z k) ∧ (∀ k, o2 k → k < W.heap.size ∧ Z k)
  new : ∀ k, W.heap.size ≤ k → Z k
  old : ∀ k, Z k → w.heap.size ≤ k
def Small (L : List S28) : Prop := ∀ x ∈ L, x.f2.length ≤ 140737488351232
section
variable {W W' w : World} {Z Z' T : Nat → Prop} {ga h : Nat} {L1 L2 L : List S28}
theorem Pair.base (P : Pair W w Z ga h L1 L2) : Below w.heap.size w W := by
  obtain ⟨⟨o1, o2, h1, _⟩, _, _⟩ := P
  exact h1.2
theorem Pair.kept (P : Pair W w Z ga h L1 L2) (hK : Kept W W' T) (hT : ∀ k, T k → ¬ Z k) (hB : Below w.heap.size w W') : Pair W' w Z ga h L1 L2 := by
  obtain ⟨⟨o1, o2, h1, h2, h3, h4, h5⟩, hn, ho⟩ := P
  have hs := hK.1
  exact ⟨⟨o1, o2, h1.kept hK (fun k hk ht => hT k ht (h4 k hk).2) hB, h2.kept hK (fun k hk ht => hT k ht (h5 k hk).2) hB, h3, fun k hk => ⟨Nat.lt_of_lt_of_le (h4 k hk).1 hs, (h4 k hk).2⟩, fun k hk => ⟨Nat.lt_of_lt_of_le (h5 k hk).1 hs, (h5 k hk).2⟩⟩, fun k hk => hn k (Nat.le_trans hs hk), ho⟩
theorem Pair.below (P : Pair W w Z ga h L1 L2) (hb : Below W.heap.size W W') : Pair W' w Z ga h L1 L2 :=
  P.kept (T := fun _ => False) (Kept.of_below hb _) (fun _ h => h.elim) (P.base.trans (hb.mono P.base.size))
theorem Pair.alloc (P : Pair W w Z ga h L1 L2) (o : Obj) : Pair (W.alloc o) w Z ga h L1 L2 := P.below ((Below.refl _ _).alloc (Nat.le_refl _) o)
theorem Pair.drew (P : Pair W w Z ga h L1 L2) : Pair W.drew w Z ga h L1 L2 := P.below (bdrew (Below.refl _ _))
theorem Pair.zone (P : Pair W w Z ga h L1 L2) (hz : ∀ k, k < W.heap.size → Z k → Z' k) (hn : ∀ k, W.heap.size ≤ k → Z' k) (ho : ∀ k, Z' k → w.heap.size ≤ k) : Pair W w Z' ga h L1 L2 := by
  obtain ⟨⟨o1, o2, h1, h2, h3, h4, h5⟩, _, _⟩ := P
  exact ⟨⟨o1, o2, h1, h2, h3, fun k hk => ⟨(h4 k hk).1, hz k (h4 k hk).1 (h4 k hk).2⟩, fun k hk => ⟨(h5 k hk).1, hz k (h5 k hk).1 (h5 k hk).2⟩⟩, hn, ho⟩
/-- Blocks that are new since W are no part of it. -/
theorem Pair.mark (P : Pair W w Z ga h L1 L2) (hb : Below W.heap.size W W') : Pair W' w (fun k => (Z k ∧ k < W.heap.size) ∨ W'.heap.size ≤ k) ga h L1 L2 := by
  have P1 : Pair W w (fun k => (Z k ∧ k < W.heap.size) ∨ W.heap.size ≤ k) ga h L1 L2 := P.zone (fun k h1 h2 => .inl ⟨h2, h1⟩) (fun k h1 => .inr h1) (fun k h1 => h1.elim (fun h2 => P.old k h2.1) (fun h2 => Nat.le_trans P.base.size h2))
  obtain ⟨⟨o1, o2, h1, h2, h3, h4, h5⟩, hn, ho⟩ := P
  have hs := hb.size
  have hB := h1.2.trans (hb.mono h1.2.size)
  exact ⟨⟨o1, o2, h1.below hb, h2.below hb, h3, fun k hk => ⟨Nat.lt_of_lt_of_le (h4 k hk).1 hs, .inl ⟨(h4 k hk).2, (h4 k hk).1⟩⟩, fun k hk => ⟨Nat.lt_of_lt_of_le (h5 k hk).1 hs, .inl ⟨(h5 k hk).2, (h5 k hk).1⟩⟩⟩, fun k hk => .inr hk, fun k hk => hk.elim (fun h2 => ho k h2.1) (fun h2 => Nat.le_trans hB.size h2)⟩
theorem Pair.cell (P : Pair W w Z ga h L1 L2) : ∃ A c, W.cell? ⟨h, 0, none⟩ = some (.slice A L2.length c) := by
  obtain ⟨⟨o1, o2, h1, ⟨⟨v, h2⟩, _⟩, _⟩, _, _⟩ := P
  obtain ⟨A, c, rfl, _, _, hc, _⟩ := h2.slice
  exact ⟨A, c, hc⟩
theorem Pair.step1 (P : Pair W w Z ga h L1 L2) {Q : Ending → World → (Nat → Prop) → Prop} {n : Nat} {args : Array Value} {X : List S28} {R : Ending → World → Prop}
    (hc : ∀ o1, NetUp W w o1 ga L1 → (∀ k, o1 k → k < W.heap.size ∧ Z k) → Calls Try.prog n args W fun e W' => R e W' ∧ NetUp W' w (fun k => o1 k ∨ W.heap.size ≤ k) ga X ∧ Kept W W' o1) :
    Calls Try.prog n args W fun e W' => R e W' ∧ Pair W' w Z ga h X L2 ∧ Kept W W' Z := by
  obtain ⟨⟨o1, o2, h1, h2, h3, h4, h5⟩, hn, ho⟩ := P
  refine (hc o1 h1 h4).mono ?_
  rintro e W' ⟨hR, hU, hK⟩
  have hs := hK.1
  refine ⟨hR, ⟨⟨_, o2, hU.bound, h2.kept hK (fun k hk hk1 => h3 k hk1 hk) hU.2, fun k hk hk2 => ?_, fun k hk => ⟨hk.2.2, hk.1.elim (fun e => (h4 k e).2) (fun e => hn k e)⟩, fun k hk => ⟨Nat.lt_of_lt_of_le (h5 k hk).1 hs, (h5 k hk).2⟩⟩, fun k hk => hn k (Nat.le_trans hs hk), ho⟩, kept_mono hK (fun k hk => (h4 k hk).2)⟩
  rcases hk.1 with e | e
  · exact h3 k e hk2
  · have := (h5 k hk2).1; omega
theorem Pair.step2 (P : Pair W w Z ga h L1 L2) {n : Nat} {args : Array Value} {X : List S28} {R : Ending → World → Prop}
    (hc : ∀ o2, RNUp W w o2 h L2 → (∀ k, o2 k → k < W.heap.size ∧ Z k) → Calls Try.prog n args W fun e W' => R e W' ∧ RNUp W' w (fun k => o2 k ∨ W.heap.size ≤ k) h X ∧ Kept W W' o2) :
    Calls Try.prog n args W fun e W' => R e W' ∧ Pair W' w Z ga h L1 X ∧ Kept W W' Z := by
  obtain ⟨⟨o1, o2, h1, h2, h3, h4, h5⟩, hn, ho⟩ := P
  refine (hc o2 h2 h5).mono ?_
  rintro e W' ⟨hR, hU, hK⟩
  have hs := hK.1
  refine ⟨hR, ⟨⟨o1, _, h1.kept hK (fun k hk hk1 => h3 k hk hk1) hU.2, hU.bound, fun k hk hk2 => ?_, fun k hk => ⟨Nat.lt_of_lt_of_le (h4 k hk).1 hs, (h4 k hk).2⟩, fun k hk => ⟨hk.2.2, hk.1.elim (fun e => (h5 k e).2) (fun e => hn k e)⟩⟩, fun k hk => hn k (Nat.le_trans hs hk), ho⟩, kept_mono hK (fun k hk => (h5 k hk).2)⟩
  rcases hk2.1 with e | e
  · exact h3 k hk e
  · have := (h4 k hk).1; omega
theorem Small.le (hs : Small L) : ∀ x ∈ L, x.f2.length ≤ 140737488355328 := fun x hx => Nat.le_trans (hs x hx) (by omega)
theorem p_len (P : Pair W w Z ga h L1 L2) : Calls Try.prog 13 #[.pointer (some ⟨ga, 0, none⟩)] W fun e w' => e = .returned (.int .i64 L1.length) ∧ w' = W := by
  obtain ⟨⟨o1, o2, h1, _⟩, _, _⟩ := P
  exact len_up h1
theorem p_send1 (P : Pair W w Z ga h L1 L2) (A : Option Addr) (n c : Nat) (m : List S28) (hn : n = m.length) (hm : ∀ W', Kept W W' Z → Kd.C k28 W' A m.length m) (hc : m.length ≤ c) (hd : Small m) (hl : L1.length ≤ 1024) :
    Calls Try.prog 9 #[.pointer (some ⟨ga, 0, none⟩), .slice A n c] W fun e W' => e = .returned (.int .i64 (manyOf L1.length m.length)) ∧ Pair W' w Z ga h (L1 ++ m.take (manyOf L1.length m.length)) L2 ∧ Kept W W' Z := by
  subst hn
  exact P.step1 (Q := fun _ _ _ => True) (R := fun e _ => e = .returned (.int .i64 (manyOf L1.length m.length))) (fun o1 h1 h4 => send_up h1 A c m (fun W' hk => hm W' (kept_mono hk (fun k hk => (h4 k hk).2))) hc hd.le hl)
theorem p_send2 (P : Pair W w Z ga h L1 L2) (A : Option Addr) (n c : Nat) (m : List S28) (hn : n = m.length) (hm : ∀ W', Kept W W' Z → Kd.C k28 W' A m.length m) (hc : m.length ≤ c) (hd : Small m) (hl : L2.length ≤ 1024) :
    Calls Try.prog 16 #[.pointer (some ⟨h, 0, none⟩), .slice A n c] W fun e W' => e = .returned (.int .i64 (manyOf L2.length m.length)) ∧ Pair W' w Z ga h L1 (L2 ++ m.take (manyOf L2.length m.length)) ∧ Kept W W' Z := by
  subst hn
  exact P.step2 (R := fun e _ => e = .returned (.int .i64 (manyOf L2.length m.length))) (fun o1 h1 h4 => rsend_up h1 A c m (fun W' hk => hm W' (kept_mono hk (fun k hk => (h4 k hk).2))) hc hd.le hl)
theorem p_twice1 (P : Pair W w Z ga h L1 L2) (p : Int) (hd : Small L1) (hl : L1.length ≤ 1024) :
    Calls Try.prog 10 #[.pointer (some ⟨ga, 0, none⟩), .int .i64 p] W fun e W' => e = .returned (.bool (twiceB L1)) ∧ Pair W' w Z ga h (twiceL p L1) L2 ∧ Kept W W' Z :=
  P.step1 (Q := fun _ _ _ => True) (R := fun e _ => e = .returned (.bool (twiceB L1))) (fun o1 h1 h4 => twice_up h1 p hl hd.le)
theorem p_twice2 (P : Pair W w Z ga h L1 L2) (p : Int) (hd : Small L2) (hl : L2.length ≤ 1024) :
    Calls Try.prog 20 #[.pointer (some ⟨h, 0, none⟩), .int .i64 p] W fun e W' => e = .returned (.bool (twiceB L2)) ∧ Pair W' w Z ga h L1 (twiceL p L2) ∧ Kept W W' Z :=
  P.step2 (R := fun e _ => e = .returned (.bool (twiceB L2))) (fun o1 h1 h4 => rtwice_calls h1 p hl hd.le)
theorem p_late1 (P : Pair W w Z ga h L1 L2) (p : Int) (hd : Small L1) (hl : L1.length ≤ 1024) :
    Calls Try.prog 21 #[.pointer (some ⟨ga, 0, none⟩), .int .i64 p] W fun e W' => e = .returned (.bool (decide (0 < L1.length))) ∧ Pair W' w Z ga h (lateL p L1) L2 ∧ Kept W W' Z :=
  P.step1 (Q := fun _ _ _ => True) (R := fun e _ => e = .returned (.bool (decide (0 < L1.length)))) (fun o1 h1 h4 => late_up h1 p hl hd.le)
theorem p_late2 (P : Pair W w Z ga h L1 L2) (p : Int) (hl : L2.length ≤ 1024) :
    Calls Try.prog 22 #[.pointer (some ⟨h, 0, none⟩), .int .i64 p] W fun e W' => e = .returned (.bool (decide (0 < L2.length))) ∧ Pair W' w Z ga h L1 (lateL p L2) ∧ Kept W W' Z :=
  P.step2 (R := fun e _ => e = .returned (.bool (decide (0 < L2.length)))) (fun o1 h1 h4 => rlate_calls h1 p hl)
theorem p_drop1 (P : Pair W w Z ga h L1 L2) (A : Option Addr) (n c : Nat) (ns : List Int) (hn : n = ns.length) (hm : ∀ W', Kept W W' Z → Kd.C (Kd.int .i64) W' A ns.length ns) :
    Calls Try.prog 15 #[.pointer (some ⟨ga, 0, none⟩), .slice A n c] W fun e W' => e = .returned (.int .i64 ((L1.length : Int) - (dropL ns L1).length)) ∧ Pair W' w Z ga h (dropL ns L1) L2 ∧ Kept W W' Z := by
  subst hn
  exact P.step1 (Q := fun _ _ _ => True) (R := fun e _ => e = .returned (.int .i64 ((L1.length : Int) - (dropL ns L1).length))) (fun o1 h1 h4 => drop_up h1 A c ns (fun W' hk => hm W' (kept_mono hk (fun k hk => (h4 k hk).2))))
theorem p_drop2 (P : Pair W w Z ga h L1 L2) (A : Option Addr) (n c : Nat) (ns : List Int) (hn : n = ns.length) (hm : Kd.C (Kd.int .i64) W A ns.length ns) (hl : L2.length ≤ 1024) :
    Calls Try.prog 23 #[.pointer (some ⟨h, 0, none⟩), .slice A n c] W fun e W' => e = .returned (.int .i64 ((L2.length : Int) - (dropL ns L2).length)) ∧ Pair W' w Z ga h L1 (dropL ns L2) ∧ Kept W W' Z := by
  subst hn
  refine P.step2 (R := fun e _ => e = .returned (.int .i64 ((L2.length : Int) - (dropL ns L2).length))) (fun o2 h1 h4 => ?_)
  refine (rdrop_calls h1 A c ns hm hl).mono ?_
  rintro e W' ⟨h5, h6, h7⟩
  exact ⟨h5, h6, kept_mono h7 (fun k hk => by rw [hk]; exact h1.1.choose_spec.mine)⟩
/-- Give, of the net: the message's bytes are no part of it any more. -/
theorem p_give1 (P : Pair W w Z ga h L1 L2) (p : Int) :
    Calls Try.prog 11 #[.pointer (some ⟨ga, 0, none⟩), .int .i64 p] W fun e W' => ∃ (A : Option Addr) (c : Nat) (okm : Nat → Prop), e = .returned (.tuple #[.agg #[.int .i64 (giveX p L1).f0, .int .i64 (giveX p L1).f1, .slice A (giveX p L1).f2.length c], .bool (decide (0 < L1.length))]) ∧
      (Kd.int .u8).R 5 W' w.heap.size okm (.slice A (giveX p L1).f2.length c) (giveX p L1).f2 ∧ (∀ k, okm k → Z k ∧ k < W'.heap.size) ∧ Pair W' w (fun k => Z k ∧ ¬ okm k) ga h (giveL p L1) L2 ∧ Kept W W' Z := by
  obtain ⟨⟨o1, o2, h1, h2, h3, h4, h5⟩, hn, ho⟩ := P
  refine (give_up h1 p).mono ?_
  rintro e W' ⟨A, c, okm, rfl, hR, hok, hU, hK⟩
  have hs := hK.1
  exact ⟨A, c, okm, rfl, hR, fun k hk => ⟨(h4 k (hok k hk)).2, Nat.lt_of_lt_of_le (h4 k (hok k hk)).1 hs⟩, ⟨⟨_, o2, hU, h2.kept hK (fun k hk hk1 => h3 k hk1 hk) hU.2, fun k hk hk2 => h3 k hk.1 hk2, fun k hk => ⟨Nat.lt_of_lt_of_le (h4 k hk.1).1 hs, (h4 k hk.1).2, hk.2⟩, fun k hk => ⟨Nat.lt_of_lt_of_le (h5 k hk).1 hs, (h5 k hk).2, fun e => h3 k (hok k e) hk⟩⟩,
    fun k hk => ⟨hn k (Nat.le_trans hs hk), fun e => by have := (h4 k (hok k e)).1; omega⟩, fun k hk => ho k hk.1⟩, kept_mono hK (fun k hk => (h4 k hk).2)⟩
theorem p_give2 (P : Pair W w Z ga h L1 L2) (p : Int) (hl : L2.length ≤ 1024) :
    Calls Try.prog 19 #[.pointer (some ⟨h, 0, none⟩), .int .i64 p] W fun e W' => ∃ (A : Option Addr) (c : Nat), e = .returned (.tuple #[.agg #[.int .i64 (giveX p L2).f0, .int .i64 (giveX p L2).f1, .slice A (giveX p L2).f2.length c], .bool (decide (0 < L2.length))]) ∧
      (Kd.int .u8).C W' A (giveX p L2).f2.length (giveX p L2).f2 ∧ (giveX p L2).f2.length ≤ c ∧ Pair W' w Z ga h L1 (giveL p L2) ∧ Kept W W' Z := by
  have hx := P.step2 (n := 19) (args := #[.pointer (some ⟨h, 0, none⟩), .int .i64 p]) (X := giveL p L2) (R := fun e W' => ∃ (A : Option Addr) (c : Nat), e = .returned (.tuple #[.agg #[.int .i64 (giveX p L2).f0, .int .i64 (giveX p L2).f1, .slice A (giveX p L2).f2.length c], .bool (decide (0 < L2.length))]) ∧ (Kd.int .u8).C W' A (giveX p L2).f2.length (giveX p L2).f2 ∧ (giveX p L2).f2.length ≤ c) (fun o2 h1 h4 => by
    refine (rgive_calls h1 p hl).mono ?_
    rintro e W' ⟨A, c, rfl, hR, hU, hK⟩
    obtain ⟨_, hle, hC⟩ := Kd.R_reads' hR
    exact ⟨⟨A, c, rfl, hC, hle⟩, hU, kept_mono hK (fun k hk => by rw [hk]; exact h1.1.choose_spec.mine)⟩)
  refine hx.mono ?_
  rintro e W' ⟨⟨A, c, rfl, hC, hle⟩, hP, hK⟩
  exact ⟨A, c, rfl, hC, hle, hP, hK⟩
theorem many_le (n m : Nat) (hn : n ≤ 1024) : n + min (manyOf n m) m ≤ 1024 := by unfold manyOf; omega
theorem send_small {m : List S28} (hs : Small L) (hm : Small m) (hl : L.length ≤ 1024) : Small (L ++ m.take (manyOf L.length m.length)) ∧ (L ++ m.take (manyOf L.length m.length)).length ≤ 1024 :=
  ⟨fun x hx => (List.mem_append.1 hx).elim (hs x) (fun h => hm x (List.mem_of_mem_take h)), by rw [List.length_append, List.length_take]; exact many_le _ _ hl⟩
theorem give_small (hs : Small L) (hl : L.length ≤ 1024) (p : Int) : Small (giveL p L) ∧ (giveL p L).length ≤ 1024 ∧ (giveX p L).f2.length ≤ 140737488351232 := by
  by_cases h0 : L.length = 0
  · unfold giveL giveX
    rw [if_pos h0, if_pos h0]
    exact ⟨(fun x hx => by cases hx), by simp, by simp⟩
  · obtain ⟨i, hi, hil⟩ := pick_lt p L.length (by omega)
    unfold giveL giveX
    rw [if_neg h0, if_neg h0, hi, Int.toNat_natCast]
    exact ⟨fun x hx => hs x (List.mem_of_mem_eraseIdx hx), Nat.le_trans (List.length_eraseIdx_le _ _) hl, hs _ (rd_mem hil)⟩
theorem late_small (hs : Small L) (hl : L.length ≤ 1024) (p : Int) : Small (lateL p L) ∧ (lateL p L).length ≤ 1024 := by
  by_cases h0 : L.length = 0
  · unfold lateL
    rw [if_pos h0]
    exact ⟨(fun x hx => by cases hx), by simp⟩
  · obtain ⟨i, hi, hil⟩ := pick_lt p L.length (by omega)
    unfold lateL
    rw [if_neg h0, hi, Int.toNat_natCast]
    refine ⟨fun x hx => (List.mem_append.1 hx).elim (fun h => hs x (List.mem_of_mem_eraseIdx h)) (fun h => by rw [List.mem_singleton.1 h]; exact hs _ (rd_mem hil)), ?_⟩
    rw [List.length_append, List.length_eraseIdx, if_pos hil]
    simp only [List.length_singleton]
    omega
theorem twice_small (hs : Small L) (hl : L.length ≤ 1024) (p : Int) : Small (twiceL p L) ∧ (twiceL p L).length ≤ 1024 := by
  unfold twiceL
  split
  · rename_i hb
    simp only [twiceB, Bool.and_eq_true, decide_eq_true_eq] at hb
    obtain ⟨i, hi, hil⟩ := pick_lt p L.length (by omega)
    rw [hi]
    exact ⟨fun x hx => (List.mem_append.1 hx).elim (hs x) (fun h => by rw [List.mem_singleton.1 h]; exact hs _ (rd_mem hil)), by rw [List.length_append]; simp only [List.length_singleton]; omega⟩
  · exact ⟨hs, hl⟩
theorem drop_small (hs : Small L) (hl : L.length ≤ 1024) (ns : List Int) : Small (dropL ns L) ∧ (dropL ns L).length ≤ 1024 :=
  ⟨fun x hx => hs x (List.mem_filter.1 hx).1, Nat.le_trans (List.length_filter_le _ _) hl⟩
end
end Go.Proofs.Ytmindpofjnicfaa.Hand
