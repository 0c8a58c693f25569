import Derived.Test.YtmindpofjnicfaaTwice
namespace Go.Proofs.Ytmindpofjnicfaa.Hand
open Go.RowKit Go.Proofs.Ytmindpofjnicfaa.PA Go.Proofs.YtmindpofjnicfaaW.PrintWords Go.Proofs.YtmindpofjnicfaaW.PrintLast Go.Proofs.YtmindpofjnicfaaW.PrintMore
attribute [local go_sem] max2_int min2_int
deriving instance DecidableEq for S28
theorem k28_nil (w : World) (a b : Int) : k28.K w ⟨a, b, []⟩ [.int .i64 a, .int .i64 b, .slice none 0 0] := k28_mk w ⟨a, b, []⟩ (A2 := none) (c2 := 0) (Nat.le_refl _) ⟨rfl, by simp, fun h => absurd h (by simp)⟩
theorem reads_two {W : World} {S : Nat → Prop} {q : Nat} (a b c d : Int) (hq : W.heap[q]? = some (.cells #[.int .i64 a, .int .i64 b, .slice none 0 0, .int .i64 c, .int .i64 d, .slice none 0 0] 28 (0, 0))) (hqS : ¬ S q) :
    ∀ W', Kept W W' S → Kd.C k28 W' (some ⟨q, 0, none⟩) [(⟨a, b, []⟩ : S28), ⟨c, d, []⟩].length [⟨a, b, []⟩, ⟨c, d, []⟩] := by
  intro W' hK
  have hb := (hK.2 q (blk_lt hq) hqS).trans hq
  refine ⟨rfl, by simp, fun _ => ⟨_, rfl, fun j p hj => ?_⟩⟩
  match j with
  | 0 =>
    cases hj
    refine ⟨_, rfl, k28_nil _ _ _, fun i u hu => ?_⟩
    have h := blk_cell hb i
    rw [show (⟨q, 0, none⟩ : Addr).add (0 * k28.sz + i) = ⟨q, i, none⟩ from by simp [Addr.add]; omega]
    rw [h]
    match i with
    | 0 | 1 | 2 => simpa using hu
    | i + 3 => simp at hu
  | 1 =>
    cases hj
    refine ⟨_, rfl, k28_nil _ _ _, fun i u hu => ?_⟩
    have h := blk_cell hb (3 + i)
    rw [show (⟨q, 0, none⟩ : Addr).add (1 * k28.sz + i) = ⟨q, 3 + i, none⟩ from by simp [Addr.add, show k28.sz = 3 from rfl]]
    rw [h]
    match i with
    | 0 | 1 | 2 => simpa using hu
    | i + 3 => simp at hu
  | j + 2 => simp at hj
/-- A net whose blocks are ok; the world ahead of w0's end stands. -/
def NetUp (W w0 : World) (ok : Nat → Prop) (g : Nat) (l : List S28) : Prop := (∃ v, IsNet W w0.heap.size ok g v l) ∧ Below w0.heap.size w0 W
theorem NetUp.mono {W w0 : World} {ok ok' : Nat → Prop} {g : Nat} {l : List S28} (h : NetUp W w0 ok g l) (hm : ∀ k, ok k → ok' k) : NetUp W w0 ok' g l := by
  obtain ⟨⟨v, h⟩, hB⟩ := h
  exact ⟨⟨v, h.mono hm⟩, hB⟩
theorem NetUp.bound {W w0 : World} {ok : Nat → Prop} {g : Nat} {l : List S28} (h : NetUp W w0 ok g l) : NetUp W w0 (fun k => ok k ∧ w0.heap.size ≤ k ∧ k < W.heap.size) g l := by
  obtain ⟨⟨v, h⟩, hB⟩ := h
  exact ⟨⟨v, h.here, ⟨h.mine, h.young, blk_lt h.here⟩, h.young, Kd.S_mono (Kd.S_bound h.row) (fun k hk => ⟨hk.1, hk.2.1, hk.2.2.1⟩)⟩, hB⟩
theorem NetUp.alloc {W w0 : World} {ok : Nat → Prop} {g : Nat} {l : List S28} (h : NetUp W w0 ok g l) (o : Obj) : NetUp (W.alloc o) w0 ok g l := by
  obtain ⟨⟨v, h⟩, hB⟩ := h
  exact ⟨⟨v, h.alloc o⟩, hB.alloc hB.size o⟩
theorem NetUp.below {W W' w0 : World} {ok : Nat → Prop} {g : Nat} {l : List S28} (h : NetUp W w0 ok g l) (hb : Below W.heap.size W W') : NetUp W' w0 ok g l := by
  obtain ⟨⟨v, h⟩, hB⟩ := h
  exact ⟨⟨v, (hb.block _ (blk_lt h.here)).trans h.here, h.mine, h.young, Kd.S_below h.row hb⟩, hB.trans (hb.mono hB.size)⟩
theorem NetUp.drew {W w0 : World} {ok : Nat → Prop} {g : Nat} {l : List S28} (h : NetUp W w0 ok g l) : NetUp W.drew w0 ok g l := h.below (below_drew (Below.refl _ _))
theorem NetUp.kept {W W' w0 : World} {ok S : Nat → Prop} {g : Nat} {l : List S28} (h : NetUp W w0 ok g l) (hk : Kept W W' S) (ha : ∀ k, ok k → ¬ S k) (hB : Below w0.heap.size w0 W') : NetUp W' w0 ok g l := by
  obtain ⟨⟨v, h⟩, _⟩ := h
  exact ⟨⟨v, (hk.2 _ (blk_lt h.here) (ha _ h.mine)).trans h.here, h.mine, h.young, Kd.S_step h.row (fun k ho hlt => hk.2 k hlt (ha k ho))⟩, hB⟩
theorem kept_mono {w w' : World} {S S' : Nat → Prop} (h : Kept w w' S) (hs : ∀ k, S k → S' k) : Kept w w' S' := (Kept.refl w S').then_ h (fun k hk => .inl (hs k hk))
theorem IsNet.in_ok {W : World} {base : Nat} {ok : Nat → Prop} {g : Nat} {v : Value} {l : List S28} (h : IsNet W base ok g v l) : ∀ k, (k = g ∨ some k = v.ownBlock) → ok k := by
  rintro k (rfl | hk)
  · exact h.mine
  · obtain ⟨f, h0, _⟩ := h.row
    exact h0 k hk.symm
theorem new_up (w : World) : Calls Try.prog 8 #[] w fun e w' => e = .returned (.pointer (some ⟨w.heap.size, 0, none⟩)) ∧ NetUp w' w (fun k => w.heap.size ≤ k) w.heap.size [] ∧ Below w.heap.size w w' := by
  refine (new_calls w).mono ?_
  rintro e w' ⟨rfl, h1, h2⟩
  exact ⟨rfl, ⟨⟨_, h1⟩, h2⟩, h2⟩
theorem len_up {w w0 : World} {ok : Nat → Prop} {g : Nat} {l : List S28} (h : NetUp w w0 ok g l) : Calls Try.prog 13 #[.pointer (some ⟨g, 0, none⟩)] w fun e w' => e = .returned (.int .i64 l.length) ∧ w' = w := by
  obtain ⟨⟨v, h⟩, _⟩ := h
  obtain ⟨A, c, rfl⟩ := Kd.S_slice h.row
  exact len_calls g A l.length c w ((blk_cell h.here 0).trans rfl)
theorem send_up {w w0 : World} {ok : Nat → Prop} {g : Nat} {l : List S28} (h : NetUp w w0 ok g l) (A : Option Addr) (c : Nat) (m : List S28) (hm : ∀ W', Kept w W' ok → Kd.C k28 W' A m.length m) (hc : m.length ≤ c) (hd : ∀ x ∈ m, x.f2.length ≤ 140737488355328) (hl : l.length ≤ 1024) :
    Calls Try.prog 9 #[.pointer (some ⟨g, 0, none⟩), .slice A m.length c] w fun e w' => e = .returned (.int .i64 (manyOf l.length m.length)) ∧ NetUp w' w0 (fun k => ok k ∨ w.heap.size ≤ k) g (l ++ m.take (manyOf l.length m.length)) ∧ Kept w w' ok := by
  obtain ⟨⟨v, h⟩, hB⟩ := h
  refine (send_calls w0 w ok g v l hB h A c m (fun W' hk => hm W' (kept_mono hk h.in_ok)) hc hd hl).mono ?_
  rintro e w' ⟨rfl, v', h1, h2, h3, _⟩
  exact ⟨rfl, ⟨⟨v', h1⟩, h2⟩, kept_mono h3 h.in_ok⟩
def giveX (p : Int) (l : List S28) : S28 := if l.length = 0 then ⟨0, 0, []⟩ else rd_T28 l (pickOf p l.length)
def giveL (p : Int) (l : List S28) : List S28 := if l.length = 0 then [] else l.eraseIdx (pickOf p l.length).toNat
theorem give_up {w w0 : World} {ok : Nat → Prop} {g : Nat} {l : List S28} (h : NetUp w w0 ok g l) (p : Int) :
    Calls Try.prog 11 #[.pointer (some ⟨g, 0, none⟩), .int .i64 p] w fun e w' => ∃ (A : Option Addr) (c : Nat) (okm : Nat → Prop), e = .returned (.tuple #[.agg #[.int .i64 (giveX p l).f0, .int .i64 (giveX p l).f1, .slice A (giveX p l).f2.length c], .bool (decide (0 < l.length))]) ∧
      (Kd.int .u8).R 5 w' w0.heap.size okm (.slice A (giveX p l).f2.length c) (giveX p l).f2 ∧ (∀ k, okm k → ok k) ∧ NetUp w' w0 (fun k => ok k ∧ ¬ okm k) g (giveL p l) ∧ Kept w w' ok := by
  obtain ⟨⟨v, h⟩, hB⟩ := h
  by_cases hl : l.length = 0
  · obtain rfl : l = [] := List.eq_nil_of_length_eq_zero hl
    obtain ⟨A, c, rfl⟩ := Kd.S_slice h.row
    refine (give_none g A c p w ((blk_cell h.here 0).trans rfl)).mono ?_
    rintro e w' ⟨rfl, h1⟩
    refine ⟨none, 0, fun _ => False, rfl, Kd.R_nil _ _ _ _ _, fun _ hk => hk.elim, ?_, Kept.of_below h1 _⟩
    exact NetUp.below ⟨⟨_, h.mono (fun k hk => ⟨hk, fun h => h.elim⟩)⟩, hB⟩ h1
  · refine (give_calls w0 w ok g v l hB h p (by omega)).mono ?_
    rintro e w' ⟨v2, v', okm, rfl, h1, h2, h3, h4, h5, h6⟩
    obtain ⟨A, c, rfl⟩ := Kd.R_slice h1
    refine ⟨A, c, okm, ?_, ?_, fun k hk => (h2 k hk).1, ?_, kept_mono h5 h.in_ok⟩
    · simp only [giveX, hl, if_false, show (0 < l.length) = True from by simp; omega, decide_true]
    · simp only [giveX, hl, if_false]; exact h1
    · simp only [giveL, hl, if_false]; exact ⟨⟨_, h3⟩, h4⟩
def lateL (p : Int) (l : List S28) : List S28 := if l.length = 0 then [] else l.eraseIdx (pickOf p l.length).toNat ++ [rd_T28 l (pickOf p l.length)]
theorem late_up {w w0 : World} {ok : Nat → Prop} {g : Nat} {l : List S28} (h : NetUp w w0 ok g l) (p : Int) (hl2 : l.length ≤ 1024) (hd : ∀ x ∈ l, x.f2.length ≤ 140737488355328) :
    Calls Try.prog 21 #[.pointer (some ⟨g, 0, none⟩), .int .i64 p] w fun e w' => e = .returned (.bool (decide (0 < l.length))) ∧ NetUp w' w0 (fun k => ok k ∨ w.heap.size ≤ k) g (lateL p l) ∧ Kept w w' ok := by
  obtain ⟨⟨v, h⟩, hB⟩ := h
  by_cases hl : l.length = 0
  · obtain rfl : l = [] := List.eq_nil_of_length_eq_zero hl
    obtain ⟨A, c, rfl⟩ := Kd.S_slice h.row
    refine (late_none g A c p w ((blk_cell h.here 0).trans rfl)).mono ?_
    rintro e w' ⟨rfl, h1⟩
    exact ⟨rfl, NetUp.below ⟨⟨_, h.mono (fun k hk => .inl hk)⟩, hB⟩ h1, Kept.of_below h1 _⟩
  · refine (late_calls w0 w ok g v l hB h p (by omega) hl2 hd).mono ?_
    rintro e w' ⟨rfl, v', h1, h2, h3, _⟩
    refine ⟨by simp only [show (0 < l.length) = True from by simp; omega, decide_true], ?_, kept_mono h3 h.in_ok⟩
    simp only [lateL, hl, if_false]; exact ⟨⟨_, h1⟩, h2⟩
def twiceB (l : List S28) : Bool := decide (0 < l.length) && decide (l.length < 1024)
def twiceL (p : Int) (l : List S28) : List S28 := if twiceB l then l ++ [rd_T28 l (pickOf p l.length)] else l
theorem twice_up {w w0 : World} {ok : Nat → Prop} {g : Nat} {l : List S28} (h : NetUp w w0 ok g l) (p : Int) (hl2 : l.length ≤ 1024) (hd : ∀ x ∈ l, x.f2.length ≤ 140737488355328) :
    Calls Try.prog 10 #[.pointer (some ⟨g, 0, none⟩), .int .i64 p] w fun e w' => e = .returned (.bool (twiceB l)) ∧ NetUp w' w0 (fun k => ok k ∨ w.heap.size ≤ k) g (twiceL p l) ∧ Kept w w' ok := by
  obtain ⟨⟨v, h⟩, hB⟩ := h
  by_cases hl : l.length = 0
  · obtain rfl : l = [] := List.eq_nil_of_length_eq_zero hl
    obtain ⟨A, c, rfl⟩ := Kd.S_slice h.row
    refine (twice_none g A c p w ((blk_cell h.here 0).trans rfl)).mono ?_
    rintro e w' ⟨rfl, h1⟩
    exact ⟨rfl, NetUp.below ⟨⟨_, h.mono (fun k hk => .inl hk)⟩, hB⟩ h1, Kept.of_below h1 _⟩
  · refine (twice_calls w0 w ok g v l hB h p (by omega) hl2 hd).mono ?_
    rintro e w' ⟨rfl, v', h1, h2, h3, _⟩
    have he : twiceB l = decide (l.length < 1024) := by simp only [twiceB, show (0 < l.length) = True from by simp; omega, decide_true, Bool.true_and]
    refine ⟨by rw [he], ?_, kept_mono h3 h.in_ok⟩
    simp only [twiceL, he, decide_eq_true_eq]; exact ⟨⟨_, h1⟩, h2⟩
set_option maxHeartbeats 1000000 in
theorem known_calls (w : World) : Calls Try.prog 14 #[] w fun e w' => e = .returned (.bool true) ∧ Below w.heap.size w w' := by
  go_enter Try.func14, Try.ntmps14
  go_wp2_with (go_at_call 8; refine (new_up _).mono ?_; rintro e w1 ⟨rfl, hN, hB⟩; have HN := Aside0.mk hN; have HB := Aside0.mk hB; clear hN hB)
  have HA := Aside0.mk (HN.out.bound.alloc (Obj.cells #[.int .i64 1, .int .i64 0, .slice none 0 0, .int .i64 2, .int .i64 0, .slice none 0 0] 28))
  refine (send_up HA.out (some ⟨w1.heap.size, 0, none⟩) 2 [⟨1, 0, []⟩, ⟨2, 0, []⟩] (reads_two 1 0 2 0 (heap_alloc_new w1 _) (fun h => by have := h.2.2; omega)) (by simp) (by simp) (by simp)).mono ?_
  rintro e w2 ⟨rfl, hN2, _⟩
  have HN2 := Aside0.mk hN2
  clear hN2
  have hm1 : manyOf ([] : List S28).length [(⟨1, 0, []⟩ : S28), ⟨2, 0, []⟩].length = 2 := by decide
  rw [hm1] at HN2 ⊢
  go_wp2_with fail
  refine (late_up HN2.out 0 (by simp) (by simp)).mono ?_
  rintro e w3 ⟨rfl, hN3, _⟩
  have HN3 := Aside0.mk hN3
  clear hN3
  go_wp2_with fail
  refine (give_up HN3.out 0).mono ?_
  rintro e w4 ⟨A, c, okm, rfl, _, _, hN4, _⟩
  have HN4 := Aside0.mk hN4
  clear hN4
  have e1 : (giveX 0 (lateL 0 ([] ++ List.take 2 [(⟨1, 0, []⟩ : S28), ⟨2, 0, []⟩]))) = ⟨2, 0, []⟩ := by decide +kernel
  have e2 : decide (0 < (lateL 0 ([] ++ List.take 2 [(⟨1, 0, []⟩ : S28), ⟨2, 0, []⟩])).length) = true := by decide +kernel
  rw [e1, e2]
  go_wp2_with fail
  refine (len_up (HN4.out.alloc _)).mono ?_
  rintro e w5 ⟨rfl, rfl⟩
  have e3 : ((giveL 0 (lateL 0 ([] ++ List.take 2 [(⟨1, 0, []⟩ : S28), ⟨2, 0, []⟩]))).length : Int) = 1 := by decide +kernel
  rw [e3]
  go_wp2
  go_ret
  exact ⟨rfl, (HN4.out.alloc _).2⟩
end Go.Proofs.Ytmindpofjnicfaa.Hand
