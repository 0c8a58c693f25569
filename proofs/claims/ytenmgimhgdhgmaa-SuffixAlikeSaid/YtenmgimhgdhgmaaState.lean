/- suffix.Array's memory: rows of whole numbers and boxes, each in a block of its own. -/
import Derived.Test.YtenmgimhgdhgmaaIter
import Derived.Test.YtenmgimhgdhgmaaStart
import Derived.Deep.QuietTactic
import Derived.BigQuiet
import Derived.StillTailTactics
import Derived.Deep.DeepCutAuto
import Derived.Deep.CutBlock
namespace Go.Proofs.Ytenmgimhgdhgmaa.Hand
open Go.RowKit Go.Proofs.Ytenmgimhgdhgmaa.PA Go.Proofs.Ytenmgimhgdhgmaa.Sfx Go.Proofs.Ytenmgimhgdhgmaa.Iter Go.Proofs.YtenmgimhgdhgmaaW.PrintWords Go.Proofs.YtenmgimhgdhgmaaW.PrintLast Go.Proofs.YtenmgimhgdhgmaaW.PrintMore
set_option linter.unusedVariables false
set_option linter.unusedSimpArgs false

/-- Block g holds just the numbers l. -/
def Blk (W : World) (g : Nat) (l : List Int) : Prop := W.heap[g]? = some (.cells (l.map (Value.int .i64)).toArray 3 (0, 0))
/-- Block g is a box with v in it (type t). -/
def Box (W : World) (g : Nat) (t : TypeId) (v : Value) : Prop := W.heap[g]? = some (.cells #[v] t (0, 0))
theorem Blk.lt {W : World} {g : Nat} {l : List Int} (h : Blk W g l) : g < W.heap.size := blk_lt h
theorem Box.lt {W : World} {g : Nat} {t : TypeId} {v : Value} (h : Box W g t v) : g < W.heap.size := blk_lt h
theorem Blk.cell {W : World} {g : Nat} {l : List Int} (h : Blk W g l) (i : Nat) (hi : i < l.length) : W.cell? ⟨g, i, none⟩ = some (.int .i64 (rd l (i : Nat))) := by
  rw [blk_cell h i, rd_at hi]
  simp [hi]
theorem Blk.frozen {W : World} {g : Nat} {l : List Int} (h : Blk W g l) (i : Nat) : W.frozen? ⟨g, i, none⟩ = false := blk_frozen h i
theorem Box.cell {W : World} {g : Nat} {t : TypeId} {v : Value} (h : Box W g t v) : W.cell? ⟨g, 0, none⟩ = some v := blk_cell h 0
theorem Box.frozen {W : World} {g : Nat} {t : TypeId} {v : Value} (h : Box W g t v) : W.frozen? ⟨g, 0, none⟩ = false := blk_frozen h 0
theorem Blk.put {W : World} {g : Nat} {l : List Int} (h : Blk W g l) (i : Nat) (v : Int) : Blk (W.setCell ⟨g, i, none⟩ (.int .i64 v)) g (l.set i v) := by
  unfold Blk at *
  refine blk_put h i _ ?_
  apply Array.ext
  · simp
  · intro j h1 h2
    simp [List.getElem_set, List.getElem_map]
theorem Box.put {W : World} {g : Nat} {t : TypeId} {v : Value} (h : Box W g t v) (u : Value) : Box (W.setCell ⟨g, 0, none⟩ u) g t u := blk_put h 0 u rfl
theorem Blk.far {W : World} {g : Nat} {l : List Int} (h : Blk W g l) {g' : Nat} (hne : g ≠ g') (i : Nat) (u : Value) : Blk (W.setCell ⟨g', i, none⟩ u) g l := (Below.heap_setCell W ⟨g', i, none⟩ u g hne).trans h
theorem Box.far {W : World} {g : Nat} {t : TypeId} {v : Value} (h : Box W g t v) {g' : Nat} (hne : g ≠ g') (i : Nat) (u : Value) : Box (W.setCell ⟨g', i, none⟩ u) g t v := (Below.heap_setCell W ⟨g', i, none⟩ u g hne).trans h
theorem Blk.alloc {W : World} {g : Nat} {l : List Int} (h : Blk W g l) (o : Obj) : Blk (W.alloc o) g l := blk_alloc h o
theorem Box.alloc {W : World} {g : Nat} {t : TypeId} {v : Value} (h : Box W g t v) (o : Obj) : Box (W.alloc o) g t v := blk_alloc h o
theorem Blk.below {W W' : World} {g : Nat} {l : List Int} (h : Blk W g l) (hb : Below W.heap.size W W') : Blk W' g l := blk_below h hb
theorem Box.below {W W' : World} {g : Nat} {t : TypeId} {v : Value} (h : Box W g t v) (hb : Below W.heap.size W W') : Box W' g t v := blk_below h hb
theorem Blk.made (W : World) (n : Nat) : Blk (W.alloc (.cells (madeCells #[Value.int .i64 0] n) 3)) W.heap.size (List.replicate n 0) := by
  unfold Blk
  rw [World.alloc_heap_new]
  congr 2
  apply Array.ext
  · simp [madeCells]
  · intro i h1 h2; simp [madeCells, Nat.mod_one]
/-- As the printed texts tell a row of the call's own. -/
theorem Blk.R {W : World} {g : Nat} {l : List Int} (h : Blk W g l) (base : Nat) (hb : base ≤ g) (hl : l.length ≤ 9223372036854775807) : Kd.R (Kd.int .i64) 3 W base (fun k => k = g) (.slice (some ⟨g, 0, none⟩) l.length l.length) l :=
  ⟨fun k hk => by simpa [Value.ownBlock, eq_comm] using hk, _, ⟨by simp [Kd.int, Kd.scalar, encs], .inr ⟨g, l.length, (l.map (Value.int .i64)).toArray, rfl, hb, h, Nat.le_refl _, by simpa [maxLen] using hl, by simp [Kd.int, Kd.scalar], by simp [Kd.int, Kd.scalar, encs, List.take_of_length_le]⟩⟩, Kd.reps_scalar _⟩
theorem Blk.of_R {W : World} {g n : Nat} {l : List Int} {base : Nat} {ok : Nat → Prop} (h : Kd.R (Kd.int .i64) 3 W base ok (.slice (some ⟨g, 0, none⟩) n n) l) : Blk W g l ∧ l.length = n := by
  have hn := (Kd.R_reads' h).1
  obtain ⟨_, inner, ho, hr⟩ := h
  obtain rfl := Kd.reps_encs (h := hr)
  rcases ho.2 with ⟨e, _⟩ | ⟨g', cap, cur, e, _, hb, h1, _, h3, h4⟩
  · cases e
  · injection e with e1 e2 e3
    injection e1 with e1
    injection e1 with e1 _ _
    subst e1 e3
    refine ⟨?_, hn.symm⟩
    unfold Blk
    rw [hb]
    congr 2
    have h5 : cur.size = n := by simpa [Kd.int, Kd.scalar] using h3
    have h6 : cur.toList.take n = l.map (Value.int .i64) := by simpa [Kd.int, Kd.scalar, encs, hn] using h4
    rw [List.take_of_length_le (by simp; omega)] at h6
    rw [← h6]

theorem Blk.C {W : World} {g : Nat} {l : List Int} (h : Blk W g l) (hl : l.length ≤ 9223372036854775807) : Kd.C (Kd.int .i64) W (some ⟨g, 0, none⟩) l.length l := (Kd.R_reads' (h.R 0 (Nat.zero_le _) hl)).2.2

/-- While the first ranks are written. -/
structure Pre (w4 W : World) (n bR gA gR : Nat) (sa rk : List Int) : Prop where
  below : Below w4.heap.size w4 W
  yR : w4.heap.size ≤ bR
  yA : w4.heap.size ≤ gA
  yr : w4.heap.size ≤ gR
  n1 : bR ≠ gA
  n2 : bR ≠ gR
  n3 : gA ≠ gR
  R : Box W bR 22 (.slice (some ⟨gR, 0, none⟩) n n)
  a : Blk W gA sa
  r : Blk W gR rk
  la : sa.length = n
  lr : rk.length = n
theorem Pre.putA {w4 W : World} {n bR gA gR : Nat} {sa rk : List Int} (h : Pre w4 W n bR gA gR sa rk) (i : Nat) (v : Int) : Pre w4 (W.setCell ⟨gA, i, none⟩ (.int .i64 v)) n bR gA gR (sa.set i v) rk :=
  ⟨h.below.setCell h.yA _, h.yR, h.yA, h.yr, h.n1, h.n2, h.n3, h.R.far h.n1 _ _, h.a.put i v, h.r.far (Ne.symm h.n3) _ _, by rw [List.length_set]; exact h.la, h.lr⟩
theorem Pre.putr {w4 W : World} {n bR gA gR : Nat} {sa rk : List Int} (h : Pre w4 W n bR gA gR sa rk) (i : Nat) (v : Int) : Pre w4 (W.setCell ⟨gR, i, none⟩ (.int .i64 v)) n bR gA gR sa (rk.set i v) :=
  ⟨h.below.setCell h.yr _, h.yR, h.yA, h.yr, h.n1, h.n2, h.n3, h.R.far h.n2 _ _, h.a.far h.n3 _ _, h.r.put i v, h.la, by rw [List.length_set]; exact h.lr⟩
theorem Pre.drewN {w4 W : World} {n bR gA gR : Nat} {sa rk : List Int} (h : Pre w4 W n bR gA gR sa rk) (q : Nat) : Pre w4 (W.drewN q) n bR gA gR sa rk :=
  ⟨pw_below_drewN h.below q, h.yR, h.yA, h.yr, h.n1, h.n2, h.n3, h.R, h.a, h.r, h.la, h.lr⟩
theorem rd_set (l : List Int) (i j : Nat) (v : Int) (hi : i < l.length) : rd (l.set i v) (j : Nat) = if j = i then v else rd l (j : Nat) := by
  by_cases hj : j < l.length
  · rw [rd_at (by rw [List.length_set]; exact hj), rd_at hj, List.getElem_set]
    by_cases e : i = j
    · rw [if_pos e, if_pos e.symm]
    · rw [if_neg e, if_neg (Ne.symm e)]
  · rw [if_neg (by omega)]
    unfold rd
    simp [List.getD_eq_getElem?_getD, hj]

/-- Two new rows of n noughts. -/
structure Two (w W : World) (n g1 g2 : Nat) : Prop where
  below : Below w.heap.size w W
  b1 : Blk W g1 (List.replicate n 0)
  b2 : Blk W g2 (List.replicate n 0)
  y1 : w.heap.size ≤ g1
  y2 : w.heap.size ≤ g2
  ne : g1 ≠ g2
theorem two_1 (w : World) (n : Nat) : Two w ((w.drew.alloc (.cells (madeCells #[Value.int .i64 0] n) 3)).alloc (.cells (madeCells #[Value.int .i64 0] n) 3)) n w.heap.size (w.heap.size + 1) := by
  refine ⟨((below_drew (Below.refl _ _)).alloc (by simp) _).alloc (by simp) _, (Blk.made w.drew n).alloc _, ?_, Nat.le_refl _, by omega, by omega⟩
  have := Blk.made (w.drew.alloc (.cells (madeCells #[Value.int .i64 0] n) 3)) n
  rw [World.size_alloc] at this
  exact this
theorem two_2 (w : World) (n : Nat) : Two w ((w.drew.alloc (.cells (madeCells #[Value.int .i64 0] n) 3)).alloc (.cells (madeCells #[Value.int .i64 0] n) 3)) n (w.heap.size + 1) w.heap.size :=
  let h := two_1 w n
  ⟨h.below, h.b2, h.b1, h.y2, h.y1, h.ne.symm⟩

structure St (w0 W : World) (n bN bR bK gA gT gX gR : Nat) (k : Int) (sa tmp nx rk : List Int) : Prop where
  below : Below w0.heap.size w0 W
  young : ∀ x ∈ [bN, bR, bK, gA, gT, gX, gR], w0.heap.size ≤ x
  nd : [bN, bR, bK, gA, gT, gX, gR].Nodup
  N : Box W bN 3 (.int .i64 n)
  R : Box W bR 22 (.slice (some ⟨gR, 0, none⟩) n n)
  K : Box W bK 3 (.int .i64 k)
  a : Blk W gA sa
  t : Blk W gT tmp
  x : Blk W gX nx
  r : Blk W gR rk
  la : sa.length = n
  lt : tmp.length = n
  lx : nx.length = n
  lr : rk.length = n
section
variable {w0 W : World} {n bN bR bK gA gT gX gR : Nat} {k : Int} {sa tmp nx rk : List Int}
theorem St.ne (h : St w0 W n bN bR bK gA gT gX gR k sa tmp nx rk) : (bN ≠ bR ∧ bN ≠ bK ∧ bN ≠ gA ∧ bN ≠ gT ∧ bN ≠ gX ∧ bN ≠ gR) ∧ (bR ≠ bK ∧ bR ≠ gA ∧ bR ≠ gT ∧ bR ≠ gX ∧ bR ≠ gR) ∧ (bK ≠ gA ∧ bK ≠ gT ∧ bK ≠ gX ∧ bK ≠ gR) ∧ (gA ≠ gT ∧ gA ≠ gX ∧ gA ≠ gR) ∧ (gT ≠ gX ∧ gT ≠ gR) ∧ gX ≠ gR := by
  have := h.nd
  simp only [List.nodup_cons, List.mem_cons, List.not_mem_nil, or_false, not_or] at this
  obtain ⟨⟨a1, a2, a3, a4, a5, a6⟩, ⟨b1, b2, b3, b4, b5⟩, ⟨c1, c2, c3, c4⟩, ⟨d1, d2, d3⟩, ⟨e1, e2⟩, f1, _⟩ := this
  exact ⟨⟨a1, a2, a3, a4, a5, a6⟩, ⟨b1, b2, b3, b4, b5⟩, ⟨c1, c2, c3, c4⟩, ⟨d1, d2, d3⟩, ⟨e1, e2⟩, f1⟩
theorem St.yT (h : St w0 W n bN bR bK gA gT gX gR k sa tmp nx rk) : w0.heap.size ≤ gT := h.young _ (by simp)
theorem St.yX (h : St w0 W n bN bR bK gA gT gX gR k sa tmp nx rk) : w0.heap.size ≤ gX := h.young _ (by simp)
theorem St.yA (h : St w0 W n bN bR bK gA gT gX gR k sa tmp nx rk) : w0.heap.size ≤ gA := h.young _ (by simp)
theorem St.yR (h : St w0 W n bN bR bK gA gT gX gR k sa tmp nx rk) : w0.heap.size ≤ gR := h.young _ (by simp)
theorem St.putT (h : St w0 W n bN bR bK gA gT gX gR k sa tmp nx rk) (i : Nat) (v : Int) : St w0 (W.setCell ⟨gT, i, none⟩ (.int .i64 v)) n bN bR bK gA gT gX gR k sa (tmp.set i v) nx rk := by
  obtain ⟨⟨a1, a2, a3, a4, a5, a6⟩, ⟨b1, b2, b3, b4, b5⟩, ⟨c1, c2, c3, c4⟩, ⟨d1, d2, d3⟩, ⟨e1, e2⟩, f1⟩ := h.ne
  exact ⟨h.below.setCell h.yT _, h.young, h.nd, h.N.far a4 _ _, h.R.far b3 _ _, h.K.far c2 _ _, h.a.far d1 _ _, h.t.put i v, h.x.far (Ne.symm e1) _ _, h.r.far (Ne.symm e2) _ _, h.la, by rw [List.length_set]; exact h.lt, h.lx, h.lr⟩
theorem St.putX (h : St w0 W n bN bR bK gA gT gX gR k sa tmp nx rk) (i : Nat) (v : Int) : St w0 (W.setCell ⟨gX, i, none⟩ (.int .i64 v)) n bN bR bK gA gT gX gR k sa tmp (nx.set i v) rk := by
  obtain ⟨⟨a1, a2, a3, a4, a5, a6⟩, ⟨b1, b2, b3, b4, b5⟩, ⟨c1, c2, c3, c4⟩, ⟨d1, d2, d3⟩, ⟨e1, e2⟩, f1⟩ := h.ne
  exact ⟨h.below.setCell h.yX _, h.young, h.nd, h.N.far a5 _ _, h.R.far b4 _ _, h.K.far c3 _ _, h.a.far d2 _ _, h.t.far e1 _ _, h.x.put i v, h.r.far (Ne.symm f1) _ _, h.la, h.lt, by rw [List.length_set]; exact h.lx, h.lr⟩
theorem St.putK (h : St w0 W n bN bR bK gA gT gX gR k sa tmp nx rk) (v : Int) : St w0 (W.setCell ⟨bK, 0, none⟩ (.int .i64 v)) n bN bR bK gA gT gX gR v sa tmp nx rk := by
  obtain ⟨⟨a1, a2, a3, a4, a5, a6⟩, ⟨b1, b2, b3, b4, b5⟩, ⟨c1, c2, c3, c4⟩, ⟨d1, d2, d3⟩, ⟨e1, e2⟩, f1⟩ := h.ne
  exact ⟨h.below.setCell (h.young bK (by simp)) _, h.young, h.nd, h.N.far a2 _ _, h.R.far b1 _ _, h.K.put _, h.a.far (Ne.symm c1) _ _, h.t.far (Ne.symm c2) _ _, h.x.far (Ne.symm c3) _ _, h.r.far (Ne.symm c4) _ _, h.la, h.lt, h.lx, h.lr⟩
theorem St.drewN (h : St w0 W n bN bR bK gA gT gX gR k sa tmp nx rk) (q : Nat) : St w0 (W.drewN q) n bN bR bK gA gT gX gR k sa tmp nx rk :=
  ⟨pw_below_drewN h.below q, h.young, h.nd, h.N, h.R, h.K, h.a, h.t, h.x, h.r, h.la, h.lt, h.lx, h.lr⟩
/-- A new box for k (each round has its own). -/
theorem St.newK (h : St w0 W n bN bR bK gA gT gX gR k sa tmp nx rk) (v : Int) : St w0 (W.alloc (.cells #[.int .i64 v] 3)) n bN bR W.heap.size gA gT gX gR v sa tmp nx rk := by
  obtain ⟨⟨a1, a2, a3, a4, a5, a6⟩, ⟨b1, b2, b3, b4, b5⟩, ⟨c1, c2, c3, c4⟩, ⟨d1, d2, d3⟩, ⟨e1, e2⟩, f1⟩ := h.ne
  have l1 := h.N.lt; have l2 := h.R.lt; have l3 := h.a.lt; have l4 := h.t.lt; have l5 := h.x.lt; have l6 := h.r.lt
  have hy := h.young
  simp only [List.mem_cons, List.not_mem_nil, or_false, forall_eq_or_imp, forall_eq] at hy
  obtain ⟨y1, y2, y3, y4, y5, y6, y7⟩ := hy
  refine ⟨h.below.alloc h.below.size _, ?_, ?_, h.N.alloc _, h.R.alloc _, World.alloc_heap_new _ _, h.a.alloc _, h.t.alloc _, h.x.alloc _, h.r.alloc _, h.la, h.lt, h.lx, h.lr⟩
  · simp only [List.mem_cons, List.not_mem_nil, or_false, forall_eq_or_imp, forall_eq]
    exact ⟨y1, y2, h.below.size, y4, y5, y6, y7⟩
  · simp only [List.nodup_cons, List.mem_cons, List.not_mem_nil, or_false, not_or, List.nodup_nil, not_false_eq_true, and_true]
    refine ⟨⟨a1, ?_, a3, a4, a5, a6⟩, ⟨?_, b2, b3, b4, b5⟩, ⟨?_, ?_, ?_, ?_⟩, ⟨d1, d2, d3⟩, ⟨e1, e2⟩, f1⟩ <;> omega
/-- The two rank rows change places. -/
theorem St.swapR (h : St w0 W n bN bR bK gA gT gX gR k sa tmp nx rk) : St w0 (W.setCell ⟨bR, 0, none⟩ (.slice (some ⟨gX, 0, none⟩) n n)) n bN bR bK gA gT gR gX k sa tmp rk nx := by
  obtain ⟨⟨a1, a2, a3, a4, a5, a6⟩, ⟨b1, b2, b3, b4, b5⟩, ⟨c1, c2, c3, c4⟩, ⟨d1, d2, d3⟩, ⟨e1, e2⟩, f1⟩ := h.ne
  have hy := h.young
  simp only [List.mem_cons, List.not_mem_nil, or_false, forall_eq_or_imp, forall_eq] at hy
  obtain ⟨y1, y2, y3, y4, y5, y6, y7⟩ := hy
  refine ⟨h.below.setCell y2 _, ?_, ?_, h.N.far a1 _ _, h.R.put _, h.K.far (Ne.symm b1) _ _, h.a.far (Ne.symm b2) _ _, h.t.far (Ne.symm b3) _ _, h.r.far (Ne.symm b5) _ _, h.x.far (Ne.symm b4) _ _, h.la, h.lt, h.lr, h.lx⟩
  · simp only [List.mem_cons, List.not_mem_nil, or_false, forall_eq_or_imp, forall_eq]
    exact ⟨y1, y2, y3, y4, y5, y7, y6⟩
  · simp only [List.nodup_cons, List.mem_cons, List.not_mem_nil, or_false, not_or, List.nodup_nil, not_false_eq_true, and_true]
    refine ⟨⟨a1, a2, a3, a4, a6, a5⟩, ⟨b1, b2, b3, b5, b4⟩, ⟨c1, c2, c4, c3⟩, ⟨d1, d3, d2⟩, ⟨e2, e1⟩, Ne.symm f1⟩
/-- byKey has written the row at gA anew. -/
theorem St.newA (h : St w0 W n bN bR bK gA gT gX gR k sa tmp nx rk) {W' : World} {sa' : List Int} (r1 : Blk W' gA sa') (r2 : sa'.length = n) (hB : Below w0.heap.size w0 W') (hK : Kept W W' (fun k_ => k_ = gA)) : St w0 W' n bN bR bK gA gT gX gR k sa' tmp nx rk := by
  obtain ⟨⟨a1, a2, a3, a4, a5, a6⟩, ⟨b1, b2, b3, b4, b5⟩, ⟨c1, c2, c3, c4⟩, ⟨d1, d2, d3⟩, ⟨e1, e2⟩, f1⟩ := h.ne
  exact ⟨hB, h.young, h.nd, (hK.2 _ h.N.lt a3).trans h.N, (hK.2 _ h.R.lt b2).trans h.R, (hK.2 _ h.K.lt c1).trans h.K, r1, (hK.2 _ h.t.lt (Ne.symm d1)).trans h.t, (hK.2 _ h.x.lt (Ne.symm d2)).trans h.x, (hK.2 _ h.r.lt (Ne.symm d3)).trans h.r, r2, h.lt, h.lx, h.lr⟩
end
end Go.Proofs.Ytenmgimhgdhgmaa.Hand
