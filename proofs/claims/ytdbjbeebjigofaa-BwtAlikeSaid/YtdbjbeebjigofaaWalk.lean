/- suffix.Array's memory: rows of whole numbers and boxes, each in a block of its own. -/
import Derived.Test.YtdbjbeebjigofaaIter
import Derived.Test.YtdbjbeebjigofaaStart
import Derived.Deep.QuietTactic
import Derived.BigQuiet
import Derived.StillTailTactics
import Derived.Deep.DeepCutAuto
import Derived.Deep.CutBlock
namespace Go.Proofs.Ytdbjbeebjigofaa.Hand
open Go.RowKit Go.Proofs.Ytdbjbeebjigofaa.PA Go.Proofs.Ytdbjbeebjigofaa.Sfx Go.Proofs.Ytdbjbeebjigofaa.Iter Go.Proofs.YtdbjbeebjigofaaW.PrintWords Go.Proofs.YtdbjbeebjigofaaW.PrintLast Go.Proofs.YtdbjbeebjigofaaW.PrintMore
set_option linter.unusedVariables false
set_option linter.unusedSimpArgs false

/-- Block g holds just the numbers l. -/
def Blk (W : World) (g : Nat) (l : List Int) : Prop := W.heap[g]? = some (.cells (l.map (Value.int .i64)).toArray 3 (0, 0))
/-- Block g is a box with v in it (type t). -/
def Box (W : World) (g : Nat) (t : TypeId) (v : Value) : Prop := W.heap[g]? = some (.cells #[v] t (0, 0))
theorem Blk.lt {W : World} {g : Nat} {l : List Int} (h : Blk W g l) : g < W.heap.size := blk_lt h
theorem Box.lt {W : World} {g : Nat} {t : TypeId} {v : Value} (h : Box W g t v) : g < W.heap.size := blk_lt h
theorem Blk.cell {W : World} {g : Nat} {l : List Int} (h : Blk W g l) (i : Nat) (hi : i < l.length) : W.cell? ⟨g, i, none⟩ = some (.int .i64 (rd l (i : Nat))) := by
  rw [blk_cell h i, rd_at hi]
  simp [hi]
theorem Blk.frozen {W : World} {g : Nat} {l : List Int} (h : Blk W g l) (i : Nat) : W.frozen? ⟨g, i, none⟩ = false := blk_frozen h i
theorem Box.cell {W : World} {g : Nat} {t : TypeId} {v : Value} (h : Box W g t v) : W.cell? ⟨g, 0, none⟩ = some v := blk_cell h 0
theorem Box.frozen {W : World} {g : Nat} {t : TypeId} {v : Value} (h : Box W g t v) : W.frozen? ⟨g, 0, none⟩ = false := blk_frozen h 0
theorem Blk.put {W : World} {g : Nat} {l : List Int} (h : Blk W g l) (i : Nat) (v : Int) : Blk (W.setCell ⟨g, i, none⟩ (.int .i64 v)) g (l.set i v) := by
  unfold Blk at *
  refine blk_put h i _ ?_
  apply Array.ext
  · simp
  · intro j h1 h2
    simp [List.getElem_set, List.getElem_map]
theorem Box.put {W : World} {g : Nat} {t : TypeId} {v : Value} (h : Box W g t v) (u : Value) : Box (W.setCell ⟨g, 0, none⟩ u) g t u := blk_put h 0 u rfl
theorem Blk.far {W : World} {g : Nat} {l : List Int} (h : Blk W g l) {g' : Nat} (hne : g ≠ g') (i : Nat) (u : Value) : Blk (W.setCell ⟨g', i, none⟩ u) g l := (Below.heap_setCell W ⟨g', i, none⟩ u g hne).trans h
theorem Box.far {W : World} {g : Nat} {t : TypeId} {v : Value} (h : Box W g t v) {g' : Nat} (hne : g ≠ g') (i : Nat) (u : Value) : Box (W.setCell ⟨g', i, none⟩ u) g t v := (Below.heap_setCell W ⟨g', i, none⟩ u g hne).trans h
theorem Blk.alloc {W : World} {g : Nat} {l : List Int} (h : Blk W g l) (o : Obj) : Blk (W.alloc o) g l := blk_alloc h o
theorem Box.alloc {W : World} {g : Nat} {t : TypeId} {v : Value} (h : Box W g t v) (o : Obj) : Box (W.alloc o) g t v := blk_alloc h o
theorem Blk.below {W W' : World} {g : Nat} {l : List Int} (h : Blk W g l) (hb : Below W.heap.size W W') : Blk W' g l := blk_below h hb
theorem Box.below {W W' : World} {g : Nat} {t : TypeId} {v : Value} (h : Box W g t v) (hb : Below W.heap.size W W') : Box W' g t v := blk_below h hb
theorem Blk.made (W : World) (n : Nat) : Blk (W.alloc (.cells (madeCells #[Value.int .i64 0] n) 3)) W.heap.size (List.replicate n 0) := by
  unfold Blk
  rw [World.alloc_heap_new]
  congr 2
  apply Array.ext
  · simp [madeCells]
  · intro i h1 h2; simp [madeCells, Nat.mod_one]
/-- As the printed texts tell a row of the call's own. -/
theorem Blk.R {W : World} {g : Nat} {l : List Int} (h : Blk W g l) (base : Nat) (hb : base ≤ g) (hl : l.length ≤ 9223372036854775807) : Kd.R (Kd.int .i64) 3 W base (fun k => k = g) (.slice (some ⟨g, 0, none⟩) l.length l.length) l :=
  ⟨fun k hk => by simpa [Value.ownBlock, eq_comm] using hk, _, ⟨by simp [Kd.int, Kd.scalar, encs], .inr ⟨g, l.length, (l.map (Value.int .i64)).toArray, rfl, hb, h, Nat.le_refl _, by simpa [maxLen] using hl, by simp [Kd.int, Kd.scalar], by simp [Kd.int, Kd.scalar, encs, List.take_of_length_le]⟩⟩, Kd.reps_scalar _⟩
theorem Blk.of_R {W : World} {g n : Nat} {l : List Int} {base : Nat} {ok : Nat → Prop} (h : Kd.R (Kd.int .i64) 3 W base ok (.slice (some ⟨g, 0, none⟩) n n) l) : Blk W g l ∧ l.length = n := by
  have hn := (Kd.R_reads' h).1
  obtain ⟨_, inner, ho, hr⟩ := h
  obtain rfl := Kd.reps_encs (h := hr)
  rcases ho.2 with ⟨e, _⟩ | ⟨g', cap, cur, e, _, hb, h1, _, h3, h4⟩
  · cases e
  · injection e with e1 e2 e3
    injection e1 with e1
    injection e1 with e1 _ _
    subst e1 e3
    refine ⟨?_, hn.symm⟩
    unfold Blk
    rw [hb]
    congr 2
    have h5 : cur.size = n := by simpa [Kd.int, Kd.scalar] using h3
    have h6 : cur.toList.take n = l.map (Value.int .i64) := by simpa [Kd.int, Kd.scalar, encs, hn] using h4
    rw [List.take_of_length_le (by simp; omega)] at h6
    rw [← h6]

theorem Blk.C {W : World} {g : Nat} {l : List Int} (h : Blk W g l) (hl : l.length ≤ 9223372036854775807) : Kd.C (Kd.int .i64) W (some ⟨g, 0, none⟩) l.length l := (Kd.R_reads' (h.R 0 (Nat.zero_le _) hl)).2.2

/-- While the first ranks are written. -/
structure Pre (w4 W : World) (n bR gA gR : Nat) (sa rk : List Int) : Prop where
  below : Below w4.heap.size w4 W
  yR : w4.heap.size ≤ bR
  yA : w4.heap.size ≤ gA
  yr : w4.heap.size ≤ gR
  n1 : bR ≠ gA
  n2 : bR ≠ gR
  n3 : gA ≠ gR
  R : Box W bR 22 (.slice (some ⟨gR, 0, none⟩) n n)
  a : Blk W gA sa
  r : Blk W gR rk
  la : sa.length = n
  lr : rk.length = n
theorem Pre.putA {w4 W : World} {n bR gA gR : Nat} {sa rk : List Int} (h : Pre w4 W n bR gA gR sa rk) (i : Nat) (v : Int) : Pre w4 (W.setCell ⟨gA, i, none⟩ (.int .i64 v)) n bR gA gR (sa.set i v) rk :=
  ⟨h.below.setCell h.yA _, h.yR, h.yA, h.yr, h.n1, h.n2, h.n3, h.R.far h.n1 _ _, h.a.put i v, h.r.far (Ne.symm h.n3) _ _, by rw [List.length_set]; exact h.la, h.lr⟩
theorem Pre.putr {w4 W : World} {n bR gA gR : Nat} {sa rk : List Int} (h : Pre w4 W n bR gA gR sa rk) (i : Nat) (v : Int) : Pre w4 (W.setCell ⟨gR, i, none⟩ (.int .i64 v)) n bR gA gR sa (rk.set i v) :=
  ⟨h.below.setCell h.yr _, h.yR, h.yA, h.yr, h.n1, h.n2, h.n3, h.R.far h.n2 _ _, h.a.far h.n3 _ _, h.r.put i v, h.la, by rw [List.length_set]; exact h.lr⟩
theorem Pre.drewN {w4 W : World} {n bR gA gR : Nat} {sa rk : List Int} (h : Pre w4 W n bR gA gR sa rk) (q : Nat) : Pre w4 (W.drewN q) n bR gA gR sa rk :=
  ⟨pw_below_drewN h.below q, h.yR, h.yA, h.yr, h.n1, h.n2, h.n3, h.R, h.a, h.r, h.la, h.lr⟩
theorem rd_set (l : List Int) (i j : Nat) (v : Int) (hi : i < l.length) : rd (l.set i v) (j : Nat) = if j = i then v else rd l (j : Nat) := by
  by_cases hj : j < l.length
  · rw [rd_at (by rw [List.length_set]; exact hj), rd_at hj, List.getElem_set]
    by_cases e : i = j
    · rw [if_pos e, if_pos e.symm]
    · rw [if_neg e, if_neg (Ne.symm e)]
  · rw [if_neg (by omega)]
    unfold rd
    simp [List.getD_eq_getElem?_getD, hj]

/-- Two new rows of n noughts. -/
structure Two (w W : World) (n g1 g2 : Nat) : Prop where
  below : Below w.heap.size w W
  b1 : Blk W g1 (List.replicate n 0)
  b2 : Blk W g2 (List.replicate n 0)
  y1 : w.heap.size ≤ g1
  y2 : w.heap.size ≤ g2
  ne : g1 ≠ g2
theorem two_1 (w : World) (n : Nat) : Two w ((w.drew.alloc (.cells (madeCells #[Value.int .i64 0] n) 3)).alloc (.cells (madeCells #[Value.int .i64 0] n) 3)) n w.heap.size (w.heap.size + 1) := by
  refine ⟨((below_drew (Below.refl _ _)).alloc (by simp) _).alloc (by simp) _, (Blk.made w.drew n).alloc _, ?_, Nat.le_refl _, by omega, by omega⟩
  have := Blk.made (w.drew.alloc (.cells (madeCells #[Value.int .i64 0] n) 3)) n
  rw [World.size_alloc] at this
  exact this
theorem two_2 (w : World) (n : Nat) : Two w ((w.drew.alloc (.cells (madeCells #[Value.int .i64 0] n) 3)).alloc (.cells (madeCells #[Value.int .i64 0] n) 3)) n (w.heap.size + 1) w.heap.size :=
  let h := two_1 w n
  ⟨h.below, h.b2, h.b1, h.y2, h.y1, h.ne.symm⟩

structure St (w0 W : World) (n bN bR bK gA gT gX gR : Nat) (k : Int) (sa tmp nx rk : List Int) : Prop where
  below : Below w0.heap.size w0 W
  young : ∀ x ∈ [bN, bR, bK, gA, gT, gX, gR], w0.heap.size ≤ x
  nd : [bN, bR, bK, gA, gT, gX, gR].Nodup
  N : Box W bN 3 (.int .i64 n)
  R : Box W bR 22 (.slice (some ⟨gR, 0, none⟩) n n)
  K : Box W bK 3 (.int .i64 k)
  a : Blk W gA sa
  t : Blk W gT tmp
  x : Blk W gX nx
  r : Blk W gR rk
  la : sa.length = n
  lt : tmp.length = n
  lx : nx.length = n
  lr : rk.length = n
section
variable {w0 W : World} {n bN bR bK gA gT gX gR : Nat} {k : Int} {sa tmp nx rk : List Int}
theorem St.ne (h : St w0 W n bN bR bK gA gT gX gR k sa tmp nx rk) : (bN ≠ bR ∧ bN ≠ bK ∧ bN ≠ gA ∧ bN ≠ gT ∧ bN ≠ gX ∧ bN ≠ gR) ∧ (bR ≠ bK ∧ bR ≠ gA ∧ bR ≠ gT ∧ bR ≠ gX ∧ bR ≠ gR) ∧ (bK ≠ gA ∧ bK ≠ gT ∧ bK ≠ gX ∧ bK ≠ gR) ∧ (gA ≠ gT ∧ gA ≠ gX ∧ gA ≠ gR) ∧ (gT ≠ gX ∧ gT ≠ gR) ∧ gX ≠ gR := by
  have := h.nd
  simp only [List.nodup_cons, List.mem_cons, List.not_mem_nil, or_false, not_or] at this
  obtain ⟨⟨a1, a2, a3, a4, a5, a6⟩, ⟨b1, b2, b3, b4, b5⟩, ⟨c1, c2, c3, c4⟩, ⟨d1, d2, d3⟩, ⟨e1, e2⟩, f1, _⟩ := this
  exact ⟨⟨a1, a2, a3, a4, a5, a6⟩, ⟨b1, b2, b3, b4, b5⟩, ⟨c1, c2, c3, c4⟩, ⟨d1, d2, d3⟩, ⟨e1, e2⟩, f1⟩
theorem St.yT (h : St w0 W n bN bR bK gA gT gX gR k sa tmp nx rk) : w0.heap.size ≤ gT := h.young _ (by simp)
theorem St.yX (h : St w0 W n bN bR bK gA gT gX gR k sa tmp nx rk) : w0.heap.size ≤ gX := h.young _ (by simp)
theorem St.yA (h : St w0 W n bN bR bK gA gT gX gR k sa tmp nx rk) : w0.heap.size ≤ gA := h.young _ (by simp)
theorem St.yR (h : St w0 W n bN bR bK gA gT gX gR k sa tmp nx rk) : w0.heap.size ≤ gR := h.young _ (by simp)
theorem St.putT (h : St w0 W n bN bR bK gA gT gX gR k sa tmp nx rk) (i : Nat) (v : Int) : St w0 (W.setCell ⟨gT, i, none⟩ (.int .i64 v)) n bN bR bK gA gT gX gR k sa (tmp.set i v) nx rk := by
  obtain ⟨⟨a1, a2, a3, a4, a5, a6⟩, ⟨b1, b2, b3, b4, b5⟩, ⟨c1, c2, c3, c4⟩, ⟨d1, d2, d3⟩, ⟨e1, e2⟩, f1⟩ := h.ne
  exact ⟨h.below.setCell h.yT _, h.young, h.nd, h.N.far a4 _ _, h.R.far b3 _ _, h.K.far c2 _ _, h.a.far d1 _ _, h.t.put i v, h.x.far (Ne.symm e1) _ _, h.r.far (Ne.symm e2) _ _, h.la, by rw [List.length_set]; exact h.lt, h.lx, h.lr⟩
theorem St.putX (h : St w0 W n bN bR bK gA gT gX gR k sa tmp nx rk) (i : Nat) (v : Int) : St w0 (W.setCell ⟨gX, i, none⟩ (.int .i64 v)) n bN bR bK gA gT gX gR k sa tmp (nx.set i v) rk := by
  obtain ⟨⟨a1, a2, a3, a4, a5, a6⟩, ⟨b1, b2, b3, b4, b5⟩, ⟨c1, c2, c3, c4⟩, ⟨d1, d2, d3⟩, ⟨e1, e2⟩, f1⟩ := h.ne
  exact ⟨h.below.setCell h.yX _, h.young, h.nd, h.N.far a5 _ _, h.R.far b4 _ _, h.K.far c3 _ _, h.a.far d2 _ _, h.t.far e1 _ _, h.x.put i v, h.r.far (Ne.symm f1) _ _, h.la, h.lt, by rw [List.length_set]; exact h.lx, h.lr⟩
theorem St.putK (h : St w0 W n bN bR bK gA gT gX gR k sa tmp nx rk) (v : Int) : St w0 (W.setCell ⟨bK, 0, none⟩ (.int .i64 v)) n bN bR bK gA gT gX gR v sa tmp nx rk := by
  obtain ⟨⟨a1, a2, a3, a4, a5, a6⟩, ⟨b1, b2, b3, b4, b5⟩, ⟨c1, c2, c3, c4⟩, ⟨d1, d2, d3⟩, ⟨e1, e2⟩, f1⟩ := h.ne
  exact ⟨h.below.setCell (h.young bK (by simp)) _, h.young, h.nd, h.N.far a2 _ _, h.R.far b1 _ _, h.K.put _, h.a.far (Ne.symm c1) _ _, h.t.far (Ne.symm c2) _ _, h.x.far (Ne.symm c3) _ _, h.r.far (Ne.symm c4) _ _, h.la, h.lt, h.lx, h.lr⟩
theorem St.drewN (h : St w0 W n bN bR bK gA gT gX gR k sa tmp nx rk) (q : Nat) : St w0 (W.drewN q) n bN bR bK gA gT gX gR k sa tmp nx rk :=
  ⟨pw_below_drewN h.below q, h.young, h.nd, h.N, h.R, h.K, h.a, h.t, h.x, h.r, h.la, h.lt, h.lx, h.lr⟩
/-- A new box for k (each round has its own). -/
theorem St.newK (h : St w0 W n bN bR bK gA gT gX gR k sa tmp nx rk) (v : Int) : St w0 (W.alloc (.cells #[.int .i64 v] 3)) n bN bR W.heap.size gA gT gX gR v sa tmp nx rk := by
  obtain ⟨⟨a1, a2, a3, a4, a5, a6⟩, ⟨b1, b2, b3, b4, b5⟩, ⟨c1, c2, c3, c4⟩, ⟨d1, d2, d3⟩, ⟨e1, e2⟩, f1⟩ := h.ne
  have l1 := h.N.lt; have l2 := h.R.lt; have l3 := h.a.lt; have l4 := h.t.lt; have l5 := h.x.lt; have l6 := h.r.lt
  have hy := h.young
  simp only [List.mem_cons, List.not_mem_nil, or_false, forall_eq_or_imp, forall_eq] at hy
  obtain ⟨y1, y2, y3, y4, y5, y6, y7⟩ := hy
  refine ⟨h.below.alloc h.below.size _, ?_, ?_, h.N.alloc _, h.R.alloc _, World.alloc_heap_new _ _, h.a.alloc _, h.t.alloc _, h.x.alloc _, h.r.alloc _, h.la, h.lt, h.lx, h.lr⟩
  · simp only [List.mem_cons, List.not_mem_nil, or_false, forall_eq_or_imp, forall_eq]
    exact ⟨y1, y2, h.below.size, y4, y5, y6, y7⟩
  · simp only [List.nodup_cons, List.mem_cons, List.not_mem_nil, or_false, not_or, List.nodup_nil, not_false_eq_true, and_true]
    refine ⟨⟨a1, ?_, a3, a4, a5, a6⟩, ⟨?_, b2, b3, b4, b5⟩, ⟨?_, ?_, ?_, ?_⟩, ⟨d1, d2, d3⟩, ⟨e1, e2⟩, f1⟩ <;> omega
/-- The two rank rows change places. -/
theorem St.swapR (h : St w0 W n bN bR bK gA gT gX gR k sa tmp nx rk) : St w0 (W.setCell ⟨bR, 0, none⟩ (.slice (some ⟨gX, 0, none⟩) n n)) n bN bR bK gA gT gR gX k sa tmp rk nx := by
  obtain ⟨⟨a1, a2, a3, a4, a5, a6⟩, ⟨b1, b2, b3, b4, b5⟩, ⟨c1, c2, c3, c4⟩, ⟨d1, d2, d3⟩, ⟨e1, e2⟩, f1⟩ := h.ne
  have hy := h.young
  simp only [List.mem_cons, List.not_mem_nil, or_false, forall_eq_or_imp, forall_eq] at hy
  obtain ⟨y1, y2, y3, y4, y5, y6, y7⟩ := hy
  refine ⟨h.below.setCell y2 _, ?_, ?_, h.N.far a1 _ _, h.R.put _, h.K.far (Ne.symm b1) _ _, h.a.far (Ne.symm b2) _ _, h.t.far (Ne.symm b3) _ _, h.r.far (Ne.symm b5) _ _, h.x.far (Ne.symm b4) _ _, h.la, h.lt, h.lr, h.lx⟩
  · simp only [List.mem_cons, List.not_mem_nil, or_false, forall_eq_or_imp, forall_eq]
    exact ⟨y1, y2, y3, y4, y5, y7, y6⟩
  · simp only [List.nodup_cons, List.mem_cons, List.not_mem_nil, or_false, not_or, List.nodup_nil, not_false_eq_true, and_true]
    refine ⟨⟨a1, a2, a3, a4, a6, a5⟩, ⟨b1, b2, b3, b5, b4⟩, ⟨c1, c2, c4, c3⟩, ⟨d1, d3, d2⟩, ⟨e2, e1⟩, Ne.symm f1⟩
/-- byKey has written the row at gA anew. -/
theorem St.newA (h : St w0 W n bN bR bK gA gT gX gR k sa tmp nx rk) {W' : World} {sa' : List Int} (r1 : Blk W' gA sa') (r2 : sa'.length = n) (hB : Below w0.heap.size w0 W') (hK : Kept W W' (fun k_ => k_ = gA)) : St w0 W' n bN bR bK gA gT gX gR k sa' tmp nx rk := by
  obtain ⟨⟨a1, a2, a3, a4, a5, a6⟩, ⟨b1, b2, b3, b4, b5⟩, ⟨c1, c2, c3, c4⟩, ⟨d1, d2, d3⟩, ⟨e1, e2⟩, f1⟩ := h.ne
  exact ⟨hB, h.young, h.nd, (hK.2 _ h.N.lt a3).trans h.N, (hK.2 _ h.R.lt b2).trans h.R, (hK.2 _ h.K.lt c1).trans h.K, r1, (hK.2 _ h.t.lt (Ne.symm d1)).trans h.t, (hK.2 _ h.x.lt (Ne.symm d2)).trans h.x, (hK.2 _ h.r.lt (Ne.symm d3)).trans h.r, r2, h.lt, h.lx, h.lr⟩
end
end Go.Proofs.Ytdbjbeebjigofaa.Hand

/- suffix.Array: its walk. -/
namespace Go.Proofs.Ytdbjbeebjigofaa.Hand
open Go.RowKit Go.Proofs.Ytdbjbeebjigofaa.PA Go.Proofs.Ytdbjbeebjigofaa.Sfx Go.Proofs.Ytdbjbeebjigofaa.Iter Go.Proofs.YtdbjbeebjigofaaW.PrintWords Go.Proofs.YtdbjbeebjigofaaW.PrintLast Go.Proofs.YtdbjbeebjigofaaW.PrintMore
set_option linter.unusedVariables false
set_option linter.unusedSimpArgs false
theorem second_calls {w0 W : World} {n bN bR bK gA gT gX gR : Nat} {k : Nat} {sa tmp nx rk : List Int} (h : St w0 W n bN bR bK gA gT gX gR k sa tmp nx rk) (s : List Int) (hs : s.length = n) (hn : n ≤ 65536) (hk : k ≤ 65536) (i : Nat) (hi : i < n) :
    Calls Try.prog 30 #[.int .i64 i, .pointer (some ⟨bK, 0, none⟩), .pointer (some ⟨bN, 0, none⟩), .pointer (some ⟨bR, 0, none⟩)] W fun e w' => e = .returned (.int .i64 (second s k (rd rk) i)) ∧ w' = W := by
  have cN := h.N.cell
  have cR := h.R.cell
  have cK := h.K.cell
  by_cases hlt : i + k < n
  · have cr := h.r.cell (i + k) (by rw [h.lr]; exact hlt)
    have e : second s k (rd rk) i = rd rk ((i + k : Nat) : Int) := by
      unfold second
      rw [if_pos (by omega)]
      congr 1
    rw [e]
    generalize rd rk ((i + k : Nat) : Int) = y at cr
    clear e h
    go_enter Try.func30, Try.ntmps30
    go_wp2
    go_ret
    exact ⟨rfl, rfl⟩
  · have e : second s k (rd rk) i = -1 := by
      unfold second
      rw [if_neg (by omega)]
    rw [e]
    clear e h
    go_enter Try.func30, Try.ntmps30
    go_wp2
    go_ret
    exact ⟨rfl, rfl⟩
theorem C_cell {w : World} {A : Option Addr} {l : List Int} (h : Kd.C (Kd.int .i64) w A l.length l) (k : Nat) (hk : k < l.length) : ∃ a, A = some a ∧ w.cell? (a.add k) = some (.int .i64 (rd l (k : Nat))) := by
  obtain ⟨ad, e, h⟩ := Kd.at_int h (k : Int) (by omega) (by omega)
  exact ⟨ad, e, by simpa using h⟩
set_option maxRecDepth 100000 in
theorem array_long (A : Option Addr) (c : Nat) (l : List Int) (w : World) (hl : 65536 < l.length) :
    Calls Try.prog 18 #[.slice A l.length c] w fun e w' => e = .returned (.tuple #[.slice none 0 0, .int .i64 5]) ∧ w' = w := by
  have h1 : (65536 : Int) < (l.length : Int) := by omega
  go_enter Try.func18, Try.ntmps18
  go_wp2
  go_ret2
  exact ⟨rfl, rfl⟩
set_option maxRecDepth 100000 in
theorem array_neg (A : Option Addr) (c : Nat) (l : List Int) (w : World) (hl : l.length ≤ 65536) (hC : Kd.C (Kd.int .i64) w A l.length l) (hneg : ∃ x ∈ l, x < 0) :
    Calls Try.prog 18 #[.slice A l.length c] w fun e w' => e = .returned (.tuple #[.slice none 0 0, .int .i64 1]) ∧ w' = w := by
  have h1 : ¬ (65536 : Int) < (l.length : Int) := by omega
  have HC := Aside0.mk hC
  have HN := Aside0.mk hneg
  clear hC hneg
  go_enter Try.func18, Try.ntmps18
  go_wp2
  go_loop [29] (fun i => ∃ k : Nat, k ≤ l.length ∧ i = .int .i64 k ∧ Aside0 (∀ x ∈ l.take k, 0 ≤ x)) (fun i => l.length - (intOf i).toNat)
  case atStart => exact ⟨0, Nat.zero_le _, rfl, ⟨by simp⟩⟩
  case round =>
    obtain ⟨k, hk, rfl, HP⟩ := hrel
    by_cases hlt : k < l.length
    · obtain ⟨a, rfl, hc⟩ := C_cell HC.out k hlt
      by_cases hx : rd l (k : Nat) < 0
      · go_wp2
        go_ret2
        exact ⟨rfl, rfl⟩
      · have hx' : 0 ≤ rd l (k : Nat) := by omega
        have hq : Aside0 (∀ x ∈ l.take (k + 1), 0 ≤ x) := ⟨by
          rw [List.take_succ_eq_append_getElem hlt]
          intro x hm
          rcases List.mem_append.1 hm with hm | hm
          · exact HP.out x hm
          · simp only [List.mem_singleton] at hm
            rw [hm, ← rd_at hlt]; exact hx'⟩
        go_wp2
        go_round
        case rel => exact ⟨k + 1, by omega, by go_num, hq⟩
        case measure => simp [intOf]; omega
    · exfalso
      obtain ⟨x, hm, hx⟩ := HN.out
      rw [List.take_of_length_le (by omega)] at HP
      have := HP.out x hm
      omega
theorem blk_kept {w W' : World} {S : Nat → Prop} {g : Nat} {l : List Int} (h : Blk w g l) (hk : Kept w W' S) (hn : ¬ S g) : Blk W' g l := (hk.2 g h.lt hn).trans h
theorem key_calls (w0 w : World) (n gA gR gT : Nat) (sa rk tmp : List Int) (m : Nat) (hB : Below w0.heap.size w0 w) (ha : Blk w gA sa) (hr : Blk w gR rk) (ht : Blk w gT tmp) (la : sa.length = n) (lr : rk.length = n) (lt : tmp.length = n)
    (n1 : gA ≠ gT) (n2 : gR ≠ gT) (y : w0.heap.size ≤ gT) (hp : sa.Perm (iota n)) (hk : ∀ c ∈ rk, 0 ≤ c ∧ c < m) (hn : n ≤ 65536) (hm : m ≤ 65536) :
    Calls Try.prog 29 #[.slice (some ⟨gA, 0, none⟩) n n, .slice (some ⟨gR, 0, none⟩) n n, .int .i64 m, .slice (some ⟨gT, 0, none⟩) n n] w fun e w' => e = .returned (.tuple #[]) ∧ Blk w' gT (bucket sa (rd rk) m) ∧ (bucket sa (rd rk) m).length = n ∧ Below w0.heap.size w0 w' ∧ Kept w w' (fun k => k = gT) := by
  obtain ⟨k, hkf⟩ := (byKey_ev sa rk m tmp hk (by rw [lr]; exact hp) (by omega) (by omega) (by omega)).rounds
  have h := suffix_byKey.calls k (some ⟨gA, 0, none⟩) n sa (some ⟨gR, 0, none⟩) n rk (m : Int) (fun k => k = gT) (.slice (some ⟨gT, 0, none⟩) n n) tmp _ w0 w hB
    (fun W' hK => (blk_kept ha hK n1).C (by omega)) (by omega) (fun W' hK => (blk_kept hr hK n2).C (by omega)) (by omega) (by have := ht.R w0.heap.size y (by omega); rw [lt] at this; exact this) hkf
  rw [la, lr] at h
  refine h.mono ?_
  rintro e w' ⟨rfl, hR, hB', hK⟩
  obtain ⟨h1, h2⟩ := Blk.of_R hR
  exact ⟨rfl, h1, h2, hB', hK⟩
theorem bucket_congr {l : List Int} {f g : Int → Int} (m : Nat) (h : ∀ p ∈ l, f p = g p) : bucket l f m = bucket l g m := by
  unfold bucket
  refine flat_congr fun c _ => List.filter_congr fun p hp => ?_
  rw [h p hp]
theorem iv {a b : Int} (h : a = b) : Value.int .i64 a = Value.int .i64 b := by rw [h]
theorem take_set_succ (t : List Int) (at_ : Nat) (v : Int) (h : at_ < t.length) : (t.set at_ v).take (at_ + 1) = t.take at_ ++ [v] := by
  rw [List.take_succ_eq_append_getElem (by rw [List.length_set]; exact h), List.take_set_of_le (by omega), List.getElem_set_self]
/-- What of the order by the second half has been laid when i places have been looked at. -/
def pfx (n k : Nat) (sa : List Int) (i : Nat) : List Int := (iota n).drop (n - k) ++ ((sa.take i).filter fun p => decide ((k : Int) ≤ p)).map fun p : Int => p - (k : Int)
theorem pfx_len0 (n k : Nat) (hk : k ≤ n) (sa : List Int) : (pfx n k sa 0).length = k := by simp [pfx, iota_len]; omega
theorem pfx_all (n k : Nat) (sa : List Int) : pfx n k sa sa.length = bySecond n k sa := by unfold pfx bySecond; rw [List.take_length]
theorem pfx_succ (n k : Nat) (sa : List Int) (i : Nat) (h : i < sa.length) : pfx n k sa (i + 1) = if (k : Int) ≤ rd sa (i : Nat) then pfx n k sa i ++ [rd sa (i : Nat) - k] else pfx n k sa i := by
  unfold pfx
  rw [List.take_succ_eq_append_getElem h, List.filter_append, List.map_append, rd_at h]
  by_cases e : (k : Int) ≤ sa[i]
  · rw [if_pos e, List.append_assoc]; simp [e]
  · rw [if_neg e]; simp [e]
theorem pfx_le (n k : Nat) (hk : k ≤ n) (sa : List Int) (hp : sa.Perm (iota n)) (i : Nat) (hi : i ≤ sa.length) : (pfx n k sa i).length ≤ n := by
  have h1 : (bySecond n k sa).length = n := by rw [(bySecond_perm hk hp).length_eq, iota_len]
  rw [← pfx_all] at h1
  obtain ⟨d, hd⟩ : ∃ d, sa.length = i + d := ⟨sa.length - i, by omega⟩
  have : ∀ d, i + d ≤ sa.length → (pfx n k sa i).length ≤ (pfx n k sa (i + d)).length := by
    intro d
    induction d with
    | zero => intro _; exact Nat.le_refl _
    | succ d ih =>
      intro h
      refine Nat.le_trans (ih (by omega)) ?_
      rw [show i + (d + 1) = i + d + 1 from rfl, pfx_succ n k sa (i + d) (by omega)]
      split
      · simp
      · exact Nat.le_refl _
  have h2 := this d (by omega)
  rw [← hd, h1] at h2
  exact h2
theorem climb_put {l : List Int} {k : Nat} {sb nx : List Int} {i q : Nat} (hp : sb.Perm (iota l.length)) (hil : i < l.length) (lx : nx.length = l.length) (hcl : ∀ j : Nat, j < i → rd nx (rd sb (j : Nat)) = climb l k sb j)
    (hq : rd sb (i : Nat) = q) (hqn : q < l.length) (x : Int) (hx : climb l k sb i = x) : ∀ j : Nat, j < i + 1 → rd (nx.set q x) (rd sb (j : Nat)) = climb l k sb j := by
  intro j hj
  have hl : sb.length = l.length := by rw [hp.length_eq, iota_len]
  have him : rd sb (j : Nat) ∈ iota l.length := hp.subset (by rw [rd_at (by omega)]; exact List.getElem_mem _)
  obtain ⟨hq0, hq1⟩ := mem_iota.1 him
  obtain ⟨r, hr⟩ : ∃ r : Nat, rd sb (j : Nat) = r := ⟨(rd sb (j : Nat)).toNat, by omega⟩
  rw [hr, rd_set _ _ _ _ (by omega)]
  by_cases e : j = i
  · subst e
    rw [hq] at hr
    rw [if_pos (by omega)]; exact hx.symm
  · have hne : r ≠ q := fun e2 => by
      have hnd : sb.Nodup := hp.symm.nodup (iota_nodup _)
      rw [rd_at (by omega)] at hq hr
      exact List.pairwise_iff_getElem.1 hnd j i (by omega) (by omega) (by omega) (by omega)
    rw [if_neg hne, ← hr]
    exact hcl j (by omega)
theorem climb_next {l : List Int} {k : Nat} {sb : List Int} {rank : Int → Int} {many : Int} (hr : Ranked l k rank many) (hk : 0 < k) {i p q : Nat} (hi : 1 ≤ i) (hp : rd sb ((i - 1 : Nat) : Int) = p) (hq : rd sb (i : Nat) = q) (hpn : p < l.length) (hqn : q < l.length) :
    climb l (2 * k) sb i = climb l (2 * k) sb (i - 1) + if rank p = rank q ∧ second l k rank p = second l k rank q then 0 else 1 := by
  obtain ⟨j, rfl⟩ : ∃ j, i = j + 1 := ⟨i - 1, by omega⟩
  rw [Nat.add_sub_cancel] at hp ⊢
  show climb l (2 * k) sb j + (if pre l (2 * k) (rd sb (j : Nat)) = pre l (2 * k) (rd sb ((j + 1 : Nat) : Int)) then 0 else 1) = _
  rw [hp, hq]
  have e : pre l (2 * k) (p : Int) = pre l (2 * k) (q : Int) ↔ rank p = rank q ∧ second l k rank p = second l k rank q := by
    rw [pre_double_eq l k _ _ (by omega) (by omega), hr.eq (by omega) (by omega) (by omega) (by omega), second_eq hr hk (by omega) (by omega)]
  by_cases h : rank p = rank q ∧ second l k rank p = second l k rank q
  · rw [if_pos h, if_pos (e.2 h)]
  · rw [if_neg h, if_neg (fun h' => h (e.1 h'))]
end Go.Proofs.Ytdbjbeebjigofaa.Hand
