/- keep's calls on both disks in one memory; the steps of KeepPlays: their weight, and how a row lays them. -/
import Derived.Test.YtdepjlnljkbfjaaKepE
import Derived.Test.YtdepjlnljkbfjaaOpensN
import Derived.Test.YtdepjlnljkbfjaaMsgs
namespace Go.Proofs.Ytdepjlnljkbfjaa.Hand
open Go.RowKit Go.Proofs.Ytdepjlnljkbfjaa.PA Go.Proofs.Ytdepjlnljkbfjaa.MapP Go.Proofs.Ytdepjlnljkbfjaa.Opens Go.Proofs.YtdepjlnljkbfjaaW.PrintWords Go.Proofs.YtdepjlnljkbfjaaW.PrintLast Go.Proofs.YtdepjlnljkbfjaaW.PrintMore
set_option linter.unusedVariables false
set_option linter.unusedSimpArgs false
set_option linter.unusedSectionVars false
section
variable {W W' W1 w w1 w3 w4 w0 : World} {Z Z' T o : Nat → Prop} {d r B : Nat} {S : DV} {R : RV} {ok : Nat → Prop}
theorem p_save1 (P : Pair W w Z d r S R) (s : ByteArray) (hsz : s.size ≤ maxLen) (A : Option Addr) (c : Nat) (ls : List (List Int)) (hC : Kd.C (Kd.slice 5 (Kd.int .u8)) W A ls.length ls) (hc : ls.length ≤ c) (hb : ∀ l ∈ ls, Bytes l) (hn : ls.length ≤ 140737488355328) (ht : ls.flatten.length ≤ 140737488355328) :
    Calls Try.prog 11 #[.pointer (some ⟨d, 0, none⟩), .string s, .slice A ls.length c] W fun e W' => e = .returned (.int .i64 (saveV S s ls.flatten).1) ∧ Pair W' w Z d r (saveV S s ls.flatten).2 R ∧ Kept W W' Z :=
  P.step1 (Q := fun e _ => e = .returned (.int .i64 (saveV S s ls.flatten).1)) (fun o1 h1 h4 => (save_up h1 s hsz A c ls hC hc hb hn ht).mono (fun e W' h => ⟨h.1, h.2.up, h.2.kept⟩))
theorem p_save2 (P : Pair W w Z d r S R) (s : ByteArray) (A : Option Addr) (n c : Nat) (l : List Int) (hn : n = l.length) (hC : Kd.C (Kd.int .u8) W A l.length l) (hc : l.length ≤ c) (hb : Bytes l) :
    Calls Try.prog 27 #[.pointer (some ⟨r, 0, none⟩), .string s, .slice A n c] W fun e W' => e = .returned (.int .i64 (saveR R s l).1) ∧ Pair W' w Z d r S (saveR R s l).2 ∧ Kept W W' Z := by
  subst hn
  exact P.step2 (Q := fun e _ => e = .returned (.int .i64 (saveR R s l).1)) (fun o2 h2 h5 => (saveR_up h2 s A c l hC hc hb).mono (fun e W' h => ⟨h.1, h.2.up, h.2.kept⟩))
theorem p_load1 (P : Pair W w Z d r S R) (s : ByteArray) (hsz : s.size ≤ maxLen) (hby : AllB S.L) :
    Calls Try.prog 13 #[.pointer (some ⟨d, 0, none⟩), .string s] W fun e w' => ∃ A c, e = .returned (.tuple #[.slice A (loadV S s).1.length c, .int .i64 (loadV S s).2]) ∧ (loadV S s).1.length ≤ c ∧ Kd.C (Kd.int .u8) w' A (loadV S s).1.length (loadV S s).1 ∧ Below W.heap.size W w' :=
  P.step0 (fun o1 o2 h1 h2 => (load_up h1 s hsz (fun x hx => hby.at_ hx)).mono (fun e w' ⟨A, c, h⟩ => ⟨A, c, h⟩))
theorem p_load2 (P : Pair W w Z d r S R) (hR : Rel S R) (s : ByteArray) (hby : AllB S.L) :
    Calls Try.prog 28 #[.pointer (some ⟨r, 0, none⟩), .string s] W fun e w' => ∃ A c, e = .returned (.tuple #[.slice A (loadV S s).1.length c, .int .i64 (loadV S s).2]) ∧ (loadV S s).1.length ≤ c ∧ Kd.C (Kd.int .u8) w' A (loadV S s).1.length (loadV S s).1 ∧ Below W.heap.size W w' := by
  refine P.step0 (fun o1 o2 h1 h2 => ?_)
  have hl : (readRV R s.data.toList).1.length ≤ 1073741824 := by
    rw [← rel_read hR]
    have := read_len S s
    have := h1.fine.used
    have := h1.fine.r1
    omega
  have hb : Bytes (readRV R s.data.toList).1 := by
    rw [← rel_read hR]
    unfold readV
    split
    · rename_i x hx
      exact hby.at_ hx
    · intro z hz; cases hz
  have h := loadR_up h2 s hb hl
  rw [rel_load hR] at h
  exact h
theorem p_clear1 (P : Pair W w Z d r S R) (p : ByteArray) (A : Option Addr) (n c : Nat) (stay : List ByteArray) (hn : n = stay.length) (hst : ∀ W', Kept W W' Z → Kd.C Kd.string W' A stay.length stay) :
    Calls Try.prog 23 #[.pointer (some ⟨d, 0, none⟩), .string p, .slice A n c] W fun e W' => e = .returned (.int .i64 (clearV p.data.toList stay S (namesK S)).1) ∧ Pair W' w Z d r (clearV p.data.toList stay S (namesK S)).2 R ∧ Kept W W' Z := by
  subst hn
  exact P.step1 (Q := fun e _ => e = .returned (.int .i64 (clearV p.data.toList stay S (namesK S)).1)) (fun o1 h1 h4 => (clear_up h1 p A c stay (fun W' hk => hst W' (kept_mono hk (fun k hk => (h4 k hk).2))) P.short).mono (fun e W' h => ⟨h.1, h.2.up, h.2.kept⟩))
theorem p_clear2 (P : Pair W w Z d r S R) (hks : ∀ q ∈ R.L, q.1.length ≤ maxLen) (p : ByteArray) (A : Option Addr) (n c : Nat) (stay : List ByteArray) (hn : n = stay.length) (hst : ∀ W', Kept W W' Z → Kd.C Kd.string W' A stay.length stay) :
    Calls Try.prog 29 #[.pointer (some ⟨r, 0, none⟩), .string p, .slice A n c] W fun e W' => e = .returned (.int .i64 (clearR p.data.toList stay R (R.L.map (·.1))).1) ∧ Pair W' w Z d r S (clearR p.data.toList stay R (R.L.map (·.1))).2 ∧ Kept W W' Z := by
  subst hn
  exact P.step2 (Q := fun e _ => e = .returned (.int .i64 (clearR p.data.toList stay R (R.L.map (·.1))).1)) (fun o2 h2 h5 => (clearR_up h2 p A c stay (fun W' hk => hst W' (kept_mono hk (fun k hk => (h5 k hk).2))) hks).mono (fun e W' h => ⟨h.1, h.2.up, h.2.kept⟩))
theorem rel_keys (h : Rel S R) : namesK S = R.L.map (·.1) := by
  unfold namesK
  rw [← sort_perm (h.perm.map (·.1))]
  have hs : (R.L.map (·.1)).Pairwise fun a b => leK a b = true := List.Pairwise.map _ (fun a b hab => by
    show decide (a.1 ≤ b.1) = true
    exact decide_eq_true (List.le_of_lt hab)) h.sorted
  rw [List.mergeSort_of_pairwise hs]
theorem Rel.short (h : Rel S R) (hs : ∀ q ∈ S.L, q.1.length ≤ maxLen) : ∀ q ∈ R.L, q.1.length ≤ maxLen := fun q hq => hs q (h.perm.mem_iff.1 hq)
/-- Blocks that are new since W, and some that it does not stand upon, are no part of it. -/
theorem Pair.markK (P : Pair W w Z d r S R) (hK : Kept W W' T) (hT : ∀ k, T k → ¬ Z k) (hB : Below w.heap.size w W') : Pair W' w (fun k => (Z k ∧ k < W.heap.size) ∨ W'.heap.size ≤ k) d r S R := by
  obtain ⟨⟨o1, o2, h1, h2, h3, h4, h5⟩, hn, ho⟩ := P
  have hs := hK.1
  exact ⟨⟨o1, o2, h1.kept hK (fun k hk ht => hT k ht (h4 k hk).2) hB, h2.kept hK (fun k hk ht => hT k ht (h5 k hk).2) hB, h3, fun k hk => ⟨Nat.lt_of_lt_of_le (h4 k hk).1 hs, .inl ⟨(h4 k hk).2, (h4 k hk).1⟩⟩, fun k hk => ⟨Nat.lt_of_lt_of_le (h5 k hk).1 hs, .inl ⟨(h5 k hk).2, (h5 k hk).1⟩⟩⟩, fun k hk => .inr hk, fun k hk => hk.elim (fun h2 => ho k h2.1) (fun h2 => Nat.le_trans hB.size h2)⟩
theorem RefUp.rebase7 (h : RefUp W w1 ok r R) (hb : Below w0.heap.size w0 w1) : RefUp W w0 ok r R := by
  obtain ⟨⟨vL, es, h1, h2⟩, h3, h4⟩ := h
  exact ⟨⟨vL, es, ⟨h1.head, own_weaken h1.row hb.size, h1.dat, h1.val⟩, fun b hb' => ⟨(h2 b hb').1, Nat.le_trans hb.size (h2 b hb').2⟩⟩, hb.trans (h3.mono hb.size), h4⟩
theorem pair_of7 (h1 : DiskUp w3 w o d S) (h2 : RefUp w4 w (fun k => w3.heap.size ≤ k) r R) (hB : Below w3.heap.size w3 w4) (ho : ∀ k, o k → B ≤ k) (hb : w.heap.size ≤ B) (hb3 : B ≤ w3.heap.size) : Pair w4 w (fun k => B ≤ k) d r S R := by
  have hs := hB.size
  refine ⟨⟨_, _, h1.bound.quiet hB, h2.bound, fun k hk hk2 => ?_, fun k hk => ⟨Nat.lt_of_lt_of_le hk.2.2 hs, ho k hk.1⟩, fun k hk => ⟨hk.2.2, Nat.le_trans hb3 hk.1⟩⟩, fun k hk => Nat.le_trans hb3 (Nat.le_trans hs hk), fun k hk => Nat.le_trans hb hk⟩
  have := hk.2.2
  have := hk2.1
  omega
theorem rel_new7 (room : Int) (h0 : 0 ≤ room) (h1 : room ≤ 1073741824) : Rel ⟨room, false, 0, []⟩ ⟨room, -1, []⟩ :=
  ⟨rfl, rfl, by simp [SortedK], List.Perm.refl _, h0, h1, by simp, by simp, by simpa [total] using h0, fun p hp => (by cases hp), by simp [Once], by simp⟩
end
theorem heavy11_l1 (l : List S57) (hl : l.length ≤ 4611686018427387904) (i : Nat) (hi : i < l.length) (hs : (rd_T57 l i).f5.length ≤ 4611686018427387904) (hnext : ∀ v, ∃ k b, haystacklaw11_heavy.l0 k l v ((i + 1 : Nat) : Int) = some b) :
    ∀ (d j : Nat) (v : Int), j + d = (rd_T57 l i).f5.length → ∃ k b, haystacklaw11_heavy.l1 k l v i j = some b := by
  intro d
  induction d with
  | zero =>
    intro j v h
    have e : wrap64 ((i : Int) + 1) = ((i + 1 : Nat) : Int) := by unfold wrap64; omega
    by_cases hv : v > 5000
    · refine ⟨1, true, ?_⟩
      unfold haystacklaw11_heavy.l1
      rw [if_pos (by omega), if_pos (by omega), if_neg (by omega), if_pos hv]
    · obtain ⟨k, b, hk⟩ := hnext v
      refine ⟨k + 1, b, ?_⟩
      unfold haystacklaw11_heavy.l1
      rw [if_pos (by omega), if_pos (by omega), if_neg (by omega), if_neg hv, e]
      exact hk
  | succ d ih =>
    intro j v h
    have e : wrap64 ((j : Int) + 1) = ((j + 1 : Nat) : Int) := by unfold wrap64; omega
    obtain ⟨k, b, hk⟩ := ih (j + 1) (wrap64 ((wrap64 (v + 2)) + ((rdOf ByteArray.empty ((rd_T57 l i).f5) j).size : Int))) (by omega)
    refine ⟨k + 1, b, ?_⟩
    unfold haystacklaw11_heavy.l1
    rw [if_pos (by omega), if_pos (by omega), if_pos (by omega), if_pos (by omega), e]
    exact hk
theorem heavy11_l0 (l : List S57) (hl : l.length ≤ 4611686018427387904) (hs : ∀ i : Nat, i < l.length → (rd_T57 l i).f5.length ≤ 4611686018427387904) :
    ∀ (d i : Nat) (v : Int), i + d = l.length → ∃ k b, haystacklaw11_heavy.l0 k l v i = some b := by
  intro d
  induction d with
  | zero =>
    intro i v h
    refine ⟨2, false, ?_⟩
    unfold haystacklaw11_heavy.l0
    rw [if_neg (by omega)]
    unfold haystacklaw11_heavy.j1
    rw [if_neg (by decide)]
  | succ d ih =>
    intro i v h
    by_cases h80 : (i : Int) < 80
    · obtain ⟨k, b, hk⟩ := heavy11_l1 l hl i (by omega) (hs i (by omega)) (fun v => ih (i + 1) v (by omega)) (rd_T57 l i).f5.length 0 (wrap64 ((wrap64 ((wrap64 ((wrap64 (v + 5)) + (((rd_T57 l i).f3).length : Int))) + (((rd_T57 l i).f4).length : Int))) + (((rd_T57 l i).f2).size : Int))) (by omega)
      refine ⟨k + 2, b, ?_⟩
      unfold haystacklaw11_heavy.l0
      rw [if_pos (by omega)]
      unfold haystacklaw11_heavy.j1
      rw [if_pos (by simpa using h80), if_pos (by omega), if_pos (by omega)]
      exact hk
    · refine ⟨2, false, ?_⟩
      unfold haystacklaw11_heavy.l0
      rw [if_pos (by omega)]
      unfold haystacklaw11_heavy.j1
      rw [if_neg (by simpa using h80)]
theorem heavy11_is (l : List S57) (hl : l.length ≤ 4611686018427387904) (hs : ∀ i : Nat, i < l.length → (rd_T57 l i).f5.length ≤ 4611686018427387904) : ∃ k b, haystacklaw11_heavy.f k l = some b :=
  heavy11_l0 l hl hs l.length 0 0 (by omega)
instance : Inhabited S57 := ⟨z57⟩
def stepOk7 (x : S57) : Prop := (Lit.int .i64 x.f0).wf = true ∧ (Lit.int .i64 x.f1).wf = true ∧ x.f2.size ≤ 1048576 ∧ (x.f3.length ≤ 1048576 ∧ ∀ y ∈ x.f3, (Lit.int .u8 y).wf = true) ∧ (x.f4.length ≤ 1048576 ∧ ∀ y ∈ x.f4, (Lit.int .u8 y).wf = true) ∧ (x.f5.length ≤ 1048576 ∧ ∀ y ∈ x.f5, y.size ≤ 1048576)
theorem opensN_bytes {N : Nat} : OpensN N Try.prog (Kd.slice 5 (Kd.int .u8)) 23 (fun xs => xs.length ≤ N ∧ ∀ x ∈ xs, (Lit.int .u8 x).wf = true) := opensN_slice 5 (opensN_int Try.underlying5) Try.underlying23 (by kernel_rfl)
theorem opensN_texts {N : Nat} : OpensN N Try.prog (Kd.slice 9 Kd.string) 51 (fun xs => xs.length ≤ N ∧ ∀ x ∈ xs, x.size ≤ N) := opensN_slice 9 (opensN_text Try.underlying9) Try.underlying51 (by kernel_rfl)
theorem opensN_step : OpensN 1048576 Try.prog k57 57 stepOk7 :=
  opensN_iso (opensN_struct Try.underlying57 (by kernel_rfl) (opensNF_cons rfl (opensN_int Try.underlying3) (by kernel_rfl) (opensNF_cons rfl (opensN_int Try.underlying3) (by kernel_rfl) (opensNF_cons rfl (opensN_text Try.underlying9) (by kernel_rfl) (opensNF_cons rfl opensN_bytes (by kernel_rfl) (opensNF_cons rfl opensN_bytes (by kernel_rfl) (opensNF_one opensN_texts (by kernel_rfl))))))))
    (fun x : S57 => (x.f0, x.f1, x.f2, x.f3, x.f4, x.f5)) (fun a => ⟨a.1, a.2.1, a.2.2.1, a.2.2.2.1, a.2.2.2.2.1, a.2.2.2.2.2⟩) (fun _ => rfl)
theorem opensN_steps : OpensN 1048576 Try.prog (Kd.slice 57 k57) 54 (fun xs => xs.length ≤ 1048576 ∧ ∀ x ∈ xs, stepOk7 x) := opensN_slice 57 opensN_step Try.underlying54 (by kernel_rfl)
end Go.Proofs.Ytdepjlnljkbfjaa.Hand

/- What the walk of KeepPlays wants: the rows that the law makes for Save, in whichever order. -/
namespace Go.Proofs.Ytdepjlnljkbfjaa.Hand
open Go.RowKit Go.Proofs.Ytdepjlnljkbfjaa.PA Go.Proofs.Ytdepjlnljkbfjaa.MapP Go.Proofs.YtdepjlnljkbfjaaW.PrintWords Go.Proofs.YtdepjlnljkbfjaaW.PrintLast Go.Proofs.YtdepjlnljkbfjaaW.PrintMore
set_option linter.unusedVariables false
set_option linter.unusedSimpArgs false
set_option linter.unusedSectionVars false
theorem decV_len (l : List Int) : (decV l).1.length ≤ l.length := by
  unfold decV
  split
  · simp
  · split
    · simp
    · split
      · simp
      · split
        · simp
        · split
          · simp
          · simp only [List.length_drop, List.length_take]; omega
theorem oneF_len (l : List Int) : (oneF l).1.length ≤ l.length := by
  unfold oneF
  split
  · simp
  · exact decV_len l
theorem drew_alloc7 (W : World) (o : Obj) : W.drew.alloc o = (W.alloc o).drew := rfl
theorem kept_cell7 {W W' : World} {T : Nat → Prop} {b i : Nat} {o : Obj} {v : Value} (hK : Kept W W' T) (hb : W.heap[b]? = some o) (hT : ¬ T b) (hc : W.cell? ⟨b, i, none⟩ = some v) : W'.cell? ⟨b, i, none⟩ = some v := by
  have hlt : b < W.heap.size := (Array.getElem?_eq_some_iff.1 hb).1
  rw [← hc]
  simp [World.cell?, hK.2 b hlt hT]
theorem texts_refl11_0 (l : List ByteArray) (hl : l.length ≤ 4611686018427387904) : ∀ (d i : Nat), i + d = l.length → haystacklaw11_texts.l0 (d + 1) l l i = some true
  | 0, i, h => by
    unfold haystacklaw11_texts.l0
    rw [if_neg (by omega)]
  | d + 1, i, h => by
    unfold haystacklaw11_texts.l0
    have e : wrap64 ((i : Int) + 1) = ((i + 1 : Nat) : Int) := by unfold wrap64; omega
    rw [if_pos (by omega), if_pos (by omega), if_pos (by omega), if_pos rfl, e]
    exact texts_refl11_0 l hl d (i + 1) (by omega)
theorem texts_refl11 (l : List ByteArray) (hl : l.length ≤ 4611686018427387904) : haystacklaw11_texts.f (l.length + 1) l l = some true := by
  unfold haystacklaw11_texts.f
  rw [if_pos rfl]
  exact texts_refl11_0 l hl l.length 0 (by omega)
def rowsO (AA : Option Addr) (na ca : Nat) (AB : Option Addr) (nb cb : Nat) : Obj := .cells #[.slice AA na ca, .slice AB nb cb] 23
/-- Save has run, and the empty row is made. -/
structure Fork7 (WB w5 w : World) (Z9 : Nat → Prop) (d r b : Nat) (S : DV) (R : RV) : Prop where
  out : ∃ Z', Pair w5 w Z' d r S R ∧ (∀ k, Z' k → Z9 k) ∧ ¬ Z' b
  blk : w5.heap[b]? = some (.cells #[] 5 (0, 0))
  new : WB.heap.size ≤ b
  kept : Kept WB w5 Z9
section
variable {WB W W' w w3 w5 : World} {Z Z9 Z' T : Nat → Prop} {d r b : Nat} {S S' : DV} {R : RV}
theorem fork_last (hP : Pair w3 w Z9 d r S R) (hK : Kept WB w3 Z9) : Fork7 WB (w3.alloc (.cells #[] 5)) w Z9 d r w3.heap.size S R := by
  refine ⟨⟨_, hP.mark ((Below.refl _ _).alloc (Nat.le_refl _) (.cells #[] 5)), fun k hk => ?_, fun h => ?_⟩, heap_alloc_new _ _, hK.1, hK.alloc _⟩
  · rcases hk with h | h
    · exact h.1
    · exact hP.new k (by simp at h; omega)
  · rcases h with h | h
    · omega
    · simp at h; omega
/-- Save, called in a memory that is W and what was made since. -/
theorem fork_save (P9 : Pair WB w Z9 d r S R) (hB : Below WB.heap.size WB W) (s : ByteArray) (hsz : s.size ≤ maxLen) (A : Option Addr) (xs ys : List Int) (hC : Kd.C (Kd.slice 5 (Kd.int .u8)) W A 2 [xs, ys]) (hx : Bytes xs) (hy : Bytes ys) (hl : xs.length + ys.length ≤ 2097152) :
    Calls Try.prog 11 #[.pointer (some ⟨d, 0, none⟩), .string s, .slice A 2 2] W fun e w3 => e = .returned (.int .i64 (saveV S s (xs ++ ys)).1) ∧ Pair w3 w (fun k => (Z9 k ∧ k < WB.heap.size) ∨ W.heap.size ≤ k) d r (saveV S s (xs ++ ys)).2 R ∧ Kept W w3 (fun k => (Z9 k ∧ k < WB.heap.size) ∨ W.heap.size ≤ k) := by
  have e2 : [xs, ys].flatten = xs ++ ys := by simp
  have h := p_save1 (P9.mark hB) s hsz A 2 [xs, ys] hC (by simp) (by intro l hl; simp at hl; rcases hl with rfl | rfl <;> assumption) (by simp) (by rw [e2, List.length_append]; omega)
  rw [e2] at h
  exact h
theorem fork_zone (P9 : Pair WB w Z9 d r S R) (hs : WB.heap.size ≤ W.heap.size) : ∀ k, (fun k => (Z9 k ∧ k < WB.heap.size) ∨ W.heap.size ≤ k) k → Z9 k := fun k hk => hk.elim (fun h => h.1) (fun h => P9.new k (Nat.le_trans hs h))
theorem fork_mid (P9 : Pair WB w Z9 d r S R) (hB : Below WB.heap.size WB W) (hP : Pair w3 w (fun k => (Z9 k ∧ k < WB.heap.size) ∨ W.heap.size ≤ k) d r S' R) (hK : Kept W w3 (fun k => (Z9 k ∧ k < WB.heap.size) ∨ W.heap.size ≤ k)) (hb : W.heap[b]? = some (.cells #[] 5 (0, 0))) (hn : WB.heap.size ≤ b) : Fork7 WB w3 w Z9 d r b S' R := by
  have hlt : b < W.heap.size := (Array.getElem?_eq_some_iff.1 hb).1
  refine ⟨⟨_, hP, fork_zone P9 hB.size, fun h => ?_⟩, ?_, hn, (Kept.of_below hB Z9).then_ hK (fun k hk => .inl (fork_zone P9 hB.size k hk))⟩
  · rcases h with h | h <;> omega
  · rw [hK.2 b hlt (fun h => by rcases h with h | h <;> omega)]
    exact hb
theorem fork_first (P9 : Pair WB w Z9 d r S R) (hB : Below WB.heap.size WB W) (hP : Pair w3 w (fun k => (Z9 k ∧ k < WB.heap.size) ∨ W.heap.size ≤ k) d r S' R) (hK : Kept W w3 (fun k => (Z9 k ∧ k < WB.heap.size) ∨ W.heap.size ≤ k)) : Pair w3 w Z9 d r S' R ∧ Kept WB w3 Z9 :=
  ⟨hP.zone (fun k _ h => fork_zone P9 hB.size k h) (fun k h => P9.new k (Nat.le_trans hB.size (Nat.le_trans hK.1 h))) P9.old, (Kept.of_below hB Z9).then_ hK (fun k hk => .inl (fork_zone P9 hB.size k hk))⟩
/-- Both appends behind it. -/
theorem fork_join (h : Fork7 WB w5 w Z9 d r b S R) (hw : w.heap.size ≤ WB.heap.size) (AA AB : Option Addr) (na ca nb cb : Nat) (xs ys : List Int) (hna : na = xs.length) (hnb : nb = ys.length) (hA : Kd.C (Kd.int .u8) w5 AA xs.length xs) (hB : ∀ W', Kept WB W' Z9 → Kd.C (Kd.int .u8) W' AB ys.length ys) (hx : xs.length ≤ 1048576) (hy : ys.length ≤ 1048576) :
    ∃ A5 c5 W5 A6 c6 W6 Z8, (Builtin.append_ #[23, 23] 23 #[.slice (some ⟨b, 0, none⟩) 0 0, .slice AA na ca]).run Try.prog w5 = .ok (.slice A5 na c5) W5 ∧ (Builtin.append_ #[23, 23] 23 #[.slice A5 na c5, .slice AB nb cb]).run Try.prog W5 = .ok (.slice A6 (na + nb) c6) W6 ∧
      Kept WB W5 Z9 ∧ Kept WB W6 Z9 ∧ Pair W6 w Z8 d r S R ∧ (∀ k, Z8 k → Z9 k ∨ W6.heap.size ≤ k) ∧ Kd.C (Kd.int .u8) W6 A6 (xs ++ ys).length (xs ++ ys) ∧ (xs ++ ys).length ≤ c6 := by
  subst hna hnb
  obtain ⟨Z', hP, hz, hnz⟩ := h.out
  have d0 : Dat w5 (.slice (some ⟨b, 0, none⟩) 0 0) [] := ⟨_, 0, rfl, Nat.le_refl _, Nat.zero_le _, .inr ⟨b, #[], rfl, h.blk, by simp, .inl (by simp), by simp⟩⟩
  obtain ⟨v5, W5, hr5, hd5, hg5, ho5⟩ := d0.append 23 AA xs.length ca xs hA rfl (by simp; omega)
  have k5 : Kept w5 W5 (fun k => k = b) := Kept.of_grown hg5 (Kept.refl _ _) (fun k hk => .inl (own_new hk))
  have b5 : Below w.heap.size w W5 := hP.base.grown hg5 hP.base.size (fun k hk => by rw [own_new hk]; exact Nat.le_trans hw h.new)
  have kB5 : Kept WB W5 Z9 := h.kept.then_ k5 (fun k hk => .inr (by rw [hk]; exact h.new))
  obtain ⟨A5, c5, hv5, hc5⟩ := hd5.slice
  subst hv5
  rw [List.nil_append] at hr5 hd5 hc5 ho5
  obtain ⟨v6, W6, hr6, hd6, hg6, ho6⟩ := hd5.append 23 AB ys.length cb ys (hB W5 kB5) rfl (by omega)
  have hown : ∀ k, (Value.slice A5 xs.length c5).ownBlock = some k → k = b ∨ w5.heap.size ≤ k := fun k hk => ho5.elim (fun e => .inl (own_new (e ▸ hk))) (fun e => .inr (e k hk))
  have k6 : Kept w5 W6 (fun k => k = b) := Kept.of_grown hg6 k5 hown
  have b6 : Below w.heap.size w W6 := b5.grown hg6 b5.size (fun k hk => by
    rcases hown k hk with e | e
    · rw [e]; exact Nat.le_trans hw h.new
    · exact Nat.le_trans hP.base.size e)
  obtain ⟨A6, c6, hv6, hc6⟩ := hd6.slice
  subst hv6
  have kB6 : Kept WB W6 Z9 := h.kept.then_ k6 (fun k hk => .inr (by rw [hk]; exact h.new))
  have hP6 := hP.markK k6 (fun k hk hz => hnz (hk ▸ hz)) b6
  refine ⟨A5, c5, W5, A6, c6, W6, _, hr5, ?_, kB5, kB6, hP6, fun k hk => hk.elim (fun e => .inl (hz k e.1)) .inr, hd6.C rfl, hc6⟩
  rw [List.length_append] at hr6
  exact hr6
theorem Pair.home (P : Pair W w Z d r S R) : Pair W w (fun k => w.heap.size ≤ k) d r S R := P.zone (fun k _ h => P.old k h) (fun k h => Nat.le_trans P.base.size h) (fun k h => h)
end
end Go.Proofs.Ytdepjlnljkbfjaa.Hand
