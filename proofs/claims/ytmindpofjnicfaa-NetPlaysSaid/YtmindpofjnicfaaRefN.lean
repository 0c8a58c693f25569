/- The reference's Net in memory: its state, Send. -/
import Derived.Test.YtmindpofjnicfaaFull
namespace Go.Proofs.Ytmindpofjnicfaa.Hand
open Go.RowKit Go.Proofs.Ytmindpofjnicfaa.PA Go.Proofs.YtmindpofjnicfaaW.PrintWords Go.Proofs.YtmindpofjnicfaaW.PrintLast Go.Proofs.YtmindpofjnicfaaW.PrintMore
attribute [local go_sem] max2_int min2_int
set_option linter.unusedVariables false
set_option linter.unusedSimpArgs false
theorem append_step {P : Program} {ops : Array Oper} {o : Oper} {N : Option Tmp} {a : Act} {w : World} {K : Act → World → Prop} {Q : Exit → Act → World → Prop} (hw : Region.wanted o (yielded ops a.tmps) = true) (s x : Operand) (t : TypeId)
    (ho : o.op = .call { callee := .builtin .append, args := #[s, x], argTypes := #[t, t] }) (v vx : Value) (hs : a.eval s = v) (hx : a.eval x = vx) (v' : Value) {w' : World} (hr : (Builtin.append_ #[t, t] o.type #[v, vx]).run P w = .ok v' w')
    (hN : o.dst = N) (h : K (a.put N v') w') : if Region.wanted o (yielded ops a.tmps) = true then Oper.wp P o a w K Q else K (a.put N undef) w := by
  rw [if_pos hw]
  subst hN
  unfold Oper.wp execOp
  simp only [ho, resolve, invoke, builtin, Sem.run_bind, Sem.run_pure, Result.andThen_ok, List.map_toArray, List.map_cons, List.map_nil, hs, hx, hr]
  exact h
theorem own_new {g k n c : Nat} (h : (Value.slice (some ⟨g, 0, none⟩) n c).ownBlock = some k) : k = g := by
  have h : some g = some k := h
  injection h with h
  exact h.symm
theorem bdrew {B : Nat} {a w : World} (h : Below B a w) : Below B a w.drew := h.trans ⟨rfl, rfl, rfl, Nat.le_refl _, fun _ _ => rfl⟩
theorem cell_below {W W' : World} {p : Addr} {v : Value} (h : W.cell? p = some v) (hb : Below W.heap.size W W') : W'.cell? p = some v := by
  refine (hb.cell ?_).trans h
  rcases Nat.lt_or_ge p.block W.heap.size with h' | h'
  · exact h'
  · simp [World.cell?, Array.getElem?_eq_none h'] at h
/-- append of a row's elements onto a row: what its run gives. -/
theorem rows_run {α : Type} (d : Kd α) {Rr : α → List Value → Prop} {W : World} (base : Nat) (t e : TypeId) (z : Value) (bytes : Nat) (ht : Try.prog.underlying t = some (.slice e)) (hinfo : (Try.prog.info? e).map (fun i => (i.zero, i.size, i.bytes)) = some (some z, d.sz, bytes)) (hz : z.cells.size = d.sz) (hs0 : 0 < d.sz) (hb0 : 0 < bytes)
    (v : Value) (xs ys : List α) (A : Option Addr) (m c : Nat) (ok okp : Nat → Prop) (HO : d.R e W base ok v xs) (HR : ReadsRow Rr d.sz W A m ys) (hKM : ∀ x cs, Rr x cs → d.M W base okp x cs) (hokp : ∀ k, okp k → ok k ∧ some k ≠ v.ownBlock) (hfresh : ∀ k, W.heap.size ≤ k → ok k)
    (hbase : base ≤ W.heap.size) (hl : (xs.length + m) * bytes ≤ 140737488355328) :
    ∃ v1 w1, (Builtin.append_ #[t, t] t #[v, .slice A m c]).run Try.prog W = .ok v1 w1 ∧ d.R e w1 base ok v1 (xs ++ ys) ∧ W.grownBy w1 v.ownBlock ∧ (v1.ownBlock = v.ownBlock ∨ ∃ b, v1.ownBlock = some b ∧ W.heap.size ≤ b) := by
  obtain ⟨i0, hi, hzz⟩ := Option.map_eq_some_iff.1 hinfo
  simp only [Prod.mk.injEq] at hzz
  obtain ⟨hz0, hz1, hz2⟩ := hzz
  have hm : ys.length = m := HR.1
  have hlen : xs.length + m ≤ 140737488355328 := Nat.le_trans (Nat.le_mul_of_pos_right _ hb0) hl
  obtain ⟨hok, inner, hown, hr⟩ := HO
  rcases A with _ | ad
  · have h0 : m = 0 := by
      rcases Nat.eq_zero_or_pos m with h0 | h0
      · exact h0
      · obtain ⟨ad, h, _⟩ := HR.2.2 h0
        cases h
    subst h0
    obtain rfl : ys = [] := List.eq_nil_of_length_eq_zero hm
    refine ⟨v, W, ?_, by rw [List.append_nil]; exact ⟨hok, inner, hown, hr⟩, World.grownBy.refl W _, .inl rfl⟩
    rcases hown.2 with ⟨rfl, hn⟩ | ⟨g, cap, cur, rfl, _, _, hnc, _⟩
    · simp [Builtin.append_, run_underlying ht, sizeOf, typeInfo, hi, Builtin.lenOf, Builtin.firstCells]
    · simp [Builtin.append_, run_underlying ht, sizeOf, typeInfo, hi, Builtin.lenOf, Builtin.firstCells, hnc, storeCells]
  · obtain ⟨news, hnr, hnc⟩ := ReadsRow.inner_ HR
    have hnM : Reps (d.M W base okp) d.sz ys news := hnr.imp_ (fun p c hp => hKM p c hp)
    have hone : ∀ u ∈ news, u.oneCell' = true := by
      intro u hu
      obtain ⟨q, hq, rfl⟩ := List.mem_iff_getElem.1 hu
      have hql : q / d.sz < ys.length := by
        rw [Nat.div_lt_iff_lt_mul hs0]
        rw [← hnM.1]
        exact hq
      have hc := hnM.2 (q / d.sz) _ (List.getElem?_eq_getElem hql)
      refine d.K_one (d.K_of_M hc) _ ?_
      rw [List.mem_iff_getElem?]
      refine ⟨q % d.sz, ?_⟩
      rw [List.getElem?_take, if_pos (Nat.mod_lt _ hs0), List.getElem?_drop, Nat.mul_comm, Nat.div_add_mod, List.getElem?_eq_getElem hq]
    obtain ⟨v1, w1, hrun, h2, hg, _, hat⟩ := run_append_own_at (P := Try.prog) W base t t e i0 z d.sz bytes ht hi hz0 hz1 hz2 hz hs0 v xs.length inner hown ad m c news (by rw [hnM.1, hm]) hnc hone (by simp only [maxLen]; omega) hl hbase
    have hat' : v1.ownBlock = v.ownBlock ∨ ∃ b, v1.ownBlock = some b ∧ W.heap.size ≤ b := by
      rcases hat with hat | hat
      · exact .inl hat
      · exact .inr ⟨_, hat, Nat.le_refl _⟩
    have hne : ∀ k, some k ≠ v.ownBlock → k < W.heap.size → some k ≠ v1.ownBlock := by
      intro k hk hlt
      rcases hat' with hat | ⟨b, hb, hle⟩
      · rw [hat]; exact hk
      · rw [hb]
        intro he
        injection he with he
        omega
    have step : ∀ {q : α} {c : List Value} {o : Nat → Prop}, d.M W base o q c → (∀ k, o k → ok k ∧ some k ≠ v.ownBlock) → d.M w1 base (fun k => ok k ∧ some k ≠ v1.ownBlock) q c := by
      intro q c o hq ho
      have h1 := d.M_move (w1 := w1) (fun k hk => hg.block k hk.2.2.1 (ho k hk.1).2) (d.M_bound hq)
      exact d.M_mono (fun k hk => ⟨(ho k hk.1).1, hne k (ho k hk.1).2 hk.2.2.1⟩) h1
    refine ⟨v1, w1, hrun, ⟨fun k hk => ?_, inner ++ news, by rw [List.length_append, hm]; exact h2, Kd.reps_append (hr.imp_ (fun _ _ hq => step hq (fun _ hk => hk))) (hnM.imp_ (fun _ _ hq => step hq hokp))⟩, hg, hat'⟩
    rcases hat' with hat | ⟨b, hb, hle⟩
    · exact hok k (hat ▸ hk)
    · rw [hb] at hk
      injection hk with hk
      exact hfresh k (by omega)
theorem made_R {α : Type} (d : Kd α) (e : Nat) (W : World) (base : Nat) (ok : Nat → Prop) (hb : base ≤ W.heap.size) (hok : ok W.heap.size) : d.R e (W.alloc (.cells #[] e)) base ok (.slice (some ⟨W.heap.size, 0, none⟩) 0 0) [] :=
  ⟨fun k hk => by rw [own_new hk]; exact hok, OwnRow.lit W base (Reps.none _ _) hb (by simp)⟩
theorem info5 : (Try.prog.info? 5).map (fun i => (i.zero, i.size, i.bytes)) = some (some (.int .u8 0), 1, 1) := by kernel_rfl
/-- Bytes in a row of their own. -/
theorem fresh_bytes {W : World} {A : Option Addr} {m c : Nat} {l : List Int} (hC : Kd.C (Kd.int .u8) W A l.length l) (hm : l.length = m) (hl : l.length ≤ 140737488355328) :
    ∃ A6 c6 W6, (Builtin.append_ #[23, 23] 23 #[.slice (some ⟨W.heap.size, 0, none⟩) 0 0, .slice A m c]).run Try.prog (W.alloc (.cells #[] 5)) = .ok (.slice A6 m c6) W6 ∧ (Kd.int .u8).R 5 W6 W.heap.size (fun k => W.heap.size ≤ k) (.slice A6 m c6) l ∧ Below W.heap.size W W6 ∧ m ≤ c6 := by
  subst hm
  obtain ⟨v6, W6, hr, h1, h2, h3⟩ := rows_run (Kd.int .u8) (Rr := (Kd.int .u8).M (W.alloc (.cells #[] 5)) W.heap.size (fun _ => False)) W.heap.size 23 5 (.int .u8 0) 1 Try.underlying23 info5 rfl (by decide) (by decide) _ [] l A l.length c (fun k => W.heap.size ≤ k) (fun _ => False) (made_R (Kd.int .u8) 5 W W.heap.size _ (Nat.le_refl _) (Nat.le_refl _)) ((Kd.C_alloc hC _)) (fun _ _ h => h) (fun _ h => h.elim) (fun k hk => by simp at hk; omega) (by simp) (by simpa using hl)
  simp only [List.nil_append] at h1
  obtain ⟨A6, c6, rfl⟩ := Kd.R_slice h1
  exact ⟨A6, c6, W6, hr, h1, ((Below.refl _ _).alloc (Nat.le_refl _) _).grown h2 (by simp) (fun k hk => by have := own_new hk; omega), (Kd.R_reads' h1).2.1⟩
theorem info41 : ∀ q, q ∈ 28 :: k28.E → q ≠ 46 := by
  intro q hq
  have : q = 28 ∨ q = 5 := by simpa [k28, Kd.iso, Kd.pair, Kd.slice, Kd.int, Kd.scalar] using hq
  omega
/-- The reference's Net at block h. -/
structure IsRN (W : World) (base : Nat) (ok : Nat → Prop) (h : Nat) (v : Value) (l : List S28) : Prop where
  here : W.heap[h]? = some (.cells #[v] 46 (0, 0))
  mine : ok h
  young : base ≤ h
  row : Kd.R k28 28 W base ok v l
def RNUp (W w0 : World) (ok : Nat → Prop) (h : Nat) (l : List S28) : Prop := (∃ v, IsRN W w0.heap.size ok h v l) ∧ Below w0.heap.size w0 W
section
variable {W W' w w0 : World} {ok ok' : Nat → Prop} {h : Nat} {l : List S28} {v : Value}
theorem RNUp.mono (H : RNUp W w0 ok h l) (hm : ∀ k, ok k → ok' k) : RNUp W w0 ok' h l := by
  obtain ⟨⟨v, H⟩, hB⟩ := H
  exact ⟨⟨v, H.here, hm _ H.mine, H.young, Kd.R_mono H.row hm⟩, hB⟩
theorem IsRN.bound {base : Nat} (H : IsRN W base ok h v l) : IsRN W base (fun k => ok k ∧ base ≤ k ∧ k < W.heap.size) h v l := ⟨H.here, ⟨H.mine, H.young, blk_lt H.here⟩, H.young, Kd.R_mono (Kd.R_bound H.row) (fun k hk => ⟨hk.1, hk.2.1, hk.2.2.1⟩)⟩
theorem RNUp.bound (H : RNUp W w0 ok h l) : RNUp W w0 (fun k => ok k ∧ w0.heap.size ≤ k ∧ k < W.heap.size) h l := by
  obtain ⟨⟨v, H⟩, hB⟩ := H
  exact ⟨⟨v, H.bound⟩, hB⟩
theorem RNUp.kept {S : Nat → Prop} (H : RNUp W w0 ok h l) (hk : Kept W W' S) (ha : ∀ k, ok k → ¬ S k) (hB : Below w0.heap.size w0 W') : RNUp W' w0 ok h l := by
  obtain ⟨⟨v, H⟩, _⟩ := H
  exact ⟨⟨v, (hk.2 _ (blk_lt H.here) (ha _ H.mine)).trans H.here, H.mine, H.young, Kd.R_step H.row (fun k ho hlt => hk.2 k hlt (ha k ho))⟩, hB⟩
theorem RNUp.below (H : RNUp W w0 ok h l) (hb : Below W.heap.size W W') : RNUp W' w0 ok h l :=
  H.kept (S := fun _ => False) (Kept.of_below hb _) (fun _ _ h => h) (H.2.trans (hb.mono H.2.size))
theorem RNUp.alloc (H : RNUp W w0 ok h l) (o : Obj) : RNUp (W.alloc o) w0 ok h l := H.below ((Below.refl _ _).alloc (Nat.le_refl _) o)
theorem RNUp.drew (H : RNUp W w0 ok h l) : RNUp W.drew w0 ok h l := H.below (bdrew (Below.refl _ _))
theorem RNUp.fits (H : RNUp W w0 ok h l) : h < W.heap.size := blk_lt H.1.choose_spec.here
theorem IsRN.slice {base : Nat} (H : IsRN W base ok h v l) : ∃ A c, v = .slice A l.length c ∧ l.length ≤ c ∧ Kd.C k28 W A l.length l ∧ W.cell? ⟨h, 0, none⟩ = some v ∧ W.frozen? ⟨h, 0, none⟩ = false := by
  obtain ⟨A, c, h1, h2, h3⟩ := Kd.R_reads H.row
  exact ⟨A, c, h1, h2, h3, (blk_cell H.here 0).trans rfl, blk_frozen H.here 0⟩
theorem IsRN.ne {base : Nat} (H : IsRN W base ok h v l) : ∀ k, v.ownBlock = some k → k ≠ h := fun k hk e => Kd.R_ne H.row H.here (by decide) (by rw [hk, e])
/-- Another row is laid into the head. -/
theorem IsRN.put {base : Nat} {v' : Value} {l' : List S28} (hh : W.heap[h]? = some (.cells #[v] 46 (0, 0))) (hm : ok h) (hy : base ≤ h) (hr : Kd.R k28 28 W base ok v' l') : IsRN (W.setCell ⟨h, 0, none⟩ v') base ok h v' l' :=
  ⟨by simpa using blk_set hh 0 v', hm, hy, Kd.R_set hr hh info41 0 _⟩
set_option maxRecDepth 100000 in
set_option maxHeartbeats 4000000 in
theorem rsend_calls {v0 : Value} (H : IsRN w w0.heap.size ok h v0 l) (hB0 : Below w0.heap.size w0 w) (A : Option Addr) (c : Nat) (m : List S28) (hm : ∀ W', Kept w W' (fun k => k = h ∨ some k = v0.ownBlock) → Kd.C k28 W' A m.length m) (hc : m.length ≤ c) (hd : ∀ x ∈ m, x.f2.length ≤ 140737488355328) (hl : l.length ≤ 1024) :
    Calls Try.prog 16 #[.pointer (some ⟨h, 0, none⟩), .slice A m.length c] w fun e w' => e = .returned (.int .i64 (manyOf l.length m.length)) ∧ RNUp w' w0 (fun k => ok k ∨ w.heap.size ≤ k) h (l ++ m.take (manyOf l.length m.length)) ∧ Kept w w' (fun k => k = h ∨ some k = v0.ownBlock) := by
  obtain ⟨M, hM, HMe⟩ : ∃ M : Nat, M = manyOf l.length m.length ∧ Aside0 (manyOf l.length m.length = M) := ⟨_, rfl, ⟨rfl⟩⟩
  have hMm : M ≤ m.length := by unfold manyOf at hM; omega
  have hMl : l.length + M ≤ 1024 := by unfold manyOf at hM; omega
  have hMx : M < m.length → l.length + M = 1024 := by unfold manyOf at hM; omega
  have HMX := Aside0.mk hMx
  have HM := Aside0.mk hm
  have HD := Aside0.mk hd
  have HH := Aside0.mk H
  have HB0 := Aside0.mk hB0
  have hmw : m.length ≤ 9223372036854775807 := (hm w (Kept.refl _ _)).2.1
  clear hm hd H hM hMx hB0
  rw [HMe.out]
  obtain ⟨mm, hmm⟩ : ∃ mm, mm = m.length := ⟨_, rfl⟩
  rw [← hmm] at hmw hMm hc HMX ⊢
  have HMM := Aside0.mk hmm
  clear hmm HMe
  go_enter Try.func16, Try.ntmps16
  go_wp2
  go_loopg [5, 6] M (fun gk s5 s6 wr => ∃ (k : Nat) (u : Value), k ≤ M ∧ M - k ≤ gk ∧ s5 = .int .i64 k ∧ s6 = .int .i64 k ∧ Aside0 (IsRN wr w0.heap.size (fun q => ok q ∨ w.heap.size ≤ q) h u (l ++ m.take k)) ∧ Aside0 (Below w0.heap.size w0 wr) ∧ Aside0 (Kept w wr (fun k => k = h ∨ some k = v0.ownBlock)) ∧ Aside0 (u.ownBlock = v0.ownBlock ∨ ∃ b, u.ownBlock = some b ∧ w.heap.size ≤ b))
  case atStart =>
    exact ⟨0, v0, Nat.zero_le _, by omega, rfl, rfl, ⟨by simpa using ⟨HH.out.here, .inl HH.out.mine, HH.out.young, Kd.R_mono HH.out.row (fun k hk => .inl hk)⟩⟩, HB0, ⟨Kept.refl _ _⟩, ⟨.inl rfl⟩⟩
  case round =>
    obtain ⟨k, u, hk, hgk, rfl, rfl, HI, HB, HK, HU⟩ := hrel
    obtain ⟨lk, hlk, hlkl⟩ : ∃ lk, lk = l ++ m.take k ∧ lk.length = l.length + k := ⟨_, rfl, by rw [List.length_append, List.length_take]; have := HMM.out; omega⟩
    rw [← hlk] at HI
    have HLk := Aside0.mk hlk
    have hI := HI.out.bound
    obtain ⟨Au, cu, rfl, hcu, hCu, hgw, fgw⟩ := hI.slice
    obtain ⟨n, hn⟩ : ∃ n, n = lk.length := ⟨_, rfl⟩
    rw [← hn] at hgw hcu hlkl
    have HNN := Aside0.mk hn
    have HIS := Aside0.mk hI
    have HLKL := Aside0.mk hlkl
    have hn2 : n ≤ 1024 := by omega
    have hn3 : k < M → n < 1024 := by omega
    clear hlk hn hI hCu hlkl
    by_cases hlt : k < M
    · obtain ⟨gk, rfl⟩ : ∃ q, gk = q + 1 := ⟨gk - 1, by omega⟩
      have hn4 : n < 1024 := hn3 hlt
      clear hn3
      have HRm := HM.out wr HK.out
      rw [← HMM.out] at HRm
      obtain ⟨ad, A2, c2, rfl, hx0, hx1, hx2, hc2, hr2⟩ := at_T28 HRm (k : Int) (by omega) (by omega)
      simp only [Int.toNat_natCast] at hx0 hx1 hx2
      have hkm : k < m.length := by have := HMM.out; omega
      have hmem : rd_T28 m (k : Int) ∈ m := by unfold rd_T28; rw [Int.toNat_natCast, List.getD_eq_getElem?_getD, List.getElem?_eq_getElem hkm]; exact List.getElem_mem _
      have hxl := HD.out _ hmem
      have hxe : lk ++ [rd_T28 m (k : Int)] = l ++ m.take (k + 1) := by
        rw [HLk.out, List.take_succ_eq_append_getElem hkm, List.append_assoc]
        unfold rd_T28
        rw [Int.toNat_natCast, List.getD_eq_getElem?_getD, List.getElem?_eq_getElem hkm]
        rfl
      have HXE := Aside0.mk hxe
      clear hxe
      generalize hx : rd_T28 m (k : Int) = x at *
      clear hx hmem HRm
      obtain ⟨x0, x1, x2⟩ := x
      simp only at hx0 hx1 hx2 hc2 hr2 hxl
      obtain ⟨nx, hnx⟩ : ∃ nx, nx = x2.length := ⟨_, rfl⟩
      rw [← hnx] at hx2
      obtain ⟨A6, c6, W6, hr6, hR6, hB6, hc6⟩ := fresh_bytes (W := wr.drew) (A := A2) (m := nx) (c := c2) (l := x2) hr2 hnx.symm hxl
      have hbase : w0.heap.size ≤ wr.heap.size := HB.out.size
      have hI6 : IsRN W6 w0.heap.size (fun q => (ok q ∨ w.heap.size ≤ q) ∧ w0.heap.size ≤ q ∧ q < wr.heap.size) h (.slice Au lk.length cu) lk := ⟨(hB6.block h (blk_lt HIS.out.here)).trans HIS.out.here, HIS.out.mine, HIS.out.young, Kd.R_below (w := wr.drew) HIS.out.row hB6⟩
      have hval : ∀ (b : List Value), ReadsRow (fun (x : S28) (cs : List Value) => x = ⟨x0, x1, x2⟩ ∧ cs = [.int .i64 x0, .int .i64 x1, .slice A6 nx c6]) 3 (W6.alloc (.cells #[.int .i64 x0, .int .i64 x1, .slice A6 nx c6] 28)) (some ⟨W6.heap.size, 0, none⟩) 1 [⟨x0, x1, x2⟩] := fun _ => by
        refine ⟨rfl, by omega, fun _ => ⟨_, rfl, fun j p hj => ?_⟩⟩
        match j with
        | 0 =>
          cases hj
          refine ⟨_, rfl, ⟨rfl, rfl⟩, fun i u hu => ?_⟩
          rw [add_plain, blk_cell (heap_alloc_new W6 _), Nat.zero_mul, Nat.zero_add]
          rw [← hu]
          simp
        | j + 1 => simp at hj
      obtain ⟨v7, W7, hr7, hR7, hG7, hat7⟩ := rows_run k28 (W := W6.alloc (.cells #[.int .i64 x0, .int .i64 x1, .slice A6 nx c6] 28)) (Rr := fun (x : S28) (cs : List Value) => x = ⟨x0, x1, x2⟩ ∧ cs = [.int .i64 x0, .int .i64 x1, .slice A6 nx c6]) w0.heap.size 41 28 (.agg #[.int .i64 0, .int .i64 0, .slice none 0 0]) 40 Try.underlying41 info28 rfl (by decide) (by decide) (.slice Au lk.length cu) lk [⟨x0, x1, x2⟩] (some ⟨W6.heap.size, 0, none⟩) 1 1 (fun q => ok q ∨ w.heap.size ≤ q) (fun q => wr.heap.size ≤ q)
        (Kd.R_mono (Kd.R_alloc hI6.row _) (fun q hq => hq.1)) (hval []) (fun y cs hy => by obtain ⟨rfl, rfl⟩ := hy; exact k28_mkM _ _ _ ⟨x0, x1, x2⟩ (Kd.R_alloc (Kd.R_lower hR6 hbase) _)) (fun q hq => ⟨.inr (Nat.le_trans HK.out.1 hq), fun e => by have := Kd.R_lt HIS.out.row q e.symm; omega⟩) (fun q hq => .inr (by have h1 := hB6.size; have h2 := HK.out.1; simp at hq h1; omega)) (by have := hB6.size; simp at this ⊢; omega) (by have := HNN.out; omega)
      obtain ⟨A7, c7, hv7⟩ := Kd.R_slice hR7
      subst hv7
      have hB7 : Below w0.heap.size w0 W7 := ((((bdrew HB.out).trans (hB6.mono hbase)).alloc (by have := hB6.size; simp at this; omega) _)).grown hG7 (by have := hB6.size; simp at this ⊢; omega) (fun k hk => Kd.R_base HIS.out.row k hk)
      have hK7 : Kept wr W7 (fun q => some q = (Value.slice Au lk.length cu).ownBlock) := Kept.of_grown hG7 (((Kept.refl wr _).drew.below hB6).alloc _) (fun q hq => .inl hq.symm)
      have hg7 : W7.heap[h]? = some (.cells #[.slice Au lk.length cu] 46 (0, 0)) := (hK7.2 h (blk_lt HIS.out.here) (fun e => HIS.out.ne h e.symm rfl)).trans HIS.out.here
      have hc6w : W6.cell? ⟨h, 0, none⟩ = _ := cell_below (W := wr.drew) hgw hB6
      have h60 : W6.cell? _ = _ := cell_below (W := wr.drew) hx0 hB6
      have h61 : W6.cell? _ = _ := cell_below (W := wr.drew) hx1 hB6
      have h62 : W6.cell? _ = _ := cell_below (W := wr.drew) hx2 hB6
      have fz7 := blk_frozen hg7 0
      have hc7w := (blk_cell hg7 0).trans rfl
      have hK8 : Kept w (W7.setCell ⟨h, 0, none⟩ (.slice A7 (lk ++ [(⟨x0, x1, x2⟩ : S28)]).length c7)) (fun k => k = h ∨ some k = v0.ownBlock) := (HK.out.then_ hK7 (fun q hq => HU.out.elim (fun e => .inl (.inr (hq.trans e))) (fun ⟨b, e, hb⟩ => .inr (by rw [e] at hq; injection hq with hq; omega)))).setCell (p := ⟨h, 0, none⟩) (.inl (.inl rfl)) _
      have hU7 : (Value.slice A7 (lk ++ [(⟨x0, x1, x2⟩ : S28)]).length c7).ownBlock = v0.ownBlock ∨ ∃ b, (Value.slice A7 (lk ++ [(⟨x0, x1, x2⟩ : S28)]).length c7).ownBlock = some b ∧ w.heap.size ≤ b := hat7.elim (fun e => by rw [e]; exact HU.out) (fun ⟨b, e, hb⟩ => .inr ⟨b, e, by have h1 := hB6.size; have h2 := HK.out.1; simp at h1 hb; omega⟩)
      have hU8 : IsRN (W7.setCell ⟨h, 0, none⟩ (.slice A7 (lk ++ [(⟨x0, x1, x2⟩ : S28)]).length c7)) w0.heap.size (fun q => ok q ∨ w.heap.size ≤ q) h (.slice A7 (lk ++ [(⟨x0, x1, x2⟩ : S28)]).length c7) (lk ++ [⟨x0, x1, x2⟩]) := IsRN.put hg7 HIS.out.mine.1 HIS.out.young hR7
      have hB8 : Below w0.heap.size w0 (W7.setCell ⟨h, 0, none⟩ (.slice A7 (lk ++ [(⟨x0, x1, x2⟩ : S28)]).length c7)) := hB7.setCell HIS.out.young _
      rw [← HNN.out] at hr7
      have HRUN6 := Aside0.mk hr6
      have HRUN7 := Aside0.mk hr7
      have HC6 := Aside0.mk hc6w
      have HX60 := Aside0.mk h60
      have HX61 := Aside0.mk h61
      have HX62 := Aside0.mk h62
      simp only [List.length_append, List.length_cons, List.length_nil, Nat.zero_add] at hK8 hU8 hU7 hB8
      have HU7 := Aside0.mk hU7
      have HB8 := Aside0.mk hB8
      have HK8 := Aside0.mk hK8
      have HU8 := Aside0.mk hU8
      clear hr6 hr7 hR6 hB6 hI6 hval hR7 hG7 hat7 hB7 hK7 hg7 hc6w h60 h61 h62 hK8 hU8 hU7 hB8 hr2 hnx hbase
      go_wp2
      refine start_ (n := 28) (S := fun w' => w'.cell? ⟨h, 0, none⟩ = some (.slice Au n cu) ∧ w'.cell? (ad.add (k * 3)) = some (.int .i64 x0) ∧ w'.cell? ⟨(ad.add (k * 3)).block, (ad.add (k * 3)).off + 1, none⟩ = some (.int .i64 x1) ∧ w'.cell? ⟨(ad.add (k * 3)).block, (ad.add (k * 3)).off + 2, none⟩ = some (.slice A2 nx c2)) (ds := [24, 27]) #[false, false, false, false, false, false, false, false, false, false, false, false, false, false, false, false, false, false, false, false, false, false, false, false, false, false, false, false] (by kernel_rfl) rfl rfl ⟨hgw, hx0, hx1, hx2⟩ (fun hHeld => ?_)
      refine pure_ (i := 0) (N := some 21) (v := ?_) (a' := ?_) #[true, false, false, false, false, false, false, false, false, false, false, false, false, false, false, false, false, false, false, false, false, false, false, false, false, false, false, false] rfl rfl (by kernel_rfl) (fun _ _ _ h => h) (Or.inl ⟨by rfl, ?_⟩) ?_ ?_
      rotate_left
      · intro w'
        go_simp
        with_reducible rfl
      rotate_left
      · simp only [Act.put, List.setIfInBounds_toArray, List.set_cons_zero, List.set_cons_succ, i64_w, i32_w]
        rfl
      refine pure_ (i := 1) (N := some 22) (v := ?_) (a' := ?_) #[true, true, false, false, false, false, false, false, false, false, false, false, false, false, false, false, false, false, false, false, false, false, false, false, false, false, false, false] rfl rfl (by kernel_rfl) (fun _ _ _ h => h) (Or.inl ⟨by rfl, ?_⟩) ?_ ?_
      rotate_left
      · intro w'
        go_simp
        with_reducible rfl
      rotate_left
      · simp only [Act.put, List.setIfInBounds_toArray, List.set_cons_zero, List.set_cons_succ, i64_w, i32_w]
        rfl
      refine pure_ (i := 2) (N := some 23) (v := ?_) (a' := ?_) #[true, true, true, false, false, false, false, false, false, false, false, false, false, false, false, false, false, false, false, false, false, false, false, false, false, false, false, false] rfl rfl (by kernel_rfl) (fun _ _ _ h => h) (Or.inl ⟨by rfl, ?_⟩) ?_ ?_
      rotate_left
      · intro w'
        go_simp
        with_reducible rfl
      rotate_left
      · simp only [Act.put, List.setIfInBounds_toArray, List.set_cons_zero, List.set_cons_succ, i64_w, i32_w]
        rfl
      refine pure_ (i := 3) (N := some 24) (v := ?_) (a' := ?_) #[true, true, true, true, false, false, false, false, false, false, false, false, false, false, false, false, false, false, false, false, false, false, false, false, false, false, false, false] rfl rfl (by kernel_rfl) (fun _ _ _ h => h) (Or.inl ⟨by rfl, ?_⟩) ?_ ?_
      rotate_left
      · intro w'
        go_simp
        with_reducible rfl
      rotate_left
      · simp only [Act.put, List.setIfInBounds_toArray, List.set_cons_zero, List.set_cons_succ, i64_w, i32_w]
        rfl
      refine pure_ (i := 5) (N := some 26) (v := ?_) (a' := ?_) #[true, true, true, true, false, true, false, false, false, false, false, false, false, false, false, false, false, false, false, false, false, false, false, false, false, false, false, false] rfl rfl (by kernel_rfl) (fun _ _ _ h => h) (Or.inl ⟨by rfl, ?_⟩) ?_ ?_
      rotate_left
      · intro w'
        go_simp
        with_reducible rfl
      rotate_left
      · simp only [Act.put, List.setIfInBounds_toArray, List.set_cons_zero, List.set_cons_succ, i64_w, i32_w]
        rfl
      refine pure_ (i := 6) (N := some 27) (v := ?_) (a' := ?_) #[true, true, true, true, false, true, true, false, false, false, false, false, false, false, false, false, false, false, false, false, false, false, false, false, false, false, false, false] rfl rfl (by kernel_rfl) (fun _ _ _ h => h) (Or.inl ⟨by rfl, ?_⟩) ?_ ?_
      rotate_left
      · intro w'
        go_simp
        with_reducible rfl
      rotate_left
      · simp only [Act.put, List.setIfInBounds_toArray, List.set_cons_zero, List.set_cons_succ, i64_w, i32_w]
        rfl
      refine pure_ (i := 7) (N := some 28) (v := ?_) (a' := ?_) #[true, true, true, true, false, true, true, true, false, false, false, false, false, false, false, false, false, false, false, false, false, false, false, false, false, false, false, false] rfl rfl (by kernel_rfl) (fun _ _ _ h => h) (Or.inl ⟨by rfl, ?_⟩) ?_ ?_
      rotate_left
      · intro w'
        go_simp
        with_reducible rfl
      rotate_left
      · simp only [Act.put, List.setIfInBounds_toArray, List.set_cons_zero, List.set_cons_succ, i64_w, i32_w]
        rfl
      refine pure_ (i := 8) (N := some 29) (v := ?_) (a' := ?_) #[true, true, true, true, false, true, true, true, true, false, false, false, false, false, false, false, false, false, false, false, false, false, false, false, false, false, false, false] rfl rfl (by kernel_rfl) (fun _ _ _ h => h) (Or.inl ⟨by rfl, ?_⟩) ?_ ?_
      rotate_left
      · intro w'
        go_simp
        with_reducible rfl
      rotate_left
      · simp only [Act.put, List.setIfInBounds_toArray, List.set_cons_zero, List.set_cons_succ, i64_w, i32_w]
        rfl
      refine pure_ (i := 10) (N := some 31) (v := ?_) (a' := ?_) #[true, true, true, true, false, true, true, true, true, false, true, false, false, false, false, false, false, false, false, false, false, false, false, false, false, false, false, false] rfl rfl (by kernel_rfl) (fun _ _ _ h => h) (Or.inl ⟨by rfl, ?_⟩) ?_ ?_
      rotate_left
      · intro w'
        go_simp
        with_reducible rfl
      rotate_left
      · simp only [Act.put, List.setIfInBounds_toArray, List.set_cons_zero, List.set_cons_succ, i64_w, i32_w]
        rfl
      refine pure_ (i := 11) (N := some 32) (v := ?_) (a' := ?_) #[true, true, true, true, false, true, true, true, true, false, true, true, false, false, false, false, false, false, false, false, false, false, false, false, false, false, false, false] rfl rfl (by kernel_rfl) (fun _ _ _ h => h) (Or.inl ⟨by rfl, ?_⟩) ?_ ?_
      rotate_left
      · intro w'
        go_simp
        with_reducible rfl
      rotate_left
      · simp only [Act.put, List.setIfInBounds_toArray, List.set_cons_zero, List.set_cons_succ, i64_w, i32_w]
        rfl
      refine pure_ (i := 12) (N := some 33) (v := ?_) (a' := ?_) #[true, true, true, true, false, true, true, true, true, false, true, true, true, false, false, false, false, false, false, false, false, false, false, false, false, false, false, false] rfl rfl (by kernel_rfl) (fun _ _ _ h => h) (Or.inl ⟨by rfl, ?_⟩) ?_ ?_
      rotate_left
      · intro w'
        go_simp
        with_reducible rfl
      rotate_left
      · simp only [Act.put, List.setIfInBounds_toArray, List.set_cons_zero, List.set_cons_succ, i64_w, i32_w]
        rfl
      refine pure_ (i := 13) (N := some 34) (v := ?_) (a' := ?_) #[true, true, true, true, false, true, true, true, true, false, true, true, true, true, false, false, false, false, false, false, false, false, false, false, false, false, false, false] rfl rfl (by kernel_rfl) (fun _ _ _ h => h) (Or.inl ⟨by rfl, ?_⟩) ?_ ?_
      rotate_left
      · intro w'
        go_simp
        with_reducible rfl
      rotate_left
      · simp only [Act.put, List.setIfInBounds_toArray, List.set_cons_zero, List.set_cons_succ, i64_w, i32_w]
        rfl
      refine pure_ (i := 16) (N := some 37) (v := ?_) (a' := ?_) #[true, true, true, true, false, true, true, true, true, false, true, true, true, true, false, false, true, false, false, false, false, false, false, false, false, false, false, false] rfl rfl (by kernel_rfl) (fun _ _ _ h => h) (Or.inl ⟨by rfl, ?_⟩) ?_ ?_
      rotate_left
      · intro w'
        go_simp
        with_reducible rfl
      rotate_left
      · simp only [Act.put, List.setIfInBounds_toArray, List.set_cons_zero, List.set_cons_succ, i64_w, i32_w]
        rfl
      refine pure_ (i := 17) (N := some 38) (v := ?_) (a' := ?_) #[true, true, true, true, false, true, true, true, true, false, true, true, true, true, false, false, true, true, false, false, false, false, false, false, false, false, false, false] rfl rfl (by kernel_rfl) (fun _ _ _ h => h) (Or.inl ⟨by rfl, ?_⟩) ?_ ?_
      rotate_left
      · intro w'
        go_simp
        with_reducible rfl
      rotate_left
      · simp only [Act.put, List.setIfInBounds_toArray, List.set_cons_zero, List.set_cons_succ, i64_w, i32_w]
        rfl
      refine pure_ (i := 18) (N := some 39) (v := ?_) (a' := ?_) #[true, true, true, true, false, true, true, true, true, false, true, true, true, true, false, false, true, true, true, false, false, false, false, false, false, false, false, false] rfl rfl (by kernel_rfl) (fun _ _ _ h => h) (Or.inl ⟨by rfl, ?_⟩) ?_ ?_
      rotate_left
      · intro w'
        go_simp
        with_reducible rfl
      rotate_left
      · simp only [Act.put, List.setIfInBounds_toArray, List.set_cons_zero, List.set_cons_succ, i64_w, i32_w]
        rfl
      refine pure_ (i := 19) (N := some 40) (v := ?_) (a' := ?_) #[true, true, true, true, false, true, true, true, true, false, true, true, true, true, false, false, true, true, true, true, false, false, false, false, false, false, false, false] rfl rfl (by kernel_rfl) (fun _ _ _ h => h) (Or.inl ⟨by rfl, ?_⟩) ?_ ?_
      rotate_left
      · intro w'
        go_simp
        with_reducible rfl
      rotate_left
      · simp only [Act.put, List.setIfInBounds_toArray, List.set_cons_zero, List.set_cons_succ, i64_w, i32_w]
        rfl
      refine take_ (i := 4) (N := some 25) (v := ?_) (a' := ?_) #[true, true, true, true, true, true, true, true, true, false, true, true, true, true, false, false, true, true, true, true, false, false, false, false, false, false, false, false] rfl rfl (by kernel_rfl) (fun _ _ _ h => h) (Or.inl ⟨by rfl, ?_⟩) hHeld ?_ ?_
      rotate_left
      · rintro w' ⟨s0, s1, s2, s3⟩
        go_simp
        with_reducible rfl
      rotate_left
      · simp only [Act.put, List.setIfInBounds_toArray, List.set_cons_zero, List.set_cons_succ, i64_w, i32_w]
        rfl
      refine take_ (i := 9) (N := some 30) (v := ?_) (a' := ?_) #[true, true, true, true, true, true, true, true, true, true, true, true, true, true, false, false, true, true, true, true, false, false, false, false, false, false, false, false] rfl rfl (by kernel_rfl) (fun _ _ _ h => h) (Or.inl ⟨by rfl, ?_⟩) hHeld ?_ ?_
      rotate_left
      · rintro w' ⟨s0, s1, s2, s3⟩
        go_simp
        with_reducible rfl
      rotate_left
      · simp only [Act.put, List.setIfInBounds_toArray, List.set_cons_zero, List.set_cons_succ, i64_w, i32_w]
        rfl
      refine take_ (i := 14) (N := some 35) (v := ?_) (a' := ?_) #[true, true, true, true, true, true, true, true, true, true, true, true, true, true, true, false, true, true, true, true, false, false, false, false, false, false, false, false] rfl rfl (by kernel_rfl) (fun _ _ _ h => h) (Or.inl ⟨by rfl, ?_⟩) hHeld ?_ ?_
      rotate_left
      · rintro w' ⟨s0, s1, s2, s3⟩
        go_simp
        with_reducible rfl
      rotate_left
      · simp only [Act.put, List.setIfInBounds_toArray, List.set_cons_zero, List.set_cons_succ, i64_w, i32_w]
        rfl
      refine take_ (i := 20) (N := some 41) (v := ?_) (a' := ?_) #[true, true, true, true, true, true, true, true, true, true, true, true, true, true, true, false, true, true, true, true, true, false, false, false, false, false, false, false] rfl rfl (by kernel_rfl) (fun _ _ _ h => h) (Or.inl ⟨by rfl, ?_⟩) hHeld ?_ ?_
      rotate_left
      · rintro w' ⟨s0, s1, s2, s3⟩
        go_simp
        with_reducible rfl
      rotate_left
      · simp only [Act.put, List.setIfInBounds_toArray, List.set_cons_zero, List.set_cons_succ, i64_w, i32_w]
        rfl
      refine one_ (i := 15) (N := some 36) #[true, true, true, true, true, true, true, true, true, true, true, true, true, true, true, true, true, true, true, true, true, false, false, false, false, false, false, false] rfl rfl (by kernel_rfl) (by decide) (fun K hK => ?_)
      refine value_ (w1 := ?_) (v := ?_) (by rfl) rfl ?_ ?_
      rotate_left 2
      · go_simp
        constructor
        · rfl
        · rfl
      refine hK.out _ _ ⟨(Go.Lib.cell?_alloc_some _ hHeld.1), (Go.Lib.cell?_alloc_some _ hHeld.2.1), (Go.Lib.cell?_alloc_some _ hHeld.2.2.1), (Go.Lib.cell?_alloc_some _ hHeld.2.2.2)⟩ (fun hHeld => ?_)
      clear hK K
      refine norm_ (a' := ?_) ?_ ?_
      rotate_left
      · show Act.put _ (some 36) _ = _
        simp only [Act.put, List.setIfInBounds_toArray, List.set_cons_zero, List.set_cons_succ, i64_w, i32_w]
        rfl
      refine one_ (i := 21) (N := some 42) #[true, true, true, true, true, true, true, true, true, true, true, true, true, true, true, true, true, true, true, true, true, true, false, false, false, false, false, false] rfl rfl (by kernel_rfl) (by decide) (fun K hK => ?_)
      refine append_step (by rfl) (.tmp 36) (.tmp 41) 23 rfl _ _ rfl rfl _ HRUN6.out rfl ?_
      refine hK.out _ _ ⟨HC6.out, HX60.out, HX61.out, HX62.out⟩ (fun hHeld => ?_)
      clear hK K
      refine norm_ (a' := ?_) ?_ ?_
      rotate_left
      · show Act.put _ (some 42) _ = _
        simp only [Act.put, List.setIfInBounds_toArray, List.set_cons_zero, List.set_cons_succ, i64_w, i32_w]
        rfl
      refine pure_ (i := 22) (N := some 43) (v := ?_) (a' := ?_) #[true, true, true, true, true, true, true, true, true, true, true, true, true, true, true, true, true, true, true, true, true, true, true, false, false, false, false, false] rfl rfl (by kernel_rfl) (fun _ _ _ h => h) (Or.inl ⟨by rfl, ?_⟩) ?_ ?_
      rotate_left
      · intro w'
        go_simp
        with_reducible rfl
      rotate_left
      · simp only [Act.put, List.setIfInBounds_toArray, List.set_cons_zero, List.set_cons_succ, i64_w, i32_w]
        rfl
      refine one_ (i := 23) (N := some 44) #[true, true, true, true, true, true, true, true, true, true, true, true, true, true, true, true, true, true, true, true, true, true, true, true, false, false, false, false] rfl rfl (by kernel_rfl) (by decide) (fun K hK => ?_)
      refine value_ (w1 := ?_) (v := ?_) (by rfl) rfl ?_ ?_
      rotate_left 2
      · go_simp
        constructor
        · rfl
        · rfl
      refine hK.out _ _ ⟨(Go.Lib.cell?_alloc_some _ hHeld.1), (Go.Lib.cell?_alloc_some _ hHeld.2.1), (Go.Lib.cell?_alloc_some _ hHeld.2.2.1), (Go.Lib.cell?_alloc_some _ hHeld.2.2.2)⟩ (fun hHeld => ?_)
      clear hK K
      refine norm_ (a' := ?_) ?_ ?_
      rotate_left
      · show Act.put _ (some 44) _ = _
        simp only [Act.put, List.setIfInBounds_toArray, List.set_cons_zero, List.set_cons_succ, i64_w, i32_w]
        rfl
      refine last_ (i := 24) (N := some 45) #[true, true, true, true, true, true, true, true, true, true, true, true, true, true, true, true, true, true, true, true, true, true, true, true, true, false, false, false] rfl rfl (by kernel_rfl) (by decide) (fun K hK => ?_)
      refine append_step (by rfl) (.tmp 25) (.tmp 44) 41 rfl _ _ rfl rfl _ HRUN7.out rfl ?_
      refine hK.out _ _ ?_
      clear hK K
      refine norm_ (a' := ?_) ?_ ?_
      rotate_left
      · show Act.put _ (some 45) _ = _
        simp only [Act.put, List.setIfInBounds_toArray, List.set_cons_zero, List.set_cons_succ, i64_w, i32_w]
        rfl
      refine pure_ (i := 25) (N := some 46) (v := ?_) (a' := ?_) #[true, true, true, true, true, true, true, true, true, true, true, true, true, true, true, true, true, true, true, true, true, true, true, true, true, true, false, false] rfl rfl (by kernel_rfl) (fun _ _ _ h => h) (Or.inl ⟨by rfl, ?_⟩) ?_ ?_
      rotate_left
      · intro w'
        go_simp
        with_reducible rfl
      rotate_left
      · simp only [Act.put, List.setIfInBounds_toArray, List.set_cons_zero, List.set_cons_succ, i64_w, i32_w]
        rfl
      refine pure_ (i := 26) (N := some 47) (v := ?_) (a' := ?_) #[true, true, true, true, true, true, true, true, true, true, true, true, true, true, true, true, true, true, true, true, true, true, true, true, true, true, true, false] rfl rfl (by kernel_rfl) (fun _ _ _ h => h) (Or.inl ⟨by rfl, ?_⟩) ?_ ?_
      rotate_left
      · intro w'
        go_simp
        with_reducible rfl
      rotate_left
      · simp only [Act.put, List.setIfInBounds_toArray, List.set_cons_zero, List.set_cons_succ, i64_w, i32_w]
        rfl
      refine last_ (i := 27) (N := none) #[true, true, true, true, true, true, true, true, true, true, true, true, true, true, true, true, true, true, true, true, true, true, true, true, true, true, true, true] rfl rfl (by kernel_rfl) (by decide) (fun K hK => ?_)
      refine skip_ (w1 := ?_) (by rfl) rfl ?_ ?_
      rotate_left
      · go_simp
        rfl
      refine hK.out _ _ ?_
      clear hK K
      refine done_ (by kernel_rfl) ?_

      clear hHeld
      go_wp2
      go_roundg gk
      case measure => omega
      case rel =>
        exact ⟨k + 1, .slice A7 (lk.length + 1) c7, by omega, by omega, by go_num, by go_num, ⟨by rw [← HXE.out]; exact HU8.out⟩, HB8, HK8, HU7⟩
    · obtain rfl : k = M := by omega
      by_cases hkm : k < mm
      · have h1024 : n = 1024 := by have := HMX.out hkm; have := HLKL.out; omega
        subst h1024
        go_wp2
        go_ret
        exact ⟨rfl, ⟨⟨_, HLk.out ▸ HI.out⟩, HB.out⟩, HK.out⟩
      · have hkm2 : ¬ ((k : Int) < mm) := by omega
        go_wp2
        go_ret
        exact ⟨rfl, ⟨⟨_, HLk.out ▸ HI.out⟩, HB.out⟩, HK.out⟩
theorem IsRN.in_ok {base : Nat} (H : IsRN W base ok h v l) : ∀ k, (k = h ∨ some k = v.ownBlock) → ok k := by
  rintro k (rfl | hk)
  · exact H.mine
  · exact H.row.1 k hk.symm
theorem rsend_up (H : RNUp w w0 ok h l) (A : Option Addr) (c : Nat) (m : List S28) (hm : ∀ W', Kept w W' ok → Kd.C k28 W' A m.length m) (hc : m.length ≤ c) (hd : ∀ x ∈ m, x.f2.length ≤ 140737488355328) (hl : l.length ≤ 1024) :
    Calls Try.prog 16 #[.pointer (some ⟨h, 0, none⟩), .slice A m.length c] w fun e w' => e = .returned (.int .i64 (manyOf l.length m.length)) ∧ RNUp w' w0 (fun k => ok k ∨ w.heap.size ≤ k) h (l ++ m.take (manyOf l.length m.length)) ∧ Kept w w' ok := by
  obtain ⟨⟨v, H⟩, hB⟩ := H
  refine (rsend_calls H hB A c m (fun W' hk => hm W' (kept_mono hk H.in_ok)) hc hd hl).mono ?_
  rintro e w' ⟨rfl, h1, h2⟩
  exact ⟨rfl, h1, kept_mono h2 H.in_ok⟩
end
end Go.Proofs.Ytmindpofjnicfaa.Hand
