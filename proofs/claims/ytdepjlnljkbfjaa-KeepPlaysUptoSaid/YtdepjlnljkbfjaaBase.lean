/- What more than one text uses: rows, appends whose run is known, a disk beside other memory. -/
import Derived.Test.YtdepjlnljkbfjaaKnown
import Derived.Test.YtdepjlnljkbfjaaRemove
import Derived.Test.YtdepjlnljkbfjaaRename
namespace Go.Proofs.Ytdepjlnljkbfjaa.Hand
open Go.RowKit Go.Proofs.Ytdepjlnljkbfjaa.PA Go.Proofs.Ytdepjlnljkbfjaa.MapP Go.Proofs.YtdepjlnljkbfjaaW.PrintWords Go.Proofs.YtdepjlnljkbfjaaW.PrintLast Go.Proofs.YtdepjlnljkbfjaaW.PrintMore
attribute [local go_sem] max2_int min2_int
set_option linter.unusedVariables false
set_option linter.unusedSimpArgs false
set_option linter.unusedSectionVars false
/-- What the guards count. -/
def tot (zz : List (List Int)) : Nat → Nat
  | 0 => 0
  | i + 1 => tot zz i + 1 + (zz.getD i []).length
theorem flat_succ (zz : List (List Int)) (i : Nat) (h : i < zz.length) : (zz.take (i + 1)).flatten = (zz.take i).flatten ++ zz.getD i [] := by
  rw [List.take_add_one, List.flatten_append]
  simp [h]
theorem tot_flat (zz : List (List Int)) : ∀ i, i ≤ zz.length → tot zz i = i + (zz.take i).flatten.length
  | 0, _ => by simp [tot]
  | i + 1, h => by
    rw [tot, tot_flat zz i (by omega), flat_succ zz i (by omega), List.length_append]
    omega
theorem tot_mono (zz : List (List Int)) : ∀ i j, i ≤ j → tot zz i ≤ tot zz j := by
  intro i j h
  induction j with
  | zero => obtain rfl : i = 0 := by omega
            exact Nat.le_refl _
  | succ j ih =>
    rcases Nat.lt_or_ge j i with h2 | h2
    · obtain rfl : i = j + 1 := by omega
      exact Nat.le_refl _
    · have := ih h2
      simp only [tot]; omega
theorem row_at {w : World} {A : Option Addr} {zz : List (List Int)} (hC : Kd.C (Kd.slice 5 (Kd.int .u8)) w A zz.length zz) (i : Nat) (hi : i < zz.length) :
    ∃ a A' c', A = some a ∧ w.cell? (a.add i) = some (.slice A' (zz.getD i []).length c') ∧ (zz.getD i []).length ≤ c' ∧ Kd.C (Kd.int .u8) w A' (zz.getD i []).length (zz.getD i []) := by
  obtain ⟨ad, e, h⟩ := hC.2.2 (by omega)
  obtain ⟨cs, h1, ⟨A', c', rfl, h2, h3⟩, h4⟩ := h i zz[i] (List.getElem?_eq_getElem hi)
  have h5 := h4 0 _ rfl
  have e2 : zz.getD i [] = zz[i] := by simp [hi]
  rw [e2]
  exact ⟨ad, A', c', e, by simpa [Kd.slice] using h5, h2, h3⟩
theorem Dat.new {w : World} (t : Nat × Nat) : Dat (w.alloc (.cells #[] 5)) (.slice (some ⟨w.heap.size, 0, none⟩) 0 0) [] :=
  ⟨_, 0, rfl, Nat.le_refl _, Nat.zero_le _, .inr ⟨w.heap.size, #[], rfl, heap_alloc_new w _, by simp, .inl (by simp), by simp⟩⟩
theorem Dat.kept {w W : World} {v : Value} {xs : List Int} {T : Nat → Prop} (h : Dat w v xs) (hk : Kept w W T) (hn : ∀ k, v.ownBlock = some k → ¬ T k) : Dat W v xs := h.step (fun g hg => hk.2 g (h.lt hg) (hn g hg))
theorem own_new {g k n c : Nat} (h : (Value.slice (some ⟨g, 0, none⟩) n c).ownBlock = some k) : k = g := by
  have h : some g = some k := h
  injection h with h
  exact h.symm
theorem gate_op {P : Program} {ops : Array Oper} {rest : List Oper} {o : Oper} {a : Act} {w : World} {Q : Exit → Act → World → Prop} {op : Op} (_ho : o.op = op) (h : wpList P ops Q (o :: rest) a w) : wpList P ops Q (o :: rest) a w := h
theorem wpList_value_run {P : Program} {ops : Array Oper} {rest : List Oper} {o : Oper} {a : Act} {w w1 : World} {v : Value} {Q : Exit → Act → World → Prop} (hgd : o.guard = none) (hrun : (execOp a.eval o).run P w = .ok (.value v) w1)
    (h : wpList P ops Q rest (a.put o.dst v) w1) : wpList P ops Q (o :: rest) a w := by
  refine wpList_plain hgd fun K hK => ?_
  unfold Oper.wp
  rw [hrun]
  exact hK _ _ h
theorem cell_below {W W' : World} {p : Addr} {v : Value} (h : W.cell? p = some v) (hb : Below W.heap.size W W') : W'.cell? p = some v := by
  refine (hb.cell ?_).trans h
  rcases Nat.lt_or_ge p.block W.heap.size with h' | h'
  · exact h'
  · simp [World.cell?, Array.getElem?_eq_none h'] at h
theorem append_step {P : Program} {ops : Array Oper} {o : Oper} {N : Option Tmp} {a : Act} {w : World} {K : Act → World → Prop} {Q : Exit → Act → World → Prop} (hw : Region.wanted o (yielded ops a.tmps) = true) (s x : Operand) (t : TypeId)
    (ho : o.op = .call { callee := .builtin .append, args := #[s, x], argTypes := #[t, t] }) (v vx : Value) (hs : a.eval s = v) (hx : a.eval x = vx) (v' : Value) {w' : World} (hr : (Builtin.append_ #[t, t] o.type #[v, vx]).run P w = .ok v' w')
    (hN : o.dst = N) (h : K (a.put N v') w') : if Region.wanted o (yielded ops a.tmps) = true then Oper.wp P o a w K Q else K (a.put N undef) w := by
  rw [if_pos hw]
  subst hN
  unfold Oper.wp execOp
  simp only [ho, resolve, invoke, builtin, Sem.run_bind, Sem.run_pure, Result.andThen_ok, List.map_toArray, List.map_cons, List.map_nil, hs, hx, hr]
  exact h
section
variable {w w0 W W' : World} {d : Nat} {ok : Nat → Prop} {S : DV}
theorem DiskUp.quiet (h : DiskUp W w0 ok d S) (hb : Below W.heap.size W W') : DiskUp W' w0 ok d S :=
  h.kept (T := fun _ => False) ⟨hb.size, fun k hk _ => hb.block k hk⟩ (fun _ _ h => h) (h.below.trans (hb.mono h.below.size))
theorem bdrew {B : Nat} {a w : World} (h : Below B a w) : Below B a w.drew := h.trans ⟨rfl, rfl, rfl, Nat.le_refl _, fun _ _ => rfl⟩
theorem used2_calls (h : DiskUp W w0 ok d S) {U : Nat} (hU : U = total S.L) : Calls Try.prog 46 #[.pointer (some ⟨d, 0, none⟩)] W fun e w' => e = .returned (.int .i64 U) ∧ Below W.heap.size W w' := by
  subst hU
  exact used_calls h
theorem len_put (L : List (Key × (List Int × Nat))) (k : Key) (x : List Int × Nat) : (put L k x).length ≤ L.length + 1 := by
  rw [length_put]
  split <;> omega
theorem total_at {L : List (Key × (List Int × Nat))} {k : Key} {x : List Int × Nat} (h : at_ L k = some x) : x.1.length ≤ total L := by
  have hm := at_mem h
  clear h
  induction L with
  | nil => cases hm
  | cons p L ih =>
    simp only [total]
    rcases List.mem_cons.1 hm with rfl | hm
    · exact Nat.le_add_right _ _
    · have := ih hm; omega
theorem read_len (S : DV) (s : ByteArray) : (readV S s).1.length ≤ total S.L := by
  unfold readV
  cases h : at_ S.L s.data.toList with
  | none => simp
  | some x => exact total_at h
theorem DiskUp.rebase {w1 : World} (h : DiskUp W w1 ok d S) (hb : Below w0.heap.size w0 w1) : DiskUp W w0 ok d S := by
  obtain ⟨⟨m, F, h1, h2⟩, h3, h4⟩ := h
  exact ⟨⟨m, F, h1, fun b hb' => ⟨(h2 b hb').1, Nat.le_trans hb.size (h2 b hb').2⟩⟩, hb.trans (h3.mono hb.size), h4⟩
end
end Go.Proofs.Ytdepjlnljkbfjaa.Hand
