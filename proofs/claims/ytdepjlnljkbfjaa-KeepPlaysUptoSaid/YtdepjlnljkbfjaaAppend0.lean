/- Append. -/
import Derived.Test.YtdepjlnljkbfjaaJoin
import Derived.Test.YtdepjlnljkbfjaaDisk
namespace Go.Proofs.Ytdepjlnljkbfjaa.Hand
open Go.RowKit Go.Proofs.Ytdepjlnljkbfjaa.MapP Go.Proofs.YtdepjlnljkbfjaaW.PrintWords Go.Proofs.YtdepjlnljkbfjaaW.PrintLast Go.Proofs.YtdepjlnljkbfjaaW.PrintMore
attribute [local go_sem] max2_int min2_int
set_option linter.unusedVariables false
set_option linter.unusedSimpArgs false
set_option linter.unusedSectionVars false

/-- What Append answers and leaves. -/
def appendV (S : DV) (s : ByteArray) (xs : List Int) : Int × DV :=
  if mayV S.fused S.left [s] ≠ 0 then (mayV S.fused S.left [s], S)
  else if S.room - total S.L < xs.length ∨ (at_ S.L s.data.toList = none ∧ 4096 ≤ S.L.length) then (6, S)
  else (0, { S with left := doneL S.fused S.left, L := put S.L s.data.toList (((at_ S.L s.data.toList).getD ([], 0)).1 ++ xs, ((at_ S.L s.data.toList).getD ([], 0)).2) })
section
variable {w w0 W W' : World} {d m : Nat} {ok : Nat → Prop} {S S' : DV} {F : FL} {k : Key} {y : FV}
theorem IsDisk.drew (h : IsDisk W d m S F) : IsDisk W.drew d m S F := h.step (fun _ _ => rfl)
theorem IsDisk.belowed (h : IsDisk W d m S F) (hb : Below W.heap.size W W') : IsDisk W' d m S F := h.step (fun b hb' => hb.block b (h.lt b hb'))
theorem used_is (hi : IsDisk w d m S F) (hf : S.Fine) : Calls Try.prog 46 #[.pointer (some ⟨d, 0, none⟩)] w fun e w' => e = .returned (.int .i64 (total S.L)) ∧ Below w.heap.size w w' :=
  used_calls (w0 := { w with heap := #[] }) (ok := fun _ => True) ⟨⟨m, F, hi, fun b _ => ⟨trivial, by simp⟩⟩, ⟨rfl, rfl, rfl, by simp, fun k hk => by simp at hk⟩, hf⟩
theorem IsDisk.own_ne (h : IsDisk W d m S F) (hk : at_ F k = some y) : y.v.ownBlock ≠ some y.g := by
  intro e
  obtain ⟨F1, F2, e2, _⟩ := split_at h.once hk
  have hnd := h.nd
  have : foot d m F = d :: m :: (blocks F1 ++ (one y ++ blocks F2)) := by rw [e2]; simp [foot, blocks]
  rw [this] at hnd
  have h1 := (List.nodup_append.1 (List.nodup_append.1 (List.nodup_cons.1 (List.nodup_cons.1 hnd).2).2).2.1).1
  have h2 := (List.nodup_cons.1 h1).1
  rw [e] at h2
  simp at h2
theorem total_app : ∀ (l l' : List (Key × (List Int × Nat))), total (l ++ l') = total l + total l'
  | [], l' => by simp [total]
  | p :: l, l' => by simp only [List.cons_append, total]; rw [total_app l l']; omega
theorem total_mem {L : List (Key × (List Int × Nat))} {k : Key} {x : List Int × Nat} (h : at_ L k = some x) : x.1.length ≤ total L := by
  have hm := at_mem h
  clear h
  induction L with
  | nil => cases hm
  | cons p L ih =>
    rcases List.mem_cons.1 hm with rfl | hm
    · simp [total]
    · have := ih hm
      simp only [total]
      omega
theorem total_put {L : List (Key × (List Int × Nat))} (ho : Once L) (k : Key) (x : List Int × Nat) : total (put L k x) + ((at_ L k).getD ([], 0)).1.length = total L + x.1.length := by
  cases hk : at_ L k with
  | none => rw [put_new hk, total_app]; simp [total]
  | some x0 =>
    obtain ⟨F1, F2, e, hp, _⟩ := split_at ho hk
    rw [hp, e]
    simp only [total_app, total, Option.getD_some]
    omega
theorem mem_put {L : List (Key × (List Int × Nat))} {k : Key} {x : List Int × Nat} : ∀ p ∈ put L k x, p ∈ L ∨ p = (k, x) := by
  intro p hp
  unfold put at hp
  split at hp
  · obtain ⟨q, hq, rfl⟩ := List.mem_map.1 hp
    by_cases e : q.1 = k
    · right; simp [e]
    · left; simpa [e] using hq
  · rcases List.mem_append.1 hp with h | h
    · exact .inl h
    · exact .inr (List.mem_singleton.1 h)
theorem appendV_fine (hf : S.Fine) (s : ByteArray) (xs : List Int) : (appendV S s xs).2.Fine := by
  unfold appendV
  split
  · exact hf
  · rename_i hm
    split
    · exact hf
    · rename_i hn
      have hx := total_put hf.once s.data.toList (((at_ S.L s.data.toList).getD ([], 0)).1 ++ xs, ((at_ S.L s.data.toList).getD ([], 0)).2)
      simp only [List.length_append] at hx
      have hl : 0 ≤ doneL S.fused S.left := by
        unfold doneL
        have := hf.l0
        split
        · rename_i hfu
          by_cases h : 0 < S.left
          · omega
          · exfalso
            have h0 : S.left = 0 := by omega
            apply hm
            unfold mayV at *
            simp [hfu, h0] at hm
        · exact this
      refine ⟨hf.r0, hf.r1, ?_, ?_, ?_, ?_, hf.once.put, ?_⟩
      · exact hl
      · have := hf.l1
        simp only [doneL]
        split <;> omega
      · have := hf.used
        simp only
        omega
      · intro p hp
        rcases mem_put p hp with h | rfl
        · exact hf.lasts p h
        · simp only [List.length_append]
          cases hk : at_ S.L s.data.toList with
          | none => simp
          | some x0 =>
            have := hf.lasts _ (at_mem hk)
            simp only [Option.getD_some] at this ⊢
            omega
      · have := hf.many
        simp only [length_put]
        cases hk : at_ S.L s.data.toList with
        | none =>
          have : ¬ 4096 ≤ S.L.length := fun h => hn (.inr ⟨hk, h⟩)
          simp
          omega
        | some x0 => simpa using this
/-- A file grows. -/
theorem grown_is (hi : IsDisk W d m S F) (hk : at_ F k = some y) (A : Option Addr) (c : Nat) (xs : List Int) (hC : Kd.C (Kd.int .u8) W A xs.length xs) (hbig : y.x.1.length + xs.length ≤ 140737488355328) :
    ∃ (A5 : Option Addr) (n5 c5 : Nat) (W1 : World), (Builtin.append_ #[23, 23] 23 #[y.v, .slice A xs.length c]).run Try.prog W = .ok (.slice A5 n5 c5) W1 ∧ W1.frozen? ⟨y.g, 0, none⟩ = false ∧ W1.cell? ⟨y.g, 0, none⟩ = some y.v ∧ IsDisk (W1.setCell ⟨y.g, 0, none⟩ (.slice A5 n5 c5)) d m { S with L := put S.L k (y.x.1 ++ xs, y.x.2) } (put F k ⟨y.g, (.slice A5 n5 c5), (y.x.1 ++ xs, y.x.2)⟩) ∧
      (∀ b ∈ foot d m (put F k ⟨y.g, (.slice A5 n5 c5), (y.x.1 ++ xs, y.x.2)⟩), b ∈ foot d m F ∨ W.heap.size ≤ b) ∧ Kept W (W1.setCell ⟨y.g, 0, none⟩ (.slice A5 n5 c5)) (· ∈ foot d m F) ∧ ∀ B, Below B W W → (∀ b ∈ foot d m F, B ≤ b) → Below B W (W1.setCell ⟨y.g, 0, none⟩ (.slice A5 n5 c5)) := by
  have hfile := hi.file _ (at_mem hk)
  obtain ⟨v', W1, hrun, hdat, hg, hown⟩ := hfile.2.append 23 A xs.length c xs hC rfl hbig
  obtain ⟨A5, c5, hv5, _⟩ := hdat.slice
  subst hv5
  have hne := hi.own_ne hk
  have hb1 : W1.heap[y.g]? = some (.cells #[y.v, .int .i64 y.x.2] 75 (0, 0)) := blk_grown hfile.1 hg (fun e => hne e.symm)
  have hmem : ∀ b ∈ one y, b ∈ foot d m F := fun b hb => mem_foot_file (at_mem hk) hb
  have hlt := hi.lt y.g (hmem _ (by simp [one]))
  have hvne : (Value.slice A5 (y.x.1 ++ xs).length c5).ownBlock ≠ some y.g := by
    rcases hown with h | h
    · rw [h]; exact hne
    · intro e; have := h _ e; omega
  have hK : Kept W (W1.setCell ⟨y.g, 0, none⟩ (.slice A5 (y.x.1 ++ xs).length c5)) (· ∈ foot d m F) := (Kept.of_grown hg (Kept.refl W _) (fun b hb => .inl (hmem b (by simp [one, hb])))).setCell (p := ⟨y.g, 0, none⟩) (.inl (hmem _ (by simp [one]))) _
  have hch := hi.changed (W' := W1.setCell ⟨y.g, 0, none⟩ (.slice A5 (y.x.1 ++ xs).length c5)) (S' := { S with L := put S.L k (y.x.1 ++ xs, y.x.2) }) (y' := ⟨y.g, .slice A5 (y.x.1 ++ xs).length c5, (y.x.1 ++ xs, y.x.2)⟩) hk rfl ⟨blk_set hb1 0 (.slice A5 (y.x.1 ++ xs).length c5), hdat.step (fun b hb => Below.heap_setCell W1 ⟨y.g, 0, none⟩ (.slice A5 (y.x.1 ++ xs).length c5) b (fun e => hvne (by rw [hb, e])))⟩ ?_ hown rfl
  · exact ⟨A5, _, c5, W1, hrun, blk_frozen hb1 0, by rw [blk_cell hb1]; rfl, hch.1, hch.2, hK, fun B _ hB => (((Below.refl B W)).grown hg (Nat.le_of_lt (Nat.lt_of_le_of_lt (hB _ (hmem _ (by simp [one]))) hlt)) (fun b hb => hB b (hmem b (by simp [one, hb])))).setCell (p := ⟨y.g, 0, none⟩) (hB _ (hmem _ (by simp [one]))) _⟩
  · intro b hb hb2
    have h1 : b ≠ y.g := fun e => hb2 (by simp [one, e])
    have h2 : some b ≠ y.v.ownBlock := fun e => hb2 (by simp [one, ← e])
    exact (Below.heap_setCell W1 ⟨y.g, 0, none⟩ (.slice A5 (y.x.1 ++ xs).length c5) b h1).trans (hg.block b (hi.lt b hb) h2)
/-- An append whose run is known. -/
theorem wpList_append_run {P : Program} {ops : Array Oper} {rest : List Oper} {o : Oper} {a : Act} {w : World} {Q : Exit → Act → World → Prop} (hgd : o.guard = none) (s x : Operand) (t : TypeId)
    (ho : o.op = .call { callee := .builtin .append, args := #[s, x], argTypes := #[t, t] }) (v vx v' : Value) (w' : World) (hs : a.eval s = v) (hx : a.eval x = vx) (hr : (Builtin.append_ #[t, t] o.type #[v, vx]).run P w = .ok v' w')
    (h : wpList P ops Q rest (a.put o.dst v') w') : wpList P ops Q (o :: rest) a w := by
  refine wpList_plain hgd fun K hK => ?_
  unfold Oper.wp execOp
  simp only [ho, resolve, invoke, builtin, Sem.run_bind, Sem.run_pure, Result.andThen_ok, List.map_toArray, List.map_cons, List.map_nil, hs, hx, hr]
  exact hK _ _ h
theorem put_put {β : Type} {L : List (Key × β)} (ho : Once L) (k : Key) (a b : β) : put (put L k a) k b = put L k b := by
  cases hk : at_ L k with
  | none =>
    rw [put_new hk, put_new hk]
    have h1 : at_ (L ++ [(k, a)]) k = some a := by rw [at_append, hk, at_cons]; simp
    rw [put_old h1, List.map_append]
    have h2 : L.map (fun p => if p.1 == k then (p.1, b) else p) = L := by
      refine (List.map_congr_left fun p hp => ?_).trans (List.map_id' L)
      have := at_none hk p hp
      simp [this]
    rw [h2]
    simp
  | some x0 =>
    obtain ⟨F1, F2, e, hp, _⟩ := split_at ho hk
    have ho2 : Once (put L k a) := ho.put
    have hk2 : at_ (put L k a) k = some a := at_put_same
    rw [put_old hk2, put_old hk, put_old hk, List.map_map]
    refine List.map_congr_left fun p _ => ?_
    by_cases e : p.1 = k <;> simp [e]
/-- A new file. -/
theorem added_is (hi : IsDisk W d m S F) (hk : at_ F k = none) (s : ByteArray) (hs : s.data.toList = k) (hsz : s.size ≤ maxLen) (hl : S.L.length < 4096) :
    ∃ W1, (Instr.mapUpdate 66 (.map (some m)) (.string s) (.pointer (some ⟨W.heap.size, 0, none⟩))).run Try.prog (W.alloc (.cells #[.slice none 0 0, .int .i64 0] 75)) = .ok () W1 ∧
      IsDisk W1 d m { S with L := put S.L k ([], 0) } (put F k ⟨W.heap.size, .slice none 0 0, ([], 0)⟩) ∧
      (∀ b ∈ foot d m (put F k ⟨W.heap.size, .slice none 0 0, ([], 0)⟩), b ∈ foot d m F ∨ W.heap.size ≤ b) ∧ Kept W W1 (· ∈ foot d m F) ∧ ∀ B, B ≤ W.heap.size → B ≤ m → Below B W W1 := by
  subst hs
  have hm := hi.map.step (W' := W.alloc (.cells #[.slice none 0 0, .int .i64 0] 75)) (Below.heap_alloc _ _ _ hi.map.lt)
  obtain ⟨W1, hrun, hm1, ht⟩ := hm.store PT (by rw [gm, List.length_map]; have := congrArg List.length hi.val; rw [xm, List.length_map] at this; unfold maxLen; omega) s hsz W.heap.size
  have hg := ht.grown
  have hlt := hi.map.lt
  have hne : W.heap.size ≠ m := by omega
  have hn : W1.heap[W.heap.size]? = some (.cells #[.slice none 0 0, .int .i64 0] 75 (0, 0)) := blk_grown (heap_alloc_new W _) hg (fun e => hne (by injection e))
  have ha := hi.added (W' := W1) (S' := { S with L := put S.L s.data.toList ([], 0) }) (y := ⟨W.heap.size, .slice none 0 0, ([], 0)⟩) hk ⟨hn, Dat.nil W1⟩ hm1 (fun b hb hbm => ?_) (Nat.le_refl _) rfl rfl
  · exact ⟨W1, hrun, ha.1, ha.2, Kept.of_grown hg ((Kept.refl W _).alloc _) (fun b hb => .inl (by injection hb with hb; simp [foot, hb])), fun B h1 h2 => ((Below.refl B W).alloc h1 _).grown hg (by simp; omega) (fun b hb => by injection hb with hb; omega)⟩
  · exact (hg.block b (by have := hi.lt b hb; simp; omega) (fun e => hbm (by injection e))).trans (Below.heap_alloc _ _ _ (hi.lt b hb))
theorem tail_up {W4 W6 w6 : World} {S2 : DV} {F1 F2 : FL} (hkW : Kept w W4 ok) (hB4 : Below w0.heap.size w0 W4) (hsz : w0.heap.size ≤ w.heap.size) (hF4 : ∀ b ∈ foot d m F1, (ok b ∧ w0.heap.size ≤ b) ∨ w.heap.size ≤ b)
    (hi5 : IsDisk W6 d m S2 F2) (hF5 : ∀ b ∈ foot d m F2, b ∈ foot d m F1 ∨ W4.heap.size ≤ b) (hK5 : Kept W4 W6 (· ∈ foot d m F1)) (hB5 : ∀ B, Below B W4 W4 → (∀ b ∈ foot d m F1, B ≤ b) → Below B W4 W6)
    (hh : Head w6 d m S2.room S2.fused (doneL S2.fused S2.left)) (hk6 : Kept W6 w6 (fun k => k = d)) (hb6 : ∀ B, B ≤ d → Below B W6 w6) (hS : S' = { S2 with left := doneL S2.fused S2.left }) (hf : S'.Fine) :
    DiskUp w6 w0 (fun k => ok k ∨ w.heap.size ≤ k) d S' ∧ Kept w w6 ok := by
  subst hS
  have hd := hF4 d (by simp [foot])
  have hle : ∀ b ∈ foot d m F1, w0.heap.size ≤ b := fun b hb => (hF4 b hb).elim (·.2) (fun h => Nat.le_trans hsz h)
  have hi6 := hi5.headed (W' := w6) (S' := { S2 with left := doneL S2.fused S2.left }) hh (fun b hb hne => hk6.2 b (hi5.lt b hb) hne) rfl
  have hB6 : Below w0.heap.size w0 w6 := (hB4.trans (hB5 _ (Below.refl _ _) hle)).trans (hb6 _ (hle d (by simp [foot])))
  refine ⟨⟨⟨m, F2, hi6, fun b hb => ?_⟩, hB6, hf⟩, (hkW.then_ hK5 (fun b hb => (hF4 b hb).imp_left (·.1))).then_ hk6 (fun b hb => by rw [hb]; exact hd.imp_left (·.1))⟩
  rcases hF5 b hb with h | h
  · exact ⟨(hF4 b h).imp_left (·.1), hle b h⟩
  · have := hkW.1
    exact ⟨.inr (Nat.le_trans this h), Nat.le_trans hsz (Nat.le_trans this h)⟩
end
end Go.Proofs.Ytdepjlnljkbfjaa.Hand
