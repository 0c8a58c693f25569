/- A file's bytes in memory, and what append does to them. -/
import Derived.Test.YtdepjlnljkbfjaaProg
import Derived.Test.YtdepjlnljkbfjaaShelf
import Derived.Test.YtdepjlnljkbfjaaMapP
import Derived.Test.YtdepjlnljkbfjaaWKept
import Derived.Test.YtdepjlnljkbfjaaWLast
import Derived.Test.YtdepjlnljkbfjaaWMore
import Derived.ArgAppend
import Derived.Maps.AppendAt
import Derived.Laws.OwnMore
namespace Go.Proofs.Ytdepjlnljkbfjaa.Hand
open Go.RowKit Go.Proofs.Ytdepjlnljkbfjaa.MapP Go.Proofs.YtdepjlnljkbfjaaW.PrintWords Go.Proofs.YtdepjlnljkbfjaaW.PrintLast Go.Proofs.YtdepjlnljkbfjaaW.PrintMore
set_option linter.unusedVariables false
set_option linter.unusedSimpArgs false

theorem infoB : (Try.prog.info? 5).map (fun i => (i.zero, i.size, i.bytes)) = some (some (.int .u8 0), 1, 1) := by kernel_rfl
abbrev bts (xs : List Int) : List Value := xs.map (Value.int .u8)
/-- Bytes at the head of a block; behind them is either no room, or the block's own. -/
def Dat (W : World) (v : Value) (xs : List Int) : Prop :=
  ∃ A c, v = .slice A xs.length c ∧ xs.length ≤ c ∧ c ≤ maxLen ∧ ((A = none ∧ c = 0) ∨ ∃ g cur, A = some ⟨g, 0, none⟩ ∧ W.heap[g]? = some (.cells cur 5 (0, 0)) ∧ c ≤ cur.size ∧ (c = cur.size ∨ c = xs.length) ∧ cur.toList.take xs.length = bts xs)
section
variable {W W' : World} {v : Value} {xs : List Int}
theorem Dat.nil (W : World) : Dat W (.slice none 0 0) [] := ⟨none, 0, rfl, Nat.le_refl _, Nat.zero_le _, .inl ⟨rfl, rfl⟩⟩
theorem Dat.lt (h : Dat W v xs) {g : Nat} (hg : v.ownBlock = some g) : g < W.heap.size := by
  obtain ⟨A, c, rfl, _, _, h⟩ := h
  rcases h with ⟨rfl, _⟩ | ⟨g', cur, rfl, hb, _⟩
  · simp [Value.ownBlock] at hg
  · simp [Value.ownBlock] at hg
    subst hg
    exact blk_lt hb
theorem Dat.step (h : Dat W v xs) (hb : ∀ g, v.ownBlock = some g → W'.heap[g]? = W.heap[g]?) : Dat W' v xs := by
  obtain ⟨A, c, rfl, h1, h2, h⟩ := h
  refine ⟨A, c, rfl, h1, h2, ?_⟩
  rcases h with h | ⟨g, cur, rfl, hg, h3⟩
  · exact .inl h
  · exact .inr ⟨g, cur, rfl, (hb g rfl).trans hg, h3⟩
theorem Dat.of_own {base n : Nat} (h : W.ownsRow base 5 1 v n (bts xs)) : Dat W v xs := by
  have hn : xs.length = n := by have := h.1; simpa using this
  rcases h.2 with ⟨rfl, h0⟩ | ⟨g, cap, cur, rfl, _, hb, h1, h2, h3, h4⟩
  · obtain rfl := List.eq_nil_of_length_eq_zero (hn.trans h0)
    exact Dat.nil W
  · subst hn
    refine ⟨_, cap, rfl, h1, h2, .inr ⟨g, cur, rfl, hb, by omega, .inl (by omega), by simpa using h4⟩⟩
theorem Dat.own (h : Dat W v xs) (hf : ∀ A c, v = .slice A xs.length c → (A = none ∨ ∀ g cur, A = some ⟨g, 0, none⟩ → W.heap[g]? = some (.cells cur 5 (0, 0)) → c = cur.size)) : W.ownsRow 0 5 1 v xs.length (bts xs) := by
  obtain ⟨A, c, rfl, h1, h2, h⟩ := h
  refine ⟨by simp, ?_⟩
  rcases h with ⟨rfl, rfl⟩ | ⟨g, cur, rfl, hb, h3, h4, h5⟩
  · left
    have : xs.length = 0 := by omega
    rw [this]
    exact ⟨rfl, rfl⟩
  · right
    rcases hf _ _ rfl with h | h
    · cases h
    · exact ⟨g, c, cur, rfl, Nat.zero_le _, hb, h1, h2, by have := h g cur rfl hb; omega, by simpa using h5⟩
theorem Dat.cells (h : Dat W v xs) {A : Option Addr} {n c : Nat} (hv : v = .slice A n c) : n = xs.length ∧ n ≤ c ∧ (A = none → n = 0 ∧ c = 0) ∧ ∀ b, A = some b → ∀ j u, (bts xs)[j]? = some u → W.cell? (b.add j) = some u := by
  obtain ⟨A', c', e, h1, h2, h⟩ := h
  rw [hv] at e
  injection e with e1 e2 e3
  subst e1 e2 e3
  refine ⟨rfl, h1, ?_, ?_⟩
  · rintro rfl
    rcases h with ⟨_, rfl⟩ | ⟨g, cur, e, _⟩
    · exact ⟨by omega, rfl⟩
    · cases e
  · rintro b rfl j u hu
    rcases h with ⟨e, _⟩ | ⟨g, cur, e, hb, h3, h4, h5⟩
    · cases e
    · injection e with e
      subst e
      have hj : j < xs.length := by
        rcases Nat.lt_or_ge j xs.length with h | h
        · exact h
        · rw [List.getElem?_eq_none (by simpa using h)] at hu; cases hu
      rw [← h5, List.getElem?_take, if_pos hj] at hu
      have := blk_cell hb j
      rw [Addr.add_lit, Nat.zero_add, this]
      simpa using hu
theorem Dat.C (h : Dat W v xs) {A : Option Addr} {n c : Nat} (hv : v = .slice A n c) : Kd.C (Kd.int .u8) W A xs.length xs := by
  obtain ⟨h1, h2, h3, h4⟩ := h.cells hv
  have hm : xs.length ≤ 9223372036854775807 := by
    obtain ⟨A', c', _, h5, h6, _⟩ := h
    unfold maxLen at h6
    omega
  refine Kd.C_of_reads (d := (0 : Int)) (h1 := fun _ => rfl) ⟨rfl, hm, ?_⟩
  intro hp
  have hA : ∃ b, A = some b := by
    cases A with
    | none => have := (h3 rfl).1; omega
    | some b => exact ⟨b, rfl⟩
  obtain ⟨b, rfl⟩ := hA
  refine ⟨b, rfl, fun j hj => h4 b rfl j _ ?_⟩
  rw [List.getElem?_map, List.getElem?_eq_getElem hj]
  simp [hj]
theorem run_append_nothing (t ty e : TypeId) (i : TypeInfo) (ht : Try.prog.underlying t = some (.slice e)) (hi : Try.prog.info? e = some i) (A : Option Addr) (n cap c : Nat) (hn : n ≤ cap) :
    (Builtin.append_ #[t, t] ty #[.slice A n cap, .slice none 0 c]).run Try.prog W = .ok (.slice A n cap) W := by
  cases A <;> simp [Builtin.append_, run_underlying ht, sizeOf, typeInfo, hi, Builtin.lenOf, Builtin.firstCells, hn, storeCells]
set_option maxRecDepth 100000 in
/-- append onto a file's bytes. -/
theorem Dat.append (h : Dat W v xs) (ty : TypeId) (A : Option Addr) (m c : Nat) (news : List Int) (hr : Kd.C (Kd.int .u8) W A news.length news) (hm : news.length = m) (hbig : xs.length + m ≤ 140737488355328) :
    ∃ v' W', (Builtin.append_ #[23, 23] ty #[v, .slice A m c]).run Try.prog W = .ok v' W' ∧ Dat W' v' (xs ++ news) ∧ W.grownBy W' v.ownBlock ∧ (v'.ownBlock = v.ownBlock ∨ ∀ g, v'.ownBlock = some g → W.heap.size ≤ g) := by
  subst hm
  obtain ⟨i0, hi, hz0, hz1, hz2⟩ := info_parts infoB
  obtain ⟨A0, c0, rfl, h1, h2, hd⟩ := id h
  cases A with
  | none =>
    have h0 : news = [] := by
      rcases Nat.eq_zero_or_pos news.length with h | h
      · exact List.eq_nil_of_length_eq_zero h
      · obtain ⟨ad, e, _⟩ := hr.2.2 h
        cases e
    subst h0
    exact ⟨_, W, run_append_nothing 23 ty 5 i0 Try.underlying23 hi A0 _ _ c h1, by simpa using h, World.grownBy.refl W _, .inl rfl⟩
  | some a =>
    have hnews : ∀ j u, (bts news)[j]? = some u → W.cell? (a.add j) = some u := by
      intro j u hu
      have hj : j < news.length := by
        rcases Nat.lt_or_ge j news.length with h | h
        · exact h
        · rw [List.getElem?_eq_none (by simpa using h)] at hu; cases hu
      obtain ⟨ad, e, hc⟩ := Kd.at_int hr (j : Int) (by omega) (by omega)
      injection e with e
      subst e
      rw [List.getElem?_map, List.getElem?_eq_getElem hj] at hu
      simp only [Option.map_some, Option.some.injEq] at hu
      rw [← hu]
      simpa [rd, hj, List.getD_eq_getElem?_getD] using hc
    have h1c : ∀ u ∈ bts news, u.oneCell' = true := by
      intro u hu
      obtain ⟨x, _, rfl⟩ := List.mem_map.1 hu
      rfl
    by_cases hfull : A0 = none ∨ ∀ g cur, A0 = some ⟨g, 0, none⟩ → W.heap[g]? = some (.cells cur 5 (0, 0)) → c0 = cur.size
    · have ho := h.own (fun A c e => by
        injection e with e1 _ e3
        subst e1 e3
        exact hfull)
      obtain ⟨v', W', hrun, ho', hg, _, hat⟩ := run_append_own_at (P := Try.prog) W 0 23 ty 5 i0 (.int .u8 0) 1 1 Try.underlying23 hi hz0 hz1 hz2 rfl (by omega) _ _ _ ho a news.length c (bts news) (by simp) hnews h1c (by unfold maxLen; omega) (by omega) (Nat.zero_le _)
      refine ⟨v', W', hrun, ?_, hg, hat.imp_right (fun e g hg => by rw [e] at hg; injection hg with hg; omega)⟩
      rw [← List.map_append] at ho'
      exact Dat.of_own ho'
    · rcases hd with ⟨rfl, _⟩ | ⟨g, cur, rfl, hb, h3, h4, h5⟩
      · exact absurd (.inl rfl) hfull
      · have hne : c0 ≠ cur.size := fun e => hfull (.inr (fun g' cur' e1 e2 => by
          injection e1 with e1
          injection e1 with e1
          subst e1
          rw [hb] at e2
          injection e2 with e2
          injection e2 with e2
          rw [← e2]; exact e))
        have hc0 : c0 = xs.length := by omega
        rcases Nat.eq_zero_or_pos news.length with h0 | h0
        · have hn0 := List.eq_nil_of_length_eq_zero h0
          subst hn0
          have hrun := run_append_room_cells (P := Try.prog) W 23 ty 5 i0 Try.underlying23 hi g 0 xs.length c0 a 0 c [] (by simp) (by simp) (by simp) (by omega) (by simp) (by simp)
          refine ⟨_, _, hrun, by simpa [World.setCells] using h, by simpa [World.setCells] using World.grownBy.refl W _, .inl rfl⟩
        · obtain ⟨_, _, _, hcells⟩ := h.cells rfl
          obtain ⟨v', W', hrun, ho', hg⟩ := run_append_arg_grows (P := Try.prog) W 23 ty 5 i0 (.int .u8 0) 1 1 Try.underlying23 hi hz0 hz1 hz2 rfl (by omega) ⟨g, 0, none⟩ xs.length c0 (bts xs) (by simp) (hcells _ rfl) a news.length c (bts news) (by simp) hnews (by omega) (by unfold maxLen; omega) (by omega)
          rw [← List.map_append] at ho'
          refine ⟨v', W', hrun, Dat.of_own ho', ⟨hg.os, hg.tape, hg.output, hg.size, fun k hk _ => hg.block k hk (by simp)⟩, .inr ?_⟩
          intro gg hgg
          rcases ho'.2 with ⟨rfl, _⟩ | ⟨g2, cap, cur2, rfl, hge, _⟩
          · simp [Value.ownBlock] at hgg
          · simp [Value.ownBlock] at hgg
            omega
end
end Go.Proofs.Ytdepjlnljkbfjaa.Hand
