/- A file's bytes in memory, and what append does to them. -/
import Derived.Test.YtdepjlnljkbfjaaProg
import Derived.Test.YtdepjlnljkbfjaaShelf
import Derived.Test.YtdepjlnljkbfjaaMapP
import Derived.Test.YtdepjlnljkbfjaaWKept
import Derived.Test.YtdepjlnljkbfjaaWLast
import Derived.Test.YtdepjlnljkbfjaaWMore
import Derived.ArgAppend
import Derived.Maps.AppendAt
import Derived.Laws.OwnMore
import Derived.Deep.DeepMust
import Derived.Carry
namespace Go.Proofs.Ytdepjlnljkbfjaa.Hand
open Go.RowKit Go.Proofs.Ytdepjlnljkbfjaa.MapP Go.Proofs.YtdepjlnljkbfjaaW.PrintWords Go.Proofs.YtdepjlnljkbfjaaW.PrintLast Go.Proofs.YtdepjlnljkbfjaaW.PrintMore
set_option linter.unusedVariables false
set_option linter.unusedSimpArgs false

theorem infoB : (Try.prog.info? 5).map (fun i => (i.zero, i.size, i.bytes)) = some (some (.int .u8 0), 1, 1) := by kernel_rfl
abbrev bts (xs : List Int) : List Value := xs.map (Value.int .u8)
/-- Bytes at the head of a block; behind them is either no room, or the block's own. -/
def Dat (W : World) (v : Value) (xs : List Int) : Prop :=
  ∃ A c, v = .slice A xs.length c ∧ xs.length ≤ c ∧ c ≤ maxLen ∧ ((A = none ∧ c = 0) ∨ ∃ g cur, A = some ⟨g, 0, none⟩ ∧ W.heap[g]? = some (.cells cur 5 (0, 0)) ∧ c ≤ cur.size ∧ (c = cur.size ∨ c = xs.length) ∧ cur.toList.take xs.length = bts xs)
section
variable {W W' : World} {v : Value} {xs : List Int}
theorem Dat.nil (W : World) : Dat W (.slice none 0 0) [] := ⟨none, 0, rfl, Nat.le_refl _, Nat.zero_le _, .inl ⟨rfl, rfl⟩⟩
theorem Dat.lt (h : Dat W v xs) {g : Nat} (hg : v.ownBlock = some g) : g < W.heap.size := by
  obtain ⟨A, c, rfl, _, _, h⟩ := h
  rcases h with ⟨rfl, _⟩ | ⟨g', cur, rfl, hb, _⟩
  · simp [Value.ownBlock] at hg
  · simp [Value.ownBlock] at hg
    subst hg
    exact blk_lt hb
theorem Dat.step (h : Dat W v xs) (hb : ∀ g, v.ownBlock = some g → W'.heap[g]? = W.heap[g]?) : Dat W' v xs := by
  obtain ⟨A, c, rfl, h1, h2, h⟩ := h
  refine ⟨A, c, rfl, h1, h2, ?_⟩
  rcases h with h | ⟨g, cur, rfl, hg, h3⟩
  · exact .inl h
  · exact .inr ⟨g, cur, rfl, (hb g rfl).trans hg, h3⟩
theorem Dat.of_own {base n : Nat} (h : W.ownsRow base 5 1 v n (bts xs)) : Dat W v xs := by
  have hn : xs.length = n := by have := h.1; simpa using this
  rcases h.2 with ⟨rfl, h0⟩ | ⟨g, cap, cur, rfl, _, hb, h1, h2, h3, h4⟩
  · obtain rfl := List.eq_nil_of_length_eq_zero (hn.trans h0)
    exact Dat.nil W
  · subst hn
    refine ⟨_, cap, rfl, h1, h2, .inr ⟨g, cur, rfl, hb, by omega, .inl (by omega), by simpa using h4⟩⟩
theorem Dat.own (h : Dat W v xs) (hf : ∀ A c, v = .slice A xs.length c → (A = none ∨ ∀ g cur, A = some ⟨g, 0, none⟩ → W.heap[g]? = some (.cells cur 5 (0, 0)) → c = cur.size)) : W.ownsRow 0 5 1 v xs.length (bts xs) := by
  obtain ⟨A, c, rfl, h1, h2, h⟩ := h
  refine ⟨by simp, ?_⟩
  rcases h with ⟨rfl, rfl⟩ | ⟨g, cur, rfl, hb, h3, h4, h5⟩
  · left
    have : xs.length = 0 := by omega
    rw [this]
    exact ⟨rfl, rfl⟩
  · right
    rcases hf _ _ rfl with h | h
    · cases h
    · exact ⟨g, c, cur, rfl, Nat.zero_le _, hb, h1, h2, by have := h g cur rfl hb; omega, by simpa using h5⟩
theorem Dat.cells (h : Dat W v xs) {A : Option Addr} {n c : Nat} (hv : v = .slice A n c) : n = xs.length ∧ n ≤ c ∧ (A = none → n = 0 ∧ c = 0) ∧ ∀ b, A = some b → ∀ j u, (bts xs)[j]? = some u → W.cell? (b.add j) = some u := by
  obtain ⟨A', c', e, h1, h2, h⟩ := h
  rw [hv] at e
  injection e with e1 e2 e3
  subst e1 e2 e3
  refine ⟨rfl, h1, ?_, ?_⟩
  · rintro rfl
    rcases h with ⟨_, rfl⟩ | ⟨g, cur, e, _⟩
    · exact ⟨by omega, rfl⟩
    · cases e
  · rintro b rfl j u hu
    rcases h with ⟨e, _⟩ | ⟨g, cur, e, hb, h3, h4, h5⟩
    · cases e
    · injection e with e
      subst e
      have hj : j < xs.length := by
        rcases Nat.lt_or_ge j xs.length with h | h
        · exact h
        · rw [List.getElem?_eq_none (by simpa using h)] at hu; cases hu
      rw [← h5, List.getElem?_take, if_pos hj] at hu
      have := blk_cell hb j
      rw [Addr.add_lit, Nat.zero_add, this]
      simpa using hu
theorem Dat.C (h : Dat W v xs) {A : Option Addr} {n c : Nat} (hv : v = .slice A n c) : Kd.C (Kd.int .u8) W A xs.length xs := by
  obtain ⟨h1, h2, h3, h4⟩ := h.cells hv
  have hm : xs.length ≤ 9223372036854775807 := by
    obtain ⟨A', c', _, h5, h6, _⟩ := h
    unfold maxLen at h6
    omega
  refine Kd.C_of_reads (d := (0 : Int)) (h1 := fun _ => rfl) ⟨rfl, hm, ?_⟩
  intro hp
  have hA : ∃ b, A = some b := by
    cases A with
    | none => have := (h3 rfl).1; omega
    | some b => exact ⟨b, rfl⟩
  obtain ⟨b, rfl⟩ := hA
  refine ⟨b, rfl, fun j hj => h4 b rfl j _ ?_⟩
  rw [List.getElem?_map, List.getElem?_eq_getElem hj]
  simp [hj]
theorem run_append_nothing (t ty e : TypeId) (i : TypeInfo) (ht : Try.prog.underlying t = some (.slice e)) (hi : Try.prog.info? e = some i) (A : Option Addr) (n cap c : Nat) (hn : n ≤ cap) :
    (Builtin.append_ #[t, t] ty #[.slice A n cap, .slice none 0 c]).run Try.prog W = .ok (.slice A n cap) W := by
  cases A <;> simp [Builtin.append_, run_underlying ht, sizeOf, typeInfo, hi, Builtin.lenOf, Builtin.firstCells, hn, storeCells]
set_option maxRecDepth 100000 in
/-- append onto a file's bytes. -/
theorem Dat.append (h : Dat W v xs) (ty : TypeId) (A : Option Addr) (m c : Nat) (news : List Int) (hr : Kd.C (Kd.int .u8) W A news.length news) (hm : news.length = m) (hbig : xs.length + m ≤ 140737488355328) :
    ∃ v' W', (Builtin.append_ #[23, 23] ty #[v, .slice A m c]).run Try.prog W = .ok v' W' ∧ Dat W' v' (xs ++ news) ∧ W.grownBy W' v.ownBlock ∧ (v'.ownBlock = v.ownBlock ∨ ∀ g, v'.ownBlock = some g → W.heap.size ≤ g) := by
  subst hm
  obtain ⟨i0, hi, hz0, hz1, hz2⟩ := info_parts infoB
  obtain ⟨A0, c0, rfl, h1, h2, hd⟩ := id h
  cases A with
  | none =>
    have h0 : news = [] := by
      rcases Nat.eq_zero_or_pos news.length with h | h
      · exact List.eq_nil_of_length_eq_zero h
      · obtain ⟨ad, e, _⟩ := hr.2.2 h
        cases e
    subst h0
    exact ⟨_, W, run_append_nothing 23 ty 5 i0 Try.underlying23 hi A0 _ _ c h1, by simpa using h, World.grownBy.refl W _, .inl rfl⟩
  | some a =>
    have hnews : ∀ j u, (bts news)[j]? = some u → W.cell? (a.add j) = some u := by
      intro j u hu
      have hj : j < news.length := by
        rcases Nat.lt_or_ge j news.length with h | h
        · exact h
        · rw [List.getElem?_eq_none (by simpa using h)] at hu; cases hu
      obtain ⟨ad, e, hc⟩ := Kd.at_int hr (j : Int) (by omega) (by omega)
      injection e with e
      subst e
      rw [List.getElem?_map, List.getElem?_eq_getElem hj] at hu
      simp only [Option.map_some, Option.some.injEq] at hu
      rw [← hu]
      simpa [rd, hj, List.getD_eq_getElem?_getD] using hc
    have h1c : ∀ u ∈ bts news, u.oneCell' = true := by
      intro u hu
      obtain ⟨x, _, rfl⟩ := List.mem_map.1 hu
      rfl
    by_cases hfull : A0 = none ∨ ∀ g cur, A0 = some ⟨g, 0, none⟩ → W.heap[g]? = some (.cells cur 5 (0, 0)) → c0 = cur.size
    · have ho := h.own (fun A c e => by
        injection e with e1 _ e3
        subst e1 e3
        exact hfull)
      obtain ⟨v', W', hrun, ho', hg, _, hat⟩ := run_append_own_at (P := Try.prog) W 0 23 ty 5 i0 (.int .u8 0) 1 1 Try.underlying23 hi hz0 hz1 hz2 rfl (by omega) _ _ _ ho a news.length c (bts news) (by simp) hnews h1c (by unfold maxLen; omega) (by omega) (Nat.zero_le _)
      refine ⟨v', W', hrun, ?_, hg, hat.imp_right (fun e g hg => by rw [e] at hg; injection hg with hg; omega)⟩
      rw [← List.map_append] at ho'
      exact Dat.of_own ho'
    · rcases hd with ⟨rfl, _⟩ | ⟨g, cur, rfl, hb, h3, h4, h5⟩
      · exact absurd (.inl rfl) hfull
      · have hne : c0 ≠ cur.size := fun e => hfull (.inr (fun g' cur' e1 e2 => by
          injection e1 with e1
          injection e1 with e1
          subst e1
          rw [hb] at e2
          injection e2 with e2
          injection e2 with e2
          rw [← e2]; exact e))
        have hc0 : c0 = xs.length := by omega
        rcases Nat.eq_zero_or_pos news.length with h0 | h0
        · have hn0 := List.eq_nil_of_length_eq_zero h0
          subst hn0
          have hrun := run_append_room_cells (P := Try.prog) W 23 ty 5 i0 Try.underlying23 hi g 0 xs.length c0 a 0 c [] (by simp) (by simp) (by simp) (by omega) (by simp) (by simp)
          refine ⟨_, _, hrun, by simpa [World.setCells] using h, by simpa [World.setCells] using World.grownBy.refl W _, .inl rfl⟩
        · obtain ⟨_, _, _, hcells⟩ := h.cells rfl
          obtain ⟨v', W', hrun, ho', hg⟩ := run_append_arg_grows (P := Try.prog) W 23 ty 5 i0 (.int .u8 0) 1 1 Try.underlying23 hi hz0 hz1 hz2 rfl (by omega) ⟨g, 0, none⟩ xs.length c0 (bts xs) (by simp) (hcells _ rfl) a news.length c (bts news) (by simp) hnews (by omega) (by unfold maxLen; omega) (by omega)
          rw [← List.map_append] at ho'
          refine ⟨v', W', hrun, Dat.of_own ho', ⟨hg.os, hg.tape, hg.output, hg.size, fun k hk _ => hg.block k hk (by simp)⟩, .inr ?_⟩
          intro gg hgg
          rcases ho'.2 with ⟨rfl, _⟩ | ⟨g2, cap, cur2, rfl, hge, _⟩
          · simp [Value.ownBlock] at hgg
          · simp [Value.ownBlock] at hgg
            omega
end
end Go.Proofs.Ytdepjlnljkbfjaa.Hand

/- The disk in memory: its blocks, and what becomes of them. -/
namespace Go.Proofs.Ytdepjlnljkbfjaa.Hand
open Go.RowKit Go.Proofs.Ytdepjlnljkbfjaa.MapP Go.Proofs.YtdepjlnljkbfjaaW.PrintWords Go.Proofs.YtdepjlnljkbfjaaW.PrintLast Go.Proofs.YtdepjlnljkbfjaaW.PrintMore
set_option linter.unusedVariables false
set_option linter.unusedSimpArgs false
set_option linter.unusedSectionVars false

section
variable {β γ : Type} {fm : List (Key × β)} {k : Key} {y : β}
theorem at_map (f : β → γ) (fm : List (Key × β)) (k : Key) : at_ (fm.map fun p => (p.1, f p.2)) k = (at_ fm k).map f := by
  induction fm with
  | nil => rfl
  | cons p fm ih =>
    rw [List.map_cons, at_cons, at_cons, ih]
    split <;> rfl
theorem put_map (f : β → γ) (fm : List (Key × β)) (k : Key) (y : β) : put (fm.map fun p => (p.1, f p.2)) k (f y) = (put fm k y).map fun p => (p.1, f p.2) := by
  unfold put
  rw [at_map, Option.isSome_map]
  split
  · rw [List.map_map, List.map_map]
    refine List.map_congr_left fun p _ => ?_
    simp only [Function.comp]
    split <;> rfl
  · simp
theorem del_map (f : β → γ) (fm : List (Key × β)) (k : Key) : del (fm.map fun p => (p.1, f p.2)) k = (del fm k).map fun p => (p.1, f p.2) := by
  unfold del
  rw [List.filter_map]
  rfl
theorem put_new (h : at_ fm k = none) : put fm k y = fm ++ [(k, y)] := by unfold put; rw [h]; rfl
theorem put_old {y0 : β} (h : at_ fm k = some y0) : put fm k y = fm.map fun p => if p.1 == k then (p.1, y) else p := by unfold put; rw [h]; rfl
theorem split_at (ho : Once fm) (h : at_ fm k = some y) : ∃ F1 F2, fm = F1 ++ (k, y) :: F2 ∧ (∀ z, put fm k z = F1 ++ (k, z) :: F2) ∧ del fm k = F1 ++ F2 := by
  have h2 : ∃ F1 F2, fm = F1 ++ (k, y) :: F2 := List.append_of_mem (at_mem h)
  obtain ⟨F1, F2, e⟩ := h2
  have hn : ∀ p, p ∈ F1 ∨ p ∈ F2 → p.1 ≠ k := by
    unfold Once at ho
    rw [e, List.map_append, List.map_cons, List.nodup_append] at ho
    obtain ⟨a1, a2, a3⟩ := ho
    rintro p (hp | hp) e2
    · exact a3 p.1 (List.mem_map.2 ⟨p, hp, rfl⟩) k (by simp) e2
    · exact (List.nodup_cons.1 a2).1 (by rw [← e2]; exact List.mem_map.2 ⟨p, hp, rfl⟩)
  refine ⟨F1, F2, e, fun z => ?_, ?_⟩
  · rw [put_old h, e, List.map_append, List.map_cons]
    have e1 : ∀ l : List (Key × β), (∀ p ∈ l, p.1 ≠ k) → l.map (fun p => if p.1 == k then (p.1, z) else p) = l := fun l hl => by
      refine (List.map_congr_left fun p hp => ?_).trans (List.map_id' l)
      simp [hl p hp]
    rw [e1 F1 (fun p hp => hn p (.inl hp)), e1 F2 (fun p hp => hn p (.inr hp))]
    simp
  · unfold del
    rw [e, List.filter_append, List.filter_cons]
    have e1 : ∀ l : List (Key × β), (∀ p ∈ l, p.1 ≠ k) → l.filter (fun p => !(p.1 == k)) = l := fun l hl => by
      rw [List.filter_eq_self]
      intro p hp
      simpa using hl p hp
    rw [e1 F1 (fun p hp => hn p (.inl hp)), e1 F2 (fun p hp => hn p (.inr hp))]
    simp
end

/-- A file: its block, its bytes' slice, its bytes and how many last. -/
structure FV where
  g : Nat
  v : Value
  x : List Int × Nat
abbrev FL := List (Key × FV)
def one (y : FV) : List Nat := y.g :: y.v.ownBlock.toList
def blocks (F : FL) : List Nat := F.flatMap fun p => one p.2
def gm (F : FL) : List (Key × Nat) := F.map fun p => (p.1, p.2.g)
def xm (F : FL) : List (Key × (List Int × Nat)) := F.map fun p => (p.1, p.2.x)
def foot (d m : Nat) (F : FL) : List Nat := d :: m :: blocks F
/-- What a disk is. -/
structure DV where
  room : Int
  fused : Bool
  left : Int
  L : List (Key × (List Int × Nat))
def total : List (Key × (List Int × Nat)) → Nat
  | [] => 0
  | p :: l => p.2.1.length + total l
structure DV.Fine (S : DV) : Prop where
  r0 : 0 ≤ S.room
  r1 : S.room ≤ 1073741824
  l0 : 0 ≤ S.left
  l1 : S.left ≤ 9223372036854775807
  used : (total S.L : Int) ≤ S.room
  lasts : ∀ p ∈ S.L, p.2.2 ≤ p.2.1.length
  once : Once S.L
  many : S.L.length ≤ 4096
def Head (w : World) (d m : Nat) (room : Int) (fused : Bool) (left : Int) : Prop := w.heap[d]? = some (.cells #[.int .i64 room, .map (some m), .bool fused, .int .i64 left] 68 (0, 0))
def FileAt (W : World) (y : FV) : Prop := W.heap[y.g]? = some (.cells #[y.v, .int .i64 y.x.2] 75 (0, 0)) ∧ Dat W y.v y.x.1
structure IsDisk (W : World) (d m : Nat) (S : DV) (F : FL) : Prop where
  head : Head W d m S.room S.fused S.left
  map : HasMap Try.prog 9 W m (gm F)
  file : ∀ p ∈ F, FileAt W p.2
  nd : (foot d m F).Nodup
  val : S.L = xm F
section
variable {W W' w0 : World} {d m : Nat} {S S' : DV} {F : FL} {k : Key} {y y' : FV} {ok : Nat → Prop}
theorem FileAt.lt (h : FileAt W y) : ∀ b ∈ one y, b < W.heap.size := by
  intro b hb
  rcases List.mem_cons.1 hb with rfl | hb
  · exact blk_lt h.1
  · exact h.2.lt (by simpa using hb)
theorem FileAt.step (h : FileAt W y) (hs : ∀ b ∈ one y, W'.heap[b]? = W.heap[b]?) : FileAt W' y :=
  ⟨(hs _ (by simp [one])).trans h.1, h.2.step (fun g hg => hs g (by simp [one, hg]))⟩
theorem IsDisk.once (h : IsDisk W d m S F) : Once F := by
  have := h.map.once
  unfold Once gm at *
  rw [List.map_map] at this
  exact this
theorem mem_foot_file {p : Key × FV} (hp : p ∈ F) {b : Nat} (hb : b ∈ one p.2) : b ∈ foot d m F := by
  unfold foot blocks
  simp only [List.mem_cons, List.mem_flatMap]
  exact .inr (.inr ⟨p, hp, hb⟩)
theorem IsDisk.lt (h : IsDisk W d m S F) : ∀ b ∈ foot d m F, b < W.heap.size := by
  intro b hb
  unfold foot blocks at hb
  simp only [List.mem_cons, List.mem_flatMap] at hb
  rcases hb with rfl | rfl | ⟨p, hp, hb⟩
  · exact blk_lt h.head
  · exact h.map.lt
  · exact (h.file p hp).lt b hb
theorem IsDisk.step (h : IsDisk W d m S F) (hs : ∀ b ∈ foot d m F, W'.heap[b]? = W.heap[b]?) : IsDisk W' d m S F :=
  ⟨(hs d (by simp [foot])).trans h.head, h.map.step (hs m (by simp [foot])), fun p hp => (h.file p hp).step (fun b hb => hs b (mem_foot_file hp hb)), h.nd, h.val⟩
theorem IsDisk.ne (h : IsDisk W d m S F) : d ≠ m := by
  intro e
  have := (List.nodup_cons.1 h.nd).1
  simp [e] at this
theorem IsDisk.headed (h : IsDisk W d m S F) (hh : Head W' d m S'.room S'.fused S'.left) (hs : ∀ b ∈ foot d m F, b ≠ d → W'.heap[b]? = W.heap[b]?) (hL : S'.L = S.L) : IsDisk W' d m S' F := by
  have hd := (List.nodup_cons.1 h.nd).1
  refine ⟨hh, h.map.step (hs m (by simp [foot]) (fun e => hd (by simp [e]))), fun p hp => (h.file p hp).step (fun b hb => hs b (mem_foot_file hp hb) (fun e => hd ?_)), h.nd, hL.trans h.val⟩
  have := mem_foot_file (d := d) (m := m) hp hb
  rw [e] at this hb
  simp only [blocks, List.mem_cons, List.mem_flatMap]
  exact .inr ⟨p, hp, hb⟩
theorem IsDisk.at (h : IsDisk W d m S F) (k : Key) : at_ (gm F) k = (at_ F k).map (·.g) := at_map _ F k
theorem IsDisk.atL (h : IsDisk W d m S F) (k : Key) : at_ S.L k = (at_ F k).map (·.x) := by rw [h.val]; exact at_map _ F k
theorem IsDisk.changed (h : IsDisk W d m S F) (hk : at_ F k = some y) (hg : y'.g = y.g) (hf : FileAt W' y') (hs : ∀ b ∈ foot d m F, b ∉ one y → W'.heap[b]? = W.heap[b]?)
    (ho : y'.v.ownBlock = y.v.ownBlock ∨ ∀ b, y'.v.ownBlock = some b → W.heap.size ≤ b) (hL : S' = { S with L := put S.L k y'.x }) :
    IsDisk W' d m S' (put F k y') ∧ (∀ b ∈ foot d m (put F k y'), b ∈ foot d m F ∨ W.heap.size ≤ b) := by
  subst hL
  have hon := h.once
  obtain ⟨F1, F2, e, hput, _⟩ := split_at hon hk
  have hlt := h.lt
  have hnd := h.nd
  have hmem : (k, y) ∈ F := at_mem hk
  have hsub : ∀ b ∈ one y', b ∈ one y ∨ W.heap.size ≤ b := by
    intro b hb
    rcases List.mem_cons.1 hb with rfl | hb
    · left; rw [hg]; simp [one]
    · rcases ho with ho | ho
      · left; rw [ho] at hb; exact List.mem_cons_of_mem _ hb
      · right; exact ho b (by simpa using hb)
  have hfoot : foot d m F = d :: m :: (blocks F1 ++ (one y ++ blocks F2)) := by rw [e]; simp [foot, blocks]
  have hfoot' : foot d m (put F k y') = d :: m :: (blocks F1 ++ (one y' ++ blocks F2)) := by rw [hput]; simp [foot, blocks]
  rw [hfoot] at hnd hlt
  have hy' : (one y').Nodup := by
    unfold one
    rw [List.nodup_cons]
    refine ⟨fun hm => ?_, by cases y'.v.ownBlock <;> simp⟩
    have hb : y'.v.ownBlock = some y'.g := by simpa using hm
    rcases ho with ho | ho
    · have h1 : (one y).Nodup := by
        have := (List.nodup_cons.1 (List.nodup_cons.1 hnd).2).2
        exact (List.nodup_append.1 (List.nodup_append.1 this).2.1).1
      have := (List.nodup_cons.1 h1).1
      rw [← ho, ← hg] at this
      exact this hm
    · have h1 := ho _ hb
      rw [hg] at h1
      have := hlt y.g (by simp [one])
      omega
  have hnd' : (d :: m :: (blocks F1 ++ (one y' ++ blocks F2))).Nodup := by
    simp only [List.nodup_cons, List.mem_cons, List.mem_append, List.nodup_append, not_or] at hnd ⊢
    obtain ⟨⟨a1, a2, a3, a4⟩, ⟨a5, a6, a7⟩, a8, ⟨a9, a10, a11⟩, a12⟩ := hnd
    have hd0 := hlt d (by simp)
    have hm0 := hlt m (by simp)
    have hb1 : ∀ b ∈ blocks F1, b < W.heap.size := fun b hb => hlt b (by simp [hb])
    have hb2 : ∀ b ∈ blocks F2, b < W.heap.size := fun b hb => hlt b (by simp [hb])
    refine ⟨⟨a1, a2, fun hx => ?_, a4⟩, ⟨a5, fun hx => ?_, a7⟩, a8, ⟨hy', a10, fun b hb c hc e => ?_⟩, fun b hb c hc e => ?_⟩
    · rcases hsub _ hx with h | h
      · exact a3 h
      · omega
    · rcases hsub _ hx with h | h
      · exact a6 h
      · omega
    · rcases hsub _ hb with h | h
      · exact a11 b h c hc e
      · have := hb2 c hc; omega
    · rcases hc with hc | hc
      · rcases hsub _ hc with h | h
        · exact a12 b hb c (.inl h) e
        · have := hb1 b hb; omega
      · exact a12 b hb c (.inr hc) e
  have hne : ∀ b, b = d ∨ b = m ∨ b ∈ blocks F1 ∨ b ∈ blocks F2 → b ∉ one y := by
    simp only [List.nodup_cons, List.mem_cons, List.mem_append, List.nodup_append, not_or] at hnd
    obtain ⟨⟨a1, a2, a3, a4⟩, ⟨a5, a6, a7⟩, a8, ⟨a9, a10, a11⟩, a12⟩ := hnd
    rintro b (rfl | rfl | hb | hb) hy
    · exact a3 hy
    · exact a6 hy
    · exact a12 b hb b (.inl hy) rfl
    · exact a11 b hy b hb rfl
  refine ⟨⟨(hs d (by simp [foot]) (hne d (.inl rfl))).trans h.head, ?_, ?_, by rw [hfoot']; exact hnd', ?_⟩, ?_⟩
  · have h1 := h.map.step (hs m (by simp [foot]) (hne m (.inr (.inl rfl))))
    have e2 : gm (put F k y') = gm F := by
      rw [hput]
      exact (show gm (F1 ++ (k, y') :: F2) = gm (F1 ++ (k, y) :: F2) from by simp [gm, hg]).trans (congrArg gm e.symm)
    rw [e2]
    exact h1
  · intro p hp
    rw [hput] at hp
    rcases List.mem_append.1 hp with hp | hp
    · exact (h.file p (by rw [e]; simp [hp])).step (fun b hb => hs b (mem_foot_file (by rw [e]; simp [hp]) hb) (hne b (.inr (.inr (.inl (List.mem_flatMap.2 ⟨p, hp, hb⟩))))))
    · rcases List.mem_cons.1 hp with rfl | hp
      · exact hf
      · exact (h.file p (by rw [e]; simp [hp])).step (fun b hb => hs b (mem_foot_file (by rw [e]; simp [hp]) hb) (hne b (.inr (.inr (.inr (List.mem_flatMap.2 ⟨p, hp, hb⟩))))))
  · show put S.L k y'.x = _
    rw [h.val]
    exact put_map (fun y : FV => y.x) F k y'
  · intro b hb
    rw [hfoot'] at hb
    rw [hfoot]
    simp only [List.mem_cons, List.mem_append] at hb ⊢
    rcases hb with hb | hb | hb | hb | hb
    · exact .inl (.inl hb)
    · exact .inl (.inr (.inl hb))
    · exact .inl (.inr (.inr (.inl hb)))
    · rcases hsub _ hb with h | h
      · exact .inl (.inr (.inr (.inr (.inl h))))
      · exact .inr h
    · exact .inl (.inr (.inr (.inr (.inr hb))))
theorem IsDisk.added (h : IsDisk W d m S F) (hk : at_ F k = none) (hf : FileAt W' y) (hm : HasMap Try.prog 9 W' m (put (gm F) k y.g)) (hs : ∀ b ∈ foot d m F, b ≠ m → W'.heap[b]? = W.heap[b]?)
    (hg : W.heap.size ≤ y.g) (ho : y.v.ownBlock = none) (hL : S' = { S with L := put S.L k y.x }) :
    IsDisk W' d m S' (put F k y) ∧ (∀ b ∈ foot d m (put F k y), b ∈ foot d m F ∨ W.heap.size ≤ b) := by
  subst hL
  have hlt := h.lt
  have hnd := h.nd
  have hput : put F k y = F ++ [(k, y)] := put_new hk
  have hfoot' : foot d m (put F k y) = foot d m F ++ [y.g] := by rw [hput]; simp [foot, blocks, one, ho]
  have hm1 : ∀ b ∈ blocks F, b ≠ m := by
    simp only [foot, List.nodup_cons] at hnd
    intro b hb e
    exact hnd.2.1 (e ▸ hb)
  refine ⟨⟨(hs d (by simp [foot]) h.ne).trans h.head, ?_, ?_, ?_, ?_⟩, ?_⟩
  · have := put_map (fun y : FV => y.g) F k y
    unfold gm at hm ⊢
    rw [← this]
    exact hm
  · intro p hp
    rw [hput] at hp
    rcases List.mem_append.1 hp with hp | hp
    · exact (h.file p hp).step (fun b hb => hs b (mem_foot_file hp hb) (hm1 b (List.mem_flatMap.2 ⟨p, hp, hb⟩)))
    · rw [List.mem_singleton.1 hp]
      exact hf
  · rw [hfoot', List.nodup_append]
    refine ⟨hnd, by simp, fun b hb c hc e => ?_⟩
    have := hlt b hb
    have := List.mem_singleton.1 hc
    omega
  · show put S.L k y.x = _
    rw [h.val]
    exact put_map (fun y : FV => y.x) F k y
  · intro b hb
    rw [hfoot'] at hb
    rcases List.mem_append.1 hb with hb | hb
    · exact .inl hb
    · exact .inr (by rw [List.mem_singleton.1 hb]; exact hg)
/-- A disk whose blocks are ok; the world ahead of w0's end stands. -/
structure DiskUp (W w0 : World) (ok : Nat → Prop) (d : Nat) (S : DV) : Prop where
  is : ∃ m F, IsDisk W d m S F ∧ ∀ b ∈ foot d m F, ok b ∧ w0.heap.size ≤ b
  below : Below w0.heap.size w0 W
  fine : S.Fine
theorem DiskUp.mono (h : DiskUp W w0 ok d S) {ok' : Nat → Prop} (hm : ∀ k, ok k → ok' k) : DiskUp W w0 ok' d S := by
  obtain ⟨⟨m, F, h1, h2⟩, h3, h4⟩ := h
  exact ⟨⟨m, F, h1, fun b hb => ⟨hm b (h2 b hb).1, (h2 b hb).2⟩⟩, h3, h4⟩
theorem DiskUp.bound (h : DiskUp W w0 ok d S) : DiskUp W w0 (fun k => ok k ∧ w0.heap.size ≤ k ∧ k < W.heap.size) d S := by
  obtain ⟨⟨m, F, h1, h2⟩, h3, h4⟩ := h
  exact ⟨⟨m, F, h1, fun b hb => ⟨⟨(h2 b hb).1, (h2 b hb).2, h1.lt b hb⟩, (h2 b hb).2⟩⟩, h3, h4⟩
theorem DiskUp.kept (h : DiskUp W w0 ok d S) {T : Nat → Prop} (hk : Kept W W' T) (ha : ∀ k, ok k → ¬ T k) (hB : Below w0.heap.size w0 W') : DiskUp W' w0 ok d S := by
  obtain ⟨⟨m, F, h1, h2⟩, h3, h4⟩ := h
  exact ⟨⟨m, F, h1.step (fun b hb => hk.2 b (h1.lt b hb) (ha b (h2 b hb).1)), h2⟩, hB, h4⟩
theorem DiskUp.alloc (h : DiskUp W w0 ok d S) (o : Obj) : DiskUp (W.alloc o) w0 ok d S := h.kept ((Kept.refl W (fun _ => False)).alloc o) (fun _ _ h => h) (h.below.alloc h.below.size o)
theorem DiskUp.to (h : DiskUp W w0 ok d S) {T : Nat → Prop} {m : Nat} {F : FL} (hi : IsDisk W' d m S' F) (hf : ∀ b ∈ foot d m F, ok b ∧ w0.heap.size ≤ b ∨ W.heap.size ≤ b) (hB : Below w0.heap.size w0 W') (hF : S'.Fine) :
    DiskUp W' w0 (fun k => ok k ∨ W.heap.size ≤ k) d S' := by
  refine ⟨⟨m, F, hi, fun b hb => ?_⟩, hB, hF⟩
  rcases hf b hb with h1 | h1
  · exact ⟨.inl h1.1, h1.2⟩
  · exact ⟨.inr h1, Nat.le_trans h.below.size h1⟩
end
end Go.Proofs.Ytdepjlnljkbfjaa.Hand

/- The first contracts by hand: New, may, done, Used. -/
namespace Go.Proofs.Ytdepjlnljkbfjaa.Hand
open Go.RowKit Go.Proofs.Ytdepjlnljkbfjaa.MapP Go.Proofs.YtdepjlnljkbfjaaW.PrintWords Go.Proofs.YtdepjlnljkbfjaaW.PrintLast Go.Proofs.YtdepjlnljkbfjaaW.PrintMore
attribute [local go_sem] max2_int min2_int
set_option linter.unusedVariables false
set_option linter.unusedSimpArgs false
set_option linter.unusedSectionVars false

theorem PT : PM Try.prog 66 9 73 := ⟨Try.underlying9, Try.underlying66, Try.zeroValue73⟩
def badName (s : ByteArray) : Bool := decide (s.size < 1) || decide (64 < s.size)
/-- The errors ahead of all else. -/
def mayV (fused : Bool) (left : Int) (names : List ByteArray) : Int := if (fused && decide (left = 0)) = true then 9 else if names.any badName = true then 1 else 0
section
variable {w w0 : World} {d m : Nat} {room left : Int} {fused : Bool} {ok : Nat → Prop} {S : DV}
theorem Head.c0 (h : Head w d m room fused left) : w.cell? ⟨d, 0, none⟩ = some (.int .i64 room) := by rw [blk_cell h]; rfl
theorem Head.c1 (h : Head w d m room fused left) : w.cell? ⟨d, 1, none⟩ = some (.map (some m)) := by rw [blk_cell h]; rfl
theorem Head.c2 (h : Head w d m room fused left) : w.cell? ⟨d, 2, none⟩ = some (.bool fused) := by rw [blk_cell h]; rfl
theorem Head.c3 (h : Head w d m room fused left) : w.cell? ⟨d, 3, none⟩ = some (.int .i64 left) := by rw [blk_cell h]; rfl
theorem Head.fz (h : Head w d m room fused left) (i : Nat) : w.frozen? ⟨d, i, none⟩ = false := blk_frozen h i
theorem may_nil (v : Value) (w : World) : Calls Try.prog 44 #[.pointer none, v] w fun e w' => e = .returned (.int .i64 1) ∧ w' = w := by
  go_enter Try.func44, Try.ntmps44
  go_wp2
  go_ret
  exact ⟨rfl, rfl⟩
theorem may_dead (h : Head w d m room true 0) (v : Value) : Calls Try.prog 44 #[.pointer (some ⟨d, 0, none⟩), v] w fun e w' => e = .returned (.int .i64 9) ∧ w' = w := by
  have h0 := h.c2
  have h1 := h.c3
  go_enter Try.func44, Try.ntmps44
  go_wp2
  go_ret
  exact ⟨rfl, rfl⟩
theorem any_bad (names : List ByteArray) (i : Nat) (s : ByteArray) (hs : names[i]? = some s) (hb : badName s = true) : names.any badName = true := by
  rw [List.any_eq_true]
  exact ⟨s, List.mem_of_getElem? hs, hb⟩
theorem may_live (r : Int) (names : List ByteArray) (h : Head w d m room fused left) (hr : r = if names.any badName = true then 1 else 0) (hl : fused = true → left ≠ 0) (a : Addr) (c : Nat) (hc : names.length ≤ 4611686018427387904) (hn : ∀ (j : Nat) (s : ByteArray), names[j]? = some s → w.cell? (a.add j) = some (.string s) ∧ s.size ≤ maxLen) :
    Calls Try.prog 44 #[.pointer (some ⟨d, 0, none⟩), .slice (some a) names.length c] w fun e w' => e = .returned (.int .i64 r) ∧ w' = w := by
  have HR := Aside0.mk hr
  clear hr
  have h0 := h.c2
  have h1 := h.c3
  have HN := Aside0.mk hn
  have HH := Aside0.mk h
  clear hn h
  go_enter Try.func44, Try.ntmps44
  cases fused
  case' true => have hl := hl rfl
  all_goals
    go_wp2
    go_loopw [24] (fun s24 wr => ∃ (i : Nat), i ≤ names.length ∧ s24 = .int .i64 i ∧ wr = w ∧ Aside0 (∀ j : Nat, j < i → ∀ s, names[j]? = some s → badName s = false)) (fun s _ => names.length - (intOf s).toNat)
    case atStart => exact ⟨0, Nat.zero_le _, rfl, rfl, ⟨fun j hj => by omega⟩⟩
    case round =>
      obtain ⟨i, hi, rfl, rfl, HI⟩ := hrel
      by_cases hlt : i < names.length
      · obtain ⟨s, hs⟩ : ∃ s, names[i]? = some s := ⟨_, List.getElem?_eq_getElem hlt⟩
        obtain ⟨hcell, hsz⟩ := HN.out i s hs
        have HS := Aside0.mk hs
        clear hs
        by_cases hs1 : s.size < 1
        · go_wp2
          go_ret
          rw [any_bad names i s HS.out (by unfold badName; rw [decide_eq_true hs1]; rfl)] at HR; exact ⟨by rw [HR.out]; rfl, rfl⟩
        · by_cases hs2 : 64 < s.size
          · go_wp2
            go_ret
            rw [any_bad names i s HS.out (by unfold badName; rw [decide_eq_true hs2, decide_eq_false hs1]; rfl)] at HR; exact ⟨by rw [HR.out]; rfl, rfl⟩
          · go_wp2
            go_roundw
            case measure => simp [intOf]; omega
            case rel =>
              refine ⟨i + 1, by omega, by go_num, by first | rfl | trivial, ⟨fun j hj s' hs' => ?_⟩⟩
              by_cases e : j = i
              · subst e
                rw [HS.out] at hs'
                injection hs' with hs'
                subst hs'
                show (decide (s.size < 1) || decide (64 < s.size)) = false
                rw [decide_eq_false hs1, decide_eq_false hs2]; rfl
              · exact HI.out j (by omega) s' hs'
      · have hb : names.any badName = false := by
          rw [List.any_eq_false]
          intro s hs
          obtain ⟨j, hj⟩ := List.mem_iff_getElem?.1 hs
          rw [HI.out j (by have := (List.getElem?_eq_some_iff.1 hj).1; omega) s hj]
          simp
        have HB := Aside0.mk hb
        clear hb
        go_wp2
        go_ret
        exact ⟨by rw [HR.out, HB.out]; rfl, rfl⟩
theorem may_calls (h : Head w d m room fused left) (a : Addr) (names : List ByteArray) (c : Nat) (hc : names.length ≤ 4611686018427387904) (hn : ∀ (j : Nat) (s : ByteArray), names[j]? = some s → w.cell? (a.add j) = some (.string s) ∧ s.size ≤ maxLen) :
    Calls Try.prog 44 #[.pointer (some ⟨d, 0, none⟩), .slice (some a) names.length c] w fun e w' => e = .returned (.int .i64 (mayV fused left names)) ∧ w' = w := by
  by_cases hd : (fused && decide (left = 0)) = true
  · have e : mayV fused left names = 9 := by unfold mayV; rw [if_pos hd]
    rw [e]
    simp at hd
    obtain ⟨rfl, rfl⟩ := hd
    exact may_dead h _
  · have e : mayV fused left names = if names.any badName = true then 1 else 0 := by unfold mayV; rw [if_neg hd]
    rw [e]
    exact may_live _ names h rfl (fun e1 e2 => hd (by simp [e1, e2])) a c hc hn
def doneL (fused : Bool) (left : Int) : Int := if fused = true then left - 1 else left
theorem done_calls (h : Head w d m room fused left) (hl : 0 ≤ left) (hl2 : left ≤ 9223372036854775807) :
    Calls Try.prog 47 #[.pointer (some ⟨d, 0, none⟩)] w fun e w' => e = .returned (.int .i64 0) ∧ Head w' d m room fused (doneL fused left) ∧ Kept w w' (fun k => k = d) ∧ (∀ B, B ≤ d → Below B w w') := by
  have h0 := h.c2
  have h1 := h.c3
  have f1 := h.fz 3
  go_enter Try.func47, Try.ntmps47
  cases fused
  · go_wp2
    go_ret
    exact ⟨rfl, h, Kept.refl _ _, fun B hB => Below.refl _ _⟩
  · go_wp2
    go_ret
    refine ⟨rfl, ?_, (Kept.refl w (fun k => k = d)).setCell (p := ⟨d, 3, none⟩) (.inl rfl) _, fun B hB => (Below.refl _ _).setCell (p := ⟨d, 3, none⟩) hB _⟩
    have := blk_set h 3 (.int .i64 (left - 1))
    exact this
theorem new_calls (room : Int) (w : World) (h0 : 0 ≤ room) (h1 : room ≤ 1073741824) :
    Calls Try.prog 9 #[.int .i64 room] w fun e w' => e = .returned (.tuple #[.pointer (some ⟨w.heap.size + 1, 0, none⟩), .int .i64 0]) ∧ DiskUp w' w (fun k => w.heap.size ≤ k) (w.heap.size + 1) ⟨room, false, 0, []⟩ := by
  have hmm := @run_makeMap Try.prog
  go_enter Try.func9, Try.ntmps9
  go_wp2
  go_ret2
  refine ⟨rfl, ⟨w.heap.size, [], ⟨?_, ?_, fun p hp => (by cases hp), ?_, rfl⟩, ?_⟩, ?_, ?_⟩
  · have := heap_alloc_new (w.alloc (.map #[] 0)) (.cells #[.int .i64 room, .map (some w.heap.size), .bool false, .int .i64 0] 68)
    have e : (w.alloc (.map #[] 0)).heap.size = w.heap.size + 1 := by simp
    rw [e] at this
    exact this
  · exact (HasMap.made Try.prog 9 w).step (Below.heap_alloc _ _ _ (by simp))
  · simp [foot, blocks]
  · intro b hb
    simp [foot, blocks] at hb
    rcases hb with rfl | rfl <;> simp
  · exact ((Below.refl _ _).alloc (Nat.le_refl _) _).alloc (by simp) _
  · exact ⟨h0, h1, by simp, by simp, by simpa [total] using h0, fun p hp => (by cases hp), List.nodup_nil, by simp⟩
/-- How many bytes a file has. -/
def lenAt (F : FL) (p : Key × Nat) : Nat := match at_ F p.1 with
  | some y => y.x.1.length
  | none => 0
def sumOf (F : FL) (l : List (Key × Nat)) : Nat := (l.map (lenAt F)).sum
theorem sumOf_perm (F : FL) {l l' : List (Key × Nat)} (h : l.Perm l') : sumOf F l = sumOf F l' := (h.map _).sum_nat
theorem sumOf_all (F : FL) (ho : Once F) : sumOf F (gm F) = total (xm F) := by
  have : ∀ l : FL, (∀ p ∈ l, at_ F p.1 = some p.2) → sumOf F (gm l) = total (xm l) := by
    intro l
    induction l with
    | nil => intro _; rfl
    | cons p l ih =>
      intro h
      have h1 := h p (by simp)
      have h2 := ih (fun q hq => h q (by simp [hq]))
      simp only [sumOf, gm, xm, List.map_cons, List.sum_cons, total] at h2 ⊢
      rw [h2]
      congr 1
      unfold lenAt
      rw [h1]
  exact this F (fun p hp => ho.at_of_mem hp)
theorem used_nil (w : World) : Calls Try.prog 46 #[.pointer none] w fun e w' => e = .returned (.int .i64 0) ∧ w' = w := by
  go_enter Try.func46, Try.ntmps46
  go_wp2
  go_ret
  exact ⟨rfl, rfl⟩
theorem sumOf_cons (F : FL) (p : Key × Nat) (l : List (Key × Nat)) : sumOf F (p :: l) = lenAt F p + sumOf F l := by simp [sumOf]
theorem Dat.slice {W : World} {v : Value} {xs : List Int} (h : Dat W v xs) : ∃ A c, v = .slice A xs.length c ∧ xs.length ≤ c := by
  obtain ⟨A, c, h1, h2, _⟩ := h
  exact ⟨A, c, h1, h2⟩
theorem FileAt.c0 {W : World} {y : FV} (h : FileAt W y) : W.cell? ⟨y.g, 0, none⟩ = some y.v := by rw [blk_cell h.1]; rfl
theorem FileAt.c1 {W : World} {y : FV} (h : FileAt W y) : W.cell? ⟨y.g, 1, none⟩ = some (.int .i64 y.x.2) := by rw [blk_cell h.1]; rfl
end
end Go.Proofs.Ytdepjlnljkbfjaa.Hand

/- Used: how many bytes there are. -/
namespace Go.Proofs.Ytdepjlnljkbfjaa.Hand
open Go.RowKit Go.Proofs.Ytdepjlnljkbfjaa.MapP Go.Proofs.YtdepjlnljkbfjaaW.PrintWords Go.Proofs.YtdepjlnljkbfjaaW.PrintLast Go.Proofs.YtdepjlnljkbfjaaW.PrintMore
attribute [local go_sem] max2_int min2_int
set_option linter.unusedVariables false
set_option linter.unusedSimpArgs false
set_option linter.unusedSectionVars false

section
variable {w w0 : World} {d m : Nat} {ok : Nat → Prop} {S : DV}
theorem used_calls (h : DiskUp w w0 ok d S) : Calls Try.prog 46 #[.pointer (some ⟨d, 0, none⟩)] w fun e w' => e = .returned (.int .i64 (total S.L)) ∧ Below w.heap.size w w' := by
  obtain ⟨⟨m, F, hi, _⟩, _, hf⟩ := h
  have hm1 := hi.head.c1
  have htot : total S.L ≤ 1073741824 := by have := hf.used; have := hf.r1; omega
  have hsum : sumOf F (gm F) = total S.L := by rw [hi.val]; exact sumOf_all F hi.once
  obtain ⟨w1, hrun, hrg, hg1, hs1⟩ := hi.map.range PT
  have HI := Aside0.mk hi
  have HB1 := Aside0.mk ((Below.refl w.heap.size w).grown hg1 (Nat.le_refl _) (fun k hk => by cases hk))
  have HRG := Aside0.mk hrg
  have HSUM := Aside0.mk hsum
  clear hi hf hrg hsum hg1
  go_enter Try.func46, Try.ntmps46
  go_wp2
  go_loopg [3] (gm F).length (fun gk s3 wr => ∃ (todo : List (Key × Nat)) (cnt acc : Nat), cnt ≤ gk ∧ s3 = .int .i64 acc ∧ Aside0 (Ranges Try.prog 9 wr m w.heap.size (gm F) todo cnt) ∧ Aside0 (acc + sumOf F todo = total S.L) ∧ Aside0 (Below w.heap.size w wr))
  case atStart => exact ⟨gm F, _, 0, Nat.le_refl _, rfl, HRG, ⟨by rw [HSUM.out, Nat.zero_add]⟩, HB1⟩
  case round =>
    obtain ⟨todo, cnt, acc, hgk, rfl, HRG, HS, HB⟩ := hrel
    rcases HRG.out.next PT 0 with ⟨h0, hnil, hnext⟩ | ⟨s, g, todo', w2, cnt', hsz, hat, hperm, hr2, hlt, hg2, hs2, hnext, hent⟩
    · have HS2 := HS.out
      subst hnil
      simp only [sumOf, List.map_nil, List.sum_nil, Nat.add_zero] at HS2
      subst HS2
      go_wp2
      go_ret
      exact ⟨rfl, HB.out⟩
    · obtain ⟨gk, rfl⟩ : ∃ q, gk = q + 1 := ⟨gk - 1, by omega⟩
      have hg : (at_ F s.data.toList).map (·.g) = some g := by rw [← HI.out.at]; exact hat
      obtain ⟨y, hy, rfl⟩ := Option.map_eq_some_iff.1 hg
      have hB2 : Below w.heap.size w w2 := HB.out.grown hg2 HB.out.size (fun k hk => by injection hk with hk; omega)
      have hfile := (HI.out.file _ (at_mem hy)).step (W' := w2) (fun b hb => hB2.block b ((HI.out.file _ (at_mem hy)).lt b hb))
      have hc0 := hfile.c0
      obtain ⟨Ay, cy, hyv, _⟩ := hfile.2.slice
      rw [hyv] at hc0
      have hlen : lenAt F (s.data.toList, y.g) = y.x.1.length := by simp only [lenAt]; rw [hy]
      have hsum : acc + y.x.1.length + sumOf F todo' = total S.L := by
        have := HS.out
        rw [sumOf_perm F hperm, sumOf_cons, hlen] at this
        omega
      have hacc : acc + y.x.1.length ≤ 1073741824 := by omega
      have HB2 := Aside0.mk hB2
      have HR2 := Aside0.mk hr2
      have HSUM2 := Aside0.mk hsum
      clear hfile hlen hsum hB2 hr2 hg2 hperm HS HB HRG hg hat hy
      go_wp2
      go_roundg gk
      case measure => omega
      case rel => exact ⟨todo', cnt', acc + y.x.1.length, by omega, by go_num, HR2, HSUM2, HB2⟩
end
end Go.Proofs.Ytdepjlnljkbfjaa.Hand
