/- The disk in memory: its blocks, and what becomes of them. -/
import Derived.Test.YtdepjlnljkbfjaaDat
namespace Go.Proofs.Ytdepjlnljkbfjaa.Hand
open Go.RowKit Go.Proofs.Ytdepjlnljkbfjaa.MapP Go.Proofs.YtdepjlnljkbfjaaW.PrintWords Go.Proofs.YtdepjlnljkbfjaaW.PrintLast Go.Proofs.YtdepjlnljkbfjaaW.PrintMore
set_option linter.unusedVariables false
set_option linter.unusedSimpArgs false
set_option linter.unusedSectionVars false

section
variable {β γ : Type} {fm : List (Key × β)} {k : Key} {y : β}
theorem at_map (f : β → γ) (fm : List (Key × β)) (k : Key) : at_ (fm.map fun p => (p.1, f p.2)) k = (at_ fm k).map f := by
  induction fm with
  | nil => rfl
  | cons p fm ih =>
    rw [List.map_cons, at_cons, at_cons, ih]
    split <;> rfl
theorem put_map (f : β → γ) (fm : List (Key × β)) (k : Key) (y : β) : put (fm.map fun p => (p.1, f p.2)) k (f y) = (put fm k y).map fun p => (p.1, f p.2) := by
  unfold put
  rw [at_map, Option.isSome_map]
  split
  · rw [List.map_map, List.map_map]
    refine List.map_congr_left fun p _ => ?_
    simp only [Function.comp]
    split <;> rfl
  · simp
theorem del_map (f : β → γ) (fm : List (Key × β)) (k : Key) : del (fm.map fun p => (p.1, f p.2)) k = (del fm k).map fun p => (p.1, f p.2) := by
  unfold del
  rw [List.filter_map]
  rfl
theorem put_new (h : at_ fm k = none) : put fm k y = fm ++ [(k, y)] := by unfold put; rw [h]; rfl
theorem put_old {y0 : β} (h : at_ fm k = some y0) : put fm k y = fm.map fun p => if p.1 == k then (p.1, y) else p := by unfold put; rw [h]; rfl
theorem split_at (ho : Once fm) (h : at_ fm k = some y) : ∃ F1 F2, fm = F1 ++ (k, y) :: F2 ∧ (∀ z, put fm k z = F1 ++ (k, z) :: F2) ∧ del fm k = F1 ++ F2 := by
  have h2 : ∃ F1 F2, fm = F1 ++ (k, y) :: F2 := List.append_of_mem (at_mem h)
  obtain ⟨F1, F2, e⟩ := h2
  have hn : ∀ p, p ∈ F1 ∨ p ∈ F2 → p.1 ≠ k := by
    unfold Once at ho
    rw [e, List.map_append, List.map_cons, List.nodup_append] at ho
    obtain ⟨a1, a2, a3⟩ := ho
    rintro p (hp | hp) e2
    · exact a3 p.1 (List.mem_map.2 ⟨p, hp, rfl⟩) k (by simp) e2
    · exact (List.nodup_cons.1 a2).1 (by rw [← e2]; exact List.mem_map.2 ⟨p, hp, rfl⟩)
  refine ⟨F1, F2, e, fun z => ?_, ?_⟩
  · rw [put_old h, e, List.map_append, List.map_cons]
    have e1 : ∀ l : List (Key × β), (∀ p ∈ l, p.1 ≠ k) → l.map (fun p => if p.1 == k then (p.1, z) else p) = l := fun l hl => by
      refine (List.map_congr_left fun p hp => ?_).trans (List.map_id' l)
      simp [hl p hp]
    rw [e1 F1 (fun p hp => hn p (.inl hp)), e1 F2 (fun p hp => hn p (.inr hp))]
    simp
  · unfold del
    rw [e, List.filter_append, List.filter_cons]
    have e1 : ∀ l : List (Key × β), (∀ p ∈ l, p.1 ≠ k) → l.filter (fun p => !(p.1 == k)) = l := fun l hl => by
      rw [List.filter_eq_self]
      intro p hp
      simpa using hl p hp
    rw [e1 F1 (fun p hp => hn p (.inl hp)), e1 F2 (fun p hp => hn p (.inr hp))]
    simp
end

/-- A file: its block, its bytes' slice, its bytes and how many last. -/
structure FV where
  g : Nat
  v : Value
  x : List Int × Nat
abbrev FL := List (Key × FV)
def one (y : FV) : List Nat := y.g :: y.v.ownBlock.toList
def blocks (F : FL) : List Nat := F.flatMap fun p => one p.2
def gm (F : FL) : List (Key × Nat) := F.map fun p => (p.1, p.2.g)
def xm (F : FL) : List (Key × (List Int × Nat)) := F.map fun p => (p.1, p.2.x)
def foot (d m : Nat) (F : FL) : List Nat := d :: m :: blocks F
/-- What a disk is. -/
structure DV where
  room : Int
  fused : Bool
  left : Int
  L : List (Key × (List Int × Nat))
def total : List (Key × (List Int × Nat)) → Nat
  | [] => 0
  | p :: l => p.2.1.length + total l
structure DV.Fine (S : DV) : Prop where
  r0 : 0 ≤ S.room
  r1 : S.room ≤ 1073741824
  l0 : 0 ≤ S.left
  l1 : S.left ≤ 9223372036854775807
  used : (total S.L : Int) ≤ S.room
  lasts : ∀ p ∈ S.L, p.2.2 ≤ p.2.1.length
  once : Once S.L
  many : S.L.length ≤ 4096
def Head (w : World) (d m : Nat) (room : Int) (fused : Bool) (left : Int) : Prop := w.heap[d]? = some (.cells #[.int .i64 room, .map (some m), .bool fused, .int .i64 left] 68 (0, 0))
def FileAt (W : World) (y : FV) : Prop := W.heap[y.g]? = some (.cells #[y.v, .int .i64 y.x.2] 75 (0, 0)) ∧ Dat W y.v y.x.1
structure IsDisk (W : World) (d m : Nat) (S : DV) (F : FL) : Prop where
  head : Head W d m S.room S.fused S.left
  map : HasMap Try.prog 9 W m (gm F)
  file : ∀ p ∈ F, FileAt W p.2
  nd : (foot d m F).Nodup
  val : S.L = xm F
section
variable {W W' w0 : World} {d m : Nat} {S S' : DV} {F : FL} {k : Key} {y y' : FV} {ok : Nat → Prop}
theorem FileAt.lt (h : FileAt W y) : ∀ b ∈ one y, b < W.heap.size := by
  intro b hb
  rcases List.mem_cons.1 hb with rfl | hb
  · exact blk_lt h.1
  · exact h.2.lt (by simpa using hb)
theorem FileAt.step (h : FileAt W y) (hs : ∀ b ∈ one y, W'.heap[b]? = W.heap[b]?) : FileAt W' y :=
  ⟨(hs _ (by simp [one])).trans h.1, h.2.step (fun g hg => hs g (by simp [one, hg]))⟩
theorem IsDisk.once (h : IsDisk W d m S F) : Once F := by
  have := h.map.once
  unfold Once gm at *
  rw [List.map_map] at this
  exact this
theorem mem_foot_file {p : Key × FV} (hp : p ∈ F) {b : Nat} (hb : b ∈ one p.2) : b ∈ foot d m F := by
  unfold foot blocks
  simp only [List.mem_cons, List.mem_flatMap]
  exact .inr (.inr ⟨p, hp, hb⟩)
theorem IsDisk.lt (h : IsDisk W d m S F) : ∀ b ∈ foot d m F, b < W.heap.size := by
  intro b hb
  unfold foot blocks at hb
  simp only [List.mem_cons, List.mem_flatMap] at hb
  rcases hb with rfl | rfl | ⟨p, hp, hb⟩
  · exact blk_lt h.head
  · exact h.map.lt
  · exact (h.file p hp).lt b hb
theorem IsDisk.step (h : IsDisk W d m S F) (hs : ∀ b ∈ foot d m F, W'.heap[b]? = W.heap[b]?) : IsDisk W' d m S F :=
  ⟨(hs d (by simp [foot])).trans h.head, h.map.step (hs m (by simp [foot])), fun p hp => (h.file p hp).step (fun b hb => hs b (mem_foot_file hp hb)), h.nd, h.val⟩
theorem IsDisk.ne (h : IsDisk W d m S F) : d ≠ m := by
  intro e
  have := (List.nodup_cons.1 h.nd).1
  simp [e] at this
theorem IsDisk.headed (h : IsDisk W d m S F) (hh : Head W' d m S'.room S'.fused S'.left) (hs : ∀ b ∈ foot d m F, b ≠ d → W'.heap[b]? = W.heap[b]?) (hL : S'.L = S.L) : IsDisk W' d m S' F := by
  have hd := (List.nodup_cons.1 h.nd).1
  refine ⟨hh, h.map.step (hs m (by simp [foot]) (fun e => hd (by simp [e]))), fun p hp => (h.file p hp).step (fun b hb => hs b (mem_foot_file hp hb) (fun e => hd ?_)), h.nd, hL.trans h.val⟩
  have := mem_foot_file (d := d) (m := m) hp hb
  rw [e] at this hb
  simp only [blocks, List.mem_cons, List.mem_flatMap]
  exact .inr ⟨p, hp, hb⟩
theorem IsDisk.at (h : IsDisk W d m S F) (k : Key) : at_ (gm F) k = (at_ F k).map (·.g) := at_map _ F k
theorem IsDisk.atL (h : IsDisk W d m S F) (k : Key) : at_ S.L k = (at_ F k).map (·.x) := by rw [h.val]; exact at_map _ F k
theorem IsDisk.changed (h : IsDisk W d m S F) (hk : at_ F k = some y) (hg : y'.g = y.g) (hf : FileAt W' y') (hs : ∀ b ∈ foot d m F, b ∉ one y → W'.heap[b]? = W.heap[b]?)
    (ho : y'.v.ownBlock = y.v.ownBlock ∨ ∀ b, y'.v.ownBlock = some b → W.heap.size ≤ b) (hL : S' = { S with L := put S.L k y'.x }) :
    IsDisk W' d m S' (put F k y') ∧ (∀ b ∈ foot d m (put F k y'), b ∈ foot d m F ∨ W.heap.size ≤ b) := by
  subst hL
  have hon := h.once
  obtain ⟨F1, F2, e, hput, _⟩ := split_at hon hk
  have hlt := h.lt
  have hnd := h.nd
  have hmem : (k, y) ∈ F := at_mem hk
  have hsub : ∀ b ∈ one y', b ∈ one y ∨ W.heap.size ≤ b := by
    intro b hb
    rcases List.mem_cons.1 hb with rfl | hb
    · left; rw [hg]; simp [one]
    · rcases ho with ho | ho
      · left; rw [ho] at hb; exact List.mem_cons_of_mem _ hb
      · right; exact ho b (by simpa using hb)
  have hfoot : foot d m F = d :: m :: (blocks F1 ++ (one y ++ blocks F2)) := by rw [e]; simp [foot, blocks]
  have hfoot' : foot d m (put F k y') = d :: m :: (blocks F1 ++ (one y' ++ blocks F2)) := by rw [hput]; simp [foot, blocks]
  rw [hfoot] at hnd hlt
  have hy' : (one y').Nodup := by
    unfold one
    rw [List.nodup_cons]
    refine ⟨fun hm => ?_, by cases y'.v.ownBlock <;> simp⟩
    have hb : y'.v.ownBlock = some y'.g := by simpa using hm
    rcases ho with ho | ho
    · have h1 : (one y).Nodup := by
        have := (List.nodup_cons.1 (List.nodup_cons.1 hnd).2).2
        exact (List.nodup_append.1 (List.nodup_append.1 this).2.1).1
      have := (List.nodup_cons.1 h1).1
      rw [← ho, ← hg] at this
      exact this hm
    · have h1 := ho _ hb
      rw [hg] at h1
      have := hlt y.g (by simp [one])
      omega
  have hnd' : (d :: m :: (blocks F1 ++ (one y' ++ blocks F2))).Nodup := by
    simp only [List.nodup_cons, List.mem_cons, List.mem_append, List.nodup_append, not_or] at hnd ⊢
    obtain ⟨⟨a1, a2, a3, a4⟩, ⟨a5, a6, a7⟩, a8, ⟨a9, a10, a11⟩, a12⟩ := hnd
    have hd0 := hlt d (by simp)
    have hm0 := hlt m (by simp)
    have hb1 : ∀ b ∈ blocks F1, b < W.heap.size := fun b hb => hlt b (by simp [hb])
    have hb2 : ∀ b ∈ blocks F2, b < W.heap.size := fun b hb => hlt b (by simp [hb])
    refine ⟨⟨a1, a2, fun hx => ?_, a4⟩, ⟨a5, fun hx => ?_, a7⟩, a8, ⟨hy', a10, fun b hb c hc e => ?_⟩, fun b hb c hc e => ?_⟩
    · rcases hsub _ hx with h | h
      · exact a3 h
      · omega
    · rcases hsub _ hx with h | h
      · exact a6 h
      · omega
    · rcases hsub _ hb with h | h
      · exact a11 b h c hc e
      · have := hb2 c hc; omega
    · rcases hc with hc | hc
      · rcases hsub _ hc with h | h
        · exact a12 b hb c (.inl h) e
        · have := hb1 b hb; omega
      · exact a12 b hb c (.inr hc) e
  have hne : ∀ b, b = d ∨ b = m ∨ b ∈ blocks F1 ∨ b ∈ blocks F2 → b ∉ one y := by
    simp only [List.nodup_cons, List.mem_cons, List.mem_append, List.nodup_append, not_or] at hnd
    obtain ⟨⟨a1, a2, a3, a4⟩, ⟨a5, a6, a7⟩, a8, ⟨a9, a10, a11⟩, a12⟩ := hnd
    rintro b (rfl | rfl | hb | hb) hy
    · exact a3 hy
    · exact a6 hy
    · exact a12 b hb b (.inl hy) rfl
    · exact a11 b hy b hb rfl
  refine ⟨⟨(hs d (by simp [foot]) (hne d (.inl rfl))).trans h.head, ?_, ?_, by rw [hfoot']; exact hnd', ?_⟩, ?_⟩
  · have h1 := h.map.step (hs m (by simp [foot]) (hne m (.inr (.inl rfl))))
    have e2 : gm (put F k y') = gm F := by
      rw [hput]
      exact (show gm (F1 ++ (k, y') :: F2) = gm (F1 ++ (k, y) :: F2) from by simp [gm, hg]).trans (congrArg gm e.symm)
    rw [e2]
    exact h1
  · intro p hp
    rw [hput] at hp
    rcases List.mem_append.1 hp with hp | hp
    · exact (h.file p (by rw [e]; simp [hp])).step (fun b hb => hs b (mem_foot_file (by rw [e]; simp [hp]) hb) (hne b (.inr (.inr (.inl (List.mem_flatMap.2 ⟨p, hp, hb⟩))))))
    · rcases List.mem_cons.1 hp with rfl | hp
      · exact hf
      · exact (h.file p (by rw [e]; simp [hp])).step (fun b hb => hs b (mem_foot_file (by rw [e]; simp [hp]) hb) (hne b (.inr (.inr (.inr (List.mem_flatMap.2 ⟨p, hp, hb⟩))))))
  · show put S.L k y'.x = _
    rw [h.val]
    exact put_map (fun y : FV => y.x) F k y'
  · intro b hb
    rw [hfoot'] at hb
    rw [hfoot]
    simp only [List.mem_cons, List.mem_append] at hb ⊢
    rcases hb with hb | hb | hb | hb | hb
    · exact .inl (.inl hb)
    · exact .inl (.inr (.inl hb))
    · exact .inl (.inr (.inr (.inl hb)))
    · rcases hsub _ hb with h | h
      · exact .inl (.inr (.inr (.inr (.inl h))))
      · exact .inr h
    · exact .inl (.inr (.inr (.inr (.inr hb))))
theorem IsDisk.added (h : IsDisk W d m S F) (hk : at_ F k = none) (hf : FileAt W' y) (hm : HasMap Try.prog 9 W' m (put (gm F) k y.g)) (hs : ∀ b ∈ foot d m F, b ≠ m → W'.heap[b]? = W.heap[b]?)
    (hg : W.heap.size ≤ y.g) (ho : y.v.ownBlock = none) (hL : S' = { S with L := put S.L k y.x }) :
    IsDisk W' d m S' (put F k y) ∧ (∀ b ∈ foot d m (put F k y), b ∈ foot d m F ∨ W.heap.size ≤ b) := by
  subst hL
  have hlt := h.lt
  have hnd := h.nd
  have hput : put F k y = F ++ [(k, y)] := put_new hk
  have hfoot' : foot d m (put F k y) = foot d m F ++ [y.g] := by rw [hput]; simp [foot, blocks, one, ho]
  have hm1 : ∀ b ∈ blocks F, b ≠ m := by
    simp only [foot, List.nodup_cons] at hnd
    intro b hb e
    exact hnd.2.1 (e ▸ hb)
  refine ⟨⟨(hs d (by simp [foot]) h.ne).trans h.head, ?_, ?_, ?_, ?_⟩, ?_⟩
  · have := put_map (fun y : FV => y.g) F k y
    unfold gm at hm ⊢
    rw [← this]
    exact hm
  · intro p hp
    rw [hput] at hp
    rcases List.mem_append.1 hp with hp | hp
    · exact (h.file p hp).step (fun b hb => hs b (mem_foot_file hp hb) (hm1 b (List.mem_flatMap.2 ⟨p, hp, hb⟩)))
    · rw [List.mem_singleton.1 hp]
      exact hf
  · rw [hfoot', List.nodup_append]
    refine ⟨hnd, by simp, fun b hb c hc e => ?_⟩
    have := hlt b hb
    have := List.mem_singleton.1 hc
    omega
  · show put S.L k y.x = _
    rw [h.val]
    exact put_map (fun y : FV => y.x) F k y
  · intro b hb
    rw [hfoot'] at hb
    rcases List.mem_append.1 hb with hb | hb
    · exact .inl hb
    · exact .inr (by rw [List.mem_singleton.1 hb]; exact hg)
/-- A disk whose blocks are ok; the world ahead of w0's end stands. -/
structure DiskUp (W w0 : World) (ok : Nat → Prop) (d : Nat) (S : DV) : Prop where
  is : ∃ m F, IsDisk W d m S F ∧ ∀ b ∈ foot d m F, ok b ∧ w0.heap.size ≤ b
  below : Below w0.heap.size w0 W
  fine : S.Fine
theorem DiskUp.mono (h : DiskUp W w0 ok d S) {ok' : Nat → Prop} (hm : ∀ k, ok k → ok' k) : DiskUp W w0 ok' d S := by
  obtain ⟨⟨m, F, h1, h2⟩, h3, h4⟩ := h
  exact ⟨⟨m, F, h1, fun b hb => ⟨hm b (h2 b hb).1, (h2 b hb).2⟩⟩, h3, h4⟩
theorem DiskUp.bound (h : DiskUp W w0 ok d S) : DiskUp W w0 (fun k => ok k ∧ w0.heap.size ≤ k ∧ k < W.heap.size) d S := by
  obtain ⟨⟨m, F, h1, h2⟩, h3, h4⟩ := h
  exact ⟨⟨m, F, h1, fun b hb => ⟨⟨(h2 b hb).1, (h2 b hb).2, h1.lt b hb⟩, (h2 b hb).2⟩⟩, h3, h4⟩
theorem DiskUp.kept (h : DiskUp W w0 ok d S) {T : Nat → Prop} (hk : Kept W W' T) (ha : ∀ k, ok k → ¬ T k) (hB : Below w0.heap.size w0 W') : DiskUp W' w0 ok d S := by
  obtain ⟨⟨m, F, h1, h2⟩, h3, h4⟩ := h
  exact ⟨⟨m, F, h1.step (fun b hb => hk.2 b (h1.lt b hb) (ha b (h2 b hb).1)), h2⟩, hB, h4⟩
theorem DiskUp.alloc (h : DiskUp W w0 ok d S) (o : Obj) : DiskUp (W.alloc o) w0 ok d S := h.kept ((Kept.refl W (fun _ => False)).alloc o) (fun _ _ h => h) (h.below.alloc h.below.size o)
theorem DiskUp.to (h : DiskUp W w0 ok d S) {T : Nat → Prop} {m : Nat} {F : FL} (hi : IsDisk W' d m S' F) (hf : ∀ b ∈ foot d m F, ok b ∧ w0.heap.size ≤ b ∨ W.heap.size ≤ b) (hB : Below w0.heap.size w0 W') (hF : S'.Fine) :
    DiskUp W' w0 (fun k => ok k ∨ W.heap.size ≤ k) d S' := by
  refine ⟨⟨m, F, hi, fun b hb => ?_⟩, hB, hF⟩
  rcases hf b hb with h1 | h1
  · exact ⟨.inl h1.1, h1.2⟩
  · exact ⟨.inr h1, Nat.le_trans h.below.size h1⟩
end
end Go.Proofs.Ytdepjlnljkbfjaa.Hand
