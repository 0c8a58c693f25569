/- The disk and the reference's disk in one memory: what each call makes of both. -/
import Derived.Test.YtdepjlnljkbfjaaFuseR
namespace Go.Proofs.Ytdepjlnljkbfjaa.Hand
open Go.RowKit Go.Proofs.Ytdepjlnljkbfjaa.PA Go.Proofs.Ytdepjlnljkbfjaa.MapP Go.Proofs.YtdepjlnljkbfjaaW.PrintWords Go.Proofs.YtdepjlnljkbfjaaW.PrintLast Go.Proofs.YtdepjlnljkbfjaaW.PrintMore
set_option linter.unusedVariables false
set_option linter.unusedSimpArgs false
set_option linter.unusedSectionVars false
structure Pair (W w : World) (Z : Nat → Prop) (d r : Nat) (S : DV) (R : RV) : Prop where
  out : ∃ o1 o2, DiskUp W w o1 d S ∧ RefUp W w o2 r R ∧ (∀ k, o1 k → ¬ o2 k) ∧ (∀ k, o1 k → k < W.heap.size ∧ Z k) ∧ (∀ k, o2 k → k < W.heap.size ∧ Z k)
  new : ∀ k, W.heap.size ≤ k → Z k
  old : ∀ k, Z k → w.heap.size ≤ k
section
variable {W W' W1 w : World} {Z Z' T : Nat → Prop} {d r : Nat} {S : DV} {R : RV}
theorem kept_mono (h : Kept W W' T) (hm : ∀ k, T k → Z k) : Kept W W' Z := ⟨h.1, fun k hk hz => h.2 k hk (fun e => hz (hm k e))⟩
theorem Pair.base (P : Pair W w Z d r S R) : Below w.heap.size w W := by
  obtain ⟨⟨o1, o2, h1, _⟩, _, _⟩ := P
  exact h1.below
theorem Pair.kept (P : Pair W w Z d r S R) (hK : Kept W W' T) (hT : ∀ k, T k → ¬ Z k) (hB : Below w.heap.size w W') : Pair W' w Z d r S R := by
  obtain ⟨⟨o1, o2, h1, h2, h3, h4, h5⟩, hn, ho⟩ := P
  have hs := hK.1
  exact ⟨⟨o1, o2, h1.kept hK (fun k hk ht => hT k ht (h4 k hk).2) hB, h2.kept hK (fun k hk ht => hT k ht (h5 k hk).2) hB, h3, fun k hk => ⟨Nat.lt_of_lt_of_le (h4 k hk).1 hs, (h4 k hk).2⟩, fun k hk => ⟨Nat.lt_of_lt_of_le (h5 k hk).1 hs, (h5 k hk).2⟩⟩, fun k hk => hn k (Nat.le_trans hs hk), ho⟩
theorem Pair.below (P : Pair W w Z d r S R) (hb : Below W.heap.size W W') : Pair W' w Z d r S R :=
  P.kept (T := fun _ => False) (Kept.of_below hb _) (fun _ h => h.elim) (P.base.trans (hb.mono P.base.size))
theorem Pair.alloc (P : Pair W w Z d r S R) (o : Obj) : Pair (W.alloc o) w Z d r S R := P.below ((Below.refl _ _).alloc (Nat.le_refl _) o)
theorem Pair.drew (P : Pair W w Z d r S R) : Pair W.drew w Z d r S R := P.below (bdrew (Below.refl _ _))
theorem Pair.zone (P : Pair W w Z d r S R) (hz : ∀ k, k < W.heap.size → Z k → Z' k) (hn : ∀ k, W.heap.size ≤ k → Z' k) (ho : ∀ k, Z' k → w.heap.size ≤ k) : Pair W w Z' d r S R := by
  obtain ⟨⟨o1, o2, h1, h2, h3, h4, h5⟩, _, _⟩ := P
  exact ⟨⟨o1, o2, h1, h2, h3, fun k hk => ⟨(h4 k hk).1, hz k (h4 k hk).1 (h4 k hk).2⟩, fun k hk => ⟨(h5 k hk).1, hz k (h5 k hk).1 (h5 k hk).2⟩⟩, hn, ho⟩
/-- Blocks that are new since W are no part of it. -/
theorem Pair.mark (P : Pair W w Z d r S R) (hb : Below W.heap.size W W') : Pair W' w (fun k => (Z k ∧ k < W.heap.size) ∨ W'.heap.size ≤ k) d r S R := by
  obtain ⟨⟨o1, o2, h1, h2, h3, h4, h5⟩, hn, ho⟩ := P
  have hs := hb.size
  have hB := h1.below.trans (hb.mono h1.below.size)
  exact ⟨⟨o1, o2, h1.quiet hb, h2.quiet hb, h3, fun k hk => ⟨Nat.lt_of_lt_of_le (h4 k hk).1 hs, .inl ⟨(h4 k hk).2, (h4 k hk).1⟩⟩, fun k hk => ⟨Nat.lt_of_lt_of_le (h5 k hk).1 hs, .inl ⟨(h5 k hk).2, (h5 k hk).1⟩⟩⟩, fun k hk => .inr hk, fun k hk => hk.elim (fun h2 => ho k h2.1) (fun h2 => Nat.le_trans hB.size h2)⟩
theorem Pair.step1 (P : Pair W w Z d r S R) {n : Nat} {args : Array Value} {S' : DV} {Q : Ending → World → Prop}
    (hc : ∀ o1, DiskUp W w o1 d S → (∀ k, o1 k → k < W.heap.size ∧ Z k) → Calls Try.prog n args W1 fun e W' => Q e W' ∧ DiskUp W' w (fun k => o1 k ∨ W.heap.size ≤ k) d S' ∧ Kept W W' o1) :
    Calls Try.prog n args W1 fun e W' => Q e W' ∧ Pair W' w Z d r S' R ∧ Kept W W' Z := by
  obtain ⟨⟨o1, o2, h1, h2, h3, h4, h5⟩, hn, ho⟩ := P
  refine (hc o1 h1 h4).mono ?_
  rintro e W' ⟨hR, hU, hK⟩
  have hs := hK.1
  refine ⟨hR, ⟨⟨_, o2, hU.bound, h2.kept hK (fun k hk hk1 => h3 k hk1 hk) hU.below, fun k hk hk2 => ?_, fun k hk => ⟨hk.2.2, hk.1.elim (fun e => (h4 k e).2) (fun e => hn k e)⟩, fun k hk => ⟨Nat.lt_of_lt_of_le (h5 k hk).1 hs, (h5 k hk).2⟩⟩, fun k hk => hn k (Nat.le_trans hs hk), ho⟩, kept_mono hK (fun k hk => (h4 k hk).2)⟩
  rcases hk.1 with e | e
  · exact h3 k e hk2
  · have := (h5 k hk2).1; omega
theorem Pair.step2 (P : Pair W w Z d r S R) {n : Nat} {args : Array Value} {R' : RV} {Q : Ending → World → Prop}
    (hc : ∀ o2, RefUp W w o2 r R → (∀ k, o2 k → k < W.heap.size ∧ Z k) → Calls Try.prog n args W1 fun e W' => Q e W' ∧ RefUp W' w (fun k => o2 k ∨ W.heap.size ≤ k) r R' ∧ Kept W W' o2) :
    Calls Try.prog n args W1 fun e W' => Q e W' ∧ Pair W' w Z d r S R' ∧ Kept W W' Z := by
  obtain ⟨⟨o1, o2, h1, h2, h3, h4, h5⟩, hn, ho⟩ := P
  refine (hc o2 h2 h5).mono ?_
  rintro e W' ⟨hR, hU, hK⟩
  have hs := hK.1
  refine ⟨hR, ⟨⟨o1, _, h1.kept hK (fun k hk hk1 => h3 k hk hk1) hU.below, hU.bound, fun k hk hk2 => ?_, fun k hk => ⟨Nat.lt_of_lt_of_le (h4 k hk).1 hs, (h4 k hk).2⟩, fun k hk => ⟨hk.2.2, hk.1.elim (fun e => (h5 k e).2) (fun e => hn k e)⟩⟩, fun k hk => hn k (Nat.le_trans hs hk), ho⟩, kept_mono hK (fun k hk => (h5 k hk).2)⟩
  rcases hk2.1 with e | e
  · exact h3 k hk e
  · have := (h4 k hk).1; omega
theorem p_append1 (P : Pair W w Z d r S R) (s : ByteArray) (hsz : s.size ≤ maxLen) (A : Option Addr) (c n : Nat) (xs : List Int) (hn : n = xs.length) (hC : Kd.C (Kd.int .u8) W A xs.length xs) (hc : xs.length ≤ c) (hb : Bytes xs) (ht : xs.length ≤ 140737488355328) :
    Calls Try.prog 20 #[.pointer (some ⟨d, 0, none⟩), .string s, .slice (some ⟨W.heap.size, 0, none⟩) 1 1] (W.alloc (.cells #[.slice A n c] 23)) fun e W' => e = .returned (.int .i64 (appendV S s xs).1) ∧ Pair W' w Z d r (appendV S s xs).2 R ∧ Kept W W' Z := by
  subst hn
  exact P.step1 (Q := fun e _ => e = .returned (.int .i64 (appendV S s xs).1)) (fun o1 h1 h4 => append1 h1 s hsz A c xs hC hc hb ht)
theorem p_append2 (P : Pair W w Z d r S R) (s : ByteArray) (hsz : s.size ≤ maxLen) (A : Option Addr) (c n : Nat) (xs : List Int) (hn : n = xs.length) (hC : ∀ W', Kept W W' Z → Kd.C (Kd.int .u8) W' A xs.length xs) (hc : xs.length ≤ c) (ht : xs.length ≤ 140737488351232) :
    Calls Try.prog 32 #[.pointer (some ⟨r, 0, none⟩), .string s, .slice A n c] W fun e W' => e = .returned (.int .i64 (appendR R s xs).1) ∧ Pair W' w Z d r S (appendR R s xs).2 ∧ Kept W W' Z := by
  subst hn
  exact P.step2 (Q := fun e _ => e = .returned (.int .i64 (appendR R s xs).1)) (fun o2 h2 h5 => appendR_calls h2 s hsz A c xs (fun W' hk => hC W' (kept_mono hk (fun k hk => (h5 k hk).2))) hc ht)
theorem p_fuse1 (P : Pair W w Z d r S R) (n : Int) (hn : n ≤ 9223372036854775807) :
    Calls Try.prog 10 #[.pointer (some ⟨d, 0, none⟩), .int .i64 n] W fun e W' => e = .returned (.tuple #[]) ∧ Pair W' w Z d r (fuseV S n) R ∧ Kept W W' Z :=
  P.step1 (Q := fun e _ => e = .returned (.tuple #[])) (fun o1 h1 h4 => (fuse_any h1 n hn).mono (fun e W' h => ⟨h.1, h.2.1.mono (fun k hk => .inl hk), h.2.2⟩))
theorem p_fuse2 (P : Pair W w Z d r S R) (n : Int) (hn : n ≤ 9223372036854775807) :
    Calls Try.prog 31 #[.pointer (some ⟨r, 0, none⟩), .int .i64 n] W fun e W' => e = .returned (.tuple #[]) ∧ Pair W' w Z d r S { R with left := max (-1) n } ∧ Kept W W' Z :=
  P.step2 (Q := fun e _ => e = .returned (.tuple #[])) (fun o2 h2 h5 => (fuseR_up h2 n hn).mono (fun e W' h => ⟨h.1, h.2.1.mono (fun k hk => .inl hk), h.2.2⟩))
theorem p_crash1 (P : Pair W w Z d r S R) (n : Int) :
    Calls Try.prog 12 #[.pointer (some ⟨d, 0, none⟩), .int .i64 n] W fun e W' => e = .returned (.tuple #[]) ∧ Pair W' w Z d r (crashV n S) R ∧ Kept W W' Z :=
  P.step1 (Q := fun e _ => e = .returned (.tuple #[])) (fun o1 h1 h4 => crash_up h1 n)
theorem p_crash2 (P : Pair W w Z d r S R) (n : Int) :
    Calls Try.prog 30 #[.pointer (some ⟨r, 0, none⟩), .int .i64 n] W fun e W' => e = .returned (.tuple #[]) ∧ Pair W' w Z d r S (crashR n R) ∧ Kept W W' Z :=
  P.step2 (Q := fun e _ => e = .returned (.tuple #[])) (fun o2 h2 h5 => crashR_calls h2 n)
theorem p_read1 (P : Pair W w Z d r S R) (s : ByteArray) (hsz : s.size ≤ maxLen) :
    Calls Try.prog 34 #[.pointer (some ⟨d, 0, none⟩), .string s] W fun e w' => ∃ A c, e = .returned (.tuple #[.slice A (readV S s).1.length c, .int .i64 (readV S s).2]) ∧ Kd.R (Kd.int .u8) 5 w' W.heap.size (fun k => W.heap.size ≤ k) (.slice A (readV S s).1.length c) (readV S s).1 ∧ Below W.heap.size W w' := by
  obtain ⟨⟨o1, o2, h1, h2, h3, h4, h5⟩, hn, ho⟩ := P
  exact (read_up h1 s hsz).mono (fun e w' ⟨A, c, he, hR, _, hB⟩ => ⟨A, c, he, hR, hB⟩)
theorem Pair.step0 (P : Pair W w Z d r S R) {n : Nat} {args : Array Value} {Q : Ending → World → Prop} (hc : ∀ o1 o2, DiskUp W w o1 d S → RefUp W w o2 r R → Calls Try.prog n args W Q) : Calls Try.prog n args W Q := by
  obtain ⟨⟨o1, o2, h1, h2, _⟩, _, _⟩ := P
  exact hc o1 o2 h1 h2
theorem p_read2 (P : Pair W w Z d r S R) (s : ByteArray) :
    Calls Try.prog 35 #[.pointer (some ⟨r, 0, none⟩), .string s] W fun e w' => ∃ A c, e = .returned (.tuple #[.slice A (readRV R s.data.toList).1.length c, .int .i64 (readRV R s.data.toList).2]) ∧ (readRV R s.data.toList).1.length ≤ c ∧ Kd.C (Kd.int .u8) w' A (readRV R s.data.toList).1.length (readRV R s.data.toList).1 ∧ Below W.heap.size W w' := by
  refine P.step0 (fun o1 o2 h1 h2 => ?_)
  obtain ⟨⟨vL, es, hi, _⟩, _, hf⟩ := h2
  exact (readR_calls hi (by rw [← hi.len]; exact hf.many) (by have := hf.used; have := hf.r1; omega) s).mono (fun e w' ⟨A, c, he, hc, hD, _, hB⟩ => ⟨A, c, he, hc, hD.C rfl, hB⟩)
theorem p_list1 (P : Pair W w Z d r S R) : Calls Try.prog 25 #[.pointer (some ⟨d, 0, none⟩)] W fun e w' => ∃ A c, e = .returned (.slice A (namesOf S).length c) ∧ (namesOf S).length ≤ c ∧ Kd.R Kd.string 9 w' W.heap.size (fun k => W.heap.size ≤ k) (.slice A (namesOf S).length c) (namesOf S) ∧ Below W.heap.size W w' :=
  P.step0 (fun o1 o2 h1 h2 => (list_up h1).mono (fun e w' ⟨A, c, he, hc, hR, _, hB⟩ => ⟨A, c, he, hc, hR, hB⟩))
theorem p_list2 (P : Pair W w Z d r S R) : Calls Try.prog 33 #[.pointer (some ⟨r, 0, none⟩)] W fun e w' => ∃ A c, e = .returned (.slice A (namesR R).length c) ∧ (namesR R).length ≤ c ∧ Kd.R Kd.string 9 w' W.heap.size (fun k => W.heap.size ≤ k) (.slice A (namesR R).length c) (namesR R) ∧ Below W.heap.size W w' := by
  refine P.step0 (fun o1 o2 h1 h2 => ?_)
  obtain ⟨⟨vL, es, hi, _⟩, _, hf⟩ := h2
  exact listR_calls hi (by rw [← hi.len]; exact hf.many) (fun b hb => hi.lt b hb)
end
end Go.Proofs.Ytdepjlnljkbfjaa.Hand
namespace Go.Proofs.Ytdepjlnljkbfjaa.MapP
open Go.RowKit
theorem Ranges.short {P : Program} {mT kT eT : TypeId} {m r : Nat} {fm : List (Key × Nat)} (T : PM P mT kT eT) : ∀ (n : Nat) (W : World) (todo : List (Key × Nat)) (cnt : Nat), cnt ≤ n → Ranges P kT W m r fm todo cnt → ∀ p ∈ todo, p.1.length ≤ maxLen := by
  intro n
  induction n with
  | zero =>
    intro W todo cnt hc h p hp
    rcases h.next T 0 with ⟨_, hnil, _⟩ | ⟨s, g, todo', W', cnt', hsz, hat, hperm, hr2, hlt, _⟩
    · rw [hnil] at hp; cases hp
    · omega
  | succ n ih =>
    intro W todo cnt hc h p hp
    rcases h.next T 0 with ⟨_, hnil, _⟩ | ⟨s, g, todo', W', cnt', hsz, hat, hperm, hr2, hlt, _⟩
    · rw [hnil] at hp; cases hp
    · rcases List.mem_cons.1 (hperm.mem_iff.1 hp) with rfl | hp
      · exact hsz
      · exact ih W' todo' cnt' (by omega) hr2 p hp
end Go.Proofs.Ytdepjlnljkbfjaa.MapP
namespace Go.Proofs.Ytdepjlnljkbfjaa.Hand
open Go.RowKit Go.Proofs.Ytdepjlnljkbfjaa.PA Go.Proofs.Ytdepjlnljkbfjaa.MapP Go.Proofs.YtdepjlnljkbfjaaW.PrintWords Go.Proofs.YtdepjlnljkbfjaaW.PrintLast Go.Proofs.YtdepjlnljkbfjaaW.PrintMore
set_option linter.unusedVariables false
set_option linter.unusedSimpArgs false
set_option linter.unusedSectionVars false
theorem texts_refl0 (l : List ByteArray) (hl : l.length ≤ 4611686018427387904) : ∀ (d i : Nat), i + d = l.length → haystacklaw10_texts.l0 (d + 1) l l i = some true
  | 0, i, h => by
    unfold haystacklaw10_texts.l0
    rw [if_neg (by omega)]
  | d + 1, i, h => by
    unfold haystacklaw10_texts.l0
    have e : wrap64 ((i : Int) + 1) = ((i + 1 : Nat) : Int) := by unfold wrap64; omega
    rw [if_pos (by omega), if_pos (by omega), if_pos (by omega), if_pos rfl, e]
    exact texts_refl0 l hl d (i + 1) (by omega)
section
variable {W W' W1 w w0 : World} {Z Z' T : Nat → Prop} {d r : Nat} {S : DV} {R : RV} {ok : Nat → Prop}
theorem DiskUp.short (h : DiskUp W w0 ok d S) : ∀ q ∈ S.L, q.1.length ≤ maxLen := by
  obtain ⟨⟨m, F, hi, _⟩, _, _⟩ := h
  obtain ⟨W2, _, hr, _⟩ := hi.map.range PT
  intro q hq
  rw [hi.val] at hq
  obtain ⟨p, hp, rfl⟩ := List.mem_map.1 hq
  exact Ranges.short PT _ _ _ _ (Nat.le_refl _) hr (p.1, p.2.g) (List.mem_map.2 ⟨p, hp, rfl⟩)
theorem Pair.short (P : Pair W w Z d r S R) : ∀ q ∈ S.L, q.1.length ≤ maxLen := by
  obtain ⟨⟨o1, o2, h1, _⟩, _, _⟩ := P
  exact h1.short
theorem Pair.fine (P : Pair W w Z d r S R) : S.Fine := by
  obtain ⟨⟨o1, o2, h1, _⟩, _, _⟩ := P
  exact h1.fine
theorem read_there (h : Once S.L) {q : Key × (List Int × Nat)} (hq : q ∈ S.L) : readV S (byK q.1) = (q.2.1, 0) := by
  unfold readV
  have e : at_ S.L (byK q.1).data.toList = some q.2 := by simpa [byK] using h.at_of_mem hq
  rw [e]
end
end Go.Proofs.Ytdepjlnljkbfjaa.Hand
