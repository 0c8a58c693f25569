/- What DiskPlays wants besides the two disks: bytes that are spoilt, bytes that stand. -/
import Derived.Test.YtdepjlnljkbfjaaCopyD
namespace Go.Proofs.Ytdepjlnljkbfjaa.Hand
open Go.RowKit Go.Proofs.Ytdepjlnljkbfjaa.PA Go.Proofs.Ytdepjlnljkbfjaa.MapP Go.Proofs.YtdepjlnljkbfjaaW.PrintWords Go.Proofs.YtdepjlnljkbfjaaW.PrintLast Go.Proofs.YtdepjlnljkbfjaaW.PrintMore
set_option linter.unusedVariables false
set_option linter.unusedSimpArgs false
set_option linter.unusedSectionVars false
section
variable {w w0 W W' : World} {d m : Nat} {ok : Nat → Prop}
set_option maxRecDepth 100000 in
set_option maxHeartbeats 4000000 in
theorem spoil_calls {A : Option Addr} {n c : Nat} {xs : List Int} (hR : (Kd.int .u8).R 5 w w0.heap.size ok (.slice A n c) xs) (hB : Below w0.heap.size w0 w) (hl : xs.length ≤ 140737488351232) :
    Calls Try.prog 50 #[.slice A n c] w fun e w' => e = .returned (.tuple #[]) ∧ Kept w w' (fun k => some k = (Value.slice A n c).ownBlock) ∧ Below w0.heap.size w0 w' := by
  have hn := (Kd.R_reads' hR).1
  have HR := Aside0.mk hR
  have HB := Aside0.mk hB
  have HN := Aside0.mk hn
  have hnl : n ≤ 140737488351232 := by omega
  clear hR hB hn hl
  go_enter Try.func50, Try.ntmps50
  go_wp2_with (first | ((with_reducible refine gate_builtin (b := .append) (xs := #[.tmp 4, .tmp 5]) rfl ?_); at_builtin; refine Kd.R_append (Kd.int .u8) (w0 := w0) w0.heap.size rfl (.tmp 4) (.tmp 5) 23 5 (.int .u8 0) 1 rfl Try.underlying23 info5 rfl (by decide) (by decide) (.slice A n c) xs 99 [.int .u8 99] (fun k => some k = (Value.slice A n c).ownBlock ∨ w.heap.size ≤ k) (fun _ => False) rfl rfl rfl (fun _ hk => hk.elim) (fun k hk => .inr hk) (Kd.R_mono (Kd.R_tight rfl HR.out) (fun k hk => .inl hk)) HB.out HB.out.size (by have := HN.out; omega) ?_; intro v1 w8 ho hb hg hat; obtain ⟨g, c1, hv1, _⟩ := Kd.R_form ho (by simp); subst hv1; have HR8 := Aside0.mk ho; have HG8 := Aside0.mk hg; have HB8 := Aside0.mk hb; have HA8 := Aside0.mk hat; clear ho hg hb hat))
  obtain ⟨ys0, hys0⟩ : ∃ ys0, ys0 = xs ++ [99] := ⟨_, rfl⟩
  simp only [List.length_append, List.length_cons, List.length_nil, Nat.zero_add] at HR8 HA8
  obtain ⟨N, hN⟩ : ∃ N, N = xs.length + 1 := ⟨_, rfl⟩
  have hNn : N ≤ 140737488351233 := by have := HN.out; omega
  rw [← hN] at HR8 HA8 ⊢
  rw [← hys0] at HR8
  have HL0 : Aside0 (ys0.length = N) := ⟨by rw [hys0, hN]; simp⟩
  clear hN hys0
  go_wp2
  go_loopg [3] N (fun gk s3 wr => ∃ (i : Nat) (ys : List Int), i ≤ N ∧ N - i ≤ gk ∧ s3 = .int .i64 i ∧ Aside0 (Kd.R (Kd.int .u8) 5 wr w0.heap.size (fun k => some k = (Value.slice A n c).ownBlock ∨ w.heap.size ≤ k) (.slice (some ⟨g, 0, none⟩) N c1) ys) ∧ Aside0 (Kept w8 wr (fun k => k = g)) ∧ Aside0 (Below w0.heap.size w0 wr))
  case atStart => exact ⟨0, ys0, Nat.zero_le _, by omega, rfl, HR8, ⟨Kept.refl _ _⟩, HB8⟩
  case round =>
    obtain ⟨i, ys, hi, hgk, rfl, HY, HK, HBr⟩ := hrel
    by_cases hlt : i < N
    · obtain ⟨gk, rfl⟩ : ∃ q, gk = q + 1 := ⟨gk - 1, by omega⟩
      obtain ⟨hc, hz⟩ := Kd.R_celln 0 HY.out (i : Int) (by omega) (by omega)
      have hp := Kd.R_putn HY.out (i : Int) 98
      rw [Int.toNat_natCast] at hc hz hp
      have HP := Aside0.mk hp
      clear hp
      go_wp2
      go_roundg gk
      case measure => omega
      case rel => exact ⟨i + 1, _, by omega, by omega, by go_num, HP, ⟨HK.out.setCell (p := ⟨g, i, none⟩) (.inl rfl) _⟩, ⟨HBr.out.setCell (p := ⟨g, i, none⟩) (Kd.R_base HY.out g rfl) _⟩⟩
    · go_wp2
      go_end0
      refine ⟨rfl, ?_, HBr.out⟩
      refine (Kept.of_grown HG8.out (Kept.refl w (fun k => some k = (Value.slice A n c).ownBlock)) (fun q hq => .inl hq.symm)).then_ HK.out (fun k hk => ?_)
      rcases HA8.out with e | ⟨b, e, hb⟩
      · exact .inl (by rw [hk]; exact e)
      · have : g = b := by simpa [Value.ownBlock] using e
        exact .inr (by omega)
end
section
variable {w W : World} {A0 A1 : Option Addr} {n c0 c1 : Nat} {xs : List Int}
set_option maxRecDepth 100000 in
set_option maxHeartbeats 4000000 in
theorem stands_calls (h0 : Kd.C (Kd.int .u8) w A0 (n + 1) (xs ++ [171])) (hn : n = xs.length) (hc0 : n + 1 ≤ c0) (h1 : Kd.C (Kd.int .u8) w A1 n xs) (hc1 : n ≤ c1) (hl : xs.length ≤ 140737488351232) :
    Calls Try.prog 49 #[.slice A0 ((n + 1 : Nat) : Nat) c0, .slice A1 n c1] w fun e w' => e = .returned (.bool true) ∧ Drawn0 w w' := by
  have hr := Kd.reads_of_C (d := (0 : Int)) h0
  obtain ⟨ad, rfl, hcell⟩ := hr.at_ (n : Int) (by omega) (by omega)
  have hrd : rdOf (0 : Int) (xs ++ [171]) (n : Int) = 171 := by simp [rdOf, hn]
  rw [hrd, Int.toNat_natCast] at hcell
  have ht := hr.take_ n (by omega)
  rw [show (xs ++ [(171 : Int)]).take n = xs from by rw [hn]; simp] at ht
  have hs := haystacklaw10_same.calls (xs.length + 1) (some ad) c0 xs A1 c1 xs true w (Kd.C_of_reads (by rw [← hn]; exact ht)) (by omega) (by rw [← hn]; exact h1) (by omega) (same_refl xs (by omega))
  rw [← hn] at hs
  have HS := Aside0.mk hs
  have hw : wrap64 ((n : Int) + 1) = (n : Int) + 1 := by unfold wrap64; omega
  have g1 : (n : Int) ≤ (c0 : Int) := by omega
  have g2 : (n : Int) < (n : Int) + 1 := by omega
  clear h0 hr hrd ht h1 hs
  have HN := Aside0.mk hn
  clear hn hl
  go_enter Try.func49, Try.ntmps49
  go_wp2_with (go_at_call 42; refine (HS.out).mono ?_; rintro e w1 ⟨rfl, hd⟩; obtain ⟨q, rfl⟩ := hd)
  go_ret
  exact ⟨rfl, ⟨_, rfl⟩⟩
end
end Go.Proofs.Ytdepjlnljkbfjaa.Hand

/- The disk and the reference's disk in one memory: what each call makes of both. -/
namespace Go.Proofs.Ytdepjlnljkbfjaa.Hand
open Go.RowKit Go.Proofs.Ytdepjlnljkbfjaa.PA Go.Proofs.Ytdepjlnljkbfjaa.MapP Go.Proofs.YtdepjlnljkbfjaaW.PrintWords Go.Proofs.YtdepjlnljkbfjaaW.PrintLast Go.Proofs.YtdepjlnljkbfjaaW.PrintMore
set_option linter.unusedVariables false
set_option linter.unusedSimpArgs false
set_option linter.unusedSectionVars false
structure Pair (W w : World) (Z : Nat → Prop) (d r : Nat) (S : DV) (R : RV) : Prop where
  out : ∃ o1 o2, DiskUp W w o1 d S ∧ RefUp W w o2 r R ∧ (∀ k, o1 k → ¬ o2 k) ∧ (∀ k, o1 k → k < W.heap.size ∧ Z k) ∧ (∀ k, o2 k → k < W.heap.size ∧ Z k)
  new : ∀ k, W.heap.size ≤ k → Z k
  old : ∀ k, Z k → w.heap.size ≤ k
section
variable {W W' W1 w : World} {Z Z' T : Nat → Prop} {d r : Nat} {S : DV} {R : RV}
theorem kept_mono (h : Kept W W' T) (hm : ∀ k, T k → Z k) : Kept W W' Z := ⟨h.1, fun k hk hz => h.2 k hk (fun e => hz (hm k e))⟩
theorem Pair.base (P : Pair W w Z d r S R) : Below w.heap.size w W := by
  obtain ⟨⟨o1, o2, h1, _⟩, _, _⟩ := P
  exact h1.below
theorem Pair.kept (P : Pair W w Z d r S R) (hK : Kept W W' T) (hT : ∀ k, T k → ¬ Z k) (hB : Below w.heap.size w W') : Pair W' w Z d r S R := by
  obtain ⟨⟨o1, o2, h1, h2, h3, h4, h5⟩, hn, ho⟩ := P
  have hs := hK.1
  exact ⟨⟨o1, o2, h1.kept hK (fun k hk ht => hT k ht (h4 k hk).2) hB, h2.kept hK (fun k hk ht => hT k ht (h5 k hk).2) hB, h3, fun k hk => ⟨Nat.lt_of_lt_of_le (h4 k hk).1 hs, (h4 k hk).2⟩, fun k hk => ⟨Nat.lt_of_lt_of_le (h5 k hk).1 hs, (h5 k hk).2⟩⟩, fun k hk => hn k (Nat.le_trans hs hk), ho⟩
theorem Pair.below (P : Pair W w Z d r S R) (hb : Below W.heap.size W W') : Pair W' w Z d r S R :=
  P.kept (T := fun _ => False) (Kept.of_below hb _) (fun _ h => h.elim) (P.base.trans (hb.mono P.base.size))
theorem Pair.alloc (P : Pair W w Z d r S R) (o : Obj) : Pair (W.alloc o) w Z d r S R := P.below ((Below.refl _ _).alloc (Nat.le_refl _) o)
theorem Pair.drew (P : Pair W w Z d r S R) : Pair W.drew w Z d r S R := P.below (bdrew (Below.refl _ _))
theorem Pair.zone (P : Pair W w Z d r S R) (hz : ∀ k, k < W.heap.size → Z k → Z' k) (hn : ∀ k, W.heap.size ≤ k → Z' k) (ho : ∀ k, Z' k → w.heap.size ≤ k) : Pair W w Z' d r S R := by
  obtain ⟨⟨o1, o2, h1, h2, h3, h4, h5⟩, _, _⟩ := P
  exact ⟨⟨o1, o2, h1, h2, h3, fun k hk => ⟨(h4 k hk).1, hz k (h4 k hk).1 (h4 k hk).2⟩, fun k hk => ⟨(h5 k hk).1, hz k (h5 k hk).1 (h5 k hk).2⟩⟩, hn, ho⟩
/-- Blocks that are new since W are no part of it. -/
theorem Pair.mark (P : Pair W w Z d r S R) (hb : Below W.heap.size W W') : Pair W' w (fun k => (Z k ∧ k < W.heap.size) ∨ W'.heap.size ≤ k) d r S R := by
  obtain ⟨⟨o1, o2, h1, h2, h3, h4, h5⟩, hn, ho⟩ := P
  have hs := hb.size
  have hB := h1.below.trans (hb.mono h1.below.size)
  exact ⟨⟨o1, o2, h1.quiet hb, h2.quiet hb, h3, fun k hk => ⟨Nat.lt_of_lt_of_le (h4 k hk).1 hs, .inl ⟨(h4 k hk).2, (h4 k hk).1⟩⟩, fun k hk => ⟨Nat.lt_of_lt_of_le (h5 k hk).1 hs, .inl ⟨(h5 k hk).2, (h5 k hk).1⟩⟩⟩, fun k hk => .inr hk, fun k hk => hk.elim (fun h2 => ho k h2.1) (fun h2 => Nat.le_trans hB.size h2)⟩
theorem Pair.step1 (P : Pair W w Z d r S R) {n : Nat} {args : Array Value} {S' : DV} {Q : Ending → World → Prop}
    (hc : ∀ o1, DiskUp W w o1 d S → (∀ k, o1 k → k < W.heap.size ∧ Z k) → Calls Try.prog n args W1 fun e W' => Q e W' ∧ DiskUp W' w (fun k => o1 k ∨ W.heap.size ≤ k) d S' ∧ Kept W W' o1) :
    Calls Try.prog n args W1 fun e W' => Q e W' ∧ Pair W' w Z d r S' R ∧ Kept W W' Z := by
  obtain ⟨⟨o1, o2, h1, h2, h3, h4, h5⟩, hn, ho⟩ := P
  refine (hc o1 h1 h4).mono ?_
  rintro e W' ⟨hR, hU, hK⟩
  have hs := hK.1
  refine ⟨hR, ⟨⟨_, o2, hU.bound, h2.kept hK (fun k hk hk1 => h3 k hk1 hk) hU.below, fun k hk hk2 => ?_, fun k hk => ⟨hk.2.2, hk.1.elim (fun e => (h4 k e).2) (fun e => hn k e)⟩, fun k hk => ⟨Nat.lt_of_lt_of_le (h5 k hk).1 hs, (h5 k hk).2⟩⟩, fun k hk => hn k (Nat.le_trans hs hk), ho⟩, kept_mono hK (fun k hk => (h4 k hk).2)⟩
  rcases hk.1 with e | e
  · exact h3 k e hk2
  · have := (h5 k hk2).1; omega
theorem Pair.step2 (P : Pair W w Z d r S R) {n : Nat} {args : Array Value} {R' : RV} {Q : Ending → World → Prop}
    (hc : ∀ o2, RefUp W w o2 r R → (∀ k, o2 k → k < W.heap.size ∧ Z k) → Calls Try.prog n args W1 fun e W' => Q e W' ∧ RefUp W' w (fun k => o2 k ∨ W.heap.size ≤ k) r R' ∧ Kept W W' o2) :
    Calls Try.prog n args W1 fun e W' => Q e W' ∧ Pair W' w Z d r S R' ∧ Kept W W' Z := by
  obtain ⟨⟨o1, o2, h1, h2, h3, h4, h5⟩, hn, ho⟩ := P
  refine (hc o2 h2 h5).mono ?_
  rintro e W' ⟨hR, hU, hK⟩
  have hs := hK.1
  refine ⟨hR, ⟨⟨o1, _, h1.kept hK (fun k hk hk1 => h3 k hk hk1) hU.below, hU.bound, fun k hk hk2 => ?_, fun k hk => ⟨Nat.lt_of_lt_of_le (h4 k hk).1 hs, (h4 k hk).2⟩, fun k hk => ⟨hk.2.2, hk.1.elim (fun e => (h5 k e).2) (fun e => hn k e)⟩⟩, fun k hk => hn k (Nat.le_trans hs hk), ho⟩, kept_mono hK (fun k hk => (h5 k hk).2)⟩
  rcases hk2.1 with e | e
  · exact h3 k hk e
  · have := (h4 k hk).1; omega
theorem p_append1 (P : Pair W w Z d r S R) (s : ByteArray) (hsz : s.size ≤ maxLen) (A : Option Addr) (c n : Nat) (xs : List Int) (hn : n = xs.length) (hC : Kd.C (Kd.int .u8) W A xs.length xs) (hc : xs.length ≤ c) (hb : Bytes xs) (ht : xs.length ≤ 140737488355328) :
    Calls Try.prog 20 #[.pointer (some ⟨d, 0, none⟩), .string s, .slice (some ⟨W.heap.size, 0, none⟩) 1 1] (W.alloc (.cells #[.slice A n c] 23)) fun e W' => e = .returned (.int .i64 (appendV S s xs).1) ∧ Pair W' w Z d r (appendV S s xs).2 R ∧ Kept W W' Z := by
  subst hn
  exact P.step1 (Q := fun e _ => e = .returned (.int .i64 (appendV S s xs).1)) (fun o1 h1 h4 => append1 h1 s hsz A c xs hC hc hb ht)
theorem p_append2 (P : Pair W w Z d r S R) (s : ByteArray) (hsz : s.size ≤ maxLen) (A : Option Addr) (c n : Nat) (xs : List Int) (hn : n = xs.length) (hC : ∀ W', Kept W W' Z → Kd.C (Kd.int .u8) W' A xs.length xs) (hc : xs.length ≤ c) (ht : xs.length ≤ 140737488351232) :
    Calls Try.prog 32 #[.pointer (some ⟨r, 0, none⟩), .string s, .slice A n c] W fun e W' => e = .returned (.int .i64 (appendR R s xs).1) ∧ Pair W' w Z d r S (appendR R s xs).2 ∧ Kept W W' Z := by
  subst hn
  exact P.step2 (Q := fun e _ => e = .returned (.int .i64 (appendR R s xs).1)) (fun o2 h2 h5 => appendR_calls h2 s hsz A c xs (fun W' hk => hC W' (kept_mono hk (fun k hk => (h5 k hk).2))) hc ht)
theorem p_sync1 (P : Pair W w Z d r S R) (s : ByteArray) (hsz : s.size ≤ maxLen) :
    Calls Try.prog 39 #[.pointer (some ⟨d, 0, none⟩), .slice (some ⟨W.heap.size, 0, none⟩) 1 1] (W.alloc (.cells #[.string s] 9)) fun e W' => e = .returned (.int .i64 (oneV syncX S s).1) ∧ Pair W' w Z d r (oneV syncX S s).2 R ∧ Kept W W' Z :=
  P.step1 (Q := fun e _ => e = .returned (.int .i64 (oneV syncX S s).1)) (fun o1 h1 h4 => sync1 h1 s hsz)
theorem p_remove1 (P : Pair W w Z d r S R) (s : ByteArray) (hsz : s.size ≤ maxLen) :
    Calls Try.prog 38 #[.pointer (some ⟨d, 0, none⟩), .slice (some ⟨W.heap.size, 0, none⟩) 1 1] (W.alloc (.cells #[.string s] 9)) fun e W' => e = .returned (.int .i64 (oneV removeX S s).1) ∧ Pair W' w Z d r (oneV removeX S s).2 R ∧ Kept W W' Z :=
  P.step1 (Q := fun e _ => e = .returned (.int .i64 (oneV removeX S s).1)) (fun o1 h1 h4 => remove1 h1 s hsz)
theorem p_remove2 (P : Pair W w Z d r S R) (s : ByteArray) (hsz : s.size ≤ maxLen) :
    Calls Try.prog 55 #[.pointer (some ⟨r, 0, none⟩), .string s] W fun e W' => e = .returned (.int .i64 (removeR R s).1) ∧ Pair W' w Z d r S (removeR R s).2 ∧ Kept W W' Z :=
  P.step2 (Q := fun e _ => e = .returned (.int .i64 (removeR R s).1)) (fun o2 h2 h5 => removeF_calls h2 s hsz)
theorem p_trunc1 (P : Pair W w Z d r S R) (s : ByteArray) (hsz : s.size ≤ maxLen) (n : Int) :
    Calls Try.prog 52 #[.pointer (some ⟨d, 0, none⟩), .string s, .int .i64 n] W fun e W' => e = .returned (.int .i64 (truncV S s n).1) ∧ Pair W' w Z d r (truncV S s n).2 R ∧ Kept W W' Z :=
  P.step1 (Q := fun e _ => e = .returned (.int .i64 (truncV S s n).1)) (fun o1 h1 h4 => trunc_up h1 s hsz n)
theorem p_rename1 (P : Pair W w Z d r S R) (s t : ByteArray) (hsz : s.size ≤ maxLen) (htz : t.size ≤ maxLen) :
    Calls Try.prog 40 #[.pointer (some ⟨d, 0, none⟩), .string s, .string t] W fun e W' => e = .returned (.int .i64 (renameV S s t).1) ∧ Pair W' w Z d r (renameV S s t).2 R ∧ Kept W W' Z :=
  P.step1 (Q := fun e _ => e = .returned (.int .i64 (renameV S s t).1)) (fun o1 h1 h4 => rename_up h1 s t hsz htz)
theorem p_rename2 (P : Pair W w Z d r S R) (s t : ByteArray) (hsz : s.size ≤ maxLen) (htz : t.size ≤ maxLen) :
    Calls Try.prog 54 #[.pointer (some ⟨r, 0, none⟩), .string s, .string t] W fun e W' => e = .returned (.int .i64 (renR R s t).1) ∧ Pair W' w Z d r S (renR R s t).2 ∧ Kept W W' Z :=
  P.step2 (Q := fun e _ => e = .returned (.int .i64 (renR R s t).1)) (fun o2 h2 h5 => renR_calls h2 s hsz t htz)
theorem p_fuse1 (P : Pair W w Z d r S R) (n : Int) (hn : n ≤ 9223372036854775807) :
    Calls Try.prog 10 #[.pointer (some ⟨d, 0, none⟩), .int .i64 n] W fun e W' => e = .returned (.tuple #[]) ∧ Pair W' w Z d r (fuseV S n) R ∧ Kept W W' Z :=
  P.step1 (Q := fun e _ => e = .returned (.tuple #[])) (fun o1 h1 h4 => (fuse_any h1 n hn).mono (fun e W' h => ⟨h.1, h.2.1.mono (fun k hk => .inl hk), h.2.2⟩))
theorem p_fuse2 (P : Pair W w Z d r S R) (n : Int) (hn : n ≤ 9223372036854775807) :
    Calls Try.prog 31 #[.pointer (some ⟨r, 0, none⟩), .int .i64 n] W fun e W' => e = .returned (.tuple #[]) ∧ Pair W' w Z d r S { R with left := max (-1) n } ∧ Kept W W' Z :=
  P.step2 (Q := fun e _ => e = .returned (.tuple #[])) (fun o2 h2 h5 => (fuseR_up h2 n hn).mono (fun e W' h => ⟨h.1, h.2.1.mono (fun k hk => .inl hk), h.2.2⟩))
theorem p_crash1 (P : Pair W w Z d r S R) (n : Int) :
    Calls Try.prog 12 #[.pointer (some ⟨d, 0, none⟩), .int .i64 n] W fun e W' => e = .returned (.tuple #[]) ∧ Pair W' w Z d r (crashV n S) R ∧ Kept W W' Z :=
  P.step1 (Q := fun e _ => e = .returned (.tuple #[])) (fun o1 h1 h4 => crash_up h1 n)
theorem p_crash2 (P : Pair W w Z d r S R) (n : Int) :
    Calls Try.prog 30 #[.pointer (some ⟨r, 0, none⟩), .int .i64 n] W fun e W' => e = .returned (.tuple #[]) ∧ Pair W' w Z d r S (crashR n R) ∧ Kept W W' Z :=
  P.step2 (Q := fun e _ => e = .returned (.tuple #[])) (fun o2 h2 h5 => crashR_calls h2 n)
theorem p_read1 (P : Pair W w Z d r S R) (s : ByteArray) (hsz : s.size ≤ maxLen) :
    Calls Try.prog 34 #[.pointer (some ⟨d, 0, none⟩), .string s] W fun e w' => ∃ A c, e = .returned (.tuple #[.slice A (readV S s).1.length c, .int .i64 (readV S s).2]) ∧ Kd.R (Kd.int .u8) 5 w' W.heap.size (fun k => W.heap.size ≤ k) (.slice A (readV S s).1.length c) (readV S s).1 ∧ Below W.heap.size W w' := by
  obtain ⟨⟨o1, o2, h1, h2, h3, h4, h5⟩, hn, ho⟩ := P
  exact (read_up h1 s hsz).mono (fun e w' ⟨A, c, he, hR, _, hB⟩ => ⟨A, c, he, hR, hB⟩)
theorem Pair.step0 (P : Pair W w Z d r S R) {n : Nat} {args : Array Value} {Q : Ending → World → Prop} (hc : ∀ o1 o2, DiskUp W w o1 d S → RefUp W w o2 r R → Calls Try.prog n args W Q) : Calls Try.prog n args W Q := by
  obtain ⟨⟨o1, o2, h1, h2, _⟩, _, _⟩ := P
  exact hc o1 o2 h1 h2
theorem p_sync2 (P : Pair W w Z d r S R) (s : ByteArray) (hsz : s.size ≤ maxLen) :
    Calls Try.prog 51 #[.pointer (some ⟨r, 0, none⟩), .string s] W fun e W' => e = .returned (.int .i64 (syncR R s).1) ∧ Pair W' w Z d r S (syncR R s).2 ∧ Kept W W' Z :=
  P.step2 (Q := fun e _ => e = .returned (.int .i64 (syncR R s).1)) (fun o2 h2 h5 => syncR_calls h2 s hsz)
theorem p_trunc2 (P : Pair W w Z d r S R) (s : ByteArray) (hsz : s.size ≤ maxLen) (n : Int) :
    Calls Try.prog 53 #[.pointer (some ⟨r, 0, none⟩), .string s, .int .i64 n] W fun e W' => e = .returned (.int .i64 (truncR R s n).1) ∧ Pair W' w Z d r S (truncR R s n).2 ∧ Kept W W' Z :=
  P.step2 (Q := fun e _ => e = .returned (.int .i64 (truncR R s n).1)) (fun o2 h2 h5 => truncR_calls h2 s hsz n)
theorem p_read2 (P : Pair W w Z d r S R) (s : ByteArray) :
    Calls Try.prog 35 #[.pointer (some ⟨r, 0, none⟩), .string s] W fun e w' => ∃ A c, e = .returned (.tuple #[.slice A (readRV R s.data.toList).1.length c, .int .i64 (readRV R s.data.toList).2]) ∧ (readRV R s.data.toList).1.length ≤ c ∧ Kd.C (Kd.int .u8) w' A (readRV R s.data.toList).1.length (readRV R s.data.toList).1 ∧ Below W.heap.size W w' := by
  refine P.step0 (fun o1 o2 h1 h2 => ?_)
  obtain ⟨⟨vL, es, hi, _⟩, _, hf⟩ := h2
  exact (readR_calls hi (by rw [← hi.len]; exact hf.many) (by have := hf.used; have := hf.r1; omega) s).mono (fun e w' ⟨A, c, he, hc, hD, _, hB⟩ => ⟨A, c, he, hc, hD.C rfl, hB⟩)
theorem p_used1 (P : Pair W w Z d r S R) : Calls Try.prog 46 #[.pointer (some ⟨d, 0, none⟩)] W fun e w' => e = .returned (.int .i64 (total S.L)) ∧ Below W.heap.size W w' :=
  P.step0 (fun o1 o2 h1 h2 => used_calls h1)
theorem p_used2 (P : Pair W w Z d r S R) : Calls Try.prog 57 #[.pointer (some ⟨r, 0, none⟩)] W fun e w' => e = .returned (.int .i64 (total R.L)) ∧ w' = W := by
  refine P.step0 (fun o1 o2 h1 h2 => ?_)
  obtain ⟨⟨vL, es, hi, _⟩, _, hf⟩ := h2
  exact usedR_calls hi (by have := hf.used; have := hf.r1; omega) (by rw [← hi.len]; exact hf.many)
theorem p_list1 (P : Pair W w Z d r S R) : Calls Try.prog 25 #[.pointer (some ⟨d, 0, none⟩)] W fun e w' => ∃ A c, e = .returned (.slice A (namesOf S).length c) ∧ (namesOf S).length ≤ c ∧ Kd.R Kd.string 9 w' W.heap.size (fun k => W.heap.size ≤ k) (.slice A (namesOf S).length c) (namesOf S) ∧ Below W.heap.size W w' :=
  P.step0 (fun o1 o2 h1 h2 => (list_up h1).mono (fun e w' ⟨A, c, he, hc, hR, _, hB⟩ => ⟨A, c, he, hc, hR, hB⟩))
theorem p_list2 (P : Pair W w Z d r S R) : Calls Try.prog 33 #[.pointer (some ⟨r, 0, none⟩)] W fun e w' => ∃ A c, e = .returned (.slice A (namesR R).length c) ∧ (namesR R).length ≤ c ∧ Kd.R Kd.string 9 w' W.heap.size (fun k => W.heap.size ≤ k) (.slice A (namesR R).length c) (namesR R) ∧ Below W.heap.size W w' := by
  refine P.step0 (fun o1 o2 h1 h2 => ?_)
  obtain ⟨⟨vL, es, hi, _⟩, _, hf⟩ := h2
  exact listR_calls hi (by rw [← hi.len]; exact hf.many) (fun b hb => hi.lt b hb)
end
end Go.Proofs.Ytdepjlnljkbfjaa.Hand
