/- What the walk of DiskPlays wants of its steps: their weight, their rows as given, and New of a room that is none. -/
import Derived.Test.YtdepjlnljkbfjaaPlayD
import Derived.Test.YtdepjlnljkbfjaaKnownw
import Derived.Test.YtdepjlnljkbfjaaMsgs
namespace Go.Proofs.Ytdepjlnljkbfjaa.Hand
open Go.RowKit Go.Proofs.Ytdepjlnljkbfjaa.PA Go.Proofs.Ytdepjlnljkbfjaa.MapP Go.Proofs.YtdepjlnljkbfjaaW.PrintWords Go.Proofs.YtdepjlnljkbfjaaW.PrintLast Go.Proofs.YtdepjlnljkbfjaaW.PrintMore
attribute [local go_sem] max2_int min2_int
set_option linter.unusedVariables false
set_option linter.unusedSimpArgs false
set_option linter.unusedSectionVars false
def Fits (x : S41) : Prop := x.f2.size ≤ 140737488355328 ∧ x.f3.size ≤ 140737488355328 ∧ x.f4.length ≤ 140737488355328
theorem wr_is (x : Int) (h0 : 0 ≤ x) (h1 : x ≤ 4611686018427387905) : wrap64 x = x := by unfold wrap64; omega
theorem heavy0 (l : List S41) (hl : l.length ≤ 4611686018427387904) (hsz : ∀ i : Nat, i < l.length → Fits (rd_T41 l i)) : ∀ (d i : Nat) (v : Int), i + d = l.length → 0 ≤ v → v ≤ 8000 →
    ∃ b, haystacklaw10_heavy.l0 (2 * d + 2) l v i = some b ∧ (b = false → ∀ j : Nat, i ≤ j → j < l.length → j < 120 → ((rd_T41 l j).f2.size + (rd_T41 l j).f3.size + (rd_T41 l j).f4.length : Int) ≤ 8000) := by
  intro d
  induction d with
  | zero =>
    intro i v h h0 h1
    refine ⟨false, ?_, fun _ j hj hj2 => by omega⟩
    unfold haystacklaw10_heavy.l0
    rw [if_neg (by omega)]
    unfold haystacklaw10_heavy.j1
    rw [if_neg (by decide)]
  | succ d ih =>
    intro i v h h0 h1
    obtain ⟨f1, f2, f3⟩ := hsz i (by omega)
    obtain ⟨a, ha⟩ : ∃ a : Int, a = ((rd_T41 l i).f2.size : Int) := ⟨_, rfl⟩
    obtain ⟨b, hb⟩ : ∃ b : Int, b = ((rd_T41 l i).f3.size : Int) := ⟨_, rfl⟩
    obtain ⟨c, hc⟩ : ∃ c : Int, c = ((rd_T41 l i).f4.length : Int) := ⟨_, rfl⟩
    have e1 := wr_is (v + a) (by omega) (by omega)
    have e2 := wr_is (v + a + b) (by clear e1; omega) (by clear e1; omega)
    have e3 := wr_is (v + a + b + c) (by clear e1 e2; omega) (by clear e1 e2; omega)
    have e4 : wrap64 ((i : Int) + 1) = ((i + 1 : Nat) : Int) := wr_is _ (by clear e1 e2 e3; omega) (by clear e1 e2 e3; omega)
    obtain ⟨w1, hw1⟩ : ∃ w1, w1 = v + a + b + c := ⟨_, rfl⟩
    have E1 := Aside0.mk e1
    have E2 := Aside0.mk e2
    have E3 := Aside0.mk e3
    have E4 := Aside0.mk e4
    clear e1 e2 e3 e4
    show ∃ b, haystacklaw10_heavy.l0 (2 * d + 2 + 1 + 1) l v i = some b ∧ _
    unfold haystacklaw10_heavy.l0
    rw [if_pos (by omega)]
    unfold haystacklaw10_heavy.j1
    by_cases h120 : (i : Int) < 120
    · rw [if_pos (by simpa using h120), if_pos (by omega), if_pos (by omega), ← ha, ← hb, ← hc, E1.out, E2.out, E3.out, E4.out, ← hw1]
      by_cases hbig : w1 > 8000
      · rw [if_pos hbig]
        exact ⟨true, rfl, fun h => by cases h⟩
      · rw [if_neg hbig]
        obtain ⟨r, hr1, hr2⟩ := ih (i + 1) w1 (by omega) (by omega) (by omega)
        refine ⟨r, hr1, fun hr j hj hj2 hj3 => ?_⟩
        rcases Nat.eq_or_lt_of_le hj with e | e
        · subst e
          rw [← ha, ← hb, ← hc]
          omega
        · exact hr2 hr j e hj2 hj3
    · rw [if_neg (by simpa using h120)]
      exact ⟨false, rfl, fun _ j hj hj2 hj3 => by omega⟩
theorem heavy_is (l : List S41) (hl : l.length ≤ 4611686018427387904) (hsz : ∀ i : Nat, i < l.length → Fits (rd_T41 l i)) :
    ∃ k b, haystacklaw10_heavy.f k l = some b ∧ (b = false → ∀ j : Nat, j < l.length → j < 120 → ((rd_T41 l j).f2.size + (rd_T41 l j).f3.size + (rd_T41 l j).f4.length : Int) ≤ 8000) := by
  obtain ⟨b, h1, h2⟩ := heavy0 l hl hsz l.length 0 0 (by omega) (by omega) (by omega)
  exact ⟨_, b, h1, fun hb j hj => h2 hb j (Nat.zero_le _) hj⟩
theorem new_bad (room : Int) (w : World) (h : room < 0 ∨ 1073741824 < room) : Calls Try.prog 9 #[.int .i64 room] w fun e w' => e = .returned (.tuple #[.pointer none, .int .i64 1]) ∧ w' = w := by
  by_cases h0 : room < 0
  · have hb : decide (room < 0) = true := decide_eq_true h0
    go_enter Try.func9, Try.ntmps9
    go_wp2
    go_ret2
    exact ⟨rfl, rfl⟩
  · have h1 : 1073741824 < room := by omega
    have hb : decide (room < 0) = false := decide_eq_false h0
    have hb2 : decide (1073741824 < room) = true := decide_eq_true h1
    go_enter Try.func9, Try.ntmps9
    go_wp2
    go_ret2
    exact ⟨rfl, rfl⟩
end Go.Proofs.Ytdepjlnljkbfjaa.Hand

/- The steps of DiskPlays as a row lays them: what is known of each. -/
namespace Go.Proofs.Ytdepjlnljkbfjaa.Hand
open Go.RowKit Go.Proofs.Ytdepjlnljkbfjaa.PA Go.Proofs.Ytdepjlnljkbfjaa.MapP Go.Proofs.Ytdepjlnljkbfjaa.Opens Go.Proofs.YtdepjlnljkbfjaaW.PrintWords Go.Proofs.YtdepjlnljkbfjaaW.PrintLast Go.Proofs.YtdepjlnljkbfjaaW.PrintMore
set_option linter.unusedVariables false
set_option linter.unusedSimpArgs false
theorem opens_text {P : Program} {t : TypeId} (ht : P.underlying t = some .string) : Opens P Kd.string t (fun s => s.size ≤ reachBytes) := by
  refine ⟨?_⟩
  intro H enc W base spare held fuel cs x h hw
  obtain ⟨s, rfl, rfl, hs⟩ := DataW.trod_string ht h
  have h1 := hw s.data.toList.length (by simp [DataW.weights])
  have e : s.size = s.data.toList.length := (Array.length_toList (xs := s.data)).symm
  exact ⟨s, rfl, by rw [e]; exact h1⟩
instance : Inhabited S41 := ⟨⟨0, 0, ByteArray.empty, ByteArray.empty, []⟩⟩
def stepOk (x : S41) : Prop := (Lit.int .i64 x.f0).wf = true ∧ (Lit.int .i64 x.f1).wf = true ∧ x.f2.size ≤ reachBytes ∧ x.f3.size ≤ reachBytes ∧ (x.f4.length * Try.prog.bytesOf 5 ≤ reachBytes ∧ ∀ y ∈ x.f4, (Lit.int .u8 y).wf = true)
theorem opens_step : Opens Try.prog k41 41 stepOk :=
  opens_iso (opens_struct Try.underlying41 (by kernel_rfl) (opensF_cons rfl (opens_int Try.underlying3) (by kernel_rfl) (opensF_cons rfl (opens_int Try.underlying3) (by kernel_rfl) (opensF_cons rfl (opens_text Try.underlying9) (by kernel_rfl) (opensF_cons rfl (opens_text Try.underlying9) (by kernel_rfl) (opensF_one opens_bytes (by kernel_rfl)))))))
    (fun x : S41 => (x.f0, x.f1, x.f2, x.f3, x.f4)) (fun a => ⟨a.1, a.2.1, a.2.2.1, a.2.2.2.1, a.2.2.2.2⟩) (fun _ => rfl)
theorem opens_steps : Opens Try.prog (Kd.slice 41 k41) 35 (fun xs => xs.length * Try.prog.bytesOf 41 ≤ reachBytes ∧ ∀ x ∈ xs, stepOk x) := opens_slice 41 opens_step Try.underlying35 (by kernel_rfl)
theorem bytes5 : Try.prog.bytesOf 5 = 1 := by kernel_rfl
theorem stepOk.fits {x : S41} (h : stepOk x) : Fits x := by
  obtain ⟨_, _, h2, h3, h4, _⟩ := h
  rw [bytes5, Nat.mul_one] at h4
  unfold reachBytes at h2 h3 h4
  exact ⟨by omega, by omega, by omega⟩
end Go.Proofs.Ytdepjlnljkbfjaa.Hand

/- Pairs of new disks: made by New, made by Copy; and the relation between them. -/
namespace Go.Proofs.Ytdepjlnljkbfjaa.Hand
open Go.RowKit Go.Proofs.Ytdepjlnljkbfjaa.PA Go.Proofs.Ytdepjlnljkbfjaa.MapP Go.Proofs.YtdepjlnljkbfjaaW.PrintWords Go.Proofs.YtdepjlnljkbfjaaW.PrintLast Go.Proofs.YtdepjlnljkbfjaaW.PrintMore
set_option linter.unusedVariables false
set_option linter.unusedSimpArgs false
set_option linter.unusedSectionVars false
section
variable {W W' w w0 w1 w3 w4 : World} {Z T o : Nat → Prop} {d r B : Nat} {S : DV} {R : RV} {ok : Nat → Prop}
theorem RefUp.rebase (h : RefUp W w1 ok r R) (hb : Below w0.heap.size w0 w1) : RefUp W w0 ok r R := by
  obtain ⟨⟨vL, es, h1, h2⟩, h3, h4⟩ := h
  exact ⟨⟨vL, es, ⟨h1.head, own_weaken h1.row hb.size, h1.dat, h1.val⟩, fun b hb' => ⟨(h2 b hb').1, Nat.le_trans hb.size (h2 b hb').2⟩⟩, hb.trans (h3.mono hb.size), h4⟩
theorem pair_of (h1 : DiskUp w3 w o d S) (h2 : RefUp w4 w (fun k => w3.heap.size ≤ k) r R) (hB : Below w3.heap.size w3 w4) (ho : ∀ k, o k → B ≤ k) (hb : w.heap.size ≤ B) (hb3 : B ≤ w3.heap.size) : Pair w4 w (fun k => B ≤ k) d r S R := by
  have hs := hB.size
  refine ⟨⟨_, _, h1.bound.quiet hB, h2.bound, fun k hk hk2 => ?_, fun k hk => ⟨Nat.lt_of_lt_of_le hk.2.2 hs, ho k hk.1⟩, fun k hk => ⟨hk.2.2, Nat.le_trans hb3 hk.1⟩⟩, fun k hk => Nat.le_trans hb3 (Nat.le_trans hs hk), fun k hk => Nat.le_trans hb hk⟩
  have := hk.2.2
  have := hk2.1
  omega
theorem rel_new (room : Int) (h0 : 0 ≤ room) (h1 : room ≤ 1073741824) : Rel ⟨room, false, 0, []⟩ ⟨room, -1, []⟩ :=
  ⟨rfl, rfl, by simp [SortedK], List.Perm.refl _, h0, h1, by simp, by simp, by simpa [total] using h0, fun p hp => (by cases hp), by simp [Once], by simp⟩
theorem rel_copied (h : Rel S R) {L' : List (Key × (List Int × Nat))} (hp : L'.Perm S.L) : Rel ⟨S.room, false, 0, L'⟩ { R with left := -1 } :=
  ⟨h.room, rfl, h.sorted, h.perm.trans hp.symm, copy_fine h.fine hp⟩
/-- What changes one pair's blocks of old leaves the new pair's. -/
theorem Pair.apart (P : Pair W w (fun k => B ≤ k) d r S R) (hK : Kept W W' (fun k => (Z k ∧ k < B) ∨ W.heap.size ≤ k)) (hB : Below w.heap.size w W') : Pair W' w (fun k => B ≤ k) d r S R :=
  P.kept (T := fun k => Z k ∧ k < B) ⟨hK.1, fun k hk hz => hK.2 k hk (fun e => e.elim hz (fun e => by omega))⟩ (fun k hk hz => by have := hk.2; have h2 : B ≤ k := hz; omega) hB
end
end Go.Proofs.Ytdepjlnljkbfjaa.Hand
