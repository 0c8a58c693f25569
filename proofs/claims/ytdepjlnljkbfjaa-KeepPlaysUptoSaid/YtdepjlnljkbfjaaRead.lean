/- Read, Sync. -/
import Derived.Test.YtdepjlnljkbfjaaAppend0
namespace Go.Proofs.Ytdepjlnljkbfjaa.Hand
open Go.RowKit Go.Proofs.Ytdepjlnljkbfjaa.MapP Go.Proofs.YtdepjlnljkbfjaaW.PrintWords Go.Proofs.YtdepjlnljkbfjaaW.PrintLast Go.Proofs.YtdepjlnljkbfjaaW.PrintMore
attribute [local go_sem] max2_int min2_int
set_option linter.unusedVariables false
set_option linter.unusedSimpArgs false
set_option linter.unusedSectionVars false
section
variable {w w0 W W' : World} {d m : Nat} {ok : Nat → Prop} {S S' : DV} {F : FL} {k : Key} {y : FV}
theorem clone_calls (A : Option Addr) (c : Nat) (l : List Int) (w : World) (hr : Kd.C (Kd.int .u8) w A l.length l) (hl : l.length ≤ 140737488355328) :
    Calls Try.prog 43 #[.slice A l.length c] w fun e w' => ∃ v, e = .returned v ∧ Kd.R (Kd.int .u8) 5 w' w.heap.size (fun k => w.heap.size ≤ k) v l ∧ Below w.heap.size w w' := by
  cases A with
  | none =>
    have h0 : l = [] := by
      rcases Nat.eq_zero_or_pos l.length with h | h
      · exact List.eq_nil_of_length_eq_zero h
      · obtain ⟨ad, e, _⟩ := hr.2.2 h
        cases e
    subst h0
    refine (Try.bytes_Clone_nil 0 c w).mono ?_
    rintro e w' ⟨rfl, rfl⟩
    exact ⟨_, rfl, Kd.R_nil _ _ _ _ _, Below.refl _ _⟩
  | some a =>
    refine (Try.bytes_Clone_at a l.length c l w rfl hl (fun i hi => ?_)).mono ?_
    · obtain ⟨ad, e, h⟩ := Kd.at_int hr (i : Int) (by omega) (by omega)
      cases e
      exact h
    · rintro e w' ⟨v, rfl, ho, _, hb⟩
      refine ⟨v, rfl, ⟨fun k hk => ?_, _, ho, Kd.reps_scalar _⟩, hb⟩
      rcases ho.2 with ⟨rfl, _⟩ | ⟨g, cap, cur, rfl, hge, _⟩
      · simp [Value.ownBlock] at hk
      · simp [Value.ownBlock] at hk
        omega
theorem read_nil (s : ByteArray) (w : World) : Calls Try.prog 34 #[.pointer none, .string s] w fun e w' => e = .returned (.tuple #[.slice none 0 0, .int .i64 7]) ∧ w' = w := by
  go_enter Try.func34, Try.ntmps34
  go_wp2
  go_ret2
  exact ⟨rfl, rfl⟩
def readV (S : DV) (s : ByteArray) : List Int × Int := match at_ S.L s.data.toList with
  | some x => (x.1, 0)
  | none => ([], 7)
set_option maxRecDepth 100000 in
theorem read_up (h : DiskUp w w0 ok d S) (s : ByteArray) (hsz : s.size ≤ maxLen) :
    Calls Try.prog 34 #[.pointer (some ⟨d, 0, none⟩), .string s] w fun e w' => ∃ A c, e = .returned (.tuple #[.slice A (readV S s).1.length c, .int .i64 (readV S s).2]) ∧ Kd.R (Kd.int .u8) 5 w' w.heap.size (fun k => w.heap.size ≤ k) (.slice A (readV S s).1.length c) (readV S s).1 ∧ DiskUp w' w0 ok d S ∧ Below w.heap.size w w' := by
  have HD := Aside0.mk h
  obtain ⟨⟨m, F, hi, hft⟩, hB0, hf⟩ := h
  have h1 := hi.head.c1
  have hlook := hi.map.look PT s hsz
  rw [hi.at] at hlook
  have hat := hi.atL s.data.toList
  have HI := Aside0.mk hi
  have HFI := Aside0.mk hf
  unfold readV
  rw [hat]
  clear hat
  cases hk : at_ F s.data.toList with
  | none =>
    rw [hk] at hlook
    simp only [Option.map_none, ptrOf] at hlook
    clear hk hi hft hf hB0
    go_enter Try.func34, Try.ntmps34
    go_wp2
    go_ret2
    exact ⟨none, 0, rfl, Kd.R_nil _ _ _ _ _, HD.out, Below.refl _ _⟩
  | some y =>
    rw [hk] at hlook
    simp only [Option.map_some, ptrOf] at hlook
    have hfile := hi.file _ (at_mem hk)
    have hc0 := hfile.c0
    obtain ⟨A, c, hv, hc⟩ := hfile.2.slice
    simp only at hv hc0
    rw [hv] at hc0
    have hlen : y.x.1.length ≤ 140737488355328 := by
      have h1 := total_mem (L := S.L) (k := s.data.toList) (x := y.x) (by rw [hi.atL, hk]; rfl)
      have := hf.used
      have := hf.r1
      omega
    have HC := Aside0.mk (clone_calls A c y.x.1 w (hfile.2.C hv) hlen)
    clear hk hi hft hf hB0 hfile hlen hv
    simp only [Option.map_some]
    obtain ⟨xs, n, hx⟩ : ∃ xs n, y.x = (xs, n) := ⟨_, _, rfl⟩
    rw [hx] at HC hc0 ⊢
    simp only at HC hc0 ⊢
    go_enter Try.func34, Try.ntmps34
    go_wp2_with (go_at_call 43; refine HC.out.mono ?_; rintro e w' ⟨v, rfl, hR, hB⟩)
    obtain ⟨A5, c5, rfl⟩ := Kd.R_slice hR
    go_ret2
    exact ⟨A5, c5, rfl, hR, HD.out.kept (Kept.of_below hB (fun _ => False)) (fun _ _ h => h) (HD.out.below.trans (hB.mono HD.out.below.size)), hB⟩
/-- What Sync of a file leaves. -/
theorem sync1_calls (hi : IsDisk w d m S F) (hk : at_ F k = some y) (s : Value) :
    Calls Try.prog 73 #[s, .pointer (some ⟨y.g, 0, none⟩)] w fun e w' => e = .returned (.tuple #[]) ∧ w' = w.setCell ⟨y.g, 1, none⟩ (.int .i64 y.x.1.length) := by
  have hfile := hi.file _ (at_mem hk)
  have hc0 := hfile.c0
  have hc1 := hfile.c1
  have hz1 : w.frozen? ⟨y.g, 1, none⟩ = false := blk_frozen hfile.1 1
  obtain ⟨A, c, hv, hc⟩ := hfile.2.slice
  simp only at hv hc0 hc1
  rw [hv] at hc0
  clear hfile hi hk hv
  go_enter Try.func73, Try.ntmps73
  go_wp2
  go_end0
  exact ⟨rfl, rfl⟩
theorem synced_is (hi : IsDisk W d m S F) (hk : at_ F k = some y) :
    IsDisk (W.setCell ⟨y.g, 1, none⟩ (.int .i64 y.x.1.length)) d m { S with L := put S.L k (y.x.1, y.x.1.length) } (put F k ⟨y.g, y.v, (y.x.1, y.x.1.length)⟩) ∧
      (∀ b ∈ foot d m (put F k ⟨y.g, y.v, (y.x.1, y.x.1.length)⟩), b ∈ foot d m F ∨ W.heap.size ≤ b) ∧ Kept W (W.setCell ⟨y.g, 1, none⟩ (.int .i64 y.x.1.length)) (· ∈ foot d m F) ∧ ∀ B, Below B W W → (∀ b ∈ foot d m F, B ≤ b) → Below B W (W.setCell ⟨y.g, 1, none⟩ (.int .i64 y.x.1.length)) := by
  have hfile := hi.file _ (at_mem hk)
  have hmem : y.g ∈ foot d m F := mem_foot_file (at_mem hk) (by simp [one])
  have hne := hi.own_ne hk
  have hfar : ∀ b, b ≠ y.g → (W.setCell ⟨y.g, 1, none⟩ (.int .i64 y.x.1.length)).heap[b]? = W.heap[b]? := fun b hb => Below.heap_setCell W ⟨y.g, 1, none⟩ _ b hb
  have hch := hi.changed (W' := W.setCell ⟨y.g, 1, none⟩ (.int .i64 y.x.1.length)) (S' := { S with L := put S.L k (y.x.1, y.x.1.length) }) (y' := ⟨y.g, y.v, (y.x.1, y.x.1.length)⟩) hk rfl
    ⟨blk_set hfile.1 1 _, hfile.2.step (fun b hb => hfar b (fun e => hne (by rw [hb, e])))⟩ (fun b hb hb2 => hfar b (fun e => hb2 (by simp [one, e]))) (.inl rfl) rfl
  exact ⟨hch.1, hch.2, (Kept.refl W _).setCell (p := ⟨y.g, 1, none⟩) (.inl hmem) _, fun B _ hB => (Below.refl B W).setCell (p := ⟨y.g, 1, none⟩) (hB _ hmem) _⟩
/-- A thing done with one file. -/
def oneV (f : List Int × Nat → Option (List Int × Nat)) (S : DV) (s : ByteArray) : Int × DV :=
  if mayV S.fused S.left [s] ≠ 0 then (mayV S.fused S.left [s], S)
  else match at_ S.L s.data.toList with
    | none => (7, S)
    | some x => (0, { S with left := doneL S.fused S.left, L := match f x with
      | some x' => put S.L s.data.toList x'
      | none => del S.L s.data.toList })
def syncX (x : List Int × Nat) : Option (List Int × Nat) := some (x.1, x.1.length)
def eachV (f : List Int × Nat → Option (List Int × Nat)) (S : DV) : List ByteArray → Int × DV
  | [] => (0, S)
  | s :: l => if (oneV f S s).1 = 0 then eachV f (oneV f S s).2 l else oneV f S s
theorem done_left (hf : S.Fine) {l : List ByteArray} (h : mayV S.fused S.left l = 0) : 0 ≤ doneL S.fused S.left ∧ doneL S.fused S.left ≤ 9223372036854775807 := by
  unfold doneL
  have h0 := hf.l0
  have h1 := hf.l1
  split
  · rename_i hfu
    by_cases h2 : 0 < S.left
    · omega
    · exfalso
      have h3 : S.left = 0 := by omega
      unfold mayV at h
      simp [hfu, h3] at h
  · exact ⟨h0, h1⟩
theorem sync_fine (hf : S.Fine) (s : ByteArray) : (oneV syncX S s).2.Fine := by
  unfold oneV
  split
  · exact hf
  · rename_i hm
    cases hk : at_ S.L s.data.toList with
    | none => exact hf
    | some x =>
      have hl := done_left hf (l := [s]) (by simpa using hm)
      have hx := total_put hf.once s.data.toList (x.1, x.1.length)
      rw [hk] at hx
      simp only [Option.getD_some] at hx
      refine ⟨hf.r0, hf.r1, hl.1, hl.2, ?_, fun p hp => ?_, hf.once.put, ?_⟩
      · have := hf.used
        simp only [syncX]
        omega
      · rcases mem_put p hp with h | rfl
        · exact hf.lasts p h
        · exact Nat.le_refl _
      · simp only [syncX, length_put, hk, Option.isSome_some, if_true]
        exact hf.many
end
end Go.Proofs.Ytdepjlnljkbfjaa.Hand
