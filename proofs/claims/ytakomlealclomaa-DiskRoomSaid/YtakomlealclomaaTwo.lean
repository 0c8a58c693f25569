/- Two disks in one memory: neither touches the other. -/
import Derived.Test.YtakomlealclomaaManyw
namespace Go.Proofs.Ytakomlealclomaa.Hand
open Go.RowKit Go.Proofs.Ytakomlealclomaa.PA Go.Proofs.Ytakomlealclomaa.MapP Go.Proofs.YtakomlealclomaaW.PrintWords Go.Proofs.YtakomlealclomaaW.PrintLast Go.Proofs.YtakomlealclomaaW.PrintMore
attribute [local go_sem] max2_int min2_int
set_option linter.unusedVariables false
set_option linter.unusedSimpArgs false
set_option linter.unusedSectionVars false
section
variable {W W' W1 w0 w1 : World} {a b d f : Nat} {SA SB SA' S : DV} {ok : Nat → Prop} {args : Array Value} {r : Value}
theorem DiskUp.rebase (h : DiskUp W w1 ok d S) (hb : Below w0.heap.size w0 w1) : DiskUp W w0 ok d S := by
  obtain ⟨⟨m, F, h1, h2⟩, h3, h4⟩ := h
  exact ⟨⟨m, F, h1, fun b hb' => ⟨(h2 b hb').1, Nat.le_trans hb.size (h2 b hb').2⟩⟩, hb.trans (h3.mono hb.size), h4⟩
/-- Two disks, each with blocks of its own. -/
def Two (W w0 : World) (a b : Nat) (SA SB : DV) : Prop := ∃ okA okB : Nat → Prop, DiskUp W w0 okA a SA ∧ DiskUp W w0 okB b SB ∧ (∀ k, okA k → ¬ okB k) ∧ (∀ k, okA k → k < W.heap.size) ∧ (∀ k, okB k → k < W.heap.size)
theorem Two.swap (h : Two W w0 a b SA SB) : Two W w0 b a SB SA := by
  obtain ⟨okA, okB, hA, hB, hd, la, lb⟩ := h
  exact ⟨okB, okA, hB, hA, fun k h1 h2 => hd k h2 h1, lb, la⟩
theorem Two.below (h : Two W w0 a b SA SB) : Below w0.heap.size w0 W := by
  obtain ⟨okA, okB, hA, _⟩ := h
  exact hA.below
theorem Two.start (hA : DiskUp W1 w0 ok a SA) (hB : DiskUp W W1 (fun k => W1.heap.size ≤ k) b SB) : Two W w0 a b SA SB := by
  have h1 := hA.bound
  have h2 := hB.rebase hA.below
  have h3 := h1.kept (W' := W) (T := fun k => W1.heap.size ≤ k) ⟨hB.below.size, fun k hk _ => hB.below.block k hk⟩ (fun k hk h => by have := hk.2.2; omega) h2.below
  exact ⟨_, _, h3, h2.bound, fun k h4 h5 => by have := h4.2.2; have := h5.1; omega, fun k h4 => Nat.lt_of_lt_of_le h4.2.2 hB.below.size, fun k h4 => h4.2.2⟩
theorem Two.quiet (h : Two W w0 a b SA SB) (hb : Below W.heap.size W W') : Two W' w0 a b SA SB := by
  obtain ⟨okA, okB, hA, hB, hd, la, lb⟩ := h
  have hk : Kept W W' (fun _ => False) := ⟨hb.size, fun k hk _ => hb.block k hk⟩
  have hB0 := hA.below.trans (hb.mono hA.below.size)
  exact ⟨okA, okB, hA.kept hk (fun _ _ h => h) hB0, hB.kept hk (fun _ _ h => h) hB0, hd, fun k h => Nat.lt_of_lt_of_le (la k h) hb.size, fun k h => Nat.lt_of_lt_of_le (lb k h) hb.size⟩
theorem Two.alloc (h : Two W w0 a b SA SB) (o : Obj) : Two (W.alloc o) w0 a b SA SB := h.quiet ((Below.refl _ _).alloc (Nat.le_refl _) o)
theorem Two.onA (h : Two W w0 a b SA SB) (hc : ∀ ok, DiskUp W w0 ok a SA → (∀ k, ok k → k < W.heap.size) → Calls Try.prog f args W1 fun e w' => e = .returned r ∧ DiskUp w' w0 (fun k => ok k ∨ W.heap.size ≤ k) a SA' ∧ Kept W w' ok) :
    Calls Try.prog f args W1 fun e w' => e = .returned r ∧ Two w' w0 a b SA' SB := by
  obtain ⟨okA, okB, hA, hB, hd, la, lb⟩ := h
  refine (hc okA hA la).mono ?_
  rintro e w' ⟨rfl, h1, h2⟩
  refine ⟨rfl, _, okB, h1.bound, hB.kept h2 (fun k h3 h4 => hd k h4 h3) h1.below, fun k h3 h4 => ?_, fun k h3 => h3.2.2, fun k h3 => Nat.lt_of_lt_of_le (lb k h3) h2.1⟩
  rcases h3.1 with h5 | h5
  · exact hd k h5 h4
  · have := lb k h4; omega
theorem two_append (h : Two W w0 a b SA SB) (s : ByteArray) (hsz : s.size ≤ maxLen) (A : Option Addr) (c : Nat) (ls : List (List Int)) (hC : Kd.C (Kd.slice 5 (Kd.int .u8)) W A ls.length ls) (hc : ls.length ≤ c) (hb : ∀ l ∈ ls, Bytes l) (hn : ls.length ≤ 140737488355328) (ht : ls.flatten.length ≤ 140737488355328) :
    Calls Try.prog 12 #[.pointer (some ⟨a, 0, none⟩), .string s, .slice A ls.length c] W fun e w' => e = .returned (.int .i64 (appendV SA s ls.flatten).1) ∧ Two w' w0 a b (appendV SA s ls.flatten).2 SB :=
  h.onA fun ok h1 _ => append_walk h1 s hsz A c ls hC hc hb hn ht
theorem two_append1 (h : Two W w0 a b SA SB) (s : ByteArray) (hsz : s.size ≤ maxLen) (A : Option Addr) (c : Nat) (xs : List Int) (hC : Kd.C (Kd.int .u8) W A xs.length xs) (hc : xs.length ≤ c) (hb : Bytes xs) (ht : xs.length ≤ 140737488355328) :
    Calls Try.prog 12 #[.pointer (some ⟨a, 0, none⟩), .string s, .slice (some ⟨W.heap.size, 0, none⟩) 1 1] (W.alloc (.cells #[.slice A xs.length c] 23)) fun e w' => e = .returned (.int .i64 (appendV SA s xs).1) ∧ Two w' w0 a b (appendV SA s xs).2 SB :=
  h.onA fun ok h1 _ => append1 h1 s hsz A c xs hC hc hb ht
theorem two_sync1 (h : Two W w0 a b SA SB) (s : ByteArray) (hsz : s.size ≤ maxLen) :
    Calls Try.prog 13 #[.pointer (some ⟨a, 0, none⟩), .slice (some ⟨W.heap.size, 0, none⟩) 1 1] (W.alloc (.cells #[.string s] 9)) fun e w' => e = .returned (.int .i64 (oneV syncX SA s).1) ∧ Two w' w0 a b (oneV syncX SA s).2 SB :=
  h.onA fun ok h1 _ => sync1 h1 s hsz
theorem two_sync (h : Two W w0 a b SA SB) (names : List ByteArray) (hc : names.length ≤ 4611686018427387904) (hsz : ∀ s ∈ names, s.size ≤ maxLen) (o : Obj) (ho : o = .cells (names.map Value.string).toArray 9) (c : Nat) :
    Calls Try.prog 13 #[.pointer (some ⟨a, 0, none⟩), .slice (some ⟨W.heap.size, 0, none⟩) names.length c] (W.alloc o) fun e w' => e = .returned (.int .i64 (eachV syncX SA names).1) ∧ Two w' w0 a b (eachV syncX SA names).2 SB := by
  subst ho
  refine h.onA fun ok h1 hl => (sync_up (h1.alloc _) ⟨W.heap.size, 0, none⟩ names c hc (names_at names hsz hl)).mono ?_
  rintro e w' ⟨rfl, h2, h3⟩
  refine ⟨rfl, h2.mono (fun k hk => hk.imp_right (fun h => ?_)), ((Kept.refl W ok).alloc _).then_ h3 (fun b hb => .inl hb)⟩
  simp at h
  omega
theorem two_remove (h : Two W w0 a b SA SB) (names : List ByteArray) (hc : names.length ≤ 4611686018427387904) (hsz : ∀ s ∈ names, s.size ≤ maxLen) (o : Obj) (ho : o = .cells (names.map Value.string).toArray 9) (c : Nat) :
    Calls Try.prog 19 #[.pointer (some ⟨a, 0, none⟩), .slice (some ⟨W.heap.size, 0, none⟩) names.length c] (W.alloc o) fun e w' => e = .returned (.int .i64 (eachV removeX SA names).1) ∧ Two w' w0 a b (eachV removeX SA names).2 SB := by
  subst ho
  refine h.onA fun ok h1 hl => (remove_up (h1.alloc _) (fun k hk => by have := hl k hk; simp; omega) ⟨W.heap.size, 0, none⟩ names c hc (names_at names hsz hl)).mono ?_
  rintro e w' ⟨rfl, h2, h3⟩
  refine ⟨rfl, h2.mono (fun k hk => hk.imp_right (fun h => ?_)), ((Kept.refl W ok).alloc _).then_ h3 (fun b hb => .inl hb)⟩
  simp at h
  omega
theorem two_crash (h : Two W w0 a b SA SB) (draw : Int) : Calls Try.prog 14 #[.pointer (some ⟨a, 0, none⟩), .int .i64 draw] W fun e w' => e = .returned (.tuple #[]) ∧ Two w' w0 a b (crashV draw SA) SB :=
  h.onA fun ok h1 _ => crash_up h1 draw
theorem two_read (h : Two W w0 a b SA SB) (s : ByteArray) (hsz : s.size ≤ maxLen) :
    Calls Try.prog 15 #[.pointer (some ⟨a, 0, none⟩), .string s] W fun e w' => ∃ A c, e = .returned (.tuple #[.slice A (readV SA s).1.length c, .int .i64 (readV SA s).2]) ∧ (readV SA s).1.length ≤ c ∧ Kd.C (Kd.int .u8) w' A (readV SA s).1.length (readV SA s).1 ∧ Two w' w0 a b SA SB ∧ Below W.heap.size W w' := by
  obtain ⟨okA, okB, hA, hB, hd, la, lb⟩ := id h
  refine (read_up hA s hsz).mono ?_
  rintro e w' ⟨A, c, rfl, hR, h1, hb⟩
  have hr := Kd.R_reads' hR
  exact ⟨A, c, rfl, hr.2.1, hr.2.2, h.quiet hb, hb⟩
theorem two_list (h : Two W w0 a b SA SB) (hL : SA.L = []) : Calls Try.prog 20 #[.pointer (some ⟨a, 0, none⟩)] W fun e w' => ∃ (A : Option Addr) (c : Nat), e = .returned (.slice A 0 c) ∧ Two w' w0 a b SA SB := by
  obtain ⟨okA, okB, hA, hB, hd, la, lb⟩ := id h
  refine (list_empty hA hL).mono ?_
  rintro e w' ⟨A, c, rfl, _, hb⟩
  exact ⟨A, c, rfl, h.quiet hb⟩
/-- Nothing is synced: no name. -/
theorem sync_none (d : Nat) (W : World) (c : Nat) : Calls Try.prog 13 #[.pointer (some ⟨d, 0, none⟩), .slice none 0 c] W fun e w' => e = .returned (.int .i64 0) ∧ w' = W := by
  have he : Calls Try.prog 33 #[.pointer (some ⟨d, 0, none⟩), .slice none 0 c, .func (.func 34) #[] #[]] W fun e w' => e = .returned (.int .i64 0) ∧ w' = W := by
    go_enter Try.func33, Try.ntmps33
    go_wp2
    go_loopw [15] (fun s wr => s = .int .i64 0 ∧ wr = W) (fun _ _ => 0)
    case atStart => exact ⟨rfl, rfl⟩
    case round =>
      obtain ⟨rfl, rfl⟩ := hrel
      go_wp2
      go_ret
      exact ⟨rfl, rfl⟩
  have HE := Aside0.mk he
  clear he
  go_enter Try.func13, Try.ntmps13
  go_wp2_with (go_at_call 33; refine HE.out.mono ?_; rintro e w1 ⟨rfl, rfl⟩)
  go_ret
  exact ⟨rfl, rfl⟩
end
end Go.Proofs.Ytakomlealclomaa.Hand
