/- Contracts by hand of net.Net's methods: what they do to the net's own memory. -/
import Derived.Test.YtmindpofjnicfaaPAx
import Derived.Test.YtmindpofjnicfaaShelf
import Derived.Deep.DeepMust
namespace Go.Proofs.Ytmindpofjnicfaa.Hand
open Go.RowKit Go.Proofs.Ytmindpofjnicfaa.PA Go.Proofs.YtmindpofjnicfaaW.PrintWords Go.Proofs.YtmindpofjnicfaaW.PrintLast Go.Proofs.YtmindpofjnicfaaW.PrintMore
attribute [local go_sem] max2_int min2_int

/-- The net at block g of W: its row's value v, its messages l; all of it in blocks that are ok. -/
structure IsNet (W : World) (base : Nat) (ok : Nat → Prop) (g : Nat) (v : Value) (l : List S28) : Prop where
  here : W.heap[g]? = some (.cells #[v] 53 (0, 0))
  mine : ok g
  young : base ≤ g
  row : Kd.S k28 28 W base ok v l

theorem clone_calls (A : Option Addr) (c : Nat) (l : List Int) (w : World) (hr : Kd.C (Kd.int .u8) w A l.length l) (hl : l.length ≤ 140737488355328) :
    Calls Try.prog 24 #[.slice A l.length c] w fun e w' => ∃ v, e = .returned v ∧ Kd.R (Kd.int .u8) 5 w' w.heap.size (fun _ => True) v l ∧ Below w.heap.size w w' := by
  cases A with
  | none =>
    have h0 : l = [] := by
      rcases Nat.eq_zero_or_pos l.length with h | h
      · exact List.eq_nil_of_length_eq_zero h
      · obtain ⟨ad, e, _⟩ := hr.2.2 h
        cases e
    subst h0
    refine (Try.bytes_Clone_nil 0 c w).mono ?_
    rintro e w' ⟨rfl, rfl⟩
    exact ⟨_, rfl, Kd.R_nil _ _ _ _ _, Below.refl _ _⟩
  | some a =>
    refine (Try.bytes_Clone_at a l.length c l w rfl hl (fun i hi => ?_)).mono ?_
    · obtain ⟨ad, e, h⟩ := Kd.at_int hr (i : Int) (by omega) (by omega)
      cases e
      exact h
    · rintro e w' ⟨v, rfl, ho, _, hb⟩
      exact ⟨v, rfl, ⟨fun _ _ => trivial, _, ho, Kd.reps_scalar _⟩, hb⟩

theorem len_nil (w : World) : Calls Try.prog 13 #[.pointer none] w fun e w' => e = .returned (.int .i64 0) ∧ w' = w := by
  go_enter Try.func13, Try.ntmps13
  go_wp2
  go_ret
  exact ⟨rfl, rfl⟩
theorem len_calls (g : Nat) (A : Option Addr) (n c : Nat) (w : World) (h : w.cell? ⟨g, 0, none⟩ = some (.slice A n c)) :
    Calls Try.prog 13 #[.pointer (some ⟨g, 0, none⟩)] w fun e w' => e = .returned (.int .i64 n) ∧ w' = w := by
  go_enter Try.func13, Try.ntmps13
  go_wp2
  go_ret
  exact ⟨rfl, rfl⟩
theorem picked_nil (p : Int) (w : World) : Calls Try.prog 25 #[.pointer none, .int .i64 p] w fun e w' => e = .returned (.tuple #[.int .i64 0, .bool false]) ∧ w' = w := by
  go_enter Try.func25, Try.ntmps25
  go_wp2_with (go_at_call 13; refine (len_nil _).mono ?_; rintro e w' ⟨rfl, rfl⟩)
  go_ret2
  exact ⟨rfl, rfl⟩
theorem picked_none (g : Nat) (A : Option Addr) (c : Nat) (p : Int) (w : World) (h : w.cell? ⟨g, 0, none⟩ = some (.slice A 0 c)) :
    Calls Try.prog 25 #[.pointer (some ⟨g, 0, none⟩), .int .i64 p] w fun e w' => e = .returned (.tuple #[.int .i64 0, .bool false]) ∧ w' = w := by
  go_enter Try.func25, Try.ntmps25
  go_wp2_with (go_at_call 13; refine (len_calls g A 0 c _ h).mono ?_; rintro e w' ⟨rfl, rfl⟩)
  go_ret2
  exact ⟨rfl, rfl⟩
def pickOf (p : Int) (n : Nat) : Int := max 0 p % (n : Int)
theorem picked_some (g : Nat) (A : Option Addr) (n c : Nat) (p : Int) (w : World) (h : w.cell? ⟨g, 0, none⟩ = some (.slice A n c)) (hn : 0 < n) :
    Calls Try.prog 25 #[.pointer (some ⟨g, 0, none⟩), .int .i64 p] w fun e w' => e = .returned (.tuple #[.int .i64 (pickOf p n), .bool true]) ∧ w' = w := by
  have hb : ((n : Int) == 0) = false := beq_eq_false_iff_ne.2 (by omega)
  go_enter Try.func25, Try.ntmps25
  go_wp2_with (go_at_call 13; refine (len_calls g A n c _ h).mono ?_; rintro e w' ⟨rfl, rfl⟩)
  go_ret2
  exact ⟨rfl, rfl⟩
theorem new_calls (w : World) : Calls Try.prog 8 #[] w fun e w' => e = .returned (.pointer (some ⟨w.heap.size, 0, none⟩)) ∧ IsNet w' w.heap.size (fun k => w.heap.size ≤ k) w.heap.size (.slice none 0 0) [] ∧ Below w.heap.size w w' := by
  go_enter Try.func8, Try.ntmps8
  go_wp2
  go_ret
  exact ⟨rfl, ⟨by simpa using heap_alloc_new w _, Nat.le_refl _, Nat.le_refl _, Kd.S_nil _ _ _ _ _⟩, (Below.refl _ _).alloc (Nat.le_refl _) _⟩
theorem send_nil (A : Option Addr) (n c : Nat) (w : World) : Calls Try.prog 9 #[.pointer none, .slice A n c] w fun e w' => e = .returned (.int .i64 0) ∧ w' = w := by
  go_enter Try.func9, Try.ntmps9
  go_wp2
  go_ret
  exact ⟨rfl, rfl⟩
end Go.Proofs.Ytmindpofjnicfaa.Hand
