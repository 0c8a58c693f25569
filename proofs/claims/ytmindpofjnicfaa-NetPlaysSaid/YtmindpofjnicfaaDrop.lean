import Derived.Test.YtmindpofjnicfaaKnown
import Derived.Deep.QuietTactic
import Derived.BigQuiet
namespace Go.Proofs.Ytmindpofjnicfaa.Hand
open Go.RowKit Go.Proofs.Ytmindpofjnicfaa.PA Go.Proofs.YtmindpofjnicfaaW.PrintWords Go.Proofs.YtmindpofjnicfaaW.PrintLast Go.Proofs.YtmindpofjnicfaaW.PrintMore
attribute [local go_sem] max2_int min2_int
theorem cell_lt {w : World} {p : Addr} {v : Value} (h : w.cell? p = some v) : p.block < w.heap.size := by
  rcases Nat.lt_or_ge p.block w.heap.size with h' | h'
  · exact h'
  · simp [World.cell?, Array.getElem?_eq_none h'] at h
/-- Is the message one that goes? -/
def hit (ns : List Int) (x : S28) : Bool := ns.contains x.f0 || ns.contains x.f1
theorem contains_calls (A : Option Addr) (c : Nat) (ns : List Int) (v : Int) (w : World) (hC : Kd.C (Kd.int .i64) w A ns.length ns) : Calls Try.prog 29 #[.slice A ns.length c, .int .i64 v] w fun e w' => e = .returned (.bool (ns.contains v)) ∧ w' = w := by
  cases ns with
  | nil => exact Try.slices_Contains_int_empty A c v w
  | cons y ns =>
    obtain ⟨ad, hA, _⟩ := hC.2.2 (by simp)
    subst hA
    obtain ⟨⟨b, off, sp⟩, hA, hc0⟩ := Kd.at_int hC 0 (by omega) (by simp)
    cases hA
    obtain rfl : sp = none := by
      cases sp with
      | none => rfl
      | some q =>
        exfalso
        unfold World.cell? at hc0
        split at hc0 <;> simp [Addr.add] at hc0
    refine (Try.slices_Contains_int b off (y :: ns).length c (y :: ns) v w (Nat.le_refl _) hC.2.1 (fun j hj => ?_)).mono ?_
    · obtain ⟨ad, hA, h⟩ := Kd.at_int hC (j : Int) (by omega) (by omega)
      cases hA
      rw [Int.toNat_natCast, Addr.add_lit] at h
      rw [h]
      simp [rd]
    · rintro e w' ⟨rfl, rfl⟩
      rw [List.take_length]
      exact ⟨rfl, rfl⟩
theorem del_calls (A : Option Addr) (c : Nat) (ns : List Int) (x : S28) (A2 : Option Addr) (c2 : Nat) (b : Nat) (w : World) (hC : Kd.C (Kd.int .i64) w A ns.length ns) (hb : w.cell? ⟨b, 0, none⟩ = some (.slice A ns.length c)) :
    Calls Try.prog 28 #[.agg #[.int .i64 x.f0, .int .i64 x.f1, .slice A2 x.f2.length c2], .pointer (some ⟨b, 0, none⟩)] w fun e w' => e = .returned (.bool (hit ns x)) ∧ Below w.heap.size w w' := by
  have HS0 : ∀ o, Calls Try.prog 29 #[.slice A ns.length c, .int .i64 x.f0] (w.alloc o) fun e w' => e = .returned (.bool (ns.contains x.f0)) ∧ w' = w.alloc o := fun o => contains_calls A c ns _ _ (Kd.C_alloc hC o)
  have HS1 : ∀ o, Calls Try.prog 29 #[.slice A ns.length c, .int .i64 x.f1] (w.alloc o) fun e w' => e = .returned (.bool (ns.contains x.f1)) ∧ w' = w.alloc o := fun o => contains_calls A c ns _ _ (Kd.C_alloc hC o)
  have hb1 : ∀ o, (w.alloc o).cell? ⟨b, 0, none⟩ = some (.slice A ns.length c) := fun o => Go.Lib.cell?_alloc_some o hb
  clear hC hb
  unfold hit
  generalize ns.contains x.f0 = b0 at *
  generalize ns.contains x.f1 = b1 at *
  cases b0
  · go_enter Try.func28, Try.ntmps28
    go_wp2_with fail
    refine (HS0 _).mono ?_
    rintro e w' ⟨rfl, rfl⟩
    go_wp2_with fail
    refine (HS1 _).mono ?_
    rintro e w' ⟨rfl, rfl⟩
    go_wp2
    go_ret
    exact ⟨by simp, (Below.refl _ _).alloc (Nat.le_refl _) _⟩
  · go_enter Try.func28, Try.ntmps28
    go_wp2_with fail
    refine (HS0 _).mono ?_
    rintro e w' ⟨rfl, rfl⟩
    go_wp2
    go_ret
    exact ⟨by simp, (Below.refl _ _).alloc (Nat.le_refl _) _⟩
/-- Where the first message that goes stands; -1: there is none. -/
def firstHit (ns : List Int) : List S28 → Option Nat
  | [] => none
  | x :: l => if hit ns x then some 0 else (firstHit ns l).map (· + 1)
theorem index_calls (A : Option Addr) (c : Nat) (l : List S28) (A1 : Option Addr) (c1 : Nat) (ns : List Int) (b : Nat) (w : World) (hK : Kd.C k28 w A l.length l) (hC : Kd.C (Kd.int .i64) w A1 ns.length ns) (hb : w.cell? ⟨b, 0, none⟩ = some (.slice A1 ns.length c1)) :
    Calls Try.prog 30 #[.slice A l.length c, .func (.func 28) #[] #[.pointer (some ⟨b, 0, none⟩)]] w fun e w' => Below w.heap.size w w' ∧
      ((e = .returned (.int .i64 (-1)) ∧ ∀ i, i < l.length → hit ns (rd_T28 l i) = false) ∨ ∃ i : Nat, e = .returned (.int .i64 i) ∧ i < l.length ∧ (∀ j : Nat, j < i → hit ns (rd_T28 l j) = false) ∧ hit ns (rd_T28 l i) = true) := by
  have HK := Aside0.mk hK
  have HC := Aside0.mk hC
  have HB := Aside0.mk hb
  have hll := hK.2.1
  clear hK hC hb
  go_enter Try.func30, Try.ntmps30
  go_wp2
  go_loopg [8] l.length (fun gk s8 wr => ∃ i : Nat, i ≤ l.length ∧ l.length - i ≤ gk ∧ s8 = .int .i64 i ∧ Aside0 (Below w.heap.size w wr) ∧ Aside0 (∀ j : Nat, j < i → hit ns (rd_T28 l j) = false))
  case atStart => exact ⟨0, Nat.zero_le _, by omega, rfl, ⟨Below.refl _ _⟩, ⟨fun j hj => by omega⟩⟩
  case round =>
    obtain ⟨i, hi, hgk, rfl, HW, HH⟩ := hrel
    by_cases hlt : i < l.length
    · obtain ⟨gk, rfl⟩ : ∃ q, gk = q + 1 := ⟨gk - 1, by omega⟩
      obtain ⟨ad, A2, c2, rfl, hx0, hx1, hx2, _, _⟩ := at_T28 (Kd.C_below HK.out HW.out) (i : Int) (by omega) (by omega)
      simp only [Int.toNat_natCast] at hx0 hx1 hx2
      have HD1 := del_calls A1 c1 ns (rd_T28 l i) A2 c2 b wr (Kd.C_below HC.out HW.out) ((HW.out.cell (cell_lt HB.out)).trans HB.out)
      obtain ⟨h, hh⟩ : ∃ h, hit ns (rd_T28 l i) = h := ⟨_, rfl⟩
      rw [hh] at HD1
      have HHH := Aside0.mk hh
      clear hh
      generalize rd_T28 l (i : Int) = x at hx0 hx1 hx2 HD1
      go_wp2_with fail
      refine HD1.mono ?_
      rintro e w2 ⟨rfl, hB2⟩
      have HB2 := Aside0.mk (HW.out.trans (hB2.mono HW.out.size))
      clear hB2 HD1
      cases h with
      | false =>
        go_wp2
        go_roundg gk
        case measure => omega
        case rel =>
          refine ⟨i + 1, by omega, by omega, by go_num, HB2, ⟨fun j hj => ?_⟩⟩
          rcases Nat.lt_or_ge j i with h | h
          · exact HH.out j h
          · obtain rfl : j = i := by omega
            exact HHH.out
      | true =>
        go_wp2
        go_ret
        exact ⟨HB2.out, .inr ⟨i, rfl, hlt, HH.out, HHH.out⟩⟩
    · obtain rfl : i = l.length := by omega
      go_wp2
      go_ret
      exact ⟨HW.out, .inl ⟨rfl, HH.out⟩⟩
end Go.Proofs.Ytmindpofjnicfaa.Hand
