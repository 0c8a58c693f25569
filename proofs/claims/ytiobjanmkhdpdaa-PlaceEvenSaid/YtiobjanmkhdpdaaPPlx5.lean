/- Laid by a program of this work (wip/tools/myprint.py): a function's Lean twin and its contract. -/
import Derived.Test.YtiobjanmkhdpdaaPPlx0
import Derived.Test.YtiobjanmkhdpdaaPPlx1
import Derived.Test.YtiobjanmkhdpdaaPPlx2
namespace Go.Proofs.Ytiobjanmkhdpdaa.PPl
open Go.RowKit Go.Proofs.Ytiobjanmkhdpdaa.Hand Go.Proofs.YtiobjanmkhdpdaaW.PrintWords Go.Proofs.YtiobjanmkhdpdaaW.PrintLast Go.Proofs.YtiobjanmkhdpdaaW.PrintMore
attribute [local go_sem] max2_int min2_int max_two min_two max_three min_three max_four min_four   -- for this text's walks alone
set_option linter.unusedVariables false
set_option linter.unusedSimpArgs false

/-! ### haystacklaw20_PlaceEven: function 4 -/
mutual
def haystacklaw20_PlaceEven.j0 : Nat → Int → Int → Int → Bool → Option (Bool)
  | 0, _, _, _, _ => none
  | k + 1, x0, x1, x2, x43 => if x43 = true then ((haystacklaw20_known.f k).bind fun t221 => (some t221)) else (haystacklaw20_PlaceEven.l0 k x0 x1 x2 ([] : List Int) 0)
def haystacklaw20_PlaceEven.l0 : Nat → Int → Int → Int → List Int → Int → Option (Bool)
  | 0, _, _, _, _, _ => none
  | k + 1, x0, x1, x2, x7, x8 => if x8 < x0 then (if x7.length < 17592186044416 then (haystacklaw20_PlaceEven.l0 k x0 x1 x2 (x7 ++ [x8]) (wrap64 (x8 + 1))) else (none)) else ((place_Spread.f k (wrap64 (x0 * x1)) x2 x7).bind fun bt225 => (if bt225.2 = 0 then (haystacklaw20_PlaceEven.j2 k x0 x1 x2 bt225.1 ((bt225.1.length : Int) != (wrap64 (x0 * x1)))) else (haystacklaw20_PlaceEven.j2 k x0 x1 x2 bt225.1 true)))
def haystacklaw20_PlaceEven.j2 : Nat → Int → Int → Int → List (List Int) → Bool → Option (Bool)
  | 0, _, _, _, _, _ => none
  | k + 1, x0, x1, x2, x9, x72 => if x72 = true then (some false) else (if 0 ≤ x0 then (if (x0 : Int).toNat ≤ 35184372088832 then (haystacklaw20_PlaceEven.l1 k x0 x1 x2 x9 (List.replicate (x0 : Int).toNat 0) 0) else (none)) else (none))
def haystacklaw20_PlaceEven.l1 : Nat → Int → Int → Int → List (List Int) → List Int → Int → Option (Bool)
  | 0, _, _, _, _, _, _ => none
  | k + 1, x0, x1, x2, x9, x11, x12 => if x12 < (x9.length : Int) then (if 0 ≤ x12 then (if ((rd_L1 x9 x12).length : Int) = x2 then (haystacklaw20_PlaceEven.l2 k x0 x1 x2 x9 x11 x12 0) else (some false)) else (none)) else (haystacklaw20_PlaceEven.l3 k x0 x1 x2 x11 0)
def haystacklaw20_PlaceEven.l2 : Nat → Int → Int → Int → List (List Int) → List Int → Int → Int → Option (Bool)
  | 0, _, _, _, _, _, _, _ => none
  | k + 1, x0, x1, x2, x9, x11, x12, x13 => if 0 ≤ x12 then (if x12 < (x9.length : Int) then (if x13 < ((rd_L1 x9 x12).length : Int) then (if 0 ≤ x13 then (if (rd (rd_L1 x9 x12) x13) < 0 then (some false) else (if (rd (rd_L1 x9 x12) x13) ≥ x0 then (some false) else (if x13 > 0 then (if 0 ≤ (wrap64 (x13 - 1)) then (if (wrap64 (x13 - 1)) < ((rd_L1 x9 x12).length : Int) then (if (rd (rd_L1 x9 x12) x13) ≤ (rd (rd_L1 x9 x12) (wrap64 (x13 - 1))) then (some false) else (if 0 ≤ (rd (rd_L1 x9 x12) x13) then (if (rd (rd_L1 x9 x12) x13) < (x11.length : Int) then (haystacklaw20_PlaceEven.l2 k x0 x1 x2 x9 (x11.set ((rd (rd_L1 x9 x12) x13) : Int).toNat (wrap64 ((rd x11 (rd (rd_L1 x9 x12) x13)) + 1))) x12 (wrap64 (x13 + 1))) else (none)) else (none))) else (none)) else (none)) else (if 0 ≤ (rd (rd_L1 x9 x12) x13) then (if (rd (rd_L1 x9 x12) x13) < (x11.length : Int) then (haystacklaw20_PlaceEven.l2 k x0 x1 x2 x9 (x11.set ((rd (rd_L1 x9 x12) x13) : Int).toNat (wrap64 ((rd x11 (rd (rd_L1 x9 x12) x13)) + 1))) x12 (wrap64 (x13 + 1))) else (none)) else (none))))) else (none)) else (haystacklaw20_PlaceEven.l1 k x0 x1 x2 x9 x11 (wrap64 (x12 + 1)))) else (none)) else (none)
def haystacklaw20_PlaceEven.l3 : Nat → Int → Int → Int → List Int → Int → Option (Bool)
  | 0, _, _, _, _, _ => none
  | k + 1, x0, x1, x2, x11, x14 => if x14 < x0 then (if 0 ≤ x14 then (if x14 < (x11.length : Int) then (if (rd x11 x14) = (wrap64 (x2 * x1)) then (haystacklaw20_PlaceEven.l3 k x0 x1 x2 x11 (wrap64 (x14 + 1))) else (some false)) else (none)) else (none)) else ((haystacklaw20_known.f k).bind fun t251 => (some t251))
end
def haystacklaw20_PlaceEven.f (k : Nat) (a0 : Int) (a1 : Int) (a2 : Int) : Option (Bool) := if a0 < 1 then (haystacklaw20_PlaceEven.j0 k a0 a1 a2 true) else (if a0 > 7 then (haystacklaw20_PlaceEven.j0 k a0 a1 a2 true) else (if a1 < 1 then (haystacklaw20_PlaceEven.j0 k a0 a1 a2 true) else (if a1 > 8 then (haystacklaw20_PlaceEven.j0 k a0 a1 a2 true) else (if (wrap64 (a0 * a1)) > 8 then (haystacklaw20_PlaceEven.j0 k a0 a1 a2 true) else (if a2 < 1 then (haystacklaw20_PlaceEven.j0 k a0 a1 a2 true) else (haystacklaw20_PlaceEven.j0 k a0 a1 a2 (decide (a2 > a0))))))))
theorem haystacklaw20_PlaceEven.mono_l : ∀ k, (∀ y0 y1 y2 y3, LeO (haystacklaw20_PlaceEven.j0 k y0 y1 y2 y3) (haystacklaw20_PlaceEven.j0 (k + 1) y0 y1 y2 y3)) ∧ (∀ y0 y1 y2 y3 y4, LeO (haystacklaw20_PlaceEven.l0 k y0 y1 y2 y3 y4) (haystacklaw20_PlaceEven.l0 (k + 1) y0 y1 y2 y3 y4)) ∧ (∀ y0 y1 y2 y3 y4, LeO (haystacklaw20_PlaceEven.j2 k y0 y1 y2 y3 y4) (haystacklaw20_PlaceEven.j2 (k + 1) y0 y1 y2 y3 y4)) ∧ (∀ y0 y1 y2 y3 y4 y5, LeO (haystacklaw20_PlaceEven.l1 k y0 y1 y2 y3 y4 y5) (haystacklaw20_PlaceEven.l1 (k + 1) y0 y1 y2 y3 y4 y5)) ∧ (∀ y0 y1 y2 y3 y4 y5 y6, LeO (haystacklaw20_PlaceEven.l2 k y0 y1 y2 y3 y4 y5 y6) (haystacklaw20_PlaceEven.l2 (k + 1) y0 y1 y2 y3 y4 y5 y6)) ∧ (∀ y0 y1 y2 y3 y4, LeO (haystacklaw20_PlaceEven.l3 k y0 y1 y2 y3 y4) (haystacklaw20_PlaceEven.l3 (k + 1) y0 y1 y2 y3 y4))
  | 0 => ⟨fun _ _ _ _ r h => by simp [haystacklaw20_PlaceEven.j0] at h, fun _ _ _ _ _ r h => by simp [haystacklaw20_PlaceEven.l0] at h, fun _ _ _ _ _ r h => by simp [haystacklaw20_PlaceEven.j2] at h, fun _ _ _ _ _ _ r h => by simp [haystacklaw20_PlaceEven.l1] at h, fun _ _ _ _ _ _ _ r h => by simp [haystacklaw20_PlaceEven.l2] at h, fun _ _ _ _ _ r h => by simp [haystacklaw20_PlaceEven.l3] at h⟩
  | k + 1 => by
    obtain ⟨ih0, ih1, ih2, ih3, ih4, ih5⟩ := haystacklaw20_PlaceEven.mono_l k
    refine ⟨?_, ?_, ?_, ?_, ?_, ?_⟩
    · intro y0 y1 y2 y3
      unfold haystacklaw20_PlaceEven.j0
      repeat' first
      | (with_reducible exact ih0 _ _ _ _)
      | (with_reducible exact ih1 _ _ _ _ _)
      | (with_reducible exact ih2 _ _ _ _ _)
      | (with_reducible exact ih3 _ _ _ _ _ _)
      | (with_reducible exact ih4 _ _ _ _ _ _ _)
      | (with_reducible exact ih5 _ _ _ _ _)
      | (with_reducible exact haystacklaw20_known.mono _)
      | (with_reducible exact place_Spread.mono _ _ _ _)
      | (with_reducible exact LeO.refl _)
      | (with_reducible exact LeO.none _)
      | (with_reducible refine LeO.ite ?_ ?_)
      | (with_reducible refine LeO.bind ?_ (fun _ => ?_))
      | exact ih0 _ _ _ _
      | exact ih1 _ _ _ _ _
      | exact ih2 _ _ _ _ _
      | exact ih3 _ _ _ _ _ _
      | exact ih4 _ _ _ _ _ _ _
      | exact ih5 _ _ _ _ _
      | exact haystacklaw20_known.mono _
      | exact place_Spread.mono _ _ _ _
      | exact LeO.none _
      | refine LeO.ite ?_ ?_
      | refine LeO.bind ?_ (fun _ => ?_)
    · intro y0 y1 y2 y3 y4
      unfold haystacklaw20_PlaceEven.l0
      repeat' first
      | (with_reducible exact ih0 _ _ _ _)
      | (with_reducible exact ih1 _ _ _ _ _)
      | (with_reducible exact ih2 _ _ _ _ _)
      | (with_reducible exact ih3 _ _ _ _ _ _)
      | (with_reducible exact ih4 _ _ _ _ _ _ _)
      | (with_reducible exact ih5 _ _ _ _ _)
      | (with_reducible exact haystacklaw20_known.mono _)
      | (with_reducible exact place_Spread.mono _ _ _ _)
      | (with_reducible exact LeO.refl _)
      | (with_reducible exact LeO.none _)
      | (with_reducible refine LeO.ite ?_ ?_)
      | (with_reducible refine LeO.bind ?_ (fun _ => ?_))
      | exact ih0 _ _ _ _
      | exact ih1 _ _ _ _ _
      | exact ih2 _ _ _ _ _
      | exact ih3 _ _ _ _ _ _
      | exact ih4 _ _ _ _ _ _ _
      | exact ih5 _ _ _ _ _
      | exact haystacklaw20_known.mono _
      | exact place_Spread.mono _ _ _ _
      | exact LeO.none _
      | refine LeO.ite ?_ ?_
      | refine LeO.bind ?_ (fun _ => ?_)
    · intro y0 y1 y2 y3 y4
      unfold haystacklaw20_PlaceEven.j2
      repeat' first
      | (with_reducible exact ih0 _ _ _ _)
      | (with_reducible exact ih1 _ _ _ _ _)
      | (with_reducible exact ih2 _ _ _ _ _)
      | (with_reducible exact ih3 _ _ _ _ _ _)
      | (with_reducible exact ih4 _ _ _ _ _ _ _)
      | (with_reducible exact ih5 _ _ _ _ _)
      | (with_reducible exact haystacklaw20_known.mono _)
      | (with_reducible exact place_Spread.mono _ _ _ _)
      | (with_reducible exact LeO.refl _)
      | (with_reducible exact LeO.none _)
      | (with_reducible refine LeO.ite ?_ ?_)
      | (with_reducible refine LeO.bind ?_ (fun _ => ?_))
      | exact ih0 _ _ _ _
      | exact ih1 _ _ _ _ _
      | exact ih2 _ _ _ _ _
      | exact ih3 _ _ _ _ _ _
      | exact ih4 _ _ _ _ _ _ _
      | exact ih5 _ _ _ _ _
      | exact haystacklaw20_known.mono _
      | exact place_Spread.mono _ _ _ _
      | exact LeO.none _
      | refine LeO.ite ?_ ?_
      | refine LeO.bind ?_ (fun _ => ?_)
    · intro y0 y1 y2 y3 y4 y5
      unfold haystacklaw20_PlaceEven.l1
      repeat' first
      | (with_reducible exact ih0 _ _ _ _)
      | (with_reducible exact ih1 _ _ _ _ _)
      | (with_reducible exact ih2 _ _ _ _ _)
      | (with_reducible exact ih3 _ _ _ _ _ _)
      | (with_reducible exact ih4 _ _ _ _ _ _ _)
      | (with_reducible exact ih5 _ _ _ _ _)
      | (with_reducible exact haystacklaw20_known.mono _)
      | (with_reducible exact place_Spread.mono _ _ _ _)
      | (with_reducible exact LeO.refl _)
      | (with_reducible exact LeO.none _)
      | (with_reducible refine LeO.ite ?_ ?_)
      | (with_reducible refine LeO.bind ?_ (fun _ => ?_))
      | exact ih0 _ _ _ _
      | exact ih1 _ _ _ _ _
      | exact ih2 _ _ _ _ _
      | exact ih3 _ _ _ _ _ _
      | exact ih4 _ _ _ _ _ _ _
      | exact ih5 _ _ _ _ _
      | exact haystacklaw20_known.mono _
      | exact place_Spread.mono _ _ _ _
      | exact LeO.none _
      | refine LeO.ite ?_ ?_
      | refine LeO.bind ?_ (fun _ => ?_)
    · intro y0 y1 y2 y3 y4 y5 y6
      unfold haystacklaw20_PlaceEven.l2
      repeat' first
      | (with_reducible exact ih0 _ _ _ _)
      | (with_reducible exact ih1 _ _ _ _ _)
      | (with_reducible exact ih2 _ _ _ _ _)
      | (with_reducible exact ih3 _ _ _ _ _ _)
      | (with_reducible exact ih4 _ _ _ _ _ _ _)
      | (with_reducible exact ih5 _ _ _ _ _)
      | (with_reducible exact haystacklaw20_known.mono _)
      | (with_reducible exact place_Spread.mono _ _ _ _)
      | (with_reducible exact LeO.refl _)
      | (with_reducible exact LeO.none _)
      | (with_reducible refine LeO.ite ?_ ?_)
      | (with_reducible refine LeO.bind ?_ (fun _ => ?_))
      | exact ih0 _ _ _ _
      | exact ih1 _ _ _ _ _
      | exact ih2 _ _ _ _ _
      | exact ih3 _ _ _ _ _ _
      | exact ih4 _ _ _ _ _ _ _
      | exact ih5 _ _ _ _ _
      | exact haystacklaw20_known.mono _
      | exact place_Spread.mono _ _ _ _
      | exact LeO.none _
      | refine LeO.ite ?_ ?_
      | refine LeO.bind ?_ (fun _ => ?_)
    · intro y0 y1 y2 y3 y4
      unfold haystacklaw20_PlaceEven.l3
      repeat' first
      | (with_reducible exact ih0 _ _ _ _)
      | (with_reducible exact ih1 _ _ _ _ _)
      | (with_reducible exact ih2 _ _ _ _ _)
      | (with_reducible exact ih3 _ _ _ _ _ _)
      | (with_reducible exact ih4 _ _ _ _ _ _ _)
      | (with_reducible exact ih5 _ _ _ _ _)
      | (with_reducible exact haystacklaw20_known.mono _)
      | (with_reducible exact place_Spread.mono _ _ _ _)
      | (with_reducible exact LeO.refl _)
      | (with_reducible exact LeO.none _)
      | (with_reducible refine LeO.ite ?_ ?_)
      | (with_reducible refine LeO.bind ?_ (fun _ => ?_))
      | exact ih0 _ _ _ _
      | exact ih1 _ _ _ _ _
      | exact ih2 _ _ _ _ _
      | exact ih3 _ _ _ _ _ _
      | exact ih4 _ _ _ _ _ _ _
      | exact ih5 _ _ _ _ _
      | exact haystacklaw20_known.mono _
      | exact place_Spread.mono _ _ _ _
      | exact LeO.none _
      | refine LeO.ite ?_ ?_
      | refine LeO.bind ?_ (fun _ => ?_)
theorem haystacklaw20_PlaceEven.mono : ∀ a0 a1 a2 k, LeO (haystacklaw20_PlaceEven.f k a0 a1 a2) (haystacklaw20_PlaceEven.f (k + 1) a0 a1 a2) := by
  intro a0 a1 a2 k
  obtain ⟨ih0, ih1, ih2, ih3, ih4, ih5⟩ := haystacklaw20_PlaceEven.mono_l k
  unfold haystacklaw20_PlaceEven.f
  repeat' first
      | (with_reducible exact ih0 _ _ _ _)
      | (with_reducible exact ih1 _ _ _ _ _)
      | (with_reducible exact ih2 _ _ _ _ _)
      | (with_reducible exact ih3 _ _ _ _ _ _)
      | (with_reducible exact ih4 _ _ _ _ _ _ _)
      | (with_reducible exact ih5 _ _ _ _ _)
      | (with_reducible exact haystacklaw20_known.mono _)
      | (with_reducible exact place_Spread.mono _ _ _ _)
      | (with_reducible exact LeO.refl _)
      | (with_reducible exact LeO.none _)
      | (with_reducible refine LeO.ite ?_ ?_)
      | (with_reducible refine LeO.bind ?_ (fun _ => ?_))
      | exact ih0 _ _ _ _
      | exact ih1 _ _ _ _ _
      | exact ih2 _ _ _ _ _
      | exact ih3 _ _ _ _ _ _
      | exact ih4 _ _ _ _ _ _ _
      | exact ih5 _ _ _ _ _
      | exact haystacklaw20_known.mono _
      | exact place_Spread.mono _ _ _ _
      | exact LeO.none _
      | refine LeO.ite ?_ ?_
      | refine LeO.bind ?_ (fun _ => ?_)
set_option maxHeartbeats 8000000 in
set_option maxRecDepth 100000 in
theorem haystacklaw20_PlaceEven.calls (k : Nat) (a0 : Int) (a1 : Int) (a2 : Int) (r : Bool) (w : World) (h : haystacklaw20_PlaceEven.f k a0 a1 a2 = some r) :
    Calls Try.prog 4 #[.int .i64 a0, .int .i64 a1, .int .i64 a2] w fun e w' => e = .returned (.bool r) ∧ Below w.heap.size w w' := by
  have HB := Aside0.mk (Below.refl w.heap.size w)
  have H : (if a0 < 1 then (haystacklaw20_PlaceEven.j0 k a0 a1 a2 true) else (if a0 > 7 then (haystacklaw20_PlaceEven.j0 k a0 a1 a2 true) else (if a1 < 1 then (haystacklaw20_PlaceEven.j0 k a0 a1 a2 true) else (if a1 > 8 then (haystacklaw20_PlaceEven.j0 k a0 a1 a2 true) else (if (wrap64 (a0 * a1)) > 8 then (haystacklaw20_PlaceEven.j0 k a0 a1 a2 true) else (if a2 < 1 then (haystacklaw20_PlaceEven.j0 k a0 a1 a2 true) else (haystacklaw20_PlaceEven.j0 k a0 a1 a2 (decide (a2 > a0))))))))) = some r := h
  clear h
  have HC4 := Aside0.mk H
  clear H
  go_enter Try.func4, Try.ntmps4
  go_upto_region 1 with (fail)
  repeat (go_quiet (fail); go_upto_region 1 with (fail))
  go_cut [43] (fun v43 wc => ∃ (kq : Nat) (x43_3 : Bool), v43 = .bool x43_3 ∧ Aside0 (haystacklaw20_PlaceEven.j0 kq a0 a1 a2 x43_3 = some r) ∧ Aside0 (kq ≤ k) ∧ Aside0 (Below w.heap.size w wc))
  case first =>
    have H := HC4.out
    clear HC4
    by_cases c5 : a0 < 1
    · rw [if_pos c5] at H
      have c5b0 : decide (a0 < 1) = true := decide_eq_true c5
      clear c5
      (first | rw [c5b0] | (simp only [i64_w, i32_w]; rw [c5b0]) | skip)
      have H' := Aside0.mk H
      clear H
      go_wp2
      repeat (go_quiet (fail); try go_wp2)
      go_meet
      case rel => exact ⟨_, (true), (by first | rfl | (simp; done) | (simp [*]; done)), H', ⟨by first | omega | exact Nat.le_refl _⟩, ⟨by repeat (first | (with_reducible first | exact HB.out | apply below_alloc | apply pw_below_drewN | apply below_drew1) | exact HB.out)⟩⟩
    · rw [if_neg c5] at H
      have c5b0 : decide (a0 < 1) = false := decide_eq_false c5
      clear c5
      (first | rw [c5b0] | (simp only [i64_w, i32_w]; rw [c5b0]) | skip)
      by_cases c6 : a0 > 7
      · rw [if_pos c6] at H
        have c6b0 : decide (7 < a0) = true := decide_eq_true c6
        clear c6
        have H' := Aside0.mk H
        clear H
        go_wp2
        repeat (go_quiet (fail); try go_wp2)
        go_meet
        case rel => exact ⟨_, (true), (by first | rfl | (simp; done) | (simp [*]; done)), H', ⟨by first | omega | exact Nat.le_refl _⟩, ⟨by repeat (first | (with_reducible first | exact HB.out | apply below_alloc | apply pw_below_drewN | apply below_drew1) | exact HB.out)⟩⟩
      · rw [if_neg c6] at H
        have c6b0 : decide (7 < a0) = false := decide_eq_false c6
        clear c6
        by_cases c7 : a1 < 1
        · rw [if_pos c7] at H
          have c7b0 : decide (a1 < 1) = true := decide_eq_true c7
          clear c7
          have H' := Aside0.mk H
          clear H
          go_wp2
          repeat (go_quiet (fail); try go_wp2)
          go_meet
          case rel => exact ⟨_, (true), (by first | rfl | (simp; done) | (simp [*]; done)), H', ⟨by first | omega | exact Nat.le_refl _⟩, ⟨by repeat (first | (with_reducible first | exact HB.out | apply below_alloc | apply pw_below_drewN | apply below_drew1) | exact HB.out)⟩⟩
        · rw [if_neg c7] at H
          have c7b0 : decide (a1 < 1) = false := decide_eq_false c7
          clear c7
          by_cases c8 : a1 > 8
          · rw [if_pos c8] at H
            have c8b0 : decide (8 < a1) = true := decide_eq_true c8
            clear c8
            have H' := Aside0.mk H
            clear H
            go_wp2
            repeat (go_quiet (fail); try go_wp2)
            go_meet
            case rel => exact ⟨_, (true), (by first | rfl | (simp; done) | (simp [*]; done)), H', ⟨by first | omega | exact Nat.le_refl _⟩, ⟨by repeat (first | (with_reducible first | exact HB.out | apply below_alloc | apply pw_below_drewN | apply below_drew1) | exact HB.out)⟩⟩
          · rw [if_neg c8] at H
            have c8b0 : decide (8 < a1) = false := decide_eq_false c8
            clear c8
            by_cases c9 : (wrap64 (a0 * a1)) > 8
            · rw [if_pos c9] at H
              have c9b0 : decide (8 < (wrap64 (a0 * a1))) = true := decide_eq_true c9
              clear c9
              have H' := Aside0.mk H
              clear H
              go_wp2
              repeat (go_quiet (fail); try go_wp2)
              go_meet
              case rel => exact ⟨_, (true), (by first | rfl | (simp; done) | (simp [*]; done)), H', ⟨by first | omega | exact Nat.le_refl _⟩, ⟨by repeat (first | (with_reducible first | exact HB.out | apply below_alloc | apply pw_below_drewN | apply below_drew1) | exact HB.out)⟩⟩
            · rw [if_neg c9] at H
              have c9b0 : decide (8 < (wrap64 (a0 * a1))) = false := decide_eq_false c9
              clear c9
              by_cases c10 : a2 < 1
              · rw [if_pos c10] at H
                have c10b0 : decide (a2 < 1) = true := decide_eq_true c10
                clear c10
                have H' := Aside0.mk H
                clear H
                go_wp2
                repeat (go_quiet (fail); try go_wp2)
                go_meet
                case rel => exact ⟨_, (true), (by first | rfl | (simp; done) | (simp [*]; done)), H', ⟨by first | omega | exact Nat.le_refl _⟩, ⟨by repeat (first | (with_reducible first | exact HB.out | apply below_alloc | apply pw_below_drewN | apply below_drew1) | exact HB.out)⟩⟩
              · rw [if_neg c10] at H
                have c10b0 : decide (a2 < 1) = false := decide_eq_false c10
                clear c10
                have H' := Aside0.mk H
                clear H
                go_wp2
                repeat (go_quiet (fail); try go_wp2)
                go_meet
                case rel => exact ⟨_, (decide (a2 > a0)), (by first | rfl | (simp; done) | (simp [*]; done)), H', ⟨by first | omega | exact Nat.le_refl _⟩, ⟨by repeat (first | (with_reducible first | exact HB.out | apply below_alloc | apply pw_below_drewN | apply below_drew1) | exact HB.out)⟩⟩
  case rest =>
    clear HC4
    try clear c1
    try clear p2
    try clear c4
    try clear c5
    try clear c5b0
    try clear c6
    try clear c6b0
    try clear p6
    try clear c7
    try clear c7b0
    try clear c8
    try clear c8b0
    try clear c9
    try clear c9b0
    try clear c10
    try clear c10b0
    obtain ⟨kq, x43_3, rfl, HA, HJ3, HB⟩ := hcut
    cases kq with
    | zero => exact absurd HA.out (by simp [haystacklaw20_PlaceEven.j0])
    | succ kj3 =>
      have H := HA.out
      clear HA
      simp only [haystacklaw20_PlaceEven.j0] at H
      by_cases c11 : x43_3 = true
      · subst c11
        have H1 : ((haystacklaw20_known.f kj3).bind fun t221 => (some t221)) = some r := by rw [if_pos rfl] at H; exact H
        clear H
        have H := H1
        clear H1
        replace H := Option.bind_eq_some_iff.mp H
        obtain ⟨t221, A120, H⟩ := H
        replace H : (some t221) = some r := H
        have A12 := Aside0.mk A120
        clear A120
        obtain rfl := Option.some.inj H
        go_wp2_with (first | (go_at_call 10; (with_reducible refine (haystacklaw20_known.calls kj3  t221 _ A12.out).mono ?_); rintro e w13 ⟨rfl, hb⟩; have n0_ := Aside0.mk (below_step (by repeat (first | (with_reducible first | exact HB.out | apply below_alloc | apply pw_below_drewN | apply below_drew1) | exact HB.out)) hb); clear HB; have HB := n0_; clear n0_; (try clear hb); (try clear hb2); (try clear hk); (try clear hi)))
        repeat (go_quiet (first | (go_at_call 10; (with_reducible refine (haystacklaw20_known.calls kj3  t221 _ A12.out).mono ?_); rintro e w13 ⟨rfl, hb⟩; have n0_ := Aside0.mk (below_step (by repeat (first | (with_reducible first | exact HB.out | apply below_alloc | apply pw_below_drewN | apply below_drew1) | exact HB.out)) hb); clear HB; have HB := n0_; clear n0_; (try clear hb); (try clear hb2); (try clear hk); (try clear hi))); try go_wp2_with (first | (go_at_call 10; (with_reducible refine (haystacklaw20_known.calls kj3  t221 _ A12.out).mono ?_); rintro e w13 ⟨rfl, hb⟩; have n0_ := Aside0.mk (below_step (by repeat (first | (with_reducible first | exact HB.out | apply below_alloc | apply pw_below_drewN | apply below_drew1) | exact HB.out)) hb); clear HB; have HB := n0_; clear n0_; (try clear hb); (try clear hb2); (try clear hk); (try clear hi))))
        go_ret
        exact ⟨by first | rfl | (simp [errW_none, errW_some] <;> rfl) | (simp [*, errW_none, errW_some] <;> rfl), by repeat (first | (with_reducible first | exact HB.out | apply below_alloc | apply pw_below_drewN | apply below_drew1) | exact HB.out)⟩
      · replace c11 := Bool.eq_false_iff.mpr c11
        subst c11
        have H1 : (haystacklaw20_PlaceEven.l0 kj3 a0 a1 a2 ([] : List Int) 0) = some r := by rw [if_neg (show ¬ (false = true) by decide)] at H; exact H
        clear H
        have H := H1
        clear H1
        have H' := Aside0.mk H
        clear H
        go_wp2
        repeat (go_quiet (fail); try go_wp2)
        go_loopg [7, 8] kj3 (fun kq v7 v8 w' => ∃ (x7_2 : List Int) (x8_2 : Int), v8 = .int .i64 x8_2 ∧ Aside0 (haystacklaw20_PlaceEven.l0 kq a0 a1 a2 x7_2 x8_2 = some r) ∧ Aside0 (kq ≤ kj3) ∧ Aside0 (Kd.R (Kd.int .i64) 3 w' w.heap.size (fun _ => True) v7 x7_2) ∧ Aside0 (Below w.heap.size w w'))
        case atStart => exact ⟨(([] : List Int)), (0), (by first | rfl | (simp; done) | (simp [*]; done)), H', ⟨Nat.le_refl _⟩, ⟨by first | exact Kd.R_nil _ _ _ _ _ | exact Kd.N_nil _ _ _ _ _ | exact Kd.V_nil _ _ _ _ _ | exact Kd.Q_nil _ _ _ _ _ | exact Kd.S_nil _ _ _ _ _⟩, ⟨by repeat (first | (with_reducible first | exact HB.out | apply below_alloc | apply pw_below_drewN | apply below_drew1) | exact HB.out)⟩⟩
        case round =>
          clear H'
          try clear c1
          try clear p2
          try clear c4
          try clear c5
          try clear c5b0
          try clear c6
          try clear c6b0
          try clear p6
          try clear c7
          try clear c7b0
          try clear c8
          try clear c8b0
          try clear c9
          try clear c9b0
          try clear c10
          try clear c10b0
          try clear c11
          try clear p2
          try clear p6
          obtain ⟨x7_2, x8_2, rfl, HA, HK2, HO_7, HB⟩ := hrel
          cases gk with
          | zero => exact absurd HA.out (by simp [haystacklaw20_PlaceEven.l0])
          | succ k2 =>
            have H := HA.out
            clear HA
            simp only [haystacklaw20_PlaceEven.l0] at H
            by_cases c14 : x8_2 < a0
            · rw [if_pos c14] at H
              have c14b0 : decide (x8_2 < a0) = true := decide_eq_true c14
              clear c14
              by_cases c15 : x7_2.length < 17592186044416
              · rw [if_pos c15] at H
                have LMc15 := Aside0.mk c15
                clear c15
                obtain ⟨y222, hy222⟩ : ∃ y_ : List Int, y_ = (x7_2 ++ [x8_2]) := ⟨_, rfl⟩
                replace H : (haystacklaw20_PlaceEven.l0 k2 a0 a1 a2 y222 (wrap64 (x8_2 + 1))) = some r := by first | (rw [hy222]; with_reducible exact H) | (have H2_ := (Option.bind_some _ _).symm.trans H; rw [hy222]; with_reducible exact H2_) | (have H2_ := (Option.bind_some _ _).symm.trans H; with_reducible exact H2_) | with_reducible exact H | (rw [hy222]; exact H) | exact H
                have Ny222 := Aside0.mk hy222
                clear hy222
                have H' := Aside0.mk H
                clear H
                go_wp2_with (first | ((with_reducible refine gate_builtin (b := .append) (xs := #[.tmp 50, .tmp 52]) rfl ?_); (try (refine gate_guard (by rfl) ?_; dsimp only)); at_builtin; refine Kd.R_append (Kd.int .i64) (w0 := w) w.heap.size rfl (.tmp 50) (.tmp 52) 22 3 (.int .i64 0) 8 rfl Try.underlying22 info3 rfl (by decide) (by omega) u7 x7_2 x8_2 [.int .i64 x8_2] (fun _ => True) (fun _ => False) rfl rfl ?aP (fun _ hk => hk.elim) ?aF ?aO ?aB ?aS ?aL ?_; (case aP => exact rfl); (case aB => exact (by repeat (first | (with_reducible first | exact HB.out | apply below_alloc | apply pw_below_drewN | apply below_drew1) | exact HB.out))); (case aF => exact (fun _ _ => trivial)); (case aO => exact (by (with_reducible repeat (first | apply Kd.R_alloc | apply Kd.R_drewN | apply Kd.R_drew)); exact HO_7.out)); (case aS => exact (below_size (by repeat (first | (with_reducible first | exact HB.out | apply below_alloc | apply pw_below_drewN | apply below_drew1) | exact HB.out)))); (case aL => have := LMc15.out; omega); intro v223 w16 ho hb hg hat; rw [← Ny222.out] at ho; have n0_ := Aside0.mk (hb); have n1_ := Aside0.mk (ho); clear HB; clear HO_7; have HB := n0_; have HO224 := n1_; clear n0_ n1_; clear ho hb hg hat))
                repeat (go_quiet (first | ((with_reducible refine gate_builtin (b := .append) (xs := #[.tmp 50, .tmp 52]) rfl ?_); (try (refine gate_guard (by rfl) ?_; dsimp only)); at_builtin; refine Kd.R_append (Kd.int .i64) (w0 := w) w.heap.size rfl (.tmp 50) (.tmp 52) 22 3 (.int .i64 0) 8 rfl Try.underlying22 info3 rfl (by decide) (by omega) u7 x7_2 x8_2 [.int .i64 x8_2] (fun _ => True) (fun _ => False) rfl rfl ?aP (fun _ hk => hk.elim) ?aF ?aO ?aB ?aS ?aL ?_; (case aP => exact rfl); (case aB => exact (by repeat (first | (with_reducible first | exact HB.out | apply below_alloc | apply pw_below_drewN | apply below_drew1) | exact HB.out))); (case aF => exact (fun _ _ => trivial)); (case aO => exact (by (with_reducible repeat (first | apply Kd.R_alloc | apply Kd.R_drewN | apply Kd.R_drew)); exact HO_7.out)); (case aS => exact (below_size (by repeat (first | (with_reducible first | exact HB.out | apply below_alloc | apply pw_below_drewN | apply below_drew1) | exact HB.out)))); (case aL => have := LMc15.out; omega); intro v223 w16 ho hb hg hat; rw [← Ny222.out] at ho; have n0_ := Aside0.mk (hb); have n1_ := Aside0.mk (ho); clear HB; clear HO_7; have HB := n0_; have HO224 := n1_; clear n0_ n1_; clear ho hb hg hat)); try go_wp2_with (first | ((with_reducible refine gate_builtin (b := .append) (xs := #[.tmp 50, .tmp 52]) rfl ?_); (try (refine gate_guard (by rfl) ?_; dsimp only)); at_builtin; refine Kd.R_append (Kd.int .i64) (w0 := w) w.heap.size rfl (.tmp 50) (.tmp 52) 22 3 (.int .i64 0) 8 rfl Try.underlying22 info3 rfl (by decide) (by omega) u7 x7_2 x8_2 [.int .i64 x8_2] (fun _ => True) (fun _ => False) rfl rfl ?aP (fun _ hk => hk.elim) ?aF ?aO ?aB ?aS ?aL ?_; (case aP => exact rfl); (case aB => exact (by repeat (first | (with_reducible first | exact HB.out | apply below_alloc | apply pw_below_drewN | apply below_drew1) | exact HB.out))); (case aF => exact (fun _ _ => trivial)); (case aO => exact (by (with_reducible repeat (first | apply Kd.R_alloc | apply Kd.R_drewN | apply Kd.R_drew)); exact HO_7.out)); (case aS => exact (below_size (by repeat (first | (with_reducible first | exact HB.out | apply below_alloc | apply pw_below_drewN | apply below_drew1) | exact HB.out)))); (case aL => have := LMc15.out; omega); intro v223 w16 ho hb hg hat; rw [← Ny222.out] at ho; have n0_ := Aside0.mk (hb); have n1_ := Aside0.mk (ho); clear HB; clear HO_7; have HB := n0_; have HO224 := n1_; clear n0_ n1_; clear ho hb hg hat)))
                go_roundg k2
                case measure => have := HJ3.out; have := HK2.out; omega
                case rel => exact ⟨(y222), (wrap64 (x8_2 + 1)), (by first | rfl | (simp; done) | (simp [*]; done)), H', ⟨by have := HJ3.out; have := HK2.out; omega⟩, ⟨by (with_reducible repeat (first | apply Kd.R_alloc | apply Kd.R_drewN | apply Kd.R_drew)); exact HO224.out⟩, ⟨by repeat (first | (with_reducible first | exact HB.out | apply below_alloc | apply pw_below_drewN | apply below_drew1) | exact HB.out)⟩⟩
              · rw [if_neg c15] at H
                exact absurd H (by simp)
            · rw [if_neg c14] at H
              have c14b0 : decide (x8_2 < a0) = false := decide_eq_false c14
              clear c14
              replace H := Option.bind_eq_some_iff.mp H
              obtain ⟨⟨t225, t226⟩, A170, H⟩ := H
              replace H : (if t226 = 0 then (haystacklaw20_PlaceEven.j2 k2 a0 a1 a2 t225 ((t225.length : Int) != (wrap64 (a0 * a1)))) else (haystacklaw20_PlaceEven.j2 k2 a0 a1 a2 t225 true)) = some r := H
              have A17 := Aside0.mk A170
              clear A170
              have HC18 := Aside0.mk H
              clear H
              obtain ⟨Ao19, co19, eo19⟩ := Kd.R_slice HO_7.out
              subst eo19
              go_upto_region 9 with (first | (go_at_call 7; (with_reducible refine (place_Spread.calls k2 (wrap64 (a0 * a1)) a2 _ _ x7_2 t225 t226 _ ?side1 ?side2 A17.out).mono ?_); (case side1 => repeat (first | exact (Kd.R_reads' HO_7.out).2.2 | (with_reducible refine Kd.C_alloc ?_ _) | (with_reducible refine Kd.C_drewN ?_ _) | (with_reducible refine Kd.C_drew ?_))); (case side2 => exact (Kd.R_reads' HO_7.out).2.1); rintro e w20 ⟨v227, rfl, ho0, hb⟩; have n0_ := Aside0.mk (Kd.R_below (by (with_reducible repeat (first | apply Kd.R_alloc | apply Kd.R_drewN | apply Kd.R_drew)); exact HO_7.out) hb); have n1_ := Aside0.mk (Kd.S_lower (Kd.S_new' ho0 (Kd.R_lt (by (with_reducible repeat (first | apply Kd.R_alloc | apply Kd.R_drewN | apply Kd.R_drew)); exact HO_7.out))) (below_size (by repeat (first | (with_reducible first | exact HB.out | apply below_alloc | apply pw_below_drewN | apply below_drew1) | exact HB.out)))); have n2_ := Aside0.mk (below_step (by repeat (first | (with_reducible first | exact HB.out | apply below_alloc | apply pw_below_drewN | apply below_drew1) | exact HB.out)) hb); clear HO_7; clear HB; have HO_7 := n0_; have HO228 := n1_; have HB := n2_; clear n0_ n1_ n2_; (try clear hb); (try clear hb2); (try clear hk); (try clear hi); (try clear ho0)))
              repeat (go_quiet (first | (go_at_call 7; (with_reducible refine (place_Spread.calls k2 (wrap64 (a0 * a1)) a2 _ _ x7_2 t225 t226 _ ?side1 ?side2 A17.out).mono ?_); (case side1 => repeat (first | exact (Kd.R_reads' HO_7.out).2.2 | (with_reducible refine Kd.C_alloc ?_ _) | (with_reducible refine Kd.C_drewN ?_ _) | (with_reducible refine Kd.C_drew ?_))); (case side2 => exact (Kd.R_reads' HO_7.out).2.1); rintro e w20 ⟨v227, rfl, ho0, hb⟩; have n0_ := Aside0.mk (Kd.R_below (by (with_reducible repeat (first | apply Kd.R_alloc | apply Kd.R_drewN | apply Kd.R_drew)); exact HO_7.out) hb); have n1_ := Aside0.mk (Kd.S_lower (Kd.S_new' ho0 (Kd.R_lt (by (with_reducible repeat (first | apply Kd.R_alloc | apply Kd.R_drewN | apply Kd.R_drew)); exact HO_7.out))) (below_size (by repeat (first | (with_reducible first | exact HB.out | apply below_alloc | apply pw_below_drewN | apply below_drew1) | exact HB.out)))); have n2_ := Aside0.mk (below_step (by repeat (first | (with_reducible first | exact HB.out | apply below_alloc | apply pw_below_drewN | apply below_drew1) | exact HB.out)) hb); clear HO_7; clear HB; have HO_7 := n0_; have HO228 := n1_; have HB := n2_; clear n0_ n1_ n2_; (try clear hb); (try clear hb2); (try clear hk); (try clear hi); (try clear ho0))); go_upto_region 9 with (first | (go_at_call 7; (with_reducible refine (place_Spread.calls k2 (wrap64 (a0 * a1)) a2 _ _ x7_2 t225 t226 _ ?side1 ?side2 A17.out).mono ?_); (case side1 => repeat (first | exact (Kd.R_reads' HO_7.out).2.2 | (with_reducible refine Kd.C_alloc ?_ _) | (with_reducible refine Kd.C_drewN ?_ _) | (with_reducible refine Kd.C_drew ?_))); (case side2 => exact (Kd.R_reads' HO_7.out).2.1); rintro e w20 ⟨v227, rfl, ho0, hb⟩; have n0_ := Aside0.mk (Kd.R_below (by (with_reducible repeat (first | apply Kd.R_alloc | apply Kd.R_drewN | apply Kd.R_drew)); exact HO_7.out) hb); have n1_ := Aside0.mk (Kd.S_lower (Kd.S_new' ho0 (Kd.R_lt (by (with_reducible repeat (first | apply Kd.R_alloc | apply Kd.R_drewN | apply Kd.R_drew)); exact HO_7.out))) (below_size (by repeat (first | (with_reducible first | exact HB.out | apply below_alloc | apply pw_below_drewN | apply below_drew1) | exact HB.out)))); have n2_ := Aside0.mk (below_step (by repeat (first | (with_reducible first | exact HB.out | apply below_alloc | apply pw_below_drewN | apply below_drew1) | exact HB.out)) hb); clear HO_7; clear HB; have HO_7 := n0_; have HO228 := n1_; have HB := n2_; clear n0_ n1_ n2_; (try clear hb); (try clear hb2); (try clear hk); (try clear hi); (try clear ho0))))
              (try simp only [Act.put, List.setIfInBounds_toArray, List.set_cons_zero, List.set_cons_succ])
              go_cut [72] (fun v72 wc => ∃ (kq : Nat) (x72_17 : Bool), v72 = .bool x72_17 ∧ Aside0 (haystacklaw20_PlaceEven.j2 kq a0 a1 a2 t225 x72_17 = some r) ∧ Aside0 (kq ≤ k2) ∧ Aside0 (Kd.S (Kd.slice 3 (Kd.int .i64)) 22 wc w.heap.size (fun _ => True) v227 t225) ∧ Aside0 (Below w.heap.size w wc))
              case first =>
                have H := HC18.out
                clear HC18
                by_cases c21 : t226 = 0
                · rw [if_pos c21] at H
                  have c21b0 : (t226 == 0) = true := beq_iff_eq.mpr c21
                  have c21b1 : (t226 != 0) = false := bne_eq_false_iff_eq.mpr c21
                  clear c21
                  (first | rw [c21b0] | (simp only [i64_w, i32_w]; rw [c21b0]) | skip)
                  have H' := Aside0.mk H
                  clear H
                  obtain ⟨Ao22, co22, eo22⟩ := Kd.S_slice HO228.out
                  subst eo22
                  go_wp2
                  repeat (go_quiet (fail); try go_wp2)
                  go_meet
                  case rel => exact ⟨_, (((t225.length : Int) != (wrap64 (a0 * a1)))), (by first | rfl | (simp; done) | (simp [*]; done)), H', ⟨by have := HJ3.out; have := HK2.out; first | omega | exact Nat.le_refl _⟩, ⟨by (with_reducible repeat (first | apply Kd.S_alloc | apply Kd.S_drewN | apply Kd.S_drew)); exact Kd.S_mono HO228.out (fun _ hk => trivial)⟩, ⟨by repeat (first | (with_reducible first | exact HB.out | apply below_alloc | apply pw_below_drewN | apply below_drew1) | exact HB.out)⟩⟩
                · rw [if_neg c21] at H
                  have c21b0 : (t226 == 0) = false := beq_eq_false_iff_ne.mpr c21
                  have c21b1 : (t226 != 0) = true := bne_iff_ne.mpr c21
                  (first | rw [c21b0] | (simp only [i64_w, i32_w]; rw [c21b0]) | skip)
                  have H' := Aside0.mk H
                  clear H
                  go_wp2
                  repeat (go_quiet (fail); try go_wp2)
                  go_meet
                  case rel => exact ⟨_, (true), (by first | rfl | (simp; done) | (simp [*]; done)), H', ⟨by have := HJ3.out; have := HK2.out; first | omega | exact Nat.le_refl _⟩, ⟨by (with_reducible repeat (first | apply Kd.S_alloc | apply Kd.S_drewN | apply Kd.S_drew)); exact Kd.S_mono HO228.out (fun _ hk => trivial)⟩, ⟨by repeat (first | (with_reducible first | exact HB.out | apply below_alloc | apply pw_below_drewN | apply below_drew1) | exact HB.out)⟩⟩
              case rest =>
                clear HC18
                try clear c1
                try clear c2
                try clear p2
                try clear c4
                try clear c5
                try clear c5b0
                try clear c6
                try clear c6b0
                try clear p6
                try clear c7
                try clear c7b0
                try clear c8
                try clear c8b0
                try clear c9
                try clear c9b0
                try clear c10
                try clear c10b0
                try clear c11
                try clear c14
                try clear c14b0
                try clear c15
                try clear c21
                try clear c21b0
                try clear c21b1
                try clear p2
                try clear p6
                obtain ⟨kq, x72_17, rfl, HA, HJ17, HO_9, HB⟩ := hcut
                cases kq with
                | zero => exact absurd HA.out (by simp [haystacklaw20_PlaceEven.j2])
                | succ kj17 =>
                  have H := HA.out
                  clear HA
                  simp only [haystacklaw20_PlaceEven.j2] at H
                  by_cases c23 : x72_17 = true
                  · subst c23
                    have H1 : (some false) = some r := by rw [if_pos rfl] at H; exact H
                    clear H
                    have H := H1
                    clear H1
                    obtain rfl := Option.some.inj H
                    go_wp2
                    repeat (go_quiet (fail); try go_wp2)
                    go_ret
                    exact ⟨by first | rfl | (simp [errW_none, errW_some] <;> rfl) | (simp [*, errW_none, errW_some] <;> rfl), by repeat (first | (with_reducible first | exact HB.out | apply below_alloc | apply pw_below_drewN | apply below_drew1) | exact HB.out)⟩
                  · replace c23 := Bool.eq_false_iff.mpr c23
                    subst c23
                    have H1 : (if 0 ≤ a0 then (if (a0 : Int).toNat ≤ 35184372088832 then (haystacklaw20_PlaceEven.l1 kj17 a0 a1 a2 t225 (List.replicate (a0 : Int).toNat 0) 0) else (none)) else (none)) = some r := by rw [if_neg (show ¬ (false = true) by decide)] at H; exact H
                    clear H
                    have H := H1
                    clear H1
                    by_cases c24 : 0 ≤ a0
                    · rw [if_pos c24] at H
                      have c24b0 := eq_true c24
                      have c24b1 : decide (0 ≤ a0) = true := decide_eq_true c24
                      clear c24
                      by_cases c25 : (a0 : Int).toNat ≤ 35184372088832
                      · rw [if_pos c25] at H
                        have c25b0 := eq_true c25
                        have c25b1 : decide ((a0 : Int).toNat ≤ 35184372088832) = true := decide_eq_true c25
                        clear c25
                        obtain ⟨y229, hy229⟩ : ∃ y_ : List Int, y_ = (List.replicate (a0 : Int).toNat 0) := ⟨_, rfl⟩
                        replace H : (haystacklaw20_PlaceEven.l1 kj17 a0 a1 a2 t225 y229 0) = some r := by first | (rw [hy229]; with_reducible exact H) | (have H2_ := (Option.bind_some _ _).symm.trans H; rw [hy229]; with_reducible exact H2_) | (have H2_ := (Option.bind_some _ _).symm.trans H; with_reducible exact H2_) | with_reducible exact H | (rw [hy229]; exact H) | exact H
                        have Ny229 := Aside0.mk hy229
                        clear hy229
                        have H' := Aside0.mk H
                        clear H
                        go_wp2_with (first | ((with_reducible refine gate_dst (N := 74) rfl ?_); (try (refine gate_guard (by rfl) ?_; dsimp only)); refine Kd.R_make (Kd.int .i64) _ 3 rfl (N := 74) rfl 22 _ _ rfl a0 rfl rfl Try.underlying22 (.int .i64 0) 8 info3 rfl (by decide) (by omega) 0 (ok := fun _ => True) (okp := fun _ => True) rfl (fun _ hk => hk) trivial (of_decide_eq_true (by first | (with_reducible assumption) | assumption)) (Nat.le_trans (Nat.mul_le_mul_right _ (of_decide_eq_true (by first | (with_reducible assumption) | assumption) : a0.toNat ≤ 35184372088832)) (by omega)) (Below.refl _ _) (Nat.le_refl _) ?_; intro v230 w26 ho27 hb hg_ hnew_; clear hg_ hnew_; (first | rw [← Ny229.out] at ho27 | (simp only [Int.reduceToNat] at ho27; rw [← Ny229.out] at ho27)); have n0_ := Aside0.mk (Kd.S_elder' (by (with_reducible repeat (first | apply Kd.S_alloc | apply Kd.S_drewN | apply Kd.S_drew)); exact HO_9.out) (Kd.R_base ho27) hb); have n1_ := Aside0.mk (Kd.R_lower ho27 (below_size (by repeat (first | (with_reducible first | exact HB.out | apply below_alloc | apply pw_below_drewN | apply below_drew1) | exact HB.out)))); have n2_ := Aside0.mk (below_step (by repeat (first | (with_reducible first | exact HB.out | apply below_alloc | apply pw_below_drewN | apply below_drew1) | exact HB.out)) hb); clear HO_9; clear HB; have HO_9 := n0_; have HO231 := n1_; have HB := n2_; clear n0_ n1_ n2_; clear hb ho27))
                        repeat (go_quiet (first | ((with_reducible refine gate_dst (N := 74) rfl ?_); (try (refine gate_guard (by rfl) ?_; dsimp only)); refine Kd.R_make (Kd.int .i64) _ 3 rfl (N := 74) rfl 22 _ _ rfl a0 rfl rfl Try.underlying22 (.int .i64 0) 8 info3 rfl (by decide) (by omega) 0 (ok := fun _ => True) (okp := fun _ => True) rfl (fun _ hk => hk) trivial (of_decide_eq_true (by first | (with_reducible assumption) | assumption)) (Nat.le_trans (Nat.mul_le_mul_right _ (of_decide_eq_true (by first | (with_reducible assumption) | assumption) : a0.toNat ≤ 35184372088832)) (by omega)) (Below.refl _ _) (Nat.le_refl _) ?_; intro v230 w26 ho27 hb hg_ hnew_; clear hg_ hnew_; (first | rw [← Ny229.out] at ho27 | (simp only [Int.reduceToNat] at ho27; rw [← Ny229.out] at ho27)); have n0_ := Aside0.mk (Kd.S_elder' (by (with_reducible repeat (first | apply Kd.S_alloc | apply Kd.S_drewN | apply Kd.S_drew)); exact HO_9.out) (Kd.R_base ho27) hb); have n1_ := Aside0.mk (Kd.R_lower ho27 (below_size (by repeat (first | (with_reducible first | exact HB.out | apply below_alloc | apply pw_below_drewN | apply below_drew1) | exact HB.out)))); have n2_ := Aside0.mk (below_step (by repeat (first | (with_reducible first | exact HB.out | apply below_alloc | apply pw_below_drewN | apply below_drew1) | exact HB.out)) hb); clear HO_9; clear HB; have HO_9 := n0_; have HO231 := n1_; have HB := n2_; clear n0_ n1_ n2_; clear hb ho27)); try go_wp2_with (first | ((with_reducible refine gate_dst (N := 74) rfl ?_); (try (refine gate_guard (by rfl) ?_; dsimp only)); refine Kd.R_make (Kd.int .i64) _ 3 rfl (N := 74) rfl 22 _ _ rfl a0 rfl rfl Try.underlying22 (.int .i64 0) 8 info3 rfl (by decide) (by omega) 0 (ok := fun _ => True) (okp := fun _ => True) rfl (fun _ hk => hk) trivial (of_decide_eq_true (by first | (with_reducible assumption) | assumption)) (Nat.le_trans (Nat.mul_le_mul_right _ (of_decide_eq_true (by first | (with_reducible assumption) | assumption) : a0.toNat ≤ 35184372088832)) (by omega)) (Below.refl _ _) (Nat.le_refl _) ?_; intro v230 w26 ho27 hb hg_ hnew_; clear hg_ hnew_; (first | rw [← Ny229.out] at ho27 | (simp only [Int.reduceToNat] at ho27; rw [← Ny229.out] at ho27)); have n0_ := Aside0.mk (Kd.S_elder' (by (with_reducible repeat (first | apply Kd.S_alloc | apply Kd.S_drewN | apply Kd.S_drew)); exact HO_9.out) (Kd.R_base ho27) hb); have n1_ := Aside0.mk (Kd.R_lower ho27 (below_size (by repeat (first | (with_reducible first | exact HB.out | apply below_alloc | apply pw_below_drewN | apply below_drew1) | exact HB.out)))); have n2_ := Aside0.mk (below_step (by repeat (first | (with_reducible first | exact HB.out | apply below_alloc | apply pw_below_drewN | apply below_drew1) | exact HB.out)) hb); clear HO_9; clear HB; have HO_9 := n0_; have HO231 := n1_; have HB := n2_; clear n0_ n1_ n2_; clear hb ho27)))
                        go_loopg [12] kj17 (fun kq v12 w' => ∃ (x11_4 : List Int) (x12_4 : Int), v12 = .int .i64 x12_4 ∧ Aside0 (haystacklaw20_PlaceEven.l1 kq a0 a1 a2 t225 x11_4 x12_4 = some r) ∧ Aside0 (kq ≤ kj17) ∧ Aside0 (Kd.S (Kd.slice 3 (Kd.int .i64)) 22 w' w.heap.size (fun k_ => some k_ ≠ (v230 : Value).ownBlock) v227 t225) ∧ Aside0 (Kd.R (Kd.int .i64) 3 w' w.heap.size (fun _ => True) v230 x11_4) ∧ Aside0 (Below w.heap.size w w'))
                        case atStart => exact ⟨(y229), (0), (by first | rfl | (simp; done) | (simp [*]; done)), H', ⟨Nat.le_refl _⟩, ⟨by (with_reducible repeat (first | apply Kd.S_alloc | apply Kd.S_drewN | apply Kd.S_drew)); exact Kd.S_mono HO_9.out (fun _ hk => hk.2)⟩, ⟨by (with_reducible repeat (first | apply Kd.R_alloc | apply Kd.R_drewN | apply Kd.R_drew)); exact HO231.out⟩, ⟨by repeat (first | (with_reducible first | exact HB.out | apply below_alloc | apply pw_below_drewN | apply below_drew1) | exact HB.out)⟩⟩
                        case round =>
                          clear H'
                          try clear c1
                          try clear c2
                          try clear p2
                          try clear c4
                          try clear c5
                          try clear c5b0
                          try clear c6
                          try clear c6b0
                          try clear p6
                          try clear c7
                          try clear c7b0
                          try clear c8
                          try clear c8b0
                          try clear c9
                          try clear c9b0
                          try clear c10
                          try clear c10b0
                          try clear c11
                          try clear c14
                          try clear c14b0
                          try clear c15
                          try clear c21
                          try clear c21b0
                          try clear c21b1
                          try clear c23
                          try clear c24
                          try clear c24b0
                          try clear c24b1
                          try clear c25
                          try clear c25b0
                          try clear c25b1
                          try clear p2
                          try clear p6
                          obtain ⟨x11_4, x12_4, rfl, HA, HK4, HO_9, HO_11, HB⟩ := hrel
                          cases gk with
                          | zero => exact absurd HA.out (by simp [haystacklaw20_PlaceEven.l1])
                          | succ k4 =>
                            have H := HA.out
                            clear HA
                            simp only [haystacklaw20_PlaceEven.l1] at H
                            by_cases c28 : x12_4 < (t225.length : Int)
                            · rw [if_pos c28] at H
                              have c28b0 : decide (x12_4 < (t225.length : Int)) = true := decide_eq_true c28
                              clear c28
                              by_cases c29 : 0 ≤ x12_4
                              · rw [if_pos c29] at H
                                have c29b0 : decide (0 ≤ x12_4) = true := decide_eq_true c29
                                clear c29
                                by_cases c30 : ((rd_L1 t225 x12_4).length : Int) = a2
                                · rw [if_pos c30] at H
                                  have c30b0 : (((rd_L1 t225 x12_4).length : Int) == a2) = true := beq_iff_eq.mpr c30
                                  have c30b1 : (((rd_L1 t225 x12_4).length : Int) != a2) = false := bne_eq_false_iff_eq.mpr c30
                                  clear c30
                                  have H' := Aside0.mk H
                                  clear H
                                  obtain ⟨Ao31, co31, eo31⟩ := Kd.S_slice HO_9.out
                                  subst eo31
                                  have p232 : 0 ≤ (x12_4 : Int) := of_decide_eq_true (by first | (with_reducible assumption) | assumption)
                                  have q232 : x12_4 < (t225.length : Int) := of_decide_eq_true (by first | (with_reducible assumption) | assumption)
                                  obtain ⟨ad232, A232_0, c232_0, e232, hx232_0, hl232_0, hi232_0⟩ := at_L1 (Kd.S_reads' HO_9.out).2.2 x12_4 p232 q232
                                  cases e232
                                  obtain ⟨ce232, hce232, hMe232, hcc232⟩ := Kd.S_get HO_9.out [] x12_4 p232 (by first | exact q232 | exact of_decide_eq_true (by first | (with_reducible assumption) | assumption) | (have e_ := (Kd.S_reads' HO_9.out).1; omega))
                                  obtain ⟨ve232_0, rfl, ge232_0⟩ := hMe232
                                  have hv232_0 := hcc232 0 _ rfl
                                  rw [Nat.add_zero, show ((Kd.slice 3 (Kd.int .i64))).sz = 1 from rfl, Nat.mul_one] at hv232_0
                                  replace hv232_0 := Option.some.inj (hv232_0.symm.trans hx232_0)
                                  rw [hv232_0] at ge232_0
                                  have HL232_0 := Aside0.mk (show Kd.R (Kd.int .i64) 3 _ _ _ _ (rd_L1 t225 x12_4) from ge232_0)
                                  clear hv232_0 ge232_0
                                  clear hcc232 hce232
                                  have HR232_0 := Aside0.mk hi232_0
                                  have HC232_0 := Aside0.mk hl232_0
                                  clear hi232_0 hl232_0
                                  replace p232 := eq_true p232
                                  replace q232 := eq_true q232
                                  go_wp2
                                  repeat (go_quiet (fail); try go_wp2)
                                  go_loopg [13] k4 (fun kq v13 w' => ∃ (x11_5 : List Int) (x13_5 : Int), v13 = .int .i64 x13_5 ∧ Aside0 (haystacklaw20_PlaceEven.l2 kq a0 a1 a2 t225 x11_5 x12_4 x13_5 = some r) ∧ Aside0 (kq ≤ k4) ∧ Aside0 (Kd.S (Kd.slice 3 (Kd.int .i64)) 22 w' w.heap.size (fun k_ => some k_ ≠ (v230 : Value).ownBlock) (.slice (some ad232) t225.length co31) t225) ∧ Aside0 (Kd.R (Kd.int .i64) 3 w' w.heap.size (fun _ => True) v230 x11_5) ∧ Aside0 (Below w.heap.size w w'))
                                  case atStart => exact ⟨(x11_4), (0), (by first | rfl | (simp; done) | (simp [*]; done)), H', ⟨Nat.le_refl _⟩, ⟨by (with_reducible repeat (first | apply Kd.S_alloc | apply Kd.S_drewN | apply Kd.S_drew)); exact HO_9.out⟩, ⟨by (with_reducible repeat (first | apply Kd.R_alloc | apply Kd.R_drewN | apply Kd.R_drew)); exact HO_11.out⟩, ⟨by repeat (first | (with_reducible first | exact HB.out | apply below_alloc | apply pw_below_drewN | apply below_drew1) | exact HB.out)⟩⟩
                                  case round =>
                                    clear H'
                                    try clear c1
                                    try clear c2
                                    try clear p2
                                    try clear q2
                                    try clear hx2
                                    try clear c3
                                    try clear c4
                                    try clear c5
                                    try clear c5b0
                                    try clear c6
                                    try clear c6b0
                                    try clear p6
                                    try clear c7
                                    try clear c7b0
                                    try clear c8
                                    try clear c8b0
                                    try clear c9
                                    try clear c9b0
                                    try clear c10
                                    try clear c10b0
                                    try clear c11
                                    try clear c14
                                    try clear c14b0
                                    try clear c15
                                    try clear c21
                                    try clear c21b0
                                    try clear c21b1
                                    try clear c23
                                    try clear p23
                                    try clear q23
                                    try clear hx23
                                    try clear c24
                                    try clear c24b0
                                    try clear c24b1
                                    try clear c25
                                    try clear c25b0
                                    try clear c25b1
                                    try clear c28
                                    try clear c28b0
                                    try clear c29
                                    try clear c29b0
                                    try clear c30
                                    try clear c30b0
                                    try clear c30b1
                                    try clear hx232_0
                                    try clear p2
                                    try clear p232
                                    try clear p6
                                    try clear q232
                                    obtain ⟨x11_5, x13_5, rfl, HA, HK5, HO_9, HO_11, HB⟩ := hrel
                                    cases gk with
                                    | zero => exact absurd HA.out (by simp [haystacklaw20_PlaceEven.l2])
                                    | succ k5 =>
                                      have H := HA.out
                                      clear HA
                                      simp only [haystacklaw20_PlaceEven.l2] at H
                                      by_cases c32 : 0 ≤ x12_4
                                      · rw [if_pos c32] at H
                                        have c32b0 : decide (0 ≤ x12_4) = true := decide_eq_true c32
                                        clear c32
                                        by_cases c33 : x12_4 < (t225.length : Int)
                                        · rw [if_pos c33] at H
                                          have c33b0 : decide (x12_4 < (t225.length : Int)) = true := decide_eq_true c33
                                          clear c33
                                          by_cases c34 : x13_5 < ((rd_L1 t225 x12_4).length : Int)
                                          · rw [if_pos c34] at H
                                            have c34b0 : decide (x13_5 < ((rd_L1 t225 x12_4).length : Int)) = true := decide_eq_true c34
                                            clear c34
                                            by_cases c35 : 0 ≤ x13_5
                                            · rw [if_pos c35] at H
                                              have c35b0 : decide (0 ≤ x13_5) = true := decide_eq_true c35
                                              clear c35
                                              by_cases c36 : (rd (rd_L1 t225 x12_4) x13_5) < 0
                                              · rw [if_pos c36] at H
                                                have c36b0 : decide ((rd (rd_L1 t225 x12_4) x13_5) < 0) = true := decide_eq_true c36
                                                clear c36
                                                obtain rfl := Option.some.inj H
                                                have p233 : 0 ≤ (x12_4 : Int) := of_decide_eq_true (by first | (with_reducible assumption) | assumption)
                                                have q233 : x12_4 < (t225.length : Int) := of_decide_eq_true (by first | (with_reducible assumption) | assumption)
                                                obtain ⟨ad233, A233_0, c233_0, e233, hx233_0, hl233_0, hi233_0⟩ := at_L1 (Kd.S_reads' HO_9.out).2.2 x12_4 p233 q233
                                                obtain rfl : ad232 = ad233 := (by injection e233)
                                                obtain ⟨ce233, hce233, hMe233, hcc233⟩ := Kd.S_get HO_9.out [] x12_4 p233 (by first | exact q233 | exact of_decide_eq_true (by first | (with_reducible assumption) | assumption) | (have e_ := (Kd.S_reads' HO_9.out).1; omega))
                                                obtain ⟨ve233_0, rfl, ge233_0⟩ := hMe233
                                                have hv233_0 := hcc233 0 _ rfl
                                                rw [Nat.add_zero, show ((Kd.slice 3 (Kd.int .i64))).sz = 1 from rfl, Nat.mul_one] at hv233_0
                                                replace hv233_0 := Option.some.inj (hv233_0.symm.trans hx233_0)
                                                rw [hv233_0] at ge233_0
                                                have HL233_0 := Aside0.mk (show Kd.R (Kd.int .i64) 3 _ _ _ _ (rd_L1 t225 x12_4) from ge233_0)
                                                clear hv233_0 ge233_0
                                                clear hcc233 hce233
                                                have HR233_0 := Aside0.mk hi233_0
                                                have HC233_0 := Aside0.mk hl233_0
                                                clear hi233_0 hl233_0
                                                replace p233 := eq_true p233
                                                replace q233 := eq_true q233
                                                have p234 : 0 ≤ (x12_4 : Int) := of_decide_eq_true (by first | (with_reducible assumption) | assumption)
                                                have q234 : x12_4 < (t225.length : Int) := of_decide_eq_true (by first | (with_reducible assumption) | assumption)
                                                obtain ⟨ad234, A234_0, c234_0, e234, hx234_0, hl234_0, hi234_0⟩ := at_L1 (Kd.S_reads' HO_9.out).2.2 x12_4 p234 q234
                                                obtain rfl : ad232 = ad234 := (by injection e234)
                                                obtain ⟨ce234, hce234, hMe234, hcc234⟩ := Kd.S_get HO_9.out [] x12_4 p234 (by first | exact q234 | exact of_decide_eq_true (by first | (with_reducible assumption) | assumption) | (have e_ := (Kd.S_reads' HO_9.out).1; omega))
                                                obtain ⟨ve234_0, rfl, ge234_0⟩ := hMe234
                                                have hv234_0 := hcc234 0 _ rfl
                                                rw [Nat.add_zero, show ((Kd.slice 3 (Kd.int .i64))).sz = 1 from rfl, Nat.mul_one] at hv234_0
                                                replace hv234_0 := Option.some.inj (hv234_0.symm.trans hx234_0)
                                                rw [hv234_0] at ge234_0
                                                have HL234_0 := Aside0.mk (show Kd.R (Kd.int .i64) 3 _ _ _ _ (rd_L1 t225 x12_4) from ge234_0)
                                                clear hv234_0 ge234_0
                                                clear hcc234 hce234
                                                have HR234_0 := Aside0.mk hi234_0
                                                have HC234_0 := Aside0.mk hl234_0
                                                clear hi234_0 hl234_0
                                                replace p234 := eq_true p234
                                                replace q234 := eq_true q234
                                                have ea_ := Option.some.inj (hx233_0.symm.trans hx234_0)
                                                injection ea_ with ea_ en_ ec_
                                                subst ea_
                                                subst ec_
                                                clear en_
                                                have p235 : 0 ≤ (x13_5 : Int) := of_decide_eq_true (by first | (with_reducible assumption) | assumption)
                                                have q235 : x13_5 < ((rd_L1 t225 x12_4).length : Int) := of_decide_eq_true (by first | (with_reducible assumption) | assumption)
                                                obtain ⟨ad235, e235, hx235_0⟩ := Kd.at_int (by repeat (first | (with_reducible exact HR234_0.out) | (with_reducible refine Kd.C_alloc ?_ _) | (with_reducible refine Kd.C_drewN ?_ _) | (with_reducible refine Kd.C_drew ?_) | exact HR234_0.out)) x13_5 p235 q235
                                                cases e235
                                                replace p235 := eq_true p235
                                                replace q235 := eq_true q235
                                                go_wp2
                                                repeat (go_quiet (fail); try go_wp2)
                                                go_ret
                                                exact ⟨by first | rfl | (simp [errW_none, errW_some] <;> rfl) | (simp [*, errW_none, errW_some] <;> rfl), by repeat (first | (with_reducible first | exact HB.out | apply below_alloc | apply pw_below_drewN | apply below_drew1) | exact HB.out)⟩
                                              · rw [if_neg c36] at H
                                                have c36b0 : decide ((rd (rd_L1 t225 x12_4) x13_5) < 0) = false := decide_eq_false c36
                                                clear c36
                                                by_cases c37 : (rd (rd_L1 t225 x12_4) x13_5) ≥ a0
                                                · rw [if_pos c37] at H
                                                  have c37b0 : decide (a0 ≤ (rd (rd_L1 t225 x12_4) x13_5)) = true := decide_eq_true c37
                                                  clear c37
                                                  obtain rfl := Option.some.inj H
                                                  have p233 : 0 ≤ (x12_4 : Int) := of_decide_eq_true (by first | (with_reducible assumption) | assumption)
                                                  have q233 : x12_4 < (t225.length : Int) := of_decide_eq_true (by first | (with_reducible assumption) | assumption)
                                                  obtain ⟨ad233, A233_0, c233_0, e233, hx233_0, hl233_0, hi233_0⟩ := at_L1 (Kd.S_reads' HO_9.out).2.2 x12_4 p233 q233
                                                  obtain rfl : ad232 = ad233 := (by injection e233)
                                                  obtain ⟨ce233, hce233, hMe233, hcc233⟩ := Kd.S_get HO_9.out [] x12_4 p233 (by first | exact q233 | exact of_decide_eq_true (by first | (with_reducible assumption) | assumption) | (have e_ := (Kd.S_reads' HO_9.out).1; omega))
                                                  obtain ⟨ve233_0, rfl, ge233_0⟩ := hMe233
                                                  have hv233_0 := hcc233 0 _ rfl
                                                  rw [Nat.add_zero, show ((Kd.slice 3 (Kd.int .i64))).sz = 1 from rfl, Nat.mul_one] at hv233_0
                                                  replace hv233_0 := Option.some.inj (hv233_0.symm.trans hx233_0)
                                                  rw [hv233_0] at ge233_0
                                                  have HL233_0 := Aside0.mk (show Kd.R (Kd.int .i64) 3 _ _ _ _ (rd_L1 t225 x12_4) from ge233_0)
                                                  clear hv233_0 ge233_0
                                                  clear hcc233 hce233
                                                  have HR233_0 := Aside0.mk hi233_0
                                                  have HC233_0 := Aside0.mk hl233_0
                                                  clear hi233_0 hl233_0
                                                  replace p233 := eq_true p233
                                                  replace q233 := eq_true q233
                                                  have p234 : 0 ≤ (x12_4 : Int) := of_decide_eq_true (by first | (with_reducible assumption) | assumption)
                                                  have q234 : x12_4 < (t225.length : Int) := of_decide_eq_true (by first | (with_reducible assumption) | assumption)
                                                  obtain ⟨ad234, A234_0, c234_0, e234, hx234_0, hl234_0, hi234_0⟩ := at_L1 (Kd.S_reads' HO_9.out).2.2 x12_4 p234 q234
                                                  obtain rfl : ad232 = ad234 := (by injection e234)
                                                  obtain ⟨ce234, hce234, hMe234, hcc234⟩ := Kd.S_get HO_9.out [] x12_4 p234 (by first | exact q234 | exact of_decide_eq_true (by first | (with_reducible assumption) | assumption) | (have e_ := (Kd.S_reads' HO_9.out).1; omega))
                                                  obtain ⟨ve234_0, rfl, ge234_0⟩ := hMe234
                                                  have hv234_0 := hcc234 0 _ rfl
                                                  rw [Nat.add_zero, show ((Kd.slice 3 (Kd.int .i64))).sz = 1 from rfl, Nat.mul_one] at hv234_0
                                                  replace hv234_0 := Option.some.inj (hv234_0.symm.trans hx234_0)
                                                  rw [hv234_0] at ge234_0
                                                  have HL234_0 := Aside0.mk (show Kd.R (Kd.int .i64) 3 _ _ _ _ (rd_L1 t225 x12_4) from ge234_0)
                                                  clear hv234_0 ge234_0
                                                  clear hcc234 hce234
                                                  have HR234_0 := Aside0.mk hi234_0
                                                  have HC234_0 := Aside0.mk hl234_0
                                                  clear hi234_0 hl234_0
                                                  replace p234 := eq_true p234
                                                  replace q234 := eq_true q234
                                                  have ea_ := Option.some.inj (hx233_0.symm.trans hx234_0)
                                                  injection ea_ with ea_ en_ ec_
                                                  subst ea_
                                                  subst ec_
                                                  clear en_
                                                  have p235 : 0 ≤ (x13_5 : Int) := of_decide_eq_true (by first | (with_reducible assumption) | assumption)
                                                  have q235 : x13_5 < ((rd_L1 t225 x12_4).length : Int) := of_decide_eq_true (by first | (with_reducible assumption) | assumption)
                                                  obtain ⟨ad235, e235, hx235_0⟩ := Kd.at_int (by repeat (first | (with_reducible exact HR234_0.out) | (with_reducible refine Kd.C_alloc ?_ _) | (with_reducible refine Kd.C_drewN ?_ _) | (with_reducible refine Kd.C_drew ?_) | exact HR234_0.out)) x13_5 p235 q235
                                                  cases e235
                                                  replace p235 := eq_true p235
                                                  replace q235 := eq_true q235
                                                  have p236 : 0 ≤ (x12_4 : Int) := of_decide_eq_true (by first | (with_reducible assumption) | assumption)
                                                  have q236 : x12_4 < (t225.length : Int) := of_decide_eq_true (by first | (with_reducible assumption) | assumption)
                                                  obtain ⟨ad236, A236_0, c236_0, e236, hx236_0, hl236_0, hi236_0⟩ := at_L1 (Kd.S_reads' HO_9.out).2.2 x12_4 p236 q236
                                                  obtain rfl : ad232 = ad236 := (by injection e236)
                                                  obtain ⟨ce236, hce236, hMe236, hcc236⟩ := Kd.S_get HO_9.out [] x12_4 p236 (by first | exact q236 | exact of_decide_eq_true (by first | (with_reducible assumption) | assumption) | (have e_ := (Kd.S_reads' HO_9.out).1; omega))
                                                  obtain ⟨ve236_0, rfl, ge236_0⟩ := hMe236
                                                  have hv236_0 := hcc236 0 _ rfl
                                                  rw [Nat.add_zero, show ((Kd.slice 3 (Kd.int .i64))).sz = 1 from rfl, Nat.mul_one] at hv236_0
                                                  replace hv236_0 := Option.some.inj (hv236_0.symm.trans hx236_0)
                                                  rw [hv236_0] at ge236_0
                                                  have HL236_0 := Aside0.mk (show Kd.R (Kd.int .i64) 3 _ _ _ _ (rd_L1 t225 x12_4) from ge236_0)
                                                  clear hv236_0 ge236_0
                                                  clear hcc236 hce236
                                                  have HR236_0 := Aside0.mk hi236_0
                                                  have HC236_0 := Aside0.mk hl236_0
                                                  clear hi236_0 hl236_0
                                                  replace p236 := eq_true p236
                                                  replace q236 := eq_true q236
                                                  have ea_ := Option.some.inj (hx233_0.symm.trans hx236_0)
                                                  injection ea_ with ea_ en_ ec_
                                                  subst ea_
                                                  subst ec_
                                                  clear en_
                                                  have p237 : 0 ≤ (x13_5 : Int) := of_decide_eq_true (by first | (with_reducible assumption) | assumption)
                                                  have q237 : x13_5 < ((rd_L1 t225 x12_4).length : Int) := of_decide_eq_true (by first | (with_reducible assumption) | assumption)
                                                  obtain ⟨ad237, e237, hx237_0⟩ := Kd.at_int (by repeat (first | (with_reducible exact HR236_0.out) | (with_reducible refine Kd.C_alloc ?_ _) | (with_reducible refine Kd.C_drewN ?_ _) | (with_reducible refine Kd.C_drew ?_) | exact HR236_0.out)) x13_5 p237 q237
                                                  cases e237
                                                  replace p237 := eq_true p237
                                                  replace q237 := eq_true q237
                                                  go_wp2
                                                  repeat (go_quiet (fail); try go_wp2)
                                                  go_ret
                                                  exact ⟨by first | rfl | (simp [errW_none, errW_some] <;> rfl) | (simp [*, errW_none, errW_some] <;> rfl), by repeat (first | (with_reducible first | exact HB.out | apply below_alloc | apply pw_below_drewN | apply below_drew1) | exact HB.out)⟩
                                                · rw [if_neg c37] at H
                                                  have c37b0 : decide (a0 ≤ (rd (rd_L1 t225 x12_4) x13_5)) = false := decide_eq_false c37
                                                  clear c37
                                                  by_cases c38 : x13_5 > 0
                                                  · rw [if_pos c38] at H
                                                    have c38b0 : decide (0 < x13_5) = true := decide_eq_true c38
                                                    clear c38
                                                    obtain ⟨ji39, hji39⟩ : ∃ j_ : Int, (wrap64 (x13_5 - 1)) = j_ := ⟨_, rfl⟩
                                                    replace H : (if 0 ≤ (ji39) then (if (ji39) < ((rd_L1 t225 x12_4).length : Int) then (if (rd (rd_L1 t225 x12_4) x13_5) ≤ (rd (rd_L1 t225 x12_4) (ji39)) then (some false) else (if 0 ≤ (rd (rd_L1 t225 x12_4) x13_5) then (if (rd (rd_L1 t225 x12_4) x13_5) < (x11_5.length : Int) then (haystacklaw20_PlaceEven.l2 k5 a0 a1 a2 t225 (x11_5.set ((rd (rd_L1 t225 x12_4) x13_5) : Int).toNat (wrap64 ((rd x11_5 (rd (rd_L1 t225 x12_4) x13_5)) + 1))) x12_4 (wrap64 (x13_5 + 1))) else (none)) else (none))) else (none)) else (none)) = some r := by first | (rw [hji39] at H; exact H) | (simp only [hji39] at H ⊢; exact H)
                                                    have hji39w : (IntKind.i64.wrap (x13_5 - 1)) = ji39 := (i64_w _).trans hji39
                                                    by_cases c40 : 0 ≤ (ji39)
                                                    · rw [if_pos c40] at H
                                                      have c40b0 : decide (0 ≤ (ji39)) = true := decide_eq_true c40
                                                      clear c40
                                                      by_cases c41 : (ji39) < ((rd_L1 t225 x12_4).length : Int)
                                                      · rw [if_pos c41] at H
                                                        have c41b0 : decide ((ji39) < ((rd_L1 t225 x12_4).length : Int)) = true := decide_eq_true c41
                                                        clear c41
                                                        by_cases c42 : (rd (rd_L1 t225 x12_4) x13_5) ≤ (rd (rd_L1 t225 x12_4) (ji39))
                                                        · rw [if_pos c42] at H
                                                          have c42b0 : decide ((rd (rd_L1 t225 x12_4) x13_5) ≤ (rd (rd_L1 t225 x12_4) (ji39))) = true := decide_eq_true c42
                                                          clear c42
                                                          obtain rfl := Option.some.inj H
                                                          have p233 : 0 ≤ (x12_4 : Int) := of_decide_eq_true (by first | (with_reducible assumption) | assumption)
                                                          have q233 : x12_4 < (t225.length : Int) := of_decide_eq_true (by first | (with_reducible assumption) | assumption)
                                                          obtain ⟨ad233, A233_0, c233_0, e233, hx233_0, hl233_0, hi233_0⟩ := at_L1 (Kd.S_reads' HO_9.out).2.2 x12_4 p233 q233
                                                          obtain rfl : ad232 = ad233 := (by injection e233)
                                                          obtain ⟨ce233, hce233, hMe233, hcc233⟩ := Kd.S_get HO_9.out [] x12_4 p233 (by first | exact q233 | exact of_decide_eq_true (by first | (with_reducible assumption) | assumption) | (have e_ := (Kd.S_reads' HO_9.out).1; omega))
                                                          obtain ⟨ve233_0, rfl, ge233_0⟩ := hMe233
                                                          have hv233_0 := hcc233 0 _ rfl
                                                          rw [Nat.add_zero, show ((Kd.slice 3 (Kd.int .i64))).sz = 1 from rfl, Nat.mul_one] at hv233_0
                                                          replace hv233_0 := Option.some.inj (hv233_0.symm.trans hx233_0)
                                                          rw [hv233_0] at ge233_0
                                                          have HL233_0 := Aside0.mk (show Kd.R (Kd.int .i64) 3 _ _ _ _ (rd_L1 t225 x12_4) from ge233_0)
                                                          clear hv233_0 ge233_0
                                                          clear hcc233 hce233
                                                          have HR233_0 := Aside0.mk hi233_0
                                                          have HC233_0 := Aside0.mk hl233_0
                                                          clear hi233_0 hl233_0
                                                          replace p233 := eq_true p233
                                                          replace q233 := eq_true q233
                                                          have p234 : 0 ≤ (x12_4 : Int) := of_decide_eq_true (by first | (with_reducible assumption) | assumption)
                                                          have q234 : x12_4 < (t225.length : Int) := of_decide_eq_true (by first | (with_reducible assumption) | assumption)
                                                          obtain ⟨ad234, A234_0, c234_0, e234, hx234_0, hl234_0, hi234_0⟩ := at_L1 (Kd.S_reads' HO_9.out).2.2 x12_4 p234 q234
                                                          obtain rfl : ad232 = ad234 := (by injection e234)
                                                          obtain ⟨ce234, hce234, hMe234, hcc234⟩ := Kd.S_get HO_9.out [] x12_4 p234 (by first | exact q234 | exact of_decide_eq_true (by first | (with_reducible assumption) | assumption) | (have e_ := (Kd.S_reads' HO_9.out).1; omega))
                                                          obtain ⟨ve234_0, rfl, ge234_0⟩ := hMe234
                                                          have hv234_0 := hcc234 0 _ rfl
                                                          rw [Nat.add_zero, show ((Kd.slice 3 (Kd.int .i64))).sz = 1 from rfl, Nat.mul_one] at hv234_0
                                                          replace hv234_0 := Option.some.inj (hv234_0.symm.trans hx234_0)
                                                          rw [hv234_0] at ge234_0
                                                          have HL234_0 := Aside0.mk (show Kd.R (Kd.int .i64) 3 _ _ _ _ (rd_L1 t225 x12_4) from ge234_0)
                                                          clear hv234_0 ge234_0
                                                          clear hcc234 hce234
                                                          have HR234_0 := Aside0.mk hi234_0
                                                          have HC234_0 := Aside0.mk hl234_0
                                                          clear hi234_0 hl234_0
                                                          replace p234 := eq_true p234
                                                          replace q234 := eq_true q234
                                                          have ea_ := Option.some.inj (hx233_0.symm.trans hx234_0)
                                                          injection ea_ with ea_ en_ ec_
                                                          subst ea_
                                                          subst ec_
                                                          clear en_
                                                          have p235 : 0 ≤ (x13_5 : Int) := of_decide_eq_true (by first | (with_reducible assumption) | assumption)
                                                          have q235 : x13_5 < ((rd_L1 t225 x12_4).length : Int) := of_decide_eq_true (by first | (with_reducible assumption) | assumption)
                                                          obtain ⟨ad235, e235, hx235_0⟩ := Kd.at_int (by repeat (first | (with_reducible exact HR234_0.out) | (with_reducible refine Kd.C_alloc ?_ _) | (with_reducible refine Kd.C_drewN ?_ _) | (with_reducible refine Kd.C_drew ?_) | exact HR234_0.out)) x13_5 p235 q235
                                                          cases e235
                                                          replace p235 := eq_true p235
                                                          replace q235 := eq_true q235
                                                          have p236 : 0 ≤ (x12_4 : Int) := of_decide_eq_true (by first | (with_reducible assumption) | assumption)
                                                          have q236 : x12_4 < (t225.length : Int) := of_decide_eq_true (by first | (with_reducible assumption) | assumption)
                                                          obtain ⟨ad236, A236_0, c236_0, e236, hx236_0, hl236_0, hi236_0⟩ := at_L1 (Kd.S_reads' HO_9.out).2.2 x12_4 p236 q236
                                                          obtain rfl : ad232 = ad236 := (by injection e236)
                                                          obtain ⟨ce236, hce236, hMe236, hcc236⟩ := Kd.S_get HO_9.out [] x12_4 p236 (by first | exact q236 | exact of_decide_eq_true (by first | (with_reducible assumption) | assumption) | (have e_ := (Kd.S_reads' HO_9.out).1; omega))
                                                          obtain ⟨ve236_0, rfl, ge236_0⟩ := hMe236
                                                          have hv236_0 := hcc236 0 _ rfl
                                                          rw [Nat.add_zero, show ((Kd.slice 3 (Kd.int .i64))).sz = 1 from rfl, Nat.mul_one] at hv236_0
                                                          replace hv236_0 := Option.some.inj (hv236_0.symm.trans hx236_0)
                                                          rw [hv236_0] at ge236_0
                                                          have HL236_0 := Aside0.mk (show Kd.R (Kd.int .i64) 3 _ _ _ _ (rd_L1 t225 x12_4) from ge236_0)
                                                          clear hv236_0 ge236_0
                                                          clear hcc236 hce236
                                                          have HR236_0 := Aside0.mk hi236_0
                                                          have HC236_0 := Aside0.mk hl236_0
                                                          clear hi236_0 hl236_0
                                                          replace p236 := eq_true p236
                                                          replace q236 := eq_true q236
                                                          have ea_ := Option.some.inj (hx233_0.symm.trans hx236_0)
                                                          injection ea_ with ea_ en_ ec_
                                                          subst ea_
                                                          subst ec_
                                                          clear en_
                                                          have p237 : 0 ≤ (x13_5 : Int) := of_decide_eq_true (by first | (with_reducible assumption) | assumption)
                                                          have q237 : x13_5 < ((rd_L1 t225 x12_4).length : Int) := of_decide_eq_true (by first | (with_reducible assumption) | assumption)
                                                          obtain ⟨ad237, e237, hx237_0⟩ := Kd.at_int (by repeat (first | (with_reducible exact HR236_0.out) | (with_reducible refine Kd.C_alloc ?_ _) | (with_reducible refine Kd.C_drewN ?_ _) | (with_reducible refine Kd.C_drew ?_) | exact HR236_0.out)) x13_5 p237 q237
                                                          cases e237
                                                          replace p237 := eq_true p237
                                                          replace q237 := eq_true q237
                                                          have p238 : 0 ≤ (x12_4 : Int) := of_decide_eq_true (by first | (with_reducible assumption) | assumption)
                                                          have q238 : x12_4 < (t225.length : Int) := of_decide_eq_true (by first | (with_reducible assumption) | assumption)
                                                          obtain ⟨ad238, A238_0, c238_0, e238, hx238_0, hl238_0, hi238_0⟩ := at_L1 (Kd.S_reads' HO_9.out).2.2 x12_4 p238 q238
                                                          obtain rfl : ad232 = ad238 := (by injection e238)
                                                          obtain ⟨ce238, hce238, hMe238, hcc238⟩ := Kd.S_get HO_9.out [] x12_4 p238 (by first | exact q238 | exact of_decide_eq_true (by first | (with_reducible assumption) | assumption) | (have e_ := (Kd.S_reads' HO_9.out).1; omega))
                                                          obtain ⟨ve238_0, rfl, ge238_0⟩ := hMe238
                                                          have hv238_0 := hcc238 0 _ rfl
                                                          rw [Nat.add_zero, show ((Kd.slice 3 (Kd.int .i64))).sz = 1 from rfl, Nat.mul_one] at hv238_0
                                                          replace hv238_0 := Option.some.inj (hv238_0.symm.trans hx238_0)
                                                          rw [hv238_0] at ge238_0
                                                          have HL238_0 := Aside0.mk (show Kd.R (Kd.int .i64) 3 _ _ _ _ (rd_L1 t225 x12_4) from ge238_0)
                                                          clear hv238_0 ge238_0
                                                          clear hcc238 hce238
                                                          have HR238_0 := Aside0.mk hi238_0
                                                          have HC238_0 := Aside0.mk hl238_0
                                                          clear hi238_0 hl238_0
                                                          replace p238 := eq_true p238
                                                          replace q238 := eq_true q238
                                                          have ea_ := Option.some.inj (hx233_0.symm.trans hx238_0)
                                                          injection ea_ with ea_ en_ ec_
                                                          subst ea_
                                                          subst ec_
                                                          clear en_
                                                          have p239 : 0 ≤ (x13_5 : Int) := of_decide_eq_true (by first | (with_reducible assumption) | assumption)
                                                          have q239 : x13_5 < ((rd_L1 t225 x12_4).length : Int) := of_decide_eq_true (by first | (with_reducible assumption) | assumption)
                                                          obtain ⟨ad239, e239, hx239_0⟩ := Kd.at_int (by repeat (first | (with_reducible exact HR238_0.out) | (with_reducible refine Kd.C_alloc ?_ _) | (with_reducible refine Kd.C_drewN ?_ _) | (with_reducible refine Kd.C_drew ?_) | exact HR238_0.out)) x13_5 p239 q239
                                                          cases e239
                                                          replace p239 := eq_true p239
                                                          replace q239 := eq_true q239
                                                          have p240 : 0 ≤ (x12_4 : Int) := of_decide_eq_true (by first | (with_reducible assumption) | assumption)
                                                          have q240 : x12_4 < (t225.length : Int) := of_decide_eq_true (by first | (with_reducible assumption) | assumption)
                                                          obtain ⟨ad240, A240_0, c240_0, e240, hx240_0, hl240_0, hi240_0⟩ := at_L1 (Kd.S_reads' HO_9.out).2.2 x12_4 p240 q240
                                                          obtain rfl : ad232 = ad240 := (by injection e240)
                                                          obtain ⟨ce240, hce240, hMe240, hcc240⟩ := Kd.S_get HO_9.out [] x12_4 p240 (by first | exact q240 | exact of_decide_eq_true (by first | (with_reducible assumption) | assumption) | (have e_ := (Kd.S_reads' HO_9.out).1; omega))
                                                          obtain ⟨ve240_0, rfl, ge240_0⟩ := hMe240
                                                          have hv240_0 := hcc240 0 _ rfl
                                                          rw [Nat.add_zero, show ((Kd.slice 3 (Kd.int .i64))).sz = 1 from rfl, Nat.mul_one] at hv240_0
                                                          replace hv240_0 := Option.some.inj (hv240_0.symm.trans hx240_0)
                                                          rw [hv240_0] at ge240_0
                                                          have HL240_0 := Aside0.mk (show Kd.R (Kd.int .i64) 3 _ _ _ _ (rd_L1 t225 x12_4) from ge240_0)
                                                          clear hv240_0 ge240_0
                                                          clear hcc240 hce240
                                                          have HR240_0 := Aside0.mk hi240_0
                                                          have HC240_0 := Aside0.mk hl240_0
                                                          clear hi240_0 hl240_0
                                                          replace p240 := eq_true p240
                                                          replace q240 := eq_true q240
                                                          have ea_ := Option.some.inj (hx233_0.symm.trans hx240_0)
                                                          injection ea_ with ea_ en_ ec_
                                                          subst ea_
                                                          subst ec_
                                                          clear en_
                                                          have p241 : 0 ≤ ((ji39) : Int) := of_decide_eq_true (by first | (with_reducible assumption) | assumption)
                                                          have q241 : (ji39) < ((rd_L1 t225 x12_4).length : Int) := of_decide_eq_true (by first | (with_reducible assumption) | assumption)
                                                          obtain ⟨ad241, e241, hx241_0⟩ := Kd.at_int (by repeat (first | (with_reducible exact HR240_0.out) | (with_reducible refine Kd.C_alloc ?_ _) | (with_reducible refine Kd.C_drewN ?_ _) | (with_reducible refine Kd.C_drew ?_) | exact HR240_0.out)) (ji39) p241 q241
                                                          cases e241
                                                          replace p241 := eq_true p241
                                                          replace q241 := eq_true q241
                                                          go_wp2
                                                          repeat (go_quiet (fail); try go_wp2)
                                                          go_ret
                                                          exact ⟨by first | rfl | (simp [errW_none, errW_some] <;> rfl) | (simp only [← hji39]; first | rfl | (simp [errW_none, errW_some] <;> rfl)) | (simp [*, errW_none, errW_some] <;> rfl), by repeat (first | (with_reducible first | exact HB.out | apply below_alloc | apply pw_below_drewN | apply below_drew1) | exact HB.out)⟩
                                                        · rw [if_neg c42] at H
                                                          have c42b0 : decide ((rd (rd_L1 t225 x12_4) x13_5) ≤ (rd (rd_L1 t225 x12_4) (ji39))) = false := decide_eq_false c42
                                                          clear c42
                                                          by_cases c43 : 0 ≤ (rd (rd_L1 t225 x12_4) x13_5)
                                                          · rw [if_pos c43] at H
                                                            have c43b0 : decide (0 ≤ (rd (rd_L1 t225 x12_4) x13_5)) = true := decide_eq_true c43
                                                            clear c43
                                                            by_cases c44 : (rd (rd_L1 t225 x12_4) x13_5) < (x11_5.length : Int)
                                                            · rw [if_pos c44] at H
                                                              have c44b0 : decide ((rd (rd_L1 t225 x12_4) x13_5) < (x11_5.length : Int)) = true := decide_eq_true c44
                                                              clear c44
                                                              obtain ⟨y245, hy245⟩ : ∃ y_ : List Int, y_ = (x11_5.set ((rd (rd_L1 t225 x12_4) x13_5) : Int).toNat (wrap64 ((rd x11_5 (rd (rd_L1 t225 x12_4) x13_5)) + 1))) := ⟨_, rfl⟩
                                                              replace H : (haystacklaw20_PlaceEven.l2 k5 a0 a1 a2 t225 y245 x12_4 (wrap64 (x13_5 + 1))) = some r := by first | (rw [hy245]; with_reducible exact H) | (have H2_ := (Option.bind_some _ _).symm.trans H; rw [hy245]; with_reducible exact H2_) | (have H2_ := (Option.bind_some _ _).symm.trans H; with_reducible exact H2_) | with_reducible exact H | (rw [hy245]; exact H) | exact H
                                                              have Ny245 := Aside0.mk hy245
                                                              clear hy245
                                                              have H' := Aside0.mk H
                                                              clear H
                                                              have p233 : 0 ≤ (x12_4 : Int) := of_decide_eq_true (by first | (with_reducible assumption) | assumption)
                                                              have q233 : x12_4 < (t225.length : Int) := of_decide_eq_true (by first | (with_reducible assumption) | assumption)
                                                              obtain ⟨ad233, A233_0, c233_0, e233, hx233_0, hl233_0, hi233_0⟩ := at_L1 (Kd.S_reads' HO_9.out).2.2 x12_4 p233 q233
                                                              obtain rfl : ad232 = ad233 := (by injection e233)
                                                              obtain ⟨ce233, hce233, hMe233, hcc233⟩ := Kd.S_get HO_9.out [] x12_4 p233 (by first | exact q233 | exact of_decide_eq_true (by first | (with_reducible assumption) | assumption) | (have e_ := (Kd.S_reads' HO_9.out).1; omega))
                                                              obtain ⟨ve233_0, rfl, ge233_0⟩ := hMe233
                                                              have hv233_0 := hcc233 0 _ rfl
                                                              rw [Nat.add_zero, show ((Kd.slice 3 (Kd.int .i64))).sz = 1 from rfl, Nat.mul_one] at hv233_0
                                                              replace hv233_0 := Option.some.inj (hv233_0.symm.trans hx233_0)
                                                              rw [hv233_0] at ge233_0
                                                              have HL233_0 := Aside0.mk (show Kd.R (Kd.int .i64) 3 _ _ _ _ (rd_L1 t225 x12_4) from ge233_0)
                                                              clear hv233_0 ge233_0
                                                              clear hcc233 hce233
                                                              have HR233_0 := Aside0.mk hi233_0
                                                              have HC233_0 := Aside0.mk hl233_0
                                                              clear hi233_0 hl233_0
                                                              replace p233 := eq_true p233
                                                              replace q233 := eq_true q233
                                                              have p234 : 0 ≤ (x12_4 : Int) := of_decide_eq_true (by first | (with_reducible assumption) | assumption)
                                                              have q234 : x12_4 < (t225.length : Int) := of_decide_eq_true (by first | (with_reducible assumption) | assumption)
                                                              obtain ⟨ad234, A234_0, c234_0, e234, hx234_0, hl234_0, hi234_0⟩ := at_L1 (Kd.S_reads' HO_9.out).2.2 x12_4 p234 q234
                                                              obtain rfl : ad232 = ad234 := (by injection e234)
                                                              obtain ⟨ce234, hce234, hMe234, hcc234⟩ := Kd.S_get HO_9.out [] x12_4 p234 (by first | exact q234 | exact of_decide_eq_true (by first | (with_reducible assumption) | assumption) | (have e_ := (Kd.S_reads' HO_9.out).1; omega))
                                                              obtain ⟨ve234_0, rfl, ge234_0⟩ := hMe234
                                                              have hv234_0 := hcc234 0 _ rfl
                                                              rw [Nat.add_zero, show ((Kd.slice 3 (Kd.int .i64))).sz = 1 from rfl, Nat.mul_one] at hv234_0
                                                              replace hv234_0 := Option.some.inj (hv234_0.symm.trans hx234_0)
                                                              rw [hv234_0] at ge234_0
                                                              have HL234_0 := Aside0.mk (show Kd.R (Kd.int .i64) 3 _ _ _ _ (rd_L1 t225 x12_4) from ge234_0)
                                                              clear hv234_0 ge234_0
                                                              clear hcc234 hce234
                                                              have HR234_0 := Aside0.mk hi234_0
                                                              have HC234_0 := Aside0.mk hl234_0
                                                              clear hi234_0 hl234_0
                                                              replace p234 := eq_true p234
                                                              replace q234 := eq_true q234
                                                              have ea_ := Option.some.inj (hx233_0.symm.trans hx234_0)
                                                              injection ea_ with ea_ en_ ec_
                                                              subst ea_
                                                              subst ec_
                                                              clear en_
                                                              have p235 : 0 ≤ (x13_5 : Int) := of_decide_eq_true (by first | (with_reducible assumption) | assumption)
                                                              have q235 : x13_5 < ((rd_L1 t225 x12_4).length : Int) := of_decide_eq_true (by first | (with_reducible assumption) | assumption)
                                                              obtain ⟨ad235, e235, hx235_0⟩ := Kd.at_int (by repeat (first | (with_reducible exact HR234_0.out) | (with_reducible refine Kd.C_alloc ?_ _) | (with_reducible refine Kd.C_drewN ?_ _) | (with_reducible refine Kd.C_drew ?_) | exact HR234_0.out)) x13_5 p235 q235
                                                              cases e235
                                                              replace p235 := eq_true p235
                                                              replace q235 := eq_true q235
                                                              have p236 : 0 ≤ (x12_4 : Int) := of_decide_eq_true (by first | (with_reducible assumption) | assumption)
                                                              have q236 : x12_4 < (t225.length : Int) := of_decide_eq_true (by first | (with_reducible assumption) | assumption)
                                                              obtain ⟨ad236, A236_0, c236_0, e236, hx236_0, hl236_0, hi236_0⟩ := at_L1 (Kd.S_reads' HO_9.out).2.2 x12_4 p236 q236
                                                              obtain rfl : ad232 = ad236 := (by injection e236)
                                                              obtain ⟨ce236, hce236, hMe236, hcc236⟩ := Kd.S_get HO_9.out [] x12_4 p236 (by first | exact q236 | exact of_decide_eq_true (by first | (with_reducible assumption) | assumption) | (have e_ := (Kd.S_reads' HO_9.out).1; omega))
                                                              obtain ⟨ve236_0, rfl, ge236_0⟩ := hMe236
                                                              have hv236_0 := hcc236 0 _ rfl
                                                              rw [Nat.add_zero, show ((Kd.slice 3 (Kd.int .i64))).sz = 1 from rfl, Nat.mul_one] at hv236_0
                                                              replace hv236_0 := Option.some.inj (hv236_0.symm.trans hx236_0)
                                                              rw [hv236_0] at ge236_0
                                                              have HL236_0 := Aside0.mk (show Kd.R (Kd.int .i64) 3 _ _ _ _ (rd_L1 t225 x12_4) from ge236_0)
                                                              clear hv236_0 ge236_0
                                                              clear hcc236 hce236
                                                              have HR236_0 := Aside0.mk hi236_0
                                                              have HC236_0 := Aside0.mk hl236_0
                                                              clear hi236_0 hl236_0
                                                              replace p236 := eq_true p236
                                                              replace q236 := eq_true q236
                                                              have ea_ := Option.some.inj (hx233_0.symm.trans hx236_0)
                                                              injection ea_ with ea_ en_ ec_
                                                              subst ea_
                                                              subst ec_
                                                              clear en_
                                                              have p237 : 0 ≤ (x13_5 : Int) := of_decide_eq_true (by first | (with_reducible assumption) | assumption)
                                                              have q237 : x13_5 < ((rd_L1 t225 x12_4).length : Int) := of_decide_eq_true (by first | (with_reducible assumption) | assumption)
                                                              obtain ⟨ad237, e237, hx237_0⟩ := Kd.at_int (by repeat (first | (with_reducible exact HR236_0.out) | (with_reducible refine Kd.C_alloc ?_ _) | (with_reducible refine Kd.C_drewN ?_ _) | (with_reducible refine Kd.C_drew ?_) | exact HR236_0.out)) x13_5 p237 q237
                                                              cases e237
                                                              replace p237 := eq_true p237
                                                              replace q237 := eq_true q237
                                                              have p238 : 0 ≤ (x12_4 : Int) := of_decide_eq_true (by first | (with_reducible assumption) | assumption)
                                                              have q238 : x12_4 < (t225.length : Int) := of_decide_eq_true (by first | (with_reducible assumption) | assumption)
                                                              obtain ⟨ad238, A238_0, c238_0, e238, hx238_0, hl238_0, hi238_0⟩ := at_L1 (Kd.S_reads' HO_9.out).2.2 x12_4 p238 q238
                                                              obtain rfl : ad232 = ad238 := (by injection e238)
                                                              obtain ⟨ce238, hce238, hMe238, hcc238⟩ := Kd.S_get HO_9.out [] x12_4 p238 (by first | exact q238 | exact of_decide_eq_true (by first | (with_reducible assumption) | assumption) | (have e_ := (Kd.S_reads' HO_9.out).1; omega))
                                                              obtain ⟨ve238_0, rfl, ge238_0⟩ := hMe238
                                                              have hv238_0 := hcc238 0 _ rfl
                                                              rw [Nat.add_zero, show ((Kd.slice 3 (Kd.int .i64))).sz = 1 from rfl, Nat.mul_one] at hv238_0
                                                              replace hv238_0 := Option.some.inj (hv238_0.symm.trans hx238_0)
                                                              rw [hv238_0] at ge238_0
                                                              have HL238_0 := Aside0.mk (show Kd.R (Kd.int .i64) 3 _ _ _ _ (rd_L1 t225 x12_4) from ge238_0)
                                                              clear hv238_0 ge238_0
                                                              clear hcc238 hce238
                                                              have HR238_0 := Aside0.mk hi238_0
                                                              have HC238_0 := Aside0.mk hl238_0
                                                              clear hi238_0 hl238_0
                                                              replace p238 := eq_true p238
                                                              replace q238 := eq_true q238
                                                              have ea_ := Option.some.inj (hx233_0.symm.trans hx238_0)
                                                              injection ea_ with ea_ en_ ec_
                                                              subst ea_
                                                              subst ec_
                                                              clear en_
                                                              have p239 : 0 ≤ (x13_5 : Int) := of_decide_eq_true (by first | (with_reducible assumption) | assumption)
                                                              have q239 : x13_5 < ((rd_L1 t225 x12_4).length : Int) := of_decide_eq_true (by first | (with_reducible assumption) | assumption)
                                                              obtain ⟨ad239, e239, hx239_0⟩ := Kd.at_int (by repeat (first | (with_reducible exact HR238_0.out) | (with_reducible refine Kd.C_alloc ?_ _) | (with_reducible refine Kd.C_drewN ?_ _) | (with_reducible refine Kd.C_drew ?_) | exact HR238_0.out)) x13_5 p239 q239
                                                              cases e239
                                                              replace p239 := eq_true p239
                                                              replace q239 := eq_true q239
                                                              have p240 : 0 ≤ (x12_4 : Int) := of_decide_eq_true (by first | (with_reducible assumption) | assumption)
                                                              have q240 : x12_4 < (t225.length : Int) := of_decide_eq_true (by first | (with_reducible assumption) | assumption)
                                                              obtain ⟨ad240, A240_0, c240_0, e240, hx240_0, hl240_0, hi240_0⟩ := at_L1 (Kd.S_reads' HO_9.out).2.2 x12_4 p240 q240
                                                              obtain rfl : ad232 = ad240 := (by injection e240)
                                                              obtain ⟨ce240, hce240, hMe240, hcc240⟩ := Kd.S_get HO_9.out [] x12_4 p240 (by first | exact q240 | exact of_decide_eq_true (by first | (with_reducible assumption) | assumption) | (have e_ := (Kd.S_reads' HO_9.out).1; omega))
                                                              obtain ⟨ve240_0, rfl, ge240_0⟩ := hMe240
                                                              have hv240_0 := hcc240 0 _ rfl
                                                              rw [Nat.add_zero, show ((Kd.slice 3 (Kd.int .i64))).sz = 1 from rfl, Nat.mul_one] at hv240_0
                                                              replace hv240_0 := Option.some.inj (hv240_0.symm.trans hx240_0)
                                                              rw [hv240_0] at ge240_0
                                                              have HL240_0 := Aside0.mk (show Kd.R (Kd.int .i64) 3 _ _ _ _ (rd_L1 t225 x12_4) from ge240_0)
                                                              clear hv240_0 ge240_0
                                                              clear hcc240 hce240
                                                              have HR240_0 := Aside0.mk hi240_0
                                                              have HC240_0 := Aside0.mk hl240_0
                                                              clear hi240_0 hl240_0
                                                              replace p240 := eq_true p240
                                                              replace q240 := eq_true q240
                                                              have ea_ := Option.some.inj (hx233_0.symm.trans hx240_0)
                                                              injection ea_ with ea_ en_ ec_
                                                              subst ea_
                                                              subst ec_
                                                              clear en_
                                                              have p241 : 0 ≤ ((ji39) : Int) := of_decide_eq_true (by first | (with_reducible assumption) | assumption)
                                                              have q241 : (ji39) < ((rd_L1 t225 x12_4).length : Int) := of_decide_eq_true (by first | (with_reducible assumption) | assumption)
                                                              obtain ⟨ad241, e241, hx241_0⟩ := Kd.at_int (by repeat (first | (with_reducible exact HR240_0.out) | (with_reducible refine Kd.C_alloc ?_ _) | (with_reducible refine Kd.C_drewN ?_ _) | (with_reducible refine Kd.C_drew ?_) | exact HR240_0.out)) (ji39) p241 q241
                                                              cases e241
                                                              replace p241 := eq_true p241
                                                              replace q241 := eq_true q241
                                                              have p242 : 0 ≤ (x12_4 : Int) := of_decide_eq_true (by first | (with_reducible assumption) | assumption)
                                                              have q242 : x12_4 < (t225.length : Int) := of_decide_eq_true (by first | (with_reducible assumption) | assumption)
                                                              obtain ⟨ad242, A242_0, c242_0, e242, hx242_0, hl242_0, hi242_0⟩ := at_L1 (Kd.S_reads' HO_9.out).2.2 x12_4 p242 q242
                                                              obtain rfl : ad232 = ad242 := (by injection e242)
                                                              obtain ⟨ce242, hce242, hMe242, hcc242⟩ := Kd.S_get HO_9.out [] x12_4 p242 (by first | exact q242 | exact of_decide_eq_true (by first | (with_reducible assumption) | assumption) | (have e_ := (Kd.S_reads' HO_9.out).1; omega))
                                                              obtain ⟨ve242_0, rfl, ge242_0⟩ := hMe242
                                                              have hv242_0 := hcc242 0 _ rfl
                                                              rw [Nat.add_zero, show ((Kd.slice 3 (Kd.int .i64))).sz = 1 from rfl, Nat.mul_one] at hv242_0
                                                              replace hv242_0 := Option.some.inj (hv242_0.symm.trans hx242_0)
                                                              rw [hv242_0] at ge242_0
                                                              have HL242_0 := Aside0.mk (show Kd.R (Kd.int .i64) 3 _ _ _ _ (rd_L1 t225 x12_4) from ge242_0)
                                                              clear hv242_0 ge242_0
                                                              clear hcc242 hce242
                                                              have HR242_0 := Aside0.mk hi242_0
                                                              have HC242_0 := Aside0.mk hl242_0
                                                              clear hi242_0 hl242_0
                                                              replace p242 := eq_true p242
                                                              replace q242 := eq_true q242
                                                              have ea_ := Option.some.inj (hx233_0.symm.trans hx242_0)
                                                              injection ea_ with ea_ en_ ec_
                                                              subst ea_
                                                              subst ec_
                                                              clear en_
                                                              have p243 : 0 ≤ (x13_5 : Int) := of_decide_eq_true (by first | (with_reducible assumption) | assumption)
                                                              have q243 : x13_5 < ((rd_L1 t225 x12_4).length : Int) := of_decide_eq_true (by first | (with_reducible assumption) | assumption)
                                                              obtain ⟨ad243, e243, hx243_0⟩ := Kd.at_int (by repeat (first | (with_reducible exact HR242_0.out) | (with_reducible refine Kd.C_alloc ?_ _) | (with_reducible refine Kd.C_drewN ?_ _) | (with_reducible refine Kd.C_drew ?_) | exact HR242_0.out)) x13_5 p243 q243
                                                              cases e243
                                                              replace p243 := eq_true p243
                                                              replace q243 := eq_true q243
                                                              obtain ⟨Ao46, co46, eo46⟩ := Kd.R_slice HO_11.out
                                                              subst eo46
                                                              have p244 : 0 ≤ ((rd (rd_L1 t225 x12_4) x13_5) : Int) := of_decide_eq_true (by first | (with_reducible assumption) | assumption)
                                                              have q244 : (rd (rd_L1 t225 x12_4) x13_5) < (x11_5.length : Int) := of_decide_eq_true (by first | (with_reducible assumption) | assumption)
                                                              obtain ⟨ad244, e244, hx244_0⟩ := Kd.at_int (Kd.R_reads' HO_11.out).2.2 (rd (rd_L1 t225 x12_4) x13_5) p244 q244
                                                              cases e244
                                                              replace p244 := eq_true p244
                                                              replace q244 := eq_true q244
                                                              have p45 : 0 ≤ ((rd (rd_L1 t225 x12_4) x13_5) : Int) := of_decide_eq_true (by first | (with_reducible assumption) | assumption)
                                                              have q45 : ((rd (rd_L1 t225 x12_4) x13_5) : Int) < ((x11_5.length : Int) : Int) := of_decide_eq_true (by first | (with_reducible assumption) | assumption)
                                                              obtain ⟨go45, co45, eo45, gb45, gl45, cl45, HG45⟩ := Kd.R_form HO_11.out (by omega)
                                                              (first | cases eo45 | (injection eo45 with ea_ en_ ec_; (first | subst ea_ | (injection ea_ with ea_; subst ea_)); subst ec_; clear en_))
                                                              have GB45 := Aside0.mk gb45
                                                              have GG45 := Aside0.mk HG45
                                                              clear gb45 gl45 HG45
                                                              (first | simp only [add_plain] at hx244_0 | skip)
                                                              obtain ⟨hx45_0, hf45_0⟩ := Kd.R_celln 0 HO_11.out ((rd (rd_L1 t225 x12_4) x13_5) : Int) p45 q45
                                                              replace p45 := eq_true p45
                                                              replace q45 := eq_true q45
                                                              have HP47 := Kd.R_putg HO_11.out ((rd (rd_L1 t225 x12_4) x13_5) : Int) (wrap64 ((rd x11_5 (rd (rd_L1 t225 x12_4) x13_5)) + 1))
                                                              go_wp2_with (first | ((with_reducible refine gate_store (t := 3) (p := 149) rfl ?_); (try (rw [drewN_self wr]; generalize hq_ : World.drewN wr _ = wr; have n0_ := Aside0.mk (Kd.S_at hq_ HO_9.out); have n1_ := Aside0.mk (Kd.R_at hq_ HO_11.out); have n2_ := Aside0.mk (Kd.R_at hq_ HL233_0.out); have n3_ := Aside0.mk (Kd.R_at hq_ HL234_0.out); have n4_ := Aside0.mk (Kd.R_at hq_ HL236_0.out); have n5_ := Aside0.mk (Kd.R_at hq_ HL238_0.out); have n6_ := Aside0.mk (Kd.R_at hq_ HL240_0.out); have n7_ := Aside0.mk (Kd.R_at hq_ HL242_0.out); have n8_ := Aside0.mk (below_at hq_ HB.out); clear hq_ HO_9 HO_11 HL233_0 HL234_0 HL236_0 HL238_0 HL240_0 HL242_0 HB; have HO_9 := n0_; have HO_11 := n1_; have HL233_0 := n2_; have HL234_0 := n3_; have HL236_0 := n4_; have HL238_0 := n5_; have HL240_0 := n6_; have HL242_0 := n7_; have HB := n8_; clear n0_ n1_ n2_ n3_ n4_ n5_ n6_ n7_ n8_; (try (have HP47 := Kd.R_putg HO_11.out ((rd (rd_L1 t225 x12_4) x13_5) : Int) (wrap64 ((rd x11_5 (rd (rd_L1 t225 x12_4) x13_5)) + 1)))); (try (obtain ⟨hxz_, hfz_⟩ := Kd.R_celln 0 HO_11.out ((rd (rd_L1 t225 x12_4) x13_5) : Int) (of_eq_true (by assumption)) (of_eq_true (by assumption)))))); refine store_event (t := 3) (p := 149) (v := ?vo_w48) (w1 := (wr.setCell ⟨go45, ((rd (rd_L1 t225 x12_4) x13_5) : Int).toNat, none⟩ (.int .i64 (wrap64 ((rd x11_5 (rd (rd_L1 t225 x12_4) x13_5)) + 1))))) ?hg ?ho ?hn ?hr ?_; (case ho => rfl); (case hg => rfl); (case hn => rfl); (case hr => first | (go_simp; done) | (go_simp; rfl)); intro w48 hw; have hg : wr.grownBy w48 (some go45) := (by rw [hw]; exact HP47.2); have hp_ : Kd.R (Kd.int .i64) 3 w48 w.heap.size (fun _ => True) (.slice (some ⟨go45, 0, none⟩) x11_5.length co46) y245 := (by rw [hw, Ny245.out]; exact HP47.1); clear HP47; have n0_ := Aside0.mk (Kd.S_after (v := (.slice (some ⟨go45, 0, none⟩) x11_5.length co46)) (v1 := (.slice (some ⟨go45, 0, none⟩) x11_5.length co46)) (ok := (fun _ => True)) (by (with_reducible repeat (first | apply Kd.S_alloc | apply Kd.S_drewN | apply Kd.S_drew)); exact Kd.S_mono HO_9.out (fun _ hk => ⟨trivial, hk⟩)) hg (.inl rfl)); have n1_ := Aside0.mk (hp_); have n2_ := Aside0.mk (Kd.R_after (v := (.slice (some ⟨go45, 0, none⟩) x11_5.length co46)) (v1 := (.slice (some ⟨go45, 0, none⟩) x11_5.length co46)) (ok := (fun k_ => some k_ ≠ (.slice (some ad232) t225.length co31 : Value).ownBlock)) (by (with_reducible repeat (first | apply Kd.R_alloc | apply Kd.R_drewN | apply Kd.R_drew)); exact Kd.R_mono HL233_0.out (fun _ hk => ⟨hk.2, hk.1⟩)) hg (.inl rfl)); have n3_ := Aside0.mk (Kd.R_after (v := (.slice (some ⟨go45, 0, none⟩) x11_5.length co46)) (v1 := (.slice (some ⟨go45, 0, none⟩) x11_5.length co46)) (ok := (fun k_ => some k_ ≠ (.slice (some ad232) t225.length co31 : Value).ownBlock)) (by (with_reducible repeat (first | apply Kd.R_alloc | apply Kd.R_drewN | apply Kd.R_drew)); exact Kd.R_mono HL234_0.out (fun _ hk => ⟨hk.2, hk.1⟩)) hg (.inl rfl)); have n4_ := Aside0.mk (Kd.R_after (v := (.slice (some ⟨go45, 0, none⟩) x11_5.length co46)) (v1 := (.slice (some ⟨go45, 0, none⟩) x11_5.length co46)) (ok := (fun k_ => some k_ ≠ (.slice (some ad232) t225.length co31 : Value).ownBlock)) (by (with_reducible repeat (first | apply Kd.R_alloc | apply Kd.R_drewN | apply Kd.R_drew)); exact Kd.R_mono HL236_0.out (fun _ hk => ⟨hk.2, hk.1⟩)) hg (.inl rfl)); have n5_ := Aside0.mk (Kd.R_after (v := (.slice (some ⟨go45, 0, none⟩) x11_5.length co46)) (v1 := (.slice (some ⟨go45, 0, none⟩) x11_5.length co46)) (ok := (fun k_ => some k_ ≠ (.slice (some ad232) t225.length co31 : Value).ownBlock)) (by (with_reducible repeat (first | apply Kd.R_alloc | apply Kd.R_drewN | apply Kd.R_drew)); exact Kd.R_mono HL238_0.out (fun _ hk => ⟨hk.2, hk.1⟩)) hg (.inl rfl)); have n6_ := Aside0.mk (Kd.R_after (v := (.slice (some ⟨go45, 0, none⟩) x11_5.length co46)) (v1 := (.slice (some ⟨go45, 0, none⟩) x11_5.length co46)) (ok := (fun k_ => some k_ ≠ (.slice (some ad232) t225.length co31 : Value).ownBlock)) (by (with_reducible repeat (first | apply Kd.R_alloc | apply Kd.R_drewN | apply Kd.R_drew)); exact Kd.R_mono HL240_0.out (fun _ hk => ⟨hk.2, hk.1⟩)) hg (.inl rfl)); have n7_ := Aside0.mk (Kd.R_after (v := (.slice (some ⟨go45, 0, none⟩) x11_5.length co46)) (v1 := (.slice (some ⟨go45, 0, none⟩) x11_5.length co46)) (ok := (fun k_ => some k_ ≠ (.slice (some ad232) t225.length co31 : Value).ownBlock)) (by (with_reducible repeat (first | apply Kd.R_alloc | apply Kd.R_drewN | apply Kd.R_drew)); exact Kd.R_mono HL242_0.out (fun _ hk => ⟨hk.2, hk.1⟩)) hg (.inl rfl)); have n8_ := Aside0.mk ((by rw [hw]; exact below_set (HB.out) GB45.out : Below w.heap.size w w48)); clear HO_9; clear HO_11; clear HL233_0; clear HL234_0; clear HL236_0; clear HL238_0; clear HL240_0; clear HL242_0; clear HB; have HO_9 := n0_; have HO_11 := n1_; have HL233_0 := n2_; have HL234_0 := n3_; have HL236_0 := n4_; have HL238_0 := n5_; have HL240_0 := n6_; have HL242_0 := n7_; have HB := n8_; clear n0_ n1_ n2_ n3_ n4_ n5_ n6_ n7_ n8_; clear hg hw hp_))
                                                              repeat (go_quiet (first | ((with_reducible refine gate_store (t := 3) (p := 149) rfl ?_); (try (rw [drewN_self wr]; generalize hq_ : World.drewN wr _ = wr; have n0_ := Aside0.mk (Kd.S_at hq_ HO_9.out); have n1_ := Aside0.mk (Kd.R_at hq_ HO_11.out); have n2_ := Aside0.mk (Kd.R_at hq_ HL233_0.out); have n3_ := Aside0.mk (Kd.R_at hq_ HL234_0.out); have n4_ := Aside0.mk (Kd.R_at hq_ HL236_0.out); have n5_ := Aside0.mk (Kd.R_at hq_ HL238_0.out); have n6_ := Aside0.mk (Kd.R_at hq_ HL240_0.out); have n7_ := Aside0.mk (Kd.R_at hq_ HL242_0.out); have n8_ := Aside0.mk (below_at hq_ HB.out); clear hq_ HO_9 HO_11 HL233_0 HL234_0 HL236_0 HL238_0 HL240_0 HL242_0 HB; have HO_9 := n0_; have HO_11 := n1_; have HL233_0 := n2_; have HL234_0 := n3_; have HL236_0 := n4_; have HL238_0 := n5_; have HL240_0 := n6_; have HL242_0 := n7_; have HB := n8_; clear n0_ n1_ n2_ n3_ n4_ n5_ n6_ n7_ n8_; (try (have HP47 := Kd.R_putg HO_11.out ((rd (rd_L1 t225 x12_4) x13_5) : Int) (wrap64 ((rd x11_5 (rd (rd_L1 t225 x12_4) x13_5)) + 1)))); (try (obtain ⟨hxz_, hfz_⟩ := Kd.R_celln 0 HO_11.out ((rd (rd_L1 t225 x12_4) x13_5) : Int) (of_eq_true (by assumption)) (of_eq_true (by assumption)))))); refine store_event (t := 3) (p := 149) (v := ?vo_w48) (w1 := (wr.setCell ⟨go45, ((rd (rd_L1 t225 x12_4) x13_5) : Int).toNat, none⟩ (.int .i64 (wrap64 ((rd x11_5 (rd (rd_L1 t225 x12_4) x13_5)) + 1))))) ?hg ?ho ?hn ?hr ?_; (case ho => rfl); (case hg => rfl); (case hn => rfl); (case hr => first | (go_simp; done) | (go_simp; rfl)); intro w48 hw; have hg : wr.grownBy w48 (some go45) := (by rw [hw]; exact HP47.2); have hp_ : Kd.R (Kd.int .i64) 3 w48 w.heap.size (fun _ => True) (.slice (some ⟨go45, 0, none⟩) x11_5.length co46) y245 := (by rw [hw, Ny245.out]; exact HP47.1); clear HP47; have n0_ := Aside0.mk (Kd.S_after (v := (.slice (some ⟨go45, 0, none⟩) x11_5.length co46)) (v1 := (.slice (some ⟨go45, 0, none⟩) x11_5.length co46)) (ok := (fun _ => True)) (by (with_reducible repeat (first | apply Kd.S_alloc | apply Kd.S_drewN | apply Kd.S_drew)); exact Kd.S_mono HO_9.out (fun _ hk => ⟨trivial, hk⟩)) hg (.inl rfl)); have n1_ := Aside0.mk (hp_); have n2_ := Aside0.mk (Kd.R_after (v := (.slice (some ⟨go45, 0, none⟩) x11_5.length co46)) (v1 := (.slice (some ⟨go45, 0, none⟩) x11_5.length co46)) (ok := (fun k_ => some k_ ≠ (.slice (some ad232) t225.length co31 : Value).ownBlock)) (by (with_reducible repeat (first | apply Kd.R_alloc | apply Kd.R_drewN | apply Kd.R_drew)); exact Kd.R_mono HL233_0.out (fun _ hk => ⟨hk.2, hk.1⟩)) hg (.inl rfl)); have n3_ := Aside0.mk (Kd.R_after (v := (.slice (some ⟨go45, 0, none⟩) x11_5.length co46)) (v1 := (.slice (some ⟨go45, 0, none⟩) x11_5.length co46)) (ok := (fun k_ => some k_ ≠ (.slice (some ad232) t225.length co31 : Value).ownBlock)) (by (with_reducible repeat (first | apply Kd.R_alloc | apply Kd.R_drewN | apply Kd.R_drew)); exact Kd.R_mono HL234_0.out (fun _ hk => ⟨hk.2, hk.1⟩)) hg (.inl rfl)); have n4_ := Aside0.mk (Kd.R_after (v := (.slice (some ⟨go45, 0, none⟩) x11_5.length co46)) (v1 := (.slice (some ⟨go45, 0, none⟩) x11_5.length co46)) (ok := (fun k_ => some k_ ≠ (.slice (some ad232) t225.length co31 : Value).ownBlock)) (by (with_reducible repeat (first | apply Kd.R_alloc | apply Kd.R_drewN | apply Kd.R_drew)); exact Kd.R_mono HL236_0.out (fun _ hk => ⟨hk.2, hk.1⟩)) hg (.inl rfl)); have n5_ := Aside0.mk (Kd.R_after (v := (.slice (some ⟨go45, 0, none⟩) x11_5.length co46)) (v1 := (.slice (some ⟨go45, 0, none⟩) x11_5.length co46)) (ok := (fun k_ => some k_ ≠ (.slice (some ad232) t225.length co31 : Value).ownBlock)) (by (with_reducible repeat (first | apply Kd.R_alloc | apply Kd.R_drewN | apply Kd.R_drew)); exact Kd.R_mono HL238_0.out (fun _ hk => ⟨hk.2, hk.1⟩)) hg (.inl rfl)); have n6_ := Aside0.mk (Kd.R_after (v := (.slice (some ⟨go45, 0, none⟩) x11_5.length co46)) (v1 := (.slice (some ⟨go45, 0, none⟩) x11_5.length co46)) (ok := (fun k_ => some k_ ≠ (.slice (some ad232) t225.length co31 : Value).ownBlock)) (by (with_reducible repeat (first | apply Kd.R_alloc | apply Kd.R_drewN | apply Kd.R_drew)); exact Kd.R_mono HL240_0.out (fun _ hk => ⟨hk.2, hk.1⟩)) hg (.inl rfl)); have n7_ := Aside0.mk (Kd.R_after (v := (.slice (some ⟨go45, 0, none⟩) x11_5.length co46)) (v1 := (.slice (some ⟨go45, 0, none⟩) x11_5.length co46)) (ok := (fun k_ => some k_ ≠ (.slice (some ad232) t225.length co31 : Value).ownBlock)) (by (with_reducible repeat (first | apply Kd.R_alloc | apply Kd.R_drewN | apply Kd.R_drew)); exact Kd.R_mono HL242_0.out (fun _ hk => ⟨hk.2, hk.1⟩)) hg (.inl rfl)); have n8_ := Aside0.mk ((by rw [hw]; exact below_set (HB.out) GB45.out : Below w.heap.size w w48)); clear HO_9; clear HO_11; clear HL233_0; clear HL234_0; clear HL236_0; clear HL238_0; clear HL240_0; clear HL242_0; clear HB; have HO_9 := n0_; have HO_11 := n1_; have HL233_0 := n2_; have HL234_0 := n3_; have HL236_0 := n4_; have HL238_0 := n5_; have HL240_0 := n6_; have HL242_0 := n7_; have HB := n8_; clear n0_ n1_ n2_ n3_ n4_ n5_ n6_ n7_ n8_; clear hg hw hp_)); try go_wp2_with (first | ((with_reducible refine gate_store (t := 3) (p := 149) rfl ?_); (try (rw [drewN_self wr]; generalize hq_ : World.drewN wr _ = wr; have n0_ := Aside0.mk (Kd.S_at hq_ HO_9.out); have n1_ := Aside0.mk (Kd.R_at hq_ HO_11.out); have n2_ := Aside0.mk (Kd.R_at hq_ HL233_0.out); have n3_ := Aside0.mk (Kd.R_at hq_ HL234_0.out); have n4_ := Aside0.mk (Kd.R_at hq_ HL236_0.out); have n5_ := Aside0.mk (Kd.R_at hq_ HL238_0.out); have n6_ := Aside0.mk (Kd.R_at hq_ HL240_0.out); have n7_ := Aside0.mk (Kd.R_at hq_ HL242_0.out); have n8_ := Aside0.mk (below_at hq_ HB.out); clear hq_ HO_9 HO_11 HL233_0 HL234_0 HL236_0 HL238_0 HL240_0 HL242_0 HB; have HO_9 := n0_; have HO_11 := n1_; have HL233_0 := n2_; have HL234_0 := n3_; have HL236_0 := n4_; have HL238_0 := n5_; have HL240_0 := n6_; have HL242_0 := n7_; have HB := n8_; clear n0_ n1_ n2_ n3_ n4_ n5_ n6_ n7_ n8_; (try (have HP47 := Kd.R_putg HO_11.out ((rd (rd_L1 t225 x12_4) x13_5) : Int) (wrap64 ((rd x11_5 (rd (rd_L1 t225 x12_4) x13_5)) + 1)))); (try (obtain ⟨hxz_, hfz_⟩ := Kd.R_celln 0 HO_11.out ((rd (rd_L1 t225 x12_4) x13_5) : Int) (of_eq_true (by assumption)) (of_eq_true (by assumption)))))); refine store_event (t := 3) (p := 149) (v := ?vo_w48) (w1 := (wr.setCell ⟨go45, ((rd (rd_L1 t225 x12_4) x13_5) : Int).toNat, none⟩ (.int .i64 (wrap64 ((rd x11_5 (rd (rd_L1 t225 x12_4) x13_5)) + 1))))) ?hg ?ho ?hn ?hr ?_; (case ho => rfl); (case hg => rfl); (case hn => rfl); (case hr => first | (go_simp; done) | (go_simp; rfl)); intro w48 hw; have hg : wr.grownBy w48 (some go45) := (by rw [hw]; exact HP47.2); have hp_ : Kd.R (Kd.int .i64) 3 w48 w.heap.size (fun _ => True) (.slice (some ⟨go45, 0, none⟩) x11_5.length co46) y245 := (by rw [hw, Ny245.out]; exact HP47.1); clear HP47; have n0_ := Aside0.mk (Kd.S_after (v := (.slice (some ⟨go45, 0, none⟩) x11_5.length co46)) (v1 := (.slice (some ⟨go45, 0, none⟩) x11_5.length co46)) (ok := (fun _ => True)) (by (with_reducible repeat (first | apply Kd.S_alloc | apply Kd.S_drewN | apply Kd.S_drew)); exact Kd.S_mono HO_9.out (fun _ hk => ⟨trivial, hk⟩)) hg (.inl rfl)); have n1_ := Aside0.mk (hp_); have n2_ := Aside0.mk (Kd.R_after (v := (.slice (some ⟨go45, 0, none⟩) x11_5.length co46)) (v1 := (.slice (some ⟨go45, 0, none⟩) x11_5.length co46)) (ok := (fun k_ => some k_ ≠ (.slice (some ad232) t225.length co31 : Value).ownBlock)) (by (with_reducible repeat (first | apply Kd.R_alloc | apply Kd.R_drewN | apply Kd.R_drew)); exact Kd.R_mono HL233_0.out (fun _ hk => ⟨hk.2, hk.1⟩)) hg (.inl rfl)); have n3_ := Aside0.mk (Kd.R_after (v := (.slice (some ⟨go45, 0, none⟩) x11_5.length co46)) (v1 := (.slice (some ⟨go45, 0, none⟩) x11_5.length co46)) (ok := (fun k_ => some k_ ≠ (.slice (some ad232) t225.length co31 : Value).ownBlock)) (by (with_reducible repeat (first | apply Kd.R_alloc | apply Kd.R_drewN | apply Kd.R_drew)); exact Kd.R_mono HL234_0.out (fun _ hk => ⟨hk.2, hk.1⟩)) hg (.inl rfl)); have n4_ := Aside0.mk (Kd.R_after (v := (.slice (some ⟨go45, 0, none⟩) x11_5.length co46)) (v1 := (.slice (some ⟨go45, 0, none⟩) x11_5.length co46)) (ok := (fun k_ => some k_ ≠ (.slice (some ad232) t225.length co31 : Value).ownBlock)) (by (with_reducible repeat (first | apply Kd.R_alloc | apply Kd.R_drewN | apply Kd.R_drew)); exact Kd.R_mono HL236_0.out (fun _ hk => ⟨hk.2, hk.1⟩)) hg (.inl rfl)); have n5_ := Aside0.mk (Kd.R_after (v := (.slice (some ⟨go45, 0, none⟩) x11_5.length co46)) (v1 := (.slice (some ⟨go45, 0, none⟩) x11_5.length co46)) (ok := (fun k_ => some k_ ≠ (.slice (some ad232) t225.length co31 : Value).ownBlock)) (by (with_reducible repeat (first | apply Kd.R_alloc | apply Kd.R_drewN | apply Kd.R_drew)); exact Kd.R_mono HL238_0.out (fun _ hk => ⟨hk.2, hk.1⟩)) hg (.inl rfl)); have n6_ := Aside0.mk (Kd.R_after (v := (.slice (some ⟨go45, 0, none⟩) x11_5.length co46)) (v1 := (.slice (some ⟨go45, 0, none⟩) x11_5.length co46)) (ok := (fun k_ => some k_ ≠ (.slice (some ad232) t225.length co31 : Value).ownBlock)) (by (with_reducible repeat (first | apply Kd.R_alloc | apply Kd.R_drewN | apply Kd.R_drew)); exact Kd.R_mono HL240_0.out (fun _ hk => ⟨hk.2, hk.1⟩)) hg (.inl rfl)); have n7_ := Aside0.mk (Kd.R_after (v := (.slice (some ⟨go45, 0, none⟩) x11_5.length co46)) (v1 := (.slice (some ⟨go45, 0, none⟩) x11_5.length co46)) (ok := (fun k_ => some k_ ≠ (.slice (some ad232) t225.length co31 : Value).ownBlock)) (by (with_reducible repeat (first | apply Kd.R_alloc | apply Kd.R_drewN | apply Kd.R_drew)); exact Kd.R_mono HL242_0.out (fun _ hk => ⟨hk.2, hk.1⟩)) hg (.inl rfl)); have n8_ := Aside0.mk ((by rw [hw]; exact below_set (HB.out) GB45.out : Below w.heap.size w w48)); clear HO_9; clear HO_11; clear HL233_0; clear HL234_0; clear HL236_0; clear HL238_0; clear HL240_0; clear HL242_0; clear HB; have HO_9 := n0_; have HO_11 := n1_; have HL233_0 := n2_; have HL234_0 := n3_; have HL236_0 := n4_; have HL238_0 := n5_; have HL240_0 := n6_; have HL242_0 := n7_; have HB := n8_; clear n0_ n1_ n2_ n3_ n4_ n5_ n6_ n7_ n8_; clear hg hw hp_)))
                                                              go_roundg k5
                                                              case measure => have := HJ3.out; have := HK2.out; have := HJ17.out; have := HK4.out; have := HK5.out; omega
                                                              case rel => exact ⟨(y245), (wrap64 (x13_5 + 1)), (by first | rfl | (simp; done) | (simp [*]; done)), H', ⟨by have := HJ3.out; have := HK2.out; have := HJ17.out; have := HK4.out; have := HK5.out; omega⟩, ⟨by (with_reducible repeat (first | apply Kd.S_alloc | apply Kd.S_drewN | apply Kd.S_drew)); exact Kd.S_mono HO_9.out (fun _ hk => hk.2)⟩, ⟨by (with_reducible repeat (first | apply Kd.R_alloc | apply Kd.R_drewN | apply Kd.R_drew)); exact HO_11.out⟩, ⟨by repeat (first | (with_reducible first | exact HB.out | apply below_alloc | apply pw_below_drewN | apply below_drew1) | exact HB.out)⟩⟩
                                                            · rw [if_neg c44] at H
                                                              exact absurd H (by simp)
                                                          · rw [if_neg c43] at H
                                                            exact absurd H (by simp)
                                                      · rw [if_neg c41] at H
                                                        exact absurd H (by simp)
                                                    · rw [if_neg c40] at H
                                                      exact absurd H (by simp)
                                                  · rw [if_neg c38] at H
                                                    have c38b0 : decide (0 < x13_5) = false := decide_eq_false c38
                                                    clear c38
                                                    by_cases c49 : 0 ≤ (rd (rd_L1 t225 x12_4) x13_5)
                                                    · rw [if_pos c49] at H
                                                      have c49b0 : decide (0 ≤ (rd (rd_L1 t225 x12_4) x13_5)) = true := decide_eq_true c49
                                                      clear c49
                                                      by_cases c50 : (rd (rd_L1 t225 x12_4) x13_5) < (x11_5.length : Int)
                                                      · rw [if_pos c50] at H
                                                        have c50b0 : decide ((rd (rd_L1 t225 x12_4) x13_5) < (x11_5.length : Int)) = true := decide_eq_true c50
                                                        clear c50
                                                        obtain ⟨y249, hy249⟩ : ∃ y_ : List Int, y_ = (x11_5.set ((rd (rd_L1 t225 x12_4) x13_5) : Int).toNat (wrap64 ((rd x11_5 (rd (rd_L1 t225 x12_4) x13_5)) + 1))) := ⟨_, rfl⟩
                                                        replace H : (haystacklaw20_PlaceEven.l2 k5 a0 a1 a2 t225 y249 x12_4 (wrap64 (x13_5 + 1))) = some r := by first | (rw [hy249]; with_reducible exact H) | (have H2_ := (Option.bind_some _ _).symm.trans H; rw [hy249]; with_reducible exact H2_) | (have H2_ := (Option.bind_some _ _).symm.trans H; with_reducible exact H2_) | with_reducible exact H | (rw [hy249]; exact H) | exact H
                                                        have Ny249 := Aside0.mk hy249
                                                        clear hy249
                                                        have H' := Aside0.mk H
                                                        clear H
                                                        have p233 : 0 ≤ (x12_4 : Int) := of_decide_eq_true (by first | (with_reducible assumption) | assumption)
                                                        have q233 : x12_4 < (t225.length : Int) := of_decide_eq_true (by first | (with_reducible assumption) | assumption)
                                                        obtain ⟨ad233, A233_0, c233_0, e233, hx233_0, hl233_0, hi233_0⟩ := at_L1 (Kd.S_reads' HO_9.out).2.2 x12_4 p233 q233
                                                        obtain rfl : ad232 = ad233 := (by injection e233)
                                                        obtain ⟨ce233, hce233, hMe233, hcc233⟩ := Kd.S_get HO_9.out [] x12_4 p233 (by first | exact q233 | exact of_decide_eq_true (by first | (with_reducible assumption) | assumption) | (have e_ := (Kd.S_reads' HO_9.out).1; omega))
                                                        obtain ⟨ve233_0, rfl, ge233_0⟩ := hMe233
                                                        have hv233_0 := hcc233 0 _ rfl
                                                        rw [Nat.add_zero, show ((Kd.slice 3 (Kd.int .i64))).sz = 1 from rfl, Nat.mul_one] at hv233_0
                                                        replace hv233_0 := Option.some.inj (hv233_0.symm.trans hx233_0)
                                                        rw [hv233_0] at ge233_0
                                                        have HL233_0 := Aside0.mk (show Kd.R (Kd.int .i64) 3 _ _ _ _ (rd_L1 t225 x12_4) from ge233_0)
                                                        clear hv233_0 ge233_0
                                                        clear hcc233 hce233
                                                        have HR233_0 := Aside0.mk hi233_0
                                                        have HC233_0 := Aside0.mk hl233_0
                                                        clear hi233_0 hl233_0
                                                        replace p233 := eq_true p233
                                                        replace q233 := eq_true q233
                                                        have p234 : 0 ≤ (x12_4 : Int) := of_decide_eq_true (by first | (with_reducible assumption) | assumption)
                                                        have q234 : x12_4 < (t225.length : Int) := of_decide_eq_true (by first | (with_reducible assumption) | assumption)
                                                        obtain ⟨ad234, A234_0, c234_0, e234, hx234_0, hl234_0, hi234_0⟩ := at_L1 (Kd.S_reads' HO_9.out).2.2 x12_4 p234 q234
                                                        obtain rfl : ad232 = ad234 := (by injection e234)
                                                        obtain ⟨ce234, hce234, hMe234, hcc234⟩ := Kd.S_get HO_9.out [] x12_4 p234 (by first | exact q234 | exact of_decide_eq_true (by first | (with_reducible assumption) | assumption) | (have e_ := (Kd.S_reads' HO_9.out).1; omega))
                                                        obtain ⟨ve234_0, rfl, ge234_0⟩ := hMe234
                                                        have hv234_0 := hcc234 0 _ rfl
                                                        rw [Nat.add_zero, show ((Kd.slice 3 (Kd.int .i64))).sz = 1 from rfl, Nat.mul_one] at hv234_0
                                                        replace hv234_0 := Option.some.inj (hv234_0.symm.trans hx234_0)
                                                        rw [hv234_0] at ge234_0
                                                        have HL234_0 := Aside0.mk (show Kd.R (Kd.int .i64) 3 _ _ _ _ (rd_L1 t225 x12_4) from ge234_0)
                                                        clear hv234_0 ge234_0
                                                        clear hcc234 hce234
                                                        have HR234_0 := Aside0.mk hi234_0
                                                        have HC234_0 := Aside0.mk hl234_0
                                                        clear hi234_0 hl234_0
                                                        replace p234 := eq_true p234
                                                        replace q234 := eq_true q234
                                                        have ea_ := Option.some.inj (hx233_0.symm.trans hx234_0)
                                                        injection ea_ with ea_ en_ ec_
                                                        subst ea_
                                                        subst ec_
                                                        clear en_
                                                        have p235 : 0 ≤ (x13_5 : Int) := of_decide_eq_true (by first | (with_reducible assumption) | assumption)
                                                        have q235 : x13_5 < ((rd_L1 t225 x12_4).length : Int) := of_decide_eq_true (by first | (with_reducible assumption) | assumption)
                                                        obtain ⟨ad235, e235, hx235_0⟩ := Kd.at_int (by repeat (first | (with_reducible exact HR234_0.out) | (with_reducible refine Kd.C_alloc ?_ _) | (with_reducible refine Kd.C_drewN ?_ _) | (with_reducible refine Kd.C_drew ?_) | exact HR234_0.out)) x13_5 p235 q235
                                                        cases e235
                                                        replace p235 := eq_true p235
                                                        replace q235 := eq_true q235
                                                        have p236 : 0 ≤ (x12_4 : Int) := of_decide_eq_true (by first | (with_reducible assumption) | assumption)
                                                        have q236 : x12_4 < (t225.length : Int) := of_decide_eq_true (by first | (with_reducible assumption) | assumption)
                                                        obtain ⟨ad236, A236_0, c236_0, e236, hx236_0, hl236_0, hi236_0⟩ := at_L1 (Kd.S_reads' HO_9.out).2.2 x12_4 p236 q236
                                                        obtain rfl : ad232 = ad236 := (by injection e236)
                                                        obtain ⟨ce236, hce236, hMe236, hcc236⟩ := Kd.S_get HO_9.out [] x12_4 p236 (by first | exact q236 | exact of_decide_eq_true (by first | (with_reducible assumption) | assumption) | (have e_ := (Kd.S_reads' HO_9.out).1; omega))
                                                        obtain ⟨ve236_0, rfl, ge236_0⟩ := hMe236
                                                        have hv236_0 := hcc236 0 _ rfl
                                                        rw [Nat.add_zero, show ((Kd.slice 3 (Kd.int .i64))).sz = 1 from rfl, Nat.mul_one] at hv236_0
                                                        replace hv236_0 := Option.some.inj (hv236_0.symm.trans hx236_0)
                                                        rw [hv236_0] at ge236_0
                                                        have HL236_0 := Aside0.mk (show Kd.R (Kd.int .i64) 3 _ _ _ _ (rd_L1 t225 x12_4) from ge236_0)
                                                        clear hv236_0 ge236_0
                                                        clear hcc236 hce236
                                                        have HR236_0 := Aside0.mk hi236_0
                                                        have HC236_0 := Aside0.mk hl236_0
                                                        clear hi236_0 hl236_0
                                                        replace p236 := eq_true p236
                                                        replace q236 := eq_true q236
                                                        have ea_ := Option.some.inj (hx233_0.symm.trans hx236_0)
                                                        injection ea_ with ea_ en_ ec_
                                                        subst ea_
                                                        subst ec_
                                                        clear en_
                                                        have p237 : 0 ≤ (x13_5 : Int) := of_decide_eq_true (by first | (with_reducible assumption) | assumption)
                                                        have q237 : x13_5 < ((rd_L1 t225 x12_4).length : Int) := of_decide_eq_true (by first | (with_reducible assumption) | assumption)
                                                        obtain ⟨ad237, e237, hx237_0⟩ := Kd.at_int (by repeat (first | (with_reducible exact HR236_0.out) | (with_reducible refine Kd.C_alloc ?_ _) | (with_reducible refine Kd.C_drewN ?_ _) | (with_reducible refine Kd.C_drew ?_) | exact HR236_0.out)) x13_5 p237 q237
                                                        cases e237
                                                        replace p237 := eq_true p237
                                                        replace q237 := eq_true q237
                                                        have p246 : 0 ≤ (x12_4 : Int) := of_decide_eq_true (by first | (with_reducible assumption) | assumption)
                                                        have q246 : x12_4 < (t225.length : Int) := of_decide_eq_true (by first | (with_reducible assumption) | assumption)
                                                        obtain ⟨ad246, A246_0, c246_0, e246, hx246_0, hl246_0, hi246_0⟩ := at_L1 (Kd.S_reads' HO_9.out).2.2 x12_4 p246 q246
                                                        obtain rfl : ad232 = ad246 := (by injection e246)
                                                        obtain ⟨ce246, hce246, hMe246, hcc246⟩ := Kd.S_get HO_9.out [] x12_4 p246 (by first | exact q246 | exact of_decide_eq_true (by first | (with_reducible assumption) | assumption) | (have e_ := (Kd.S_reads' HO_9.out).1; omega))
                                                        obtain ⟨ve246_0, rfl, ge246_0⟩ := hMe246
                                                        have hv246_0 := hcc246 0 _ rfl
                                                        rw [Nat.add_zero, show ((Kd.slice 3 (Kd.int .i64))).sz = 1 from rfl, Nat.mul_one] at hv246_0
                                                        replace hv246_0 := Option.some.inj (hv246_0.symm.trans hx246_0)
                                                        rw [hv246_0] at ge246_0
                                                        have HL246_0 := Aside0.mk (show Kd.R (Kd.int .i64) 3 _ _ _ _ (rd_L1 t225 x12_4) from ge246_0)
                                                        clear hv246_0 ge246_0
                                                        clear hcc246 hce246
                                                        have HR246_0 := Aside0.mk hi246_0
                                                        have HC246_0 := Aside0.mk hl246_0
                                                        clear hi246_0 hl246_0
                                                        replace p246 := eq_true p246
                                                        replace q246 := eq_true q246
                                                        have ea_ := Option.some.inj (hx233_0.symm.trans hx246_0)
                                                        injection ea_ with ea_ en_ ec_
                                                        subst ea_
                                                        subst ec_
                                                        clear en_
                                                        have p247 : 0 ≤ (x13_5 : Int) := of_decide_eq_true (by first | (with_reducible assumption) | assumption)
                                                        have q247 : x13_5 < ((rd_L1 t225 x12_4).length : Int) := of_decide_eq_true (by first | (with_reducible assumption) | assumption)
                                                        obtain ⟨ad247, e247, hx247_0⟩ := Kd.at_int (by repeat (first | (with_reducible exact HR246_0.out) | (with_reducible refine Kd.C_alloc ?_ _) | (with_reducible refine Kd.C_drewN ?_ _) | (with_reducible refine Kd.C_drew ?_) | exact HR246_0.out)) x13_5 p247 q247
                                                        cases e247
                                                        replace p247 := eq_true p247
                                                        replace q247 := eq_true q247
                                                        obtain ⟨Ao52, co52, eo52⟩ := Kd.R_slice HO_11.out
                                                        subst eo52
                                                        have p248 : 0 ≤ ((rd (rd_L1 t225 x12_4) x13_5) : Int) := of_decide_eq_true (by first | (with_reducible assumption) | assumption)
                                                        have q248 : (rd (rd_L1 t225 x12_4) x13_5) < (x11_5.length : Int) := of_decide_eq_true (by first | (with_reducible assumption) | assumption)
                                                        obtain ⟨ad248, e248, hx248_0⟩ := Kd.at_int (Kd.R_reads' HO_11.out).2.2 (rd (rd_L1 t225 x12_4) x13_5) p248 q248
                                                        cases e248
                                                        replace p248 := eq_true p248
                                                        replace q248 := eq_true q248
                                                        have p51 : 0 ≤ ((rd (rd_L1 t225 x12_4) x13_5) : Int) := of_decide_eq_true (by first | (with_reducible assumption) | assumption)
                                                        have q51 : ((rd (rd_L1 t225 x12_4) x13_5) : Int) < ((x11_5.length : Int) : Int) := of_decide_eq_true (by first | (with_reducible assumption) | assumption)
                                                        obtain ⟨go51, co51, eo51, gb51, gl51, cl51, HG51⟩ := Kd.R_form HO_11.out (by omega)
                                                        (first | cases eo51 | (injection eo51 with ea_ en_ ec_; (first | subst ea_ | (injection ea_ with ea_; subst ea_)); subst ec_; clear en_))
                                                        have GB51 := Aside0.mk gb51
                                                        have GG51 := Aside0.mk HG51
                                                        clear gb51 gl51 HG51
                                                        (first | simp only [add_plain] at hx248_0 | skip)
                                                        obtain ⟨hx51_0, hf51_0⟩ := Kd.R_celln 0 HO_11.out ((rd (rd_L1 t225 x12_4) x13_5) : Int) p51 q51
                                                        replace p51 := eq_true p51
                                                        replace q51 := eq_true q51
                                                        have HP53 := Kd.R_putg HO_11.out ((rd (rd_L1 t225 x12_4) x13_5) : Int) (wrap64 ((rd x11_5 (rd (rd_L1 t225 x12_4) x13_5)) + 1))
                                                        go_wp2_with (first | ((with_reducible refine gate_store (t := 3) (p := 149) rfl ?_); (try (rw [drewN_self wr]; generalize hq_ : World.drewN wr _ = wr; have n0_ := Aside0.mk (Kd.S_at hq_ HO_9.out); have n1_ := Aside0.mk (Kd.R_at hq_ HO_11.out); have n2_ := Aside0.mk (Kd.R_at hq_ HL233_0.out); have n3_ := Aside0.mk (Kd.R_at hq_ HL234_0.out); have n4_ := Aside0.mk (Kd.R_at hq_ HL236_0.out); have n5_ := Aside0.mk (Kd.R_at hq_ HL246_0.out); have n6_ := Aside0.mk (below_at hq_ HB.out); clear hq_ HO_9 HO_11 HL233_0 HL234_0 HL236_0 HL246_0 HB; have HO_9 := n0_; have HO_11 := n1_; have HL233_0 := n2_; have HL234_0 := n3_; have HL236_0 := n4_; have HL246_0 := n5_; have HB := n6_; clear n0_ n1_ n2_ n3_ n4_ n5_ n6_; (try (have HP53 := Kd.R_putg HO_11.out ((rd (rd_L1 t225 x12_4) x13_5) : Int) (wrap64 ((rd x11_5 (rd (rd_L1 t225 x12_4) x13_5)) + 1)))); (try (obtain ⟨hxz_, hfz_⟩ := Kd.R_celln 0 HO_11.out ((rd (rd_L1 t225 x12_4) x13_5) : Int) (of_eq_true (by assumption)) (of_eq_true (by assumption)))))); refine store_event (t := 3) (p := 149) (v := ?vo_w54) (w1 := (wr.setCell ⟨go51, ((rd (rd_L1 t225 x12_4) x13_5) : Int).toNat, none⟩ (.int .i64 (wrap64 ((rd x11_5 (rd (rd_L1 t225 x12_4) x13_5)) + 1))))) ?hg ?ho ?hn ?hr ?_; (case ho => rfl); (case hg => rfl); (case hn => rfl); (case hr => first | (go_simp; done) | (go_simp; rfl)); intro w54 hw; have hg : wr.grownBy w54 (some go51) := (by rw [hw]; exact HP53.2); have hp_ : Kd.R (Kd.int .i64) 3 w54 w.heap.size (fun _ => True) (.slice (some ⟨go51, 0, none⟩) x11_5.length co52) y249 := (by rw [hw, Ny249.out]; exact HP53.1); clear HP53; have n0_ := Aside0.mk (Kd.S_after (v := (.slice (some ⟨go51, 0, none⟩) x11_5.length co52)) (v1 := (.slice (some ⟨go51, 0, none⟩) x11_5.length co52)) (ok := (fun _ => True)) (by (with_reducible repeat (first | apply Kd.S_alloc | apply Kd.S_drewN | apply Kd.S_drew)); exact Kd.S_mono HO_9.out (fun _ hk => ⟨trivial, hk⟩)) hg (.inl rfl)); have n1_ := Aside0.mk (hp_); have n2_ := Aside0.mk (Kd.R_after (v := (.slice (some ⟨go51, 0, none⟩) x11_5.length co52)) (v1 := (.slice (some ⟨go51, 0, none⟩) x11_5.length co52)) (ok := (fun k_ => some k_ ≠ (.slice (some ad232) t225.length co31 : Value).ownBlock)) (by (with_reducible repeat (first | apply Kd.R_alloc | apply Kd.R_drewN | apply Kd.R_drew)); exact Kd.R_mono HL233_0.out (fun _ hk => ⟨hk.2, hk.1⟩)) hg (.inl rfl)); have n3_ := Aside0.mk (Kd.R_after (v := (.slice (some ⟨go51, 0, none⟩) x11_5.length co52)) (v1 := (.slice (some ⟨go51, 0, none⟩) x11_5.length co52)) (ok := (fun k_ => some k_ ≠ (.slice (some ad232) t225.length co31 : Value).ownBlock)) (by (with_reducible repeat (first | apply Kd.R_alloc | apply Kd.R_drewN | apply Kd.R_drew)); exact Kd.R_mono HL234_0.out (fun _ hk => ⟨hk.2, hk.1⟩)) hg (.inl rfl)); have n4_ := Aside0.mk (Kd.R_after (v := (.slice (some ⟨go51, 0, none⟩) x11_5.length co52)) (v1 := (.slice (some ⟨go51, 0, none⟩) x11_5.length co52)) (ok := (fun k_ => some k_ ≠ (.slice (some ad232) t225.length co31 : Value).ownBlock)) (by (with_reducible repeat (first | apply Kd.R_alloc | apply Kd.R_drewN | apply Kd.R_drew)); exact Kd.R_mono HL236_0.out (fun _ hk => ⟨hk.2, hk.1⟩)) hg (.inl rfl)); have n5_ := Aside0.mk (Kd.R_after (v := (.slice (some ⟨go51, 0, none⟩) x11_5.length co52)) (v1 := (.slice (some ⟨go51, 0, none⟩) x11_5.length co52)) (ok := (fun k_ => some k_ ≠ (.slice (some ad232) t225.length co31 : Value).ownBlock)) (by (with_reducible repeat (first | apply Kd.R_alloc | apply Kd.R_drewN | apply Kd.R_drew)); exact Kd.R_mono HL246_0.out (fun _ hk => ⟨hk.2, hk.1⟩)) hg (.inl rfl)); have n6_ := Aside0.mk ((by rw [hw]; exact below_set (HB.out) GB51.out : Below w.heap.size w w54)); clear HO_9; clear HO_11; clear HL233_0; clear HL234_0; clear HL236_0; clear HL246_0; clear HB; have HO_9 := n0_; have HO_11 := n1_; have HL233_0 := n2_; have HL234_0 := n3_; have HL236_0 := n4_; have HL246_0 := n5_; have HB := n6_; clear n0_ n1_ n2_ n3_ n4_ n5_ n6_; clear hg hw hp_))
                                                        repeat (go_quiet (first | ((with_reducible refine gate_store (t := 3) (p := 149) rfl ?_); (try (rw [drewN_self wr]; generalize hq_ : World.drewN wr _ = wr; have n0_ := Aside0.mk (Kd.S_at hq_ HO_9.out); have n1_ := Aside0.mk (Kd.R_at hq_ HO_11.out); have n2_ := Aside0.mk (Kd.R_at hq_ HL233_0.out); have n3_ := Aside0.mk (Kd.R_at hq_ HL234_0.out); have n4_ := Aside0.mk (Kd.R_at hq_ HL236_0.out); have n5_ := Aside0.mk (Kd.R_at hq_ HL246_0.out); have n6_ := Aside0.mk (below_at hq_ HB.out); clear hq_ HO_9 HO_11 HL233_0 HL234_0 HL236_0 HL246_0 HB; have HO_9 := n0_; have HO_11 := n1_; have HL233_0 := n2_; have HL234_0 := n3_; have HL236_0 := n4_; have HL246_0 := n5_; have HB := n6_; clear n0_ n1_ n2_ n3_ n4_ n5_ n6_; (try (have HP53 := Kd.R_putg HO_11.out ((rd (rd_L1 t225 x12_4) x13_5) : Int) (wrap64 ((rd x11_5 (rd (rd_L1 t225 x12_4) x13_5)) + 1)))); (try (obtain ⟨hxz_, hfz_⟩ := Kd.R_celln 0 HO_11.out ((rd (rd_L1 t225 x12_4) x13_5) : Int) (of_eq_true (by assumption)) (of_eq_true (by assumption)))))); refine store_event (t := 3) (p := 149) (v := ?vo_w54) (w1 := (wr.setCell ⟨go51, ((rd (rd_L1 t225 x12_4) x13_5) : Int).toNat, none⟩ (.int .i64 (wrap64 ((rd x11_5 (rd (rd_L1 t225 x12_4) x13_5)) + 1))))) ?hg ?ho ?hn ?hr ?_; (case ho => rfl); (case hg => rfl); (case hn => rfl); (case hr => first | (go_simp; done) | (go_simp; rfl)); intro w54 hw; have hg : wr.grownBy w54 (some go51) := (by rw [hw]; exact HP53.2); have hp_ : Kd.R (Kd.int .i64) 3 w54 w.heap.size (fun _ => True) (.slice (some ⟨go51, 0, none⟩) x11_5.length co52) y249 := (by rw [hw, Ny249.out]; exact HP53.1); clear HP53; have n0_ := Aside0.mk (Kd.S_after (v := (.slice (some ⟨go51, 0, none⟩) x11_5.length co52)) (v1 := (.slice (some ⟨go51, 0, none⟩) x11_5.length co52)) (ok := (fun _ => True)) (by (with_reducible repeat (first | apply Kd.S_alloc | apply Kd.S_drewN | apply Kd.S_drew)); exact Kd.S_mono HO_9.out (fun _ hk => ⟨trivial, hk⟩)) hg (.inl rfl)); have n1_ := Aside0.mk (hp_); have n2_ := Aside0.mk (Kd.R_after (v := (.slice (some ⟨go51, 0, none⟩) x11_5.length co52)) (v1 := (.slice (some ⟨go51, 0, none⟩) x11_5.length co52)) (ok := (fun k_ => some k_ ≠ (.slice (some ad232) t225.length co31 : Value).ownBlock)) (by (with_reducible repeat (first | apply Kd.R_alloc | apply Kd.R_drewN | apply Kd.R_drew)); exact Kd.R_mono HL233_0.out (fun _ hk => ⟨hk.2, hk.1⟩)) hg (.inl rfl)); have n3_ := Aside0.mk (Kd.R_after (v := (.slice (some ⟨go51, 0, none⟩) x11_5.length co52)) (v1 := (.slice (some ⟨go51, 0, none⟩) x11_5.length co52)) (ok := (fun k_ => some k_ ≠ (.slice (some ad232) t225.length co31 : Value).ownBlock)) (by (with_reducible repeat (first | apply Kd.R_alloc | apply Kd.R_drewN | apply Kd.R_drew)); exact Kd.R_mono HL234_0.out (fun _ hk => ⟨hk.2, hk.1⟩)) hg (.inl rfl)); have n4_ := Aside0.mk (Kd.R_after (v := (.slice (some ⟨go51, 0, none⟩) x11_5.length co52)) (v1 := (.slice (some ⟨go51, 0, none⟩) x11_5.length co52)) (ok := (fun k_ => some k_ ≠ (.slice (some ad232) t225.length co31 : Value).ownBlock)) (by (with_reducible repeat (first | apply Kd.R_alloc | apply Kd.R_drewN | apply Kd.R_drew)); exact Kd.R_mono HL236_0.out (fun _ hk => ⟨hk.2, hk.1⟩)) hg (.inl rfl)); have n5_ := Aside0.mk (Kd.R_after (v := (.slice (some ⟨go51, 0, none⟩) x11_5.length co52)) (v1 := (.slice (some ⟨go51, 0, none⟩) x11_5.length co52)) (ok := (fun k_ => some k_ ≠ (.slice (some ad232) t225.length co31 : Value).ownBlock)) (by (with_reducible repeat (first | apply Kd.R_alloc | apply Kd.R_drewN | apply Kd.R_drew)); exact Kd.R_mono HL246_0.out (fun _ hk => ⟨hk.2, hk.1⟩)) hg (.inl rfl)); have n6_ := Aside0.mk ((by rw [hw]; exact below_set (HB.out) GB51.out : Below w.heap.size w w54)); clear HO_9; clear HO_11; clear HL233_0; clear HL234_0; clear HL236_0; clear HL246_0; clear HB; have HO_9 := n0_; have HO_11 := n1_; have HL233_0 := n2_; have HL234_0 := n3_; have HL236_0 := n4_; have HL246_0 := n5_; have HB := n6_; clear n0_ n1_ n2_ n3_ n4_ n5_ n6_; clear hg hw hp_)); try go_wp2_with (first | ((with_reducible refine gate_store (t := 3) (p := 149) rfl ?_); (try (rw [drewN_self wr]; generalize hq_ : World.drewN wr _ = wr; have n0_ := Aside0.mk (Kd.S_at hq_ HO_9.out); have n1_ := Aside0.mk (Kd.R_at hq_ HO_11.out); have n2_ := Aside0.mk (Kd.R_at hq_ HL233_0.out); have n3_ := Aside0.mk (Kd.R_at hq_ HL234_0.out); have n4_ := Aside0.mk (Kd.R_at hq_ HL236_0.out); have n5_ := Aside0.mk (Kd.R_at hq_ HL246_0.out); have n6_ := Aside0.mk (below_at hq_ HB.out); clear hq_ HO_9 HO_11 HL233_0 HL234_0 HL236_0 HL246_0 HB; have HO_9 := n0_; have HO_11 := n1_; have HL233_0 := n2_; have HL234_0 := n3_; have HL236_0 := n4_; have HL246_0 := n5_; have HB := n6_; clear n0_ n1_ n2_ n3_ n4_ n5_ n6_; (try (have HP53 := Kd.R_putg HO_11.out ((rd (rd_L1 t225 x12_4) x13_5) : Int) (wrap64 ((rd x11_5 (rd (rd_L1 t225 x12_4) x13_5)) + 1)))); (try (obtain ⟨hxz_, hfz_⟩ := Kd.R_celln 0 HO_11.out ((rd (rd_L1 t225 x12_4) x13_5) : Int) (of_eq_true (by assumption)) (of_eq_true (by assumption)))))); refine store_event (t := 3) (p := 149) (v := ?vo_w54) (w1 := (wr.setCell ⟨go51, ((rd (rd_L1 t225 x12_4) x13_5) : Int).toNat, none⟩ (.int .i64 (wrap64 ((rd x11_5 (rd (rd_L1 t225 x12_4) x13_5)) + 1))))) ?hg ?ho ?hn ?hr ?_; (case ho => rfl); (case hg => rfl); (case hn => rfl); (case hr => first | (go_simp; done) | (go_simp; rfl)); intro w54 hw; have hg : wr.grownBy w54 (some go51) := (by rw [hw]; exact HP53.2); have hp_ : Kd.R (Kd.int .i64) 3 w54 w.heap.size (fun _ => True) (.slice (some ⟨go51, 0, none⟩) x11_5.length co52) y249 := (by rw [hw, Ny249.out]; exact HP53.1); clear HP53; have n0_ := Aside0.mk (Kd.S_after (v := (.slice (some ⟨go51, 0, none⟩) x11_5.length co52)) (v1 := (.slice (some ⟨go51, 0, none⟩) x11_5.length co52)) (ok := (fun _ => True)) (by (with_reducible repeat (first | apply Kd.S_alloc | apply Kd.S_drewN | apply Kd.S_drew)); exact Kd.S_mono HO_9.out (fun _ hk => ⟨trivial, hk⟩)) hg (.inl rfl)); have n1_ := Aside0.mk (hp_); have n2_ := Aside0.mk (Kd.R_after (v := (.slice (some ⟨go51, 0, none⟩) x11_5.length co52)) (v1 := (.slice (some ⟨go51, 0, none⟩) x11_5.length co52)) (ok := (fun k_ => some k_ ≠ (.slice (some ad232) t225.length co31 : Value).ownBlock)) (by (with_reducible repeat (first | apply Kd.R_alloc | apply Kd.R_drewN | apply Kd.R_drew)); exact Kd.R_mono HL233_0.out (fun _ hk => ⟨hk.2, hk.1⟩)) hg (.inl rfl)); have n3_ := Aside0.mk (Kd.R_after (v := (.slice (some ⟨go51, 0, none⟩) x11_5.length co52)) (v1 := (.slice (some ⟨go51, 0, none⟩) x11_5.length co52)) (ok := (fun k_ => some k_ ≠ (.slice (some ad232) t225.length co31 : Value).ownBlock)) (by (with_reducible repeat (first | apply Kd.R_alloc | apply Kd.R_drewN | apply Kd.R_drew)); exact Kd.R_mono HL234_0.out (fun _ hk => ⟨hk.2, hk.1⟩)) hg (.inl rfl)); have n4_ := Aside0.mk (Kd.R_after (v := (.slice (some ⟨go51, 0, none⟩) x11_5.length co52)) (v1 := (.slice (some ⟨go51, 0, none⟩) x11_5.length co52)) (ok := (fun k_ => some k_ ≠ (.slice (some ad232) t225.length co31 : Value).ownBlock)) (by (with_reducible repeat (first | apply Kd.R_alloc | apply Kd.R_drewN | apply Kd.R_drew)); exact Kd.R_mono HL236_0.out (fun _ hk => ⟨hk.2, hk.1⟩)) hg (.inl rfl)); have n5_ := Aside0.mk (Kd.R_after (v := (.slice (some ⟨go51, 0, none⟩) x11_5.length co52)) (v1 := (.slice (some ⟨go51, 0, none⟩) x11_5.length co52)) (ok := (fun k_ => some k_ ≠ (.slice (some ad232) t225.length co31 : Value).ownBlock)) (by (with_reducible repeat (first | apply Kd.R_alloc | apply Kd.R_drewN | apply Kd.R_drew)); exact Kd.R_mono HL246_0.out (fun _ hk => ⟨hk.2, hk.1⟩)) hg (.inl rfl)); have n6_ := Aside0.mk ((by rw [hw]; exact below_set (HB.out) GB51.out : Below w.heap.size w w54)); clear HO_9; clear HO_11; clear HL233_0; clear HL234_0; clear HL236_0; clear HL246_0; clear HB; have HO_9 := n0_; have HO_11 := n1_; have HL233_0 := n2_; have HL234_0 := n3_; have HL236_0 := n4_; have HL246_0 := n5_; have HB := n6_; clear n0_ n1_ n2_ n3_ n4_ n5_ n6_; clear hg hw hp_)))
                                                        go_roundg k5
                                                        case measure => have := HJ3.out; have := HK2.out; have := HJ17.out; have := HK4.out; have := HK5.out; omega
                                                        case rel => exact ⟨(y249), (wrap64 (x13_5 + 1)), (by first | rfl | (simp; done) | (simp [*]; done)), H', ⟨by have := HJ3.out; have := HK2.out; have := HJ17.out; have := HK4.out; have := HK5.out; omega⟩, ⟨by (with_reducible repeat (first | apply Kd.S_alloc | apply Kd.S_drewN | apply Kd.S_drew)); exact Kd.S_mono HO_9.out (fun _ hk => hk.2)⟩, ⟨by (with_reducible repeat (first | apply Kd.R_alloc | apply Kd.R_drewN | apply Kd.R_drew)); exact HO_11.out⟩, ⟨by repeat (first | (with_reducible first | exact HB.out | apply below_alloc | apply pw_below_drewN | apply below_drew1) | exact HB.out)⟩⟩
                                                      · rw [if_neg c50] at H
                                                        exact absurd H (by simp)
                                                    · rw [if_neg c49] at H
                                                      exact absurd H (by simp)
                                            · rw [if_neg c35] at H
                                              exact absurd H (by simp)
                                          · rw [if_neg c34] at H
                                            have c34b0 : decide (x13_5 < ((rd_L1 t225 x12_4).length : Int)) = false := decide_eq_false c34
                                            clear c34
                                            have H' := Aside0.mk H
                                            clear H
                                            have p233 : 0 ≤ (x12_4 : Int) := of_decide_eq_true (by first | (with_reducible assumption) | assumption)
                                            have q233 : x12_4 < (t225.length : Int) := of_decide_eq_true (by first | (with_reducible assumption) | assumption)
                                            obtain ⟨ad233, A233_0, c233_0, e233, hx233_0, hl233_0, hi233_0⟩ := at_L1 (Kd.S_reads' HO_9.out).2.2 x12_4 p233 q233
                                            obtain rfl : ad232 = ad233 := (by injection e233)
                                            obtain ⟨ce233, hce233, hMe233, hcc233⟩ := Kd.S_get HO_9.out [] x12_4 p233 (by first | exact q233 | exact of_decide_eq_true (by first | (with_reducible assumption) | assumption) | (have e_ := (Kd.S_reads' HO_9.out).1; omega))
                                            obtain ⟨ve233_0, rfl, ge233_0⟩ := hMe233
                                            have hv233_0 := hcc233 0 _ rfl
                                            rw [Nat.add_zero, show ((Kd.slice 3 (Kd.int .i64))).sz = 1 from rfl, Nat.mul_one] at hv233_0
                                            replace hv233_0 := Option.some.inj (hv233_0.symm.trans hx233_0)
                                            rw [hv233_0] at ge233_0
                                            have HL233_0 := Aside0.mk (show Kd.R (Kd.int .i64) 3 _ _ _ _ (rd_L1 t225 x12_4) from ge233_0)
                                            clear hv233_0 ge233_0
                                            clear hcc233 hce233
                                            have HR233_0 := Aside0.mk hi233_0
                                            have HC233_0 := Aside0.mk hl233_0
                                            clear hi233_0 hl233_0
                                            replace p233 := eq_true p233
                                            replace q233 := eq_true q233
                                            go_wp2
                                            repeat (go_quiet (fail); try go_wp2)
                                            go_roundg k5
                                            case measure => have := HJ3.out; have := HK2.out; have := HJ17.out; have := HK4.out; have := HK5.out; omega
                                            case rel => exact ⟨(x11_5), (wrap64 (x12_4 + 1)), (by first | rfl | (simp; done) | (simp [*]; done)), H', ⟨by have := HJ3.out; have := HK2.out; have := HJ17.out; have := HK4.out; have := HK5.out; omega⟩, ⟨by (with_reducible repeat (first | apply Kd.S_alloc | apply Kd.S_drewN | apply Kd.S_drew)); exact HO_9.out⟩, ⟨by (with_reducible repeat (first | apply Kd.R_alloc | apply Kd.R_drewN | apply Kd.R_drew)); exact HO_11.out⟩, ⟨by repeat (first | (with_reducible first | exact HB.out | apply below_alloc | apply pw_below_drewN | apply below_drew1) | exact HB.out)⟩⟩
                                        · rw [if_neg c33] at H
                                          exact absurd H (by simp)
                                      · rw [if_neg c32] at H
                                        exact absurd H (by simp)
                                · rw [if_neg c30] at H
                                  have c30b0 : (((rd_L1 t225 x12_4).length : Int) == a2) = false := beq_eq_false_iff_ne.mpr c30
                                  have c30b1 : (((rd_L1 t225 x12_4).length : Int) != a2) = true := bne_iff_ne.mpr c30
                                  obtain rfl := Option.some.inj H
                                  obtain ⟨Ao55, co55, eo55⟩ := Kd.S_slice HO_9.out
                                  subst eo55
                                  have p232 : 0 ≤ (x12_4 : Int) := of_decide_eq_true (by first | (with_reducible assumption) | assumption)
                                  have q232 : x12_4 < (t225.length : Int) := of_decide_eq_true (by first | (with_reducible assumption) | assumption)
                                  obtain ⟨ad232, A232_0, c232_0, e232, hx232_0, hl232_0, hi232_0⟩ := at_L1 (Kd.S_reads' HO_9.out).2.2 x12_4 p232 q232
                                  cases e232
                                  obtain ⟨ce232, hce232, hMe232, hcc232⟩ := Kd.S_get HO_9.out [] x12_4 p232 (by first | exact q232 | exact of_decide_eq_true (by first | (with_reducible assumption) | assumption) | (have e_ := (Kd.S_reads' HO_9.out).1; omega))
                                  obtain ⟨ve232_0, rfl, ge232_0⟩ := hMe232
                                  have hv232_0 := hcc232 0 _ rfl
                                  rw [Nat.add_zero, show ((Kd.slice 3 (Kd.int .i64))).sz = 1 from rfl, Nat.mul_one] at hv232_0
                                  replace hv232_0 := Option.some.inj (hv232_0.symm.trans hx232_0)
                                  rw [hv232_0] at ge232_0
                                  have HL232_0 := Aside0.mk (show Kd.R (Kd.int .i64) 3 _ _ _ _ (rd_L1 t225 x12_4) from ge232_0)
                                  clear hv232_0 ge232_0
                                  clear hcc232 hce232
                                  have HR232_0 := Aside0.mk hi232_0
                                  have HC232_0 := Aside0.mk hl232_0
                                  clear hi232_0 hl232_0
                                  replace p232 := eq_true p232
                                  replace q232 := eq_true q232
                                  go_wp2
                                  repeat (go_quiet (fail); try go_wp2)
                                  go_ret
                                  exact ⟨by first | rfl | (simp [errW_none, errW_some] <;> rfl) | (simp [*, errW_none, errW_some] <;> rfl), by repeat (first | (with_reducible first | exact HB.out | apply below_alloc | apply pw_below_drewN | apply below_drew1) | exact HB.out)⟩
                              · rw [if_neg c29] at H
                                exact absurd H (by simp)
                            · rw [if_neg c28] at H
                              have c28b0 : decide (x12_4 < (t225.length : Int)) = false := decide_eq_false c28
                              clear c28
                              have H' := Aside0.mk H
                              clear H
                              obtain ⟨Ao56, co56, eo56⟩ := Kd.S_slice HO_9.out
                              subst eo56
                              go_wp2
                              repeat (go_quiet (fail); try go_wp2)
                              go_loopg [14] k4 (fun kq v14 w' => ∃ (x14_5 : Int), v14 = .int .i64 x14_5 ∧ Aside0 (haystacklaw20_PlaceEven.l3 kq a0 a1 a2 x11_4 x14_5 = some r) ∧ Aside0 (kq ≤ k4) ∧ Aside0 (Kd.R (Kd.int .i64) 3 w' w.heap.size (fun _ => True) v230 x11_4) ∧ Aside0 (Below w.heap.size w w'))
                              case atStart => exact ⟨(0), (by first | rfl | (simp; done) | (simp [*]; done)), H', ⟨Nat.le_refl _⟩, ⟨by (with_reducible repeat (first | apply Kd.R_alloc | apply Kd.R_drewN | apply Kd.R_drew)); exact HO_11.out⟩, ⟨by repeat (first | (with_reducible first | exact HB.out | apply below_alloc | apply pw_below_drewN | apply below_drew1) | exact HB.out)⟩⟩
                              case round =>
                                clear H'
                                try clear c2
                                try clear p2
                                try clear q2
                                try clear hx2
                                try clear c3
                                try clear c4
                                try clear p4
                                try clear q4
                                try clear hx4
                                try clear hf4
                                try clear c5
                                try clear p5
                                try clear q5
                                try clear hx5
                                try clear hf5
                                try clear p6
                                try clear c23
                                try clear p23
                                try clear q23
                                try clear hx23
                                try clear c24
                                try clear p24
                                try clear q24
                                try clear hx24
                                try clear c28
                                try clear c28b0
                                try clear c29
                                try clear c30
                                try clear c30b0
                                try clear c30b1
                                try clear c32
                                try clear c33
                                try clear c34
                                try clear c34b0
                                try clear c35
                                try clear c37
                                try clear c38
                                try clear c38b0
                                try clear c40
                                try clear c40b0
                                try clear c41
                                try clear c41b0
                                try clear c42
                                try clear c42b0
                                try clear c43
                                try clear c43b0
                                try clear c44
                                try clear c44b0
                                try clear p45
                                try clear q45
                                try clear hx45
                                try clear hf45
                                try clear c49
                                try clear c49b0
                                try clear c50
                                try clear c50b0
                                try clear p51
                                try clear q51
                                try clear hx51
                                try clear hf51
                                try clear hx232_0
                                try clear hx233_0
                                try clear hx234_0
                                try clear hx235_0
                                try clear hx236_0
                                try clear hx237_0
                                try clear hx238_0
                                try clear hx239_0
                                try clear hx240_0
                                try clear hx241_0
                                try clear hx242_0
                                try clear hx243_0
                                try clear hx244_0
                                try clear hx246_0
                                try clear hx247_0
                                try clear hx248_0
                                try clear hx45_0
                                try clear hx51_0
                                try clear p232
                                try clear p233
                                try clear p234
                                try clear p235
                                try clear p236
                                try clear p237
                                try clear p238
                                try clear p239
                                try clear p240
                                try clear p241
                                try clear p242
                                try clear p243
                                try clear p244
                                try clear p246
                                try clear p247
                                try clear p248
                                try clear p45
                                try clear p51
                                try clear q232
                                try clear q233
                                try clear q234
                                try clear q235
                                try clear q236
                                try clear q237
                                try clear q238
                                try clear q239
                                try clear q240
                                try clear q241
                                try clear q242
                                try clear q243
                                try clear q244
                                try clear q246
                                try clear q247
                                try clear q248
                                try clear q45
                                try clear q51
                                obtain ⟨x14_5, rfl, HA, HK5, HO_11, HB⟩ := hrel
                                cases gk with
                                | zero => exact absurd HA.out (by simp [haystacklaw20_PlaceEven.l3])
                                | succ k5 =>
                                  have H := HA.out
                                  clear HA
                                  simp only [haystacklaw20_PlaceEven.l3] at H
                                  by_cases c57 : x14_5 < a0
                                  · rw [if_pos c57] at H
                                    have c57b0 : decide (x14_5 < a0) = true := decide_eq_true c57
                                    clear c57
                                    by_cases c58 : 0 ≤ x14_5
                                    · rw [if_pos c58] at H
                                      have c58b0 : decide (0 ≤ x14_5) = true := decide_eq_true c58
                                      clear c58
                                      by_cases c59 : x14_5 < (x11_4.length : Int)
                                      · rw [if_pos c59] at H
                                        have c59b0 : decide (x14_5 < (x11_4.length : Int)) = true := decide_eq_true c59
                                        clear c59
                                        by_cases c60 : (rd x11_4 x14_5) = (wrap64 (a2 * a1))
                                        · rw [if_pos c60] at H
                                          have c60b0 : ((rd x11_4 x14_5) == (wrap64 (a2 * a1))) = true := beq_iff_eq.mpr c60
                                          have c60b1 : ((rd x11_4 x14_5) != (wrap64 (a2 * a1))) = false := bne_eq_false_iff_eq.mpr c60
                                          clear c60
                                          have H' := Aside0.mk H
                                          clear H
                                          obtain ⟨Ao61, co61, eo61⟩ := Kd.R_slice HO_11.out
                                          subst eo61
                                          have p250 : 0 ≤ (x14_5 : Int) := of_decide_eq_true (by first | (with_reducible assumption) | assumption)
                                          have q250 : x14_5 < (x11_4.length : Int) := of_decide_eq_true (by first | (with_reducible assumption) | assumption)
                                          obtain ⟨ad250, e250, hx250_0⟩ := Kd.at_int (Kd.R_reads' HO_11.out).2.2 x14_5 p250 q250
                                          cases e250
                                          replace p250 := eq_true p250
                                          replace q250 := eq_true q250
                                          go_wp2
                                          repeat (go_quiet (fail); try go_wp2)
                                          go_roundg k5
                                          case measure => have := HJ3.out; have := HK2.out; have := HJ17.out; have := HK4.out; have := HK5.out; omega
                                          case rel => exact ⟨(wrap64 (x14_5 + 1)), (by first | rfl | (simp; done) | (simp [*]; done)), H', ⟨by have := HJ3.out; have := HK2.out; have := HJ17.out; have := HK4.out; have := HK5.out; omega⟩, ⟨by (with_reducible repeat (first | apply Kd.R_alloc | apply Kd.R_drewN | apply Kd.R_drew)); exact HO_11.out⟩, ⟨by repeat (first | (with_reducible first | exact HB.out | apply below_alloc | apply pw_below_drewN | apply below_drew1) | exact HB.out)⟩⟩
                                        · rw [if_neg c60] at H
                                          have c60b0 : ((rd x11_4 x14_5) == (wrap64 (a2 * a1))) = false := beq_eq_false_iff_ne.mpr c60
                                          have c60b1 : ((rd x11_4 x14_5) != (wrap64 (a2 * a1))) = true := bne_iff_ne.mpr c60
                                          obtain rfl := Option.some.inj H
                                          obtain ⟨Ao62, co62, eo62⟩ := Kd.R_slice HO_11.out
                                          subst eo62
                                          have p250 : 0 ≤ (x14_5 : Int) := of_decide_eq_true (by first | (with_reducible assumption) | assumption)
                                          have q250 : x14_5 < (x11_4.length : Int) := of_decide_eq_true (by first | (with_reducible assumption) | assumption)
                                          obtain ⟨ad250, e250, hx250_0⟩ := Kd.at_int (Kd.R_reads' HO_11.out).2.2 x14_5 p250 q250
                                          cases e250
                                          replace p250 := eq_true p250
                                          replace q250 := eq_true q250
                                          go_wp2
                                          repeat (go_quiet (fail); try go_wp2)
                                          go_ret
                                          exact ⟨by first | rfl | (simp [errW_none, errW_some] <;> rfl) | (simp [*, errW_none, errW_some] <;> rfl), by repeat (first | (with_reducible first | exact HB.out | apply below_alloc | apply pw_below_drewN | apply below_drew1) | exact HB.out)⟩
                                      · rw [if_neg c59] at H
                                        exact absurd H (by simp)
                                    · rw [if_neg c58] at H
                                      exact absurd H (by simp)
                                  · rw [if_neg c57] at H
                                    have c57b0 : decide (x14_5 < a0) = false := decide_eq_false c57
                                    clear c57
                                    replace H := Option.bind_eq_some_iff.mp H
                                    obtain ⟨t251, A630, H⟩ := H
                                    replace H : (some t251) = some r := H
                                    have A63 := Aside0.mk A630
                                    clear A630
                                    obtain rfl := Option.some.inj H
                                    go_wp2_with (first | (go_at_call 10; (with_reducible refine (haystacklaw20_known.calls k5  t251 _ A63.out).mono ?_); rintro e w64 ⟨rfl, hb⟩; have n0_ := Aside0.mk (Kd.R_below (by (with_reducible repeat (first | apply Kd.R_alloc | apply Kd.R_drewN | apply Kd.R_drew)); exact HO_11.out) hb); have n1_ := Aside0.mk (below_step (by repeat (first | (with_reducible first | exact HB.out | apply below_alloc | apply pw_below_drewN | apply below_drew1) | exact HB.out)) hb); clear HO_11; clear HB; have HO_11 := n0_; have HB := n1_; clear n0_ n1_; (try clear hb); (try clear hb2); (try clear hk); (try clear hi)))
                                    repeat (go_quiet (first | (go_at_call 10; (with_reducible refine (haystacklaw20_known.calls k5  t251 _ A63.out).mono ?_); rintro e w64 ⟨rfl, hb⟩; have n0_ := Aside0.mk (Kd.R_below (by (with_reducible repeat (first | apply Kd.R_alloc | apply Kd.R_drewN | apply Kd.R_drew)); exact HO_11.out) hb); have n1_ := Aside0.mk (below_step (by repeat (first | (with_reducible first | exact HB.out | apply below_alloc | apply pw_below_drewN | apply below_drew1) | exact HB.out)) hb); clear HO_11; clear HB; have HO_11 := n0_; have HB := n1_; clear n0_ n1_; (try clear hb); (try clear hb2); (try clear hk); (try clear hi))); try go_wp2_with (first | (go_at_call 10; (with_reducible refine (haystacklaw20_known.calls k5  t251 _ A63.out).mono ?_); rintro e w64 ⟨rfl, hb⟩; have n0_ := Aside0.mk (Kd.R_below (by (with_reducible repeat (first | apply Kd.R_alloc | apply Kd.R_drewN | apply Kd.R_drew)); exact HO_11.out) hb); have n1_ := Aside0.mk (below_step (by repeat (first | (with_reducible first | exact HB.out | apply below_alloc | apply pw_below_drewN | apply below_drew1) | exact HB.out)) hb); clear HO_11; clear HB; have HO_11 := n0_; have HB := n1_; clear n0_ n1_; (try clear hb); (try clear hb2); (try clear hk); (try clear hi))))
                                    go_ret
                                    exact ⟨by first | rfl | (simp [errW_none, errW_some] <;> rfl) | (simp [*, errW_none, errW_some] <;> rfl), by repeat (first | (with_reducible first | exact HB.out | apply below_alloc | apply pw_below_drewN | apply below_drew1) | exact HB.out)⟩
                      · rw [if_neg c25] at H
                        exact absurd H (by simp)
                    · rw [if_neg c24] at H
                      exact absurd H (by simp)

/-- THE ONE PURE STATEMENT of haystacklaw20_PlaceEven: yours. -/
def haystacklaw20_PlaceEven.Pure : Prop := ∀ (a0 : Int) (a1 : Int) (a2 : Int), (Lit.int .i64 a0).wf = true → (Lit.int .i64 a1).wf = true → (Lit.int .i64 a2).wf = true → ∃ k, haystacklaw20_PlaceEven.f k a0 a1 a2 = some true
theorem haystacklaw20_PlaceEven.walk (P : haystacklaw20_PlaceEven.Pure) (a0 : Int) (a1 : Int) (a2 : Int) (w : World) (w0 : (Lit.int .i64 a0).wf = true) (w1 : (Lit.int .i64 a1).wf = true) (w2 : (Lit.int .i64 a2).wf = true) :
    Calls Try.prog 4 #[.int .i64 a0, .int .i64 a1, .int .i64 a2] w fun e w' => e = .returned (.bool true) ∧ Below w.heap.size w w' := by
  obtain ⟨k, h⟩ := P a0 a1 a2 w0 w1 w2
  refine (haystacklaw20_PlaceEven.calls k a0 a1 a2 true w h).mono ?_
  rintro e w' ⟨rfl, hd⟩
  exact ⟨rfl, hd⟩

end Go.Proofs.Ytiobjanmkhdpdaa.PPl
