import Derived.Test.YtdbjbeebjigofaaStabWalk
import Derived.Deep.Cut
/-! slices.symMergeCmpFunc, whole (printed by mergemain.py). -/
namespace Go.Proofs.Try.Stab
set_option linter.unusedVariables false
set_option linter.unusedSimpArgs false
open Go.Shelf Go.RowKit Go.Lib Go.Sort Go.Proofs
variable {α : Type} [Inhabited α]
variable {enc : α → Value} {cf : α → α → Int} {at_ : α → Nat} {g : Nat} {cb : Array Value} {blk off N : Nat} {d0 : Array α} {w0 : World}

/-- What a merge says at parts of together k elements at most. -/
def MergeAt (enc : α → Value) (cf : α → α → Int) (at_ : α → Nat) (g : Nat) (cb : Array Value) (blk off N : Nat) (w0 : World) (cap k : Nat) : Prop :=
  ∀ (w : World) (P A B S : List α) (a m b : Int), a = P.length → m = (P.length + A.length : Nat) → b = (P.length + A.length + B.length : Nat) →
    (P ++ (A ++ B) ++ S).length = N → A ≠ [] → B ≠ [] → A.length + B.length ≤ k → A.Pairwise (R (ltOf cf) at_) → B.Pairwise (R (ltOf cf) at_) → Cross at_ A B →
    SW enc w0 blk off (P ++ (A ++ B) ++ S).toArray w →
    Calls Try.prog 41 #[.slice (some ⟨blk, off, none⟩) N cap, .int .i64 a, .int .i64 m, .int .i64 b, .func (.func g) #[] cb] w fun e w' =>
      e = .returned (.tuple #[]) ∧ ∃ M, SW enc w0 blk off (P ++ M ++ S).toArray w' ∧ M.Perm (A ++ B) ∧ M.Pairwise (R (ltOf cf) at_)

/-- What the search comes to: the two halves. -/
theorem search_done (O : Ord (ltOf cf) at_) (P A B S : List α) (an mn bn mid lo s0 r0 pn : Nat) (D : Array α) (hD : D = (P ++ (A ++ B) ++ S).toArray)
    (han : an = P.length) (hmn : mn = P.length + A.length) (hbn : bn = P.length + A.length + B.length) (hA : A.Pairwise (R (ltOf cf) at_)) (hB : B.Pairwise (R (ltOf cf) at_)) (hC : Cross at_ A B)
    (hp : pn + 1 = mid + mn) (h1 : an ≤ s0) (h2 : s0 ≤ lo) (h3 : lo ≤ r0) (h4 : r0 ≤ mn) (h5 : r0 ≤ mid) (h6 : mid + mn ≤ bn + s0) (hs : s0 = an ∨ mid + mn = bn + s0) (hr : r0 = mid ∨ r0 = mn)
    (i1 : lo = s0 ∨ ltOf cf D[pn - (lo - 1)]! D[lo - 1]! = false) (i2 : lo = r0 ∨ ltOf cf D[pn - lo]! D[lo]! = true) :
    ∃ A1 A2 B1 B2, A = A1 ++ A2 ∧ B = B1 ++ B2 ∧ A1.length = lo - an ∧ A2.length = mn - lo ∧ B1.length = mid - lo ∧ B2.length + mid + mn = bn + lo ∧
      ∀ x ∈ A1 ++ B1, ∀ y ∈ A2 ++ B2, R (ltOf cf) at_ x y := by
  have hDA : ∀ t, t < A.length → D[an + t]! = A[t]! := fun t ht => by
    rw [hD, show P ++ (A ++ B) ++ S = P ++ A ++ (B ++ S) from by simp]; exact get_part P A (B ++ S) _ t (by omega) ht
  have hDB : ∀ t, t < B.length → D[mn + t]! = B[t]! := fun t ht => by
    rw [hD, show P ++ (A ++ B) ++ S = (P ++ A) ++ B ++ S from by simp]; exact get_part (P ++ A) B S _ t (by simp; omega) ht
  refine ⟨A.take (lo - an), A.drop (lo - an), B.take (mid - lo), B.drop (mid - lo), (List.take_append_drop _ _).symm, (List.take_append_drop _ _).symm, by simp; omega, by simp; omega, by simp; omega, by simp; omega, ?_⟩
  refine halves O _ _ _ _ (by rw [List.take_append_drop]; exact hA) (by rw [List.take_append_drop]; exact hB) ?_ ?_
  · intro x y hx hy
    have hlo : 0 < lo - an := Nat.pos_of_ne_zero (fun e => by rw [e] at hx; simp at hx)
    have hhi : mid - lo < B.length := by
      rcases Nat.lt_or_ge (mid - lo) B.length with h | h
      · exact h
      · rw [List.drop_of_length_le h] at hy; simp at hy
    have ex : x = A[lo - an - 1]! := by have := last_take A (lo - an) (by omega) hlo x; rw [hx] at this; exact this
    have ey : y = B[mid - lo]! := by have := head_drop B (mid - lo) hhi y; rw [hy] at this; exact this
    have hne : lo ≠ s0 := by rcases hs with h | h <;> omega
    have h := i1.resolve_left hne
    rw [show lo - 1 = an + (lo - an - 1) from by omega, hDA _ (by omega), show pn - (an + (lo - an - 1)) = mn + (mid - lo) from by omega, hDB _ hhi, ← ex, ← ey] at h
    refine R.of_not (hC x ?_ y ?_) h
    · rw [ex, getElem!_pos A (lo - an - 1) (by omega)]; exact List.getElem_mem _
    · rw [ey, getElem!_pos B (mid - lo) hhi]; exact List.getElem_mem _
  · intro x y hy hx
    have hlo : 0 < mid - lo := Nat.pos_of_ne_zero (fun e => by rw [e] at hy; simp at hy)
    have hhi : lo - an < A.length := by
      rcases Nat.lt_or_ge (lo - an) A.length with h | h
      · exact h
      · rw [List.drop_of_length_le h] at hx; simp at hx
    have ey : y = B[mid - lo - 1]! := by have := last_take B (mid - lo) (by omega) hlo y; rw [hy] at this; exact this
    have ex : x = A[lo - an]! := by have := head_drop A (lo - an) hhi x; rw [hx] at this; exact this
    have hne : lo ≠ r0 := by rcases hr with h | h <;> omega
    have h := i2.resolve_left hne
    rw [show pn - lo = mn + (mid - lo - 1) from by omega, hDB _ (by omega), show lo = an + (lo - an) from by omega, hDA _ hhi] at h
    rw [show mid - (an + (lo - an)) - 1 = mid - lo - 1 from by omega, ← ex, ← ey] at h
    exact Or.inl h


set_option maxHeartbeats 16000000 in
set_option maxRecDepth 1000000 in
theorem merge_main (E : Env enc cf at_ g cb blk off N d0 w0) (cap k : Nat) (IH : MergeAt enc cf at_ g cb blk off N w0 cap k) (w : World) (P A B S : List α) (a m b : Int)
    (ha : a = P.length) (hm : m = (P.length + A.length : Nat)) (hb : b = (P.length + A.length + B.length : Nat))
    (hN : (P ++ (A ++ B) ++ S).length = N) (hA2 : 1 < A.length) (hB2 : 1 < B.length) (hk : A.length + B.length ≤ k + 1)
    (hA : A.Pairwise (R (ltOf cf) at_)) (hB : B.Pairwise (R (ltOf cf) at_)) (hC : Cross at_ A B) (S0 : SW enc w0 blk off (P ++ (A ++ B) ++ S).toArray w) :
    Calls Try.prog 41 #[.slice (some ⟨blk, off, none⟩) N cap, .int .i64 a, .int .i64 m, .int .i64 b, .func (.func g) #[] cb] w fun e w' =>
      e = .returned (.tuple #[]) ∧ ∃ M, SW enc w0 blk off (P ++ M ++ S).toArray w' ∧ M.Perm (A ++ B) ∧ M.Pairwise (R (ltOf cf) at_) := by
  have mixed : Try.prog.follows .mixedOrders = true := by kernel_rfl
  have hcl0 := E.row.hO.cells
  simp only [Value.cells] at hcl0
  have hst := E.row.hO.store Try.prog
  have eg := E.eg
  have hsz := E.fit
  have EE : Aside _ := E
  have II : Aside _ := IH
  obtain ⟨D, hD⟩ : ∃ D, D = (P ++ (A ++ B) ++ S).toArray := ⟨_, rfl⟩
  have hDs : D.size = N := by rw [hD, List.size_toArray]; exact hN
  have S1 : Aside (SW enc w0 blk off D w) := by rw [hD]; exact S0
  clear S0
  obtain ⟨an, han⟩ : ∃ q, q = P.length := ⟨_, rfl⟩
  obtain ⟨mn, hmn⟩ : ∃ q, q = P.length + A.length := ⟨_, rfl⟩
  obtain ⟨bn, hbn⟩ : ∃ q, q = P.length + A.length + B.length := ⟨_, rfl⟩
  rw [← hbn] at hb; rw [← hmn] at hm; rw [← han] at ha
  have hlen : bn + S.length = N := by rw [← hN, hbn]; simp; omega
  have HD : Hid (D = (P ++ (A ++ B) ++ S).toArray ∧ an = P.length ∧ mn = P.length + A.length ∧ bn = P.length + A.length + B.length ∧ A.length + B.length ≤ k + 1 ∧ bn + S.length = N) := ⟨hD, han, hmn, hbn, hk, hlen⟩
  have hab : an + 1 < mn := by omega
  have hmb : mn + 1 < bn := by omega
  have hbN : bn ≤ N := by omega
  have HS : Aside _ := And.intro hA (And.intro hB hC)
  obtain ⟨mid, hmid⟩ : ∃ q, q = (an + bn) / 2 := ⟨_, rfl⟩
  have hmz : ((an : Int) + (bn : Int)) / 2 = (mid : Int) := by omega
  have d1 : 2 * mid ≤ an + bn := by omega
  have d2 : an + bn ≤ 2 * mid + 1 := by omega
  subst ha hm hb
  clear hA hB hC hD han hmn hbn hlen hN hk hA2 hB2 E IH hmid
  have w1 : IntKind.i64.wrap ((mn : Int) - (an : Int)) = (mn : Int) - (an : Int) := by rw [IntKind.wrap_i64] <;> omega
  have w1b : ((mn : Int) - (an : Int) == 1) = false := by rw [beq_eq_false_iff_ne]; omega
  have w2 : IntKind.i64.wrap ((bn : Int) - (mn : Int)) = (bn : Int) - (mn : Int) := by rw [IntKind.wrap_i64] <;> omega
  have w2b : ((bn : Int) - (mn : Int) == 1) = false := by rw [beq_eq_false_iff_ne]; omega
  obtain ⟨pn, hpn⟩ : ∃ q, q + 1 = mid + mn := ⟨mid + mn - 1, by omega⟩
  have w3 : IntKind.i64.wrap ((mid : Int) + (mn : Int) - 1) = (pn : Int) := by rw [IntKind.wrap_i64] <;> omega
  have w4 : IntKind.i64.wrap ((mid : Int) + (mn : Int)) = (mid : Int) + (mn : Int) := by rw [IntKind.wrap_i64] <;> omega
  have HP : Hid (pn + 1 = mid + mn) := hpn
  have p1 : pn + 1 ≤ mid + mn := by omega
  have p2 : mid + mn ≤ pn + 1 := by omega
  clear hpn
  go_enter Try.func41, Try.ntmps41
  rcases Nat.lt_or_ge mid mn with hcase | hcase

  · have hcz : (mid : Int) < (mn : Int) := by omega
    obtain ⟨s0, hs0⟩ : ∃ q, mid + mn = bn + q ∨ (mid + mn < bn ∧ q = 0) := by
      rcases Nat.lt_or_ge (mid + mn) bn with h | h
      · exact ⟨0, Or.inr ⟨h, rfl⟩⟩
      · exact ⟨mid + mn - bn, Or.inl (by omega)⟩
    have hs0' : mid + mn = bn + s0 := by omega
    have w5 : IntKind.i64.wrap ((mid : Int) + (mn : Int) - (bn : Int)) = (s0 : Int) := by rw [IntKind.wrap_i64] <;> omega
    obtain ⟨r0, hr0⟩ : ∃ q, q = mid := ⟨_, rfl⟩
    have HSR : Hid ((s0 = an ∨ mid + mn = bn + s0) ∧ (r0 = mid ∨ r0 = mn)) := ⟨Or.inr hs0', Or.inl hr0⟩
    have b1 : an ≤ s0 := by omega
    have b2 : s0 ≤ r0 := by omega
    have b3 : r0 ≤ mn := by omega
    have b4 : r0 ≤ mid := by omega
    have b5 : mid + mn ≤ bn + s0 := by omega
    have b6 : r0 = mid := hr0
    clear hs0 hs0' hr0
    go_wp2
    go_loopg [20, 21] (bn - an) (fun kx s9 s10 wr => ∃ lo hi : Nat, s9 = .int .i64 lo ∧ s10 = .int .i64 hi ∧ lo ≤ hi ∧ s0 ≤ lo ∧ hi ≤ r0 ∧ hi - lo ≤ kx ∧ Aside (SW enc w0 blk off D wr) ∧
      Hid ((lo = s0 ∨ ltOf cf D[pn - (lo - 1)]! D[lo - 1]! = false) ∧ (hi = r0 ∨ ltOf cf D[pn - hi]! D[hi]! = true)))
    case atStart => exact ⟨s0, r0, rfl, by rw [b6], b2, Nat.le_refl _, Nat.le_refl _, by omega, S1, ⟨Or.inl rfl, Or.inl rfl⟩⟩
    case round =>
      clear S1
      obtain ⟨lo, hi, rfl, rfl, hlh, hlo, hhi, hg, S1, I⟩ := hrel
      by_cases hlt : lo < hi
      · have hltz : (lo : Int) < (hi : Int) := by omega
        obtain ⟨h, hh⟩ : ∃ h : Nat, h = (lo + hi) / 2 := ⟨_, rfl⟩
        have hhz : ((lo : Int) + (hi : Int)) / 2 = (h : Int) := by omega
        have h1 : lo ≤ h := by omega
        have h2 : h < hi := by omega
        clear hh
        obtain ⟨q, hq⟩ : ∃ q, q + h = pn := ⟨pn - h, by omega⟩
        have hqz : (pn : Int) - (h : Int) = (q : Int) := by omega
        have q1 : q < bn := by omega
        have HQ : Hid (q + h = pn) := hq
        clear hq
        have e1 : IntKind.i64.wrap (h : Int) = (h : Int) := by rw [IntKind.wrap_i64]; omega
        have e2 : IntKind.i64.wrap (q : Int) = (q : Int) := by rw [IntKind.wrap_i64]; omega
        have hNz : (h : Int) < (N : Int) := by omega
        have aNz : (q : Int) < (N : Int) := by omega
        have cm := S1.out.cl EE.out.row (by rw [hDs, EE.out.size]) h (by omega)
        have cx := S1.out.cl EE.out.row (by rw [hDs, EE.out.size]) q (by omega)
        obtain ⟨z, hz⟩ : ∃ z, D[h]! = z := ⟨_, rfl⟩
        obtain ⟨y, hy⟩ : ∃ z, D[q]! = z := ⟨_, rfl⟩
        rw [hz] at cm
        rw [hy] at cx
        have Z : Hid (D[h]! = z ∧ D[pn - h]! = y) := ⟨hz, by rw [← hy]; congr 1; have := HQ.out; omega⟩
        clear hz hy
        have hc := S1.out.cmp EE.out.cmp hDs y z
        cases hv : ltOf cf y z with
        | false =>
          have hv1 : ¬ cf y z < 0 := of_decide_eq_false hv
          have hv2 : decide (cf y z < 0) = false := decide_eq_false hv1
          go_wp2_with fail
          go_quiet_grown (first | (go_at_fn g; refine Calls.grown_of (hc _ _)))
          have S2 : Aside (SW enc w0 blk off D (grow (wr.drewN nq) osq)) := S1.out.grown nq osq
          clear cm cx hc S1
          generalize grow (wr.drewN nq) osq = w2 at S2 ⊢
          go_wp2
          go_roundg (hi - (h + 1))
          case measure => omega
          case rel => exact ⟨h + 1, hi, by go_num, rfl, by omega, by omega, hhi, Nat.le_refl _, S2, ⟨Or.inr (by rw [Nat.add_sub_cancel, Z.out.1, Z.out.2]; exact hv), I.out.2⟩⟩
        | true =>
          have hv1 : cf y z < 0 := of_decide_eq_true hv
          have hv2 : decide (cf y z < 0) = true := decide_eq_true hv1
          go_wp2_with fail
          go_quiet_grown (first | (go_at_fn g; refine Calls.grown_of (hc _ _)))
          have S2 : Aside (SW enc w0 blk off D (grow (wr.drewN nq) osq)) := S1.out.grown nq osq
          clear cm cx hc S1
          generalize grow (wr.drewN nq) osq = w2 at S2 ⊢
          go_wp2
          go_roundg (h - lo)
          case measure => omega
          case rel => exact ⟨lo, h, rfl, rfl, h1, hlo, by omega, Nat.le_refl _, S2, ⟨I.out.1, Or.inr (by rw [Z.out.1, Z.out.2]; exact hv)⟩⟩
      · obtain rfl : lo = hi := by omega
        obtain ⟨A1, A2, B1, B2, hfin⟩ : ∃ A1 A2 B1 B2, Hid (A = A1 ++ A2 ∧ B = B1 ++ B2 ∧ A1.length = lo - an ∧ A2.length = mn - lo ∧ B1.length = mid - lo ∧ B2.length + mid + mn = bn + lo ∧
            ∀ x ∈ A1 ++ B1, ∀ y ∈ A2 ++ B2, R (ltOf cf) at_ x y) := by
          obtain ⟨e1, e2, e3, e4, e5, e6⟩ := HD.out
          obtain ⟨A1, A2, B1, B2, h⟩ := search_done EE.out.ord P A B S an mn bn mid lo s0 r0 pn D e1 e2 e3 e4 HS.out.1 HS.out.2.1 HS.out.2.2 HP.out b1 hlo hhi b3 b4 b5 HSR.out.1 HSR.out.2 I.out.1 I.out.2
          exact ⟨A1, A2, B1, B2, h⟩
        have S2 : Aside (SW enc w0 blk off (P ++ (A1 ++ A2 ++ (B1 ++ B2)) ++ S).toArray wr) := by
          have h := S1.out
          rw [HD.out.1, hfin.out.1, hfin.out.2.1] at h; exact h
        obtain ⟨en, hen⟩ : ∃ q, q + lo = mid + mn := ⟨mid + mn - lo, by omega⟩
        have w6 : IntKind.i64.wrap ((mid : Int) + (mn : Int) - (lo : Int)) = (en : Int) := by rw [IntKind.wrap_i64] <;> omega
        have n1 : lo ≤ mid := by omega
        have n2 : lo ≤ mn := by omega
        have n3 : en ≤ bn := by omega
        have n4 : mid ≤ en := by omega
        have n5 : mn ≤ en := by omega
        have n6 : an ≤ lo := by omega
        have HEN : Hid (en + lo = mid + mn) := hen
        clear S1 I hen
        go_upto_region 39 with fail
        go_cut [185] from 178 (fun s185 wx => s185 = .bool (decide (lo < mn) && decide (mn < en)) ∧ wx = wr)
        case first =>
          by_cases c1 : lo < mn
          · have c1z : (lo : Int) < (mn : Int) := by omega
            by_cases c2 : mn < en
            · have c2z : (mn : Int) < (en : Int) := by omega
              go_wp2_with fail
              go_meet
              case rel => exact ⟨by simp [c1, c2], rfl⟩
            · have c2z : ¬ (mn : Int) < (en : Int) := by omega
              go_wp2_with fail
              go_meet
              case rel => exact ⟨by simp [c1, c2], rfl⟩
          · have c1z : ¬ (lo : Int) < (mn : Int) := by omega
            go_wp2_with fail
            go_meet
            case rel => exact ⟨by simp [c1], rfl⟩
        case rest =>
          obtain ⟨rfl, rfl⟩ := hcut
          go_upto_if 185 with fail
          go_cut [] from 178 (fun wx => Aside (SW enc w0 blk off (P ++ (A1 ++ B1) ++ (A2 ++ B2) ++ S).toArray wx))
          case first =>
            by_cases c : lo < mn ∧ mn < en
            · have cz : (decide (lo < mn) && decide (mn < en)) = true := by simp [c.1, c.2]
              have hc : Calls Try.prog 46 #[.slice (some ⟨blk, off, none⟩) N cap, .int .i64 (lo : Int), .int .i64 (mn : Int), .int .i64 (en : Int), .func (.func g) #[] cb] wc fun e w' =>
                  e = .returned (.tuple #[]) ∧ SW enc w0 blk off (P ++ (A1 ++ B1) ++ (A2 ++ B2) ++ S).toArray w' := by
                obtain ⟨e1, e2, e3, e4, e5, e6⟩ := HD.out
                obtain ⟨f1, f2, f3, f4, f5, f6, f7⟩ := hfin.out
                have l1 := congrArg List.length f1
                have l2 := congrArg List.length f2
                simp at l1 l2
                have hr := rotate enc (.func (.func g) #[] cb) blk off N cap d0 w0 wc EE.out.row EE.out.size (P ++ A1) A2 B1 (B2 ++ S) lo mn en (by simp; omega) (by simp; omega) (by simp; have := HEN.out; omega)
                  (by intro h; rw [h] at f4; simp at f4; omega) (by intro h; rw [h] at f5; simp at f5; have := HEN.out; omega) (by simp; omega) EE.out.fit (by simpa using S2.out)
                refine hr.mono ?_
                rintro e w' ⟨he, hS⟩
                exact ⟨he, by simpa using hS⟩
              clear S2
              go_wp2_with (go_at_call 46; refine hc.mono ?_; rintro e w1 ⟨rfl, hS⟩)
              go_meet
              case rel => exact hS
            · have cz : (decide (lo < mn) && decide (mn < en)) = false := by
                rw [Bool.and_eq_false_iff]; rcases Nat.lt_or_ge lo mn with h | h
                · right; simp; omega
                · left; simp; omega
              go_wp2_with fail
              go_meet
              case rel =>
                have h := S2.out
                obtain ⟨f1, f2, f3, f4, f5, f6, f7⟩ := hfin.out
                have := HEN.out
                show SW _ _ _ _ _ _
                have hz : A2 = [] ∨ B1 = [] := by
                  rcases Nat.lt_or_ge lo mn with h | h
                  · right; apply List.eq_nil_of_length_eq_zero; omega
                  · left; apply List.eq_nil_of_length_eq_zero; omega
                rcases hz with hz | hz <;> (rw [hz] at h ⊢; simpa using h)
          case rest =>
            clear S2
            have S2 : Aside _ := hcut
            clear hcut
            go_upto_region 41 with fail
            go_cut [199] from 192 (fun sx wx => sx = .bool (decide (an < lo) && decide (lo < mid)) ∧ wx = wc)
            case first =>
              by_cases c1 : an < lo
              · have c1z : (an : Int) < (lo : Int) := by omega
                by_cases c2 : lo < mid
                · have c2z : (lo : Int) < (mid : Int) := by omega
                  go_wp2_with fail
                  go_meet
                  case rel => exact ⟨by simp [c1, c2], rfl⟩
                · have c2z : ¬ (lo : Int) < (mid : Int) := by omega
                  go_wp2_with fail
                  go_meet
                  case rel => exact ⟨by simp [c1, c2], rfl⟩
              · have c1z : ¬ (an : Int) < (lo : Int) := by omega
                go_wp2_with fail
                go_meet
                case rel => exact ⟨by simp [c1], rfl⟩
            case rest =>
              obtain ⟨rfl, rfl⟩ := hcut
              go_upto_if 199 with fail
              go_cut [] from 192 (fun wx => ∃ M1, Hid (M1.Perm (A1 ++ B1) ∧ M1.Pairwise (R (ltOf cf) at_)) ∧ Aside (SW enc w0 blk off (P ++ M1 ++ (A2 ++ B2) ++ S).toArray wx))
              case first =>
                have hsA : A1.Pairwise (R (ltOf cf) at_) := by have h := HS.out.1; rw [hfin.out.1] at h; exact (List.pairwise_append.1 h).1
                have hsB : B1.Pairwise (R (ltOf cf) at_) := by have h := HS.out.2.1; rw [hfin.out.2.1] at h; exact (List.pairwise_append.1 h).1
                have HSS : Aside _ := And.intro hsA hsB
                clear hsA hsB
                by_cases c : an < lo ∧ lo < mid
                · have cz : (decide (an < lo) && decide (lo < mid)) = true := by simp [c.1, c.2]
                  have hc : Calls Try.prog 41 #[.slice (some ⟨blk, off, none⟩) N cap, .int .i64 (an : Int), .int .i64 (lo : Int), .int .i64 (mid : Int), .func (.func g) #[] cb] wc fun e w' =>
                      e = .returned (.tuple #[]) ∧ ∃ M1, Hid (M1.Perm (A1 ++ B1) ∧ M1.Pairwise (R (ltOf cf) at_)) ∧ Aside (SW enc w0 blk off (P ++ M1 ++ (A2 ++ B2) ++ S).toArray w') := by
                    obtain ⟨e1, e2, e3, e4, e5, e6⟩ := HD.out
                    obtain ⟨f1, f2, f3, f4, f5, f6, f7⟩ := hfin.out
                    have l1 := congrArg List.length f1
                    have l2 := congrArg List.length f2
                    simp at l1 l2
                    have hr := II.out wc P A1 B1 ((A2 ++ B2) ++ S) an lo mid (by omega) (by omega) (by omega) (by simp; omega)
                      (by intro h; rw [h] at f3; simp at f3; omega) (by intro h; rw [h] at f5; simp at f5; omega) (by omega) HSS.out.1 HSS.out.2
                      (HS.out.2.2.sub (fun x hx => by rw [f1]; exact List.mem_append_left _ hx) (fun x hx => by rw [f2]; exact List.mem_append_left _ hx)) (by simpa using S2.out)
                    refine hr.mono ?_
                    rintro e w' ⟨he, M1, hS, hp, hs⟩
                    exact ⟨he, M1, ⟨hp, hs⟩, (show SW _ _ _ _ _ _ from by simpa using hS)⟩
                  clear S2
                  go_wp2_with (go_at_call 41; refine hc.mono ?_; rintro e w1 ⟨rfl, hS⟩)
                  go_meet
                  case rel => exact hS
                · have cz : (decide (an < lo) && decide (lo < mid)) = false := by
                    rw [Bool.and_eq_false_iff]; rcases Nat.lt_or_ge an lo with h | h
                    · right; simp; omega
                    · left; simp; omega
                  go_wp2_with fail
                  go_meet
                  case rel =>
                    obtain ⟨f1, f2, f3, f4, f5, f6, f7⟩ := hfin.out
                    refine ⟨A1 ++ B1, ⟨List.Perm.refl _, ?_⟩, S2⟩
                    have hz : A1 = [] ∨ B1 = [] := by
                      rcases Nat.lt_or_ge an lo with h | h
                      · right; apply List.eq_nil_of_length_eq_zero; omega
                      · left; apply List.eq_nil_of_length_eq_zero; omega
                    rcases hz with hz | hz
                    · rw [hz]; simpa using HSS.out.2
                    · rw [hz]; simpa using HSS.out.1
              case rest =>
                clear S2
                obtain ⟨M1, HM1, S2⟩ := hcut
                go_upto_region 43 with fail
                go_cut [213] from 206 (fun sx wx => sx = .bool (decide (mid < en) && decide (en < bn)) ∧ wx = wc)
                case first =>
                  by_cases c1 : mid < en
                  · have c1z : (mid : Int) < (en : Int) := by omega
                    by_cases c2 : en < bn
                    · have c2z : (en : Int) < (bn : Int) := by omega
                      go_wp2_with fail
                      go_meet
                      case rel => exact ⟨by simp [c1, c2], rfl⟩
                    · have c2z : ¬ (en : Int) < (bn : Int) := by omega
                      go_wp2_with fail
                      go_meet
                      case rel => exact ⟨by simp [c1, c2], rfl⟩
                  · have c1z : ¬ (mid : Int) < (en : Int) := by omega
                    go_wp2_with fail
                    go_meet
                    case rel => exact ⟨by simp [c1], rfl⟩
                case rest =>
                  obtain ⟨rfl, rfl⟩ := hcut
                  have hsA : A2.Pairwise (R (ltOf cf) at_) := by have h := HS.out.1; rw [hfin.out.1] at h; exact (List.pairwise_append.1 h).2.1
                  have hsB : B2.Pairwise (R (ltOf cf) at_) := by have h := HS.out.2.1; rw [hfin.out.2.1] at h; exact (List.pairwise_append.1 h).2.1
                  have HSS : Aside _ := And.intro hsA hsB
                  have hend : ∀ M2 : List α, M2.Perm (A2 ++ B2) → M2.Pairwise (R (ltOf cf) at_) → (M1 ++ M2).Perm (A ++ B) ∧ (M1 ++ M2).Pairwise (R (ltOf cf) at_) := by
                    intro M2 hp hs
                    obtain ⟨f1, f2, f3, f4, f5, f6, f7⟩ := hfin.out
                    refine ⟨?_, List.pairwise_append.2 ⟨HM1.out.2, hs, fun x hx y hy => f7 x (HM1.out.1.mem_iff.1 hx) y (hp.mem_iff.1 hy)⟩⟩
                    refine (HM1.out.1.append hp).trans ?_
                    rw [f1, f2]
                    have h1 : (A1 ++ B1 ++ (A2 ++ B2)) = A1 ++ ((B1 ++ A2) ++ B2) := by simp
                    have h2 : (A1 ++ A2 ++ (B1 ++ B2)) = A1 ++ ((A2 ++ B1) ++ B2) := by simp
                    rw [h1, h2]
                    exact ((List.perm_append_comm).append_right B2).append_left A1
                  have HE : Aside _ := hend
                  clear hsA hsB hend
                  by_cases c : mid < en ∧ en < bn
                  · have cz : (decide (mid < en) && decide (en < bn)) = true := by simp [c.1, c.2]
                    have hc : Calls Try.prog 41 #[.slice (some ⟨blk, off, none⟩) N cap, .int .i64 (mid : Int), .int .i64 (en : Int), .int .i64 (bn : Int), .func (.func g) #[] cb] wc fun e w' =>
                        e = .returned (.tuple #[]) ∧ ∃ M2, Hid (M2.Perm (A2 ++ B2) ∧ M2.Pairwise (R (ltOf cf) at_)) ∧ Aside (SW enc w0 blk off (P ++ (M1 ++ M2) ++ S).toArray w') := by
                      obtain ⟨e1, e2, e3, e4, e5, e6⟩ := HD.out
                      obtain ⟨f1, f2, f3, f4, f5, f6, f7⟩ := hfin.out
                      have l1 := congrArg List.length f1
                      have l2 := congrArg List.length f2
                      have l3 := HM1.out.1.length_eq
                      have l4 := HEN.out
                      simp at l1 l2 l3
                      have hr := II.out wc (P ++ M1) A2 B2 S mid en bn (by simp; omega) (by simp; omega) (by simp; omega) (by simp; omega)
                        (by intro h; rw [h] at f4; simp at f4; omega) (by intro h; rw [h] at f6; simp at f6; omega) (by omega) HSS.out.1 HSS.out.2
                        (HS.out.2.2.sub (fun x hx => by rw [f1]; exact List.mem_append_right _ hx) (fun x hx => by rw [f2]; exact List.mem_append_right _ hx)) S2.out
                      refine hr.mono ?_
                      rintro e w' ⟨he, M2, hS, hp, hs⟩
                      exact ⟨he, M2, ⟨hp, hs⟩, (show SW _ _ _ _ _ _ from by simpa using hS)⟩
                    clear S2
                    go_wp2_with (go_at_call 41; refine hc.mono ?_; rintro e w1 ⟨rfl, M2, HM2, hS⟩)
                    go_end0
                    exact ⟨rfl, M1 ++ M2, by simpa only [List.append_assoc] using hS.out, HE.out M2 HM2.out.1 HM2.out.2⟩
                  · have cz : (decide (mid < en) && decide (en < bn)) = false := by
                      rw [Bool.and_eq_false_iff]; rcases Nat.lt_or_ge mid en with h | h
                      · right; simp; omega
                      · left; simp; omega
                    go_wp2_with fail
                    go_end0
                    refine ⟨rfl, M1 ++ (A2 ++ B2), by simpa only [List.append_assoc] using S2.out, HE.out _ (List.Perm.refl _) ?_⟩
                    obtain ⟨f1, f2, f3, f4, f5, f6, f7⟩ := hfin.out
                    have l4 := HEN.out
                    have hz : A2 = [] ∨ B2 = [] := by
                      rcases Nat.lt_or_ge mid en with h | h
                      · right; apply List.eq_nil_of_length_eq_zero; omega
                      · left; apply List.eq_nil_of_length_eq_zero; omega
                    rcases hz with hz | hz
                    · rw [hz]; simpa using HSS.out.2
                    · rw [hz]; simpa using HSS.out.1

  · have hcz : ¬ (mid : Int) < (mn : Int) := by omega
    obtain ⟨s0, hs0⟩ : ∃ q, q = an := ⟨_, rfl⟩
    obtain ⟨r0, hr0⟩ : ∃ q, q = mn := ⟨_, rfl⟩
    have HSR : Hid ((s0 = an ∨ mid + mn = bn + s0) ∧ (r0 = mid ∨ r0 = mn)) := ⟨Or.inl hs0, Or.inr hr0⟩
    have b1 : an ≤ s0 := by omega
    have b2 : s0 ≤ r0 := by omega
    have b3 : r0 ≤ mn := by omega
    have b4 : r0 ≤ mid := by omega
    have b5 : mid + mn ≤ bn + s0 := by omega
    have b6 : s0 = an := hs0
    have b7 : r0 = mn := hr0
    clear hs0 hr0
    go_wp2
    go_loopg [20, 21] (bn - an) (fun kx s9 s10 wr => ∃ lo hi : Nat, s9 = .int .i64 lo ∧ s10 = .int .i64 hi ∧ lo ≤ hi ∧ s0 ≤ lo ∧ hi ≤ r0 ∧ hi - lo ≤ kx ∧ Aside (SW enc w0 blk off D wr) ∧
      Hid ((lo = s0 ∨ ltOf cf D[pn - (lo - 1)]! D[lo - 1]! = false) ∧ (hi = r0 ∨ ltOf cf D[pn - hi]! D[hi]! = true)))
    case atStart => exact ⟨s0, r0, by rw [b6], by rw [b7], b2, Nat.le_refl _, Nat.le_refl _, by omega, S1, ⟨Or.inl rfl, Or.inl rfl⟩⟩
    case round =>
      clear S1
      obtain ⟨lo, hi, rfl, rfl, hlh, hlo, hhi, hg, S1, I⟩ := hrel
      by_cases hlt : lo < hi
      · have hltz : (lo : Int) < (hi : Int) := by omega
        obtain ⟨h, hh⟩ : ∃ h : Nat, h = (lo + hi) / 2 := ⟨_, rfl⟩
        have hhz : ((lo : Int) + (hi : Int)) / 2 = (h : Int) := by omega
        have h1 : lo ≤ h := by omega
        have h2 : h < hi := by omega
        clear hh
        obtain ⟨q, hq⟩ : ∃ q, q + h = pn := ⟨pn - h, by omega⟩
        have hqz : (pn : Int) - (h : Int) = (q : Int) := by omega
        have q1 : q < bn := by omega
        have HQ : Hid (q + h = pn) := hq
        clear hq
        have e1 : IntKind.i64.wrap (h : Int) = (h : Int) := by rw [IntKind.wrap_i64]; omega
        have e2 : IntKind.i64.wrap (q : Int) = (q : Int) := by rw [IntKind.wrap_i64]; omega
        have hNz : (h : Int) < (N : Int) := by omega
        have aNz : (q : Int) < (N : Int) := by omega
        have cm := S1.out.cl EE.out.row (by rw [hDs, EE.out.size]) h (by omega)
        have cx := S1.out.cl EE.out.row (by rw [hDs, EE.out.size]) q (by omega)
        obtain ⟨z, hz⟩ : ∃ z, D[h]! = z := ⟨_, rfl⟩
        obtain ⟨y, hy⟩ : ∃ z, D[q]! = z := ⟨_, rfl⟩
        rw [hz] at cm
        rw [hy] at cx
        have Z : Hid (D[h]! = z ∧ D[pn - h]! = y) := ⟨hz, by rw [← hy]; congr 1; have := HQ.out; omega⟩
        clear hz hy
        have hc := S1.out.cmp EE.out.cmp hDs y z
        cases hv : ltOf cf y z with
        | false =>
          have hv1 : ¬ cf y z < 0 := of_decide_eq_false hv
          have hv2 : decide (cf y z < 0) = false := decide_eq_false hv1
          go_wp2_with fail
          go_quiet_grown (first | (go_at_fn g; refine Calls.grown_of (hc _ _)))
          have S2 : Aside (SW enc w0 blk off D (grow (wr.drewN nq) osq)) := S1.out.grown nq osq
          clear cm cx hc S1
          generalize grow (wr.drewN nq) osq = w2 at S2 ⊢
          go_wp2
          go_roundg (hi - (h + 1))
          case measure => omega
          case rel => exact ⟨h + 1, hi, by go_num, rfl, by omega, by omega, hhi, Nat.le_refl _, S2, ⟨Or.inr (by rw [Nat.add_sub_cancel, Z.out.1, Z.out.2]; exact hv), I.out.2⟩⟩
        | true =>
          have hv1 : cf y z < 0 := of_decide_eq_true hv
          have hv2 : decide (cf y z < 0) = true := decide_eq_true hv1
          go_wp2_with fail
          go_quiet_grown (first | (go_at_fn g; refine Calls.grown_of (hc _ _)))
          have S2 : Aside (SW enc w0 blk off D (grow (wr.drewN nq) osq)) := S1.out.grown nq osq
          clear cm cx hc S1
          generalize grow (wr.drewN nq) osq = w2 at S2 ⊢
          go_wp2
          go_roundg (h - lo)
          case measure => omega
          case rel => exact ⟨lo, h, rfl, rfl, h1, hlo, by omega, Nat.le_refl _, S2, ⟨I.out.1, Or.inr (by rw [Z.out.1, Z.out.2]; exact hv)⟩⟩
      · obtain rfl : lo = hi := by omega
        obtain ⟨A1, A2, B1, B2, hfin⟩ : ∃ A1 A2 B1 B2, Hid (A = A1 ++ A2 ∧ B = B1 ++ B2 ∧ A1.length = lo - an ∧ A2.length = mn - lo ∧ B1.length = mid - lo ∧ B2.length + mid + mn = bn + lo ∧
            ∀ x ∈ A1 ++ B1, ∀ y ∈ A2 ++ B2, R (ltOf cf) at_ x y) := by
          obtain ⟨e1, e2, e3, e4, e5, e6⟩ := HD.out
          obtain ⟨A1, A2, B1, B2, h⟩ := search_done EE.out.ord P A B S an mn bn mid lo s0 r0 pn D e1 e2 e3 e4 HS.out.1 HS.out.2.1 HS.out.2.2 HP.out b1 hlo hhi b3 b4 b5 HSR.out.1 HSR.out.2 I.out.1 I.out.2
          exact ⟨A1, A2, B1, B2, h⟩
        have S2 : Aside (SW enc w0 blk off (P ++ (A1 ++ A2 ++ (B1 ++ B2)) ++ S).toArray wr) := by
          have h := S1.out
          rw [HD.out.1, hfin.out.1, hfin.out.2.1] at h; exact h
        obtain ⟨en, hen⟩ : ∃ q, q + lo = mid + mn := ⟨mid + mn - lo, by omega⟩
        have w6 : IntKind.i64.wrap ((mid : Int) + (mn : Int) - (lo : Int)) = (en : Int) := by rw [IntKind.wrap_i64] <;> omega
        have n1 : lo ≤ mid := by omega
        have n2 : lo ≤ mn := by omega
        have n3 : en ≤ bn := by omega
        have n4 : mid ≤ en := by omega
        have n5 : mn ≤ en := by omega
        have n6 : an ≤ lo := by omega
        have HEN : Hid (en + lo = mid + mn) := hen
        clear S1 I hen
        go_upto_region 39 with fail
        go_cut [185] from 178 (fun s185 wx => s185 = .bool (decide (lo < mn) && decide (mn < en)) ∧ wx = wr)
        case first =>
          by_cases c1 : lo < mn
          · have c1z : (lo : Int) < (mn : Int) := by omega
            by_cases c2 : mn < en
            · have c2z : (mn : Int) < (en : Int) := by omega
              go_wp2_with fail
              go_meet
              case rel => exact ⟨by simp [c1, c2], rfl⟩
            · have c2z : ¬ (mn : Int) < (en : Int) := by omega
              go_wp2_with fail
              go_meet
              case rel => exact ⟨by simp [c1, c2], rfl⟩
          · have c1z : ¬ (lo : Int) < (mn : Int) := by omega
            go_wp2_with fail
            go_meet
            case rel => exact ⟨by simp [c1], rfl⟩
        case rest =>
          obtain ⟨rfl, rfl⟩ := hcut
          go_upto_if 185 with fail
          go_cut [] from 178 (fun wx => Aside (SW enc w0 blk off (P ++ (A1 ++ B1) ++ (A2 ++ B2) ++ S).toArray wx))
          case first =>
            by_cases c : lo < mn ∧ mn < en
            · have cz : (decide (lo < mn) && decide (mn < en)) = true := by simp [c.1, c.2]
              have hc : Calls Try.prog 46 #[.slice (some ⟨blk, off, none⟩) N cap, .int .i64 (lo : Int), .int .i64 (mn : Int), .int .i64 (en : Int), .func (.func g) #[] cb] wc fun e w' =>
                  e = .returned (.tuple #[]) ∧ SW enc w0 blk off (P ++ (A1 ++ B1) ++ (A2 ++ B2) ++ S).toArray w' := by
                obtain ⟨e1, e2, e3, e4, e5, e6⟩ := HD.out
                obtain ⟨f1, f2, f3, f4, f5, f6, f7⟩ := hfin.out
                have l1 := congrArg List.length f1
                have l2 := congrArg List.length f2
                simp at l1 l2
                have hr := rotate enc (.func (.func g) #[] cb) blk off N cap d0 w0 wc EE.out.row EE.out.size (P ++ A1) A2 B1 (B2 ++ S) lo mn en (by simp; omega) (by simp; omega) (by simp; have := HEN.out; omega)
                  (by intro h; rw [h] at f4; simp at f4; omega) (by intro h; rw [h] at f5; simp at f5; have := HEN.out; omega) (by simp; omega) EE.out.fit (by simpa using S2.out)
                refine hr.mono ?_
                rintro e w' ⟨he, hS⟩
                exact ⟨he, by simpa using hS⟩
              clear S2
              go_wp2_with (go_at_call 46; refine hc.mono ?_; rintro e w1 ⟨rfl, hS⟩)
              go_meet
              case rel => exact hS
            · have cz : (decide (lo < mn) && decide (mn < en)) = false := by
                rw [Bool.and_eq_false_iff]; rcases Nat.lt_or_ge lo mn with h | h
                · right; simp; omega
                · left; simp; omega
              go_wp2_with fail
              go_meet
              case rel =>
                have h := S2.out
                obtain ⟨f1, f2, f3, f4, f5, f6, f7⟩ := hfin.out
                have := HEN.out
                show SW _ _ _ _ _ _
                have hz : A2 = [] ∨ B1 = [] := by
                  rcases Nat.lt_or_ge lo mn with h | h
                  · right; apply List.eq_nil_of_length_eq_zero; omega
                  · left; apply List.eq_nil_of_length_eq_zero; omega
                rcases hz with hz | hz <;> (rw [hz] at h ⊢; simpa using h)
          case rest =>
            clear S2
            have S2 : Aside _ := hcut
            clear hcut
            go_upto_region 41 with fail
            go_cut [199] from 192 (fun sx wx => sx = .bool (decide (an < lo) && decide (lo < mid)) ∧ wx = wc)
            case first =>
              by_cases c1 : an < lo
              · have c1z : (an : Int) < (lo : Int) := by omega
                by_cases c2 : lo < mid
                · have c2z : (lo : Int) < (mid : Int) := by omega
                  go_wp2_with fail
                  go_meet
                  case rel => exact ⟨by simp [c1, c2], rfl⟩
                · have c2z : ¬ (lo : Int) < (mid : Int) := by omega
                  go_wp2_with fail
                  go_meet
                  case rel => exact ⟨by simp [c1, c2], rfl⟩
              · have c1z : ¬ (an : Int) < (lo : Int) := by omega
                go_wp2_with fail
                go_meet
                case rel => exact ⟨by simp [c1], rfl⟩
            case rest =>
              obtain ⟨rfl, rfl⟩ := hcut
              go_upto_if 199 with fail
              go_cut [] from 192 (fun wx => ∃ M1, Hid (M1.Perm (A1 ++ B1) ∧ M1.Pairwise (R (ltOf cf) at_)) ∧ Aside (SW enc w0 blk off (P ++ M1 ++ (A2 ++ B2) ++ S).toArray wx))
              case first =>
                have hsA : A1.Pairwise (R (ltOf cf) at_) := by have h := HS.out.1; rw [hfin.out.1] at h; exact (List.pairwise_append.1 h).1
                have hsB : B1.Pairwise (R (ltOf cf) at_) := by have h := HS.out.2.1; rw [hfin.out.2.1] at h; exact (List.pairwise_append.1 h).1
                have HSS : Aside _ := And.intro hsA hsB
                clear hsA hsB
                by_cases c : an < lo ∧ lo < mid
                · have cz : (decide (an < lo) && decide (lo < mid)) = true := by simp [c.1, c.2]
                  have hc : Calls Try.prog 41 #[.slice (some ⟨blk, off, none⟩) N cap, .int .i64 (an : Int), .int .i64 (lo : Int), .int .i64 (mid : Int), .func (.func g) #[] cb] wc fun e w' =>
                      e = .returned (.tuple #[]) ∧ ∃ M1, Hid (M1.Perm (A1 ++ B1) ∧ M1.Pairwise (R (ltOf cf) at_)) ∧ Aside (SW enc w0 blk off (P ++ M1 ++ (A2 ++ B2) ++ S).toArray w') := by
                    obtain ⟨e1, e2, e3, e4, e5, e6⟩ := HD.out
                    obtain ⟨f1, f2, f3, f4, f5, f6, f7⟩ := hfin.out
                    have l1 := congrArg List.length f1
                    have l2 := congrArg List.length f2
                    simp at l1 l2
                    have hr := II.out wc P A1 B1 ((A2 ++ B2) ++ S) an lo mid (by omega) (by omega) (by omega) (by simp; omega)
                      (by intro h; rw [h] at f3; simp at f3; omega) (by intro h; rw [h] at f5; simp at f5; omega) (by omega) HSS.out.1 HSS.out.2
                      (HS.out.2.2.sub (fun x hx => by rw [f1]; exact List.mem_append_left _ hx) (fun x hx => by rw [f2]; exact List.mem_append_left _ hx)) (by simpa using S2.out)
                    refine hr.mono ?_
                    rintro e w' ⟨he, M1, hS, hp, hs⟩
                    exact ⟨he, M1, ⟨hp, hs⟩, (show SW _ _ _ _ _ _ from by simpa using hS)⟩
                  clear S2
                  go_wp2_with (go_at_call 41; refine hc.mono ?_; rintro e w1 ⟨rfl, hS⟩)
                  go_meet
                  case rel => exact hS
                · have cz : (decide (an < lo) && decide (lo < mid)) = false := by
                    rw [Bool.and_eq_false_iff]; rcases Nat.lt_or_ge an lo with h | h
                    · right; simp; omega
                    · left; simp; omega
                  go_wp2_with fail
                  go_meet
                  case rel =>
                    obtain ⟨f1, f2, f3, f4, f5, f6, f7⟩ := hfin.out
                    refine ⟨A1 ++ B1, ⟨List.Perm.refl _, ?_⟩, S2⟩
                    have hz : A1 = [] ∨ B1 = [] := by
                      rcases Nat.lt_or_ge an lo with h | h
                      · right; apply List.eq_nil_of_length_eq_zero; omega
                      · left; apply List.eq_nil_of_length_eq_zero; omega
                    rcases hz with hz | hz
                    · rw [hz]; simpa using HSS.out.2
                    · rw [hz]; simpa using HSS.out.1
              case rest =>
                clear S2
                obtain ⟨M1, HM1, S2⟩ := hcut
                go_upto_region 43 with fail
                go_cut [213] from 206 (fun sx wx => sx = .bool (decide (mid < en) && decide (en < bn)) ∧ wx = wc)
                case first =>
                  by_cases c1 : mid < en
                  · have c1z : (mid : Int) < (en : Int) := by omega
                    by_cases c2 : en < bn
                    · have c2z : (en : Int) < (bn : Int) := by omega
                      go_wp2_with fail
                      go_meet
                      case rel => exact ⟨by simp [c1, c2], rfl⟩
                    · have c2z : ¬ (en : Int) < (bn : Int) := by omega
                      go_wp2_with fail
                      go_meet
                      case rel => exact ⟨by simp [c1, c2], rfl⟩
                  · have c1z : ¬ (mid : Int) < (en : Int) := by omega
                    go_wp2_with fail
                    go_meet
                    case rel => exact ⟨by simp [c1], rfl⟩
                case rest =>
                  obtain ⟨rfl, rfl⟩ := hcut
                  have hsA : A2.Pairwise (R (ltOf cf) at_) := by have h := HS.out.1; rw [hfin.out.1] at h; exact (List.pairwise_append.1 h).2.1
                  have hsB : B2.Pairwise (R (ltOf cf) at_) := by have h := HS.out.2.1; rw [hfin.out.2.1] at h; exact (List.pairwise_append.1 h).2.1
                  have HSS : Aside _ := And.intro hsA hsB
                  have hend : ∀ M2 : List α, M2.Perm (A2 ++ B2) → M2.Pairwise (R (ltOf cf) at_) → (M1 ++ M2).Perm (A ++ B) ∧ (M1 ++ M2).Pairwise (R (ltOf cf) at_) := by
                    intro M2 hp hs
                    obtain ⟨f1, f2, f3, f4, f5, f6, f7⟩ := hfin.out
                    refine ⟨?_, List.pairwise_append.2 ⟨HM1.out.2, hs, fun x hx y hy => f7 x (HM1.out.1.mem_iff.1 hx) y (hp.mem_iff.1 hy)⟩⟩
                    refine (HM1.out.1.append hp).trans ?_
                    rw [f1, f2]
                    have h1 : (A1 ++ B1 ++ (A2 ++ B2)) = A1 ++ ((B1 ++ A2) ++ B2) := by simp
                    have h2 : (A1 ++ A2 ++ (B1 ++ B2)) = A1 ++ ((A2 ++ B1) ++ B2) := by simp
                    rw [h1, h2]
                    exact ((List.perm_append_comm).append_right B2).append_left A1
                  have HE : Aside _ := hend
                  clear hsA hsB hend
                  by_cases c : mid < en ∧ en < bn
                  · have cz : (decide (mid < en) && decide (en < bn)) = true := by simp [c.1, c.2]
                    have hc : Calls Try.prog 41 #[.slice (some ⟨blk, off, none⟩) N cap, .int .i64 (mid : Int), .int .i64 (en : Int), .int .i64 (bn : Int), .func (.func g) #[] cb] wc fun e w' =>
                        e = .returned (.tuple #[]) ∧ ∃ M2, Hid (M2.Perm (A2 ++ B2) ∧ M2.Pairwise (R (ltOf cf) at_)) ∧ Aside (SW enc w0 blk off (P ++ (M1 ++ M2) ++ S).toArray w') := by
                      obtain ⟨e1, e2, e3, e4, e5, e6⟩ := HD.out
                      obtain ⟨f1, f2, f3, f4, f5, f6, f7⟩ := hfin.out
                      have l1 := congrArg List.length f1
                      have l2 := congrArg List.length f2
                      have l3 := HM1.out.1.length_eq
                      have l4 := HEN.out
                      simp at l1 l2 l3
                      have hr := II.out wc (P ++ M1) A2 B2 S mid en bn (by simp; omega) (by simp; omega) (by simp; omega) (by simp; omega)
                        (by intro h; rw [h] at f4; simp at f4; omega) (by intro h; rw [h] at f6; simp at f6; omega) (by omega) HSS.out.1 HSS.out.2
                        (HS.out.2.2.sub (fun x hx => by rw [f1]; exact List.mem_append_right _ hx) (fun x hx => by rw [f2]; exact List.mem_append_right _ hx)) S2.out
                      refine hr.mono ?_
                      rintro e w' ⟨he, M2, hS, hp, hs⟩
                      exact ⟨he, M2, ⟨hp, hs⟩, (show SW _ _ _ _ _ _ from by simpa using hS)⟩
                    clear S2
                    go_wp2_with (go_at_call 41; refine hc.mono ?_; rintro e w1 ⟨rfl, M2, HM2, hS⟩)
                    go_end0
                    exact ⟨rfl, M1 ++ M2, by simpa only [List.append_assoc] using hS.out, HE.out M2 HM2.out.1 HM2.out.2⟩
                  · have cz : (decide (mid < en) && decide (en < bn)) = false := by
                      rw [Bool.and_eq_false_iff]; rcases Nat.lt_or_ge mid en with h | h
                      · right; simp; omega
                      · left; simp; omega
                    go_wp2_with fail
                    go_end0
                    refine ⟨rfl, M1 ++ (A2 ++ B2), by simpa only [List.append_assoc] using S2.out, HE.out _ (List.Perm.refl _) ?_⟩
                    obtain ⟨f1, f2, f3, f4, f5, f6, f7⟩ := hfin.out
                    have l4 := HEN.out
                    have hz : A2 = [] ∨ B2 = [] := by
                      rcases Nat.lt_or_ge mid en with h | h
                      · right; apply List.eq_nil_of_length_eq_zero; omega
                      · left; apply List.eq_nil_of_length_eq_zero; omega
                    rcases hz with hz | hz
                    · rw [hz]; simpa using HSS.out.2
                    · rw [hz]; simpa using HSS.out.1

end Go.Proofs.Try.Stab

