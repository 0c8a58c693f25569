/- The law SuffixCommon: its walk. -/
import Derived.Test.YtenmgimhgdhgmaaPureCommon
import Derived.Test.YtenmgimhgdhgmaaOpens
namespace Go.Proofs.Ytenmgimhgdhgmaa.Hand
open Go.RowKit Go.Proofs.Ytenmgimhgdhgmaa.PC Go.Proofs.Ytenmgimhgdhgmaa.Sfx Go.Proofs.Ytenmgimhgdhgmaa.Pure Go.Proofs.Ytenmgimhgdhgmaa.Opens Go.Proofs.YtenmgimhgdhgmaaW.PrintWords Go.Proofs.YtenmgimhgdhgmaaW.PrintLast Go.Proofs.YtenmgimhgdhgmaaW.PrintMore
set_option linter.unusedVariables false
set_option linter.unusedSimpArgs false
theorem opens_ints : Opens Try.prog (Kd.slice 3 (Kd.int .i64)) 22 (fun xs => xs.length * Try.prog.bytesOf 3 ≤ reachBytes ∧ ∀ x ∈ xs, (Lit.int .i64 x).wf = true) :=
  opens_slice 3 (opens_int Try.underlying3) Try.underlying22 (by kernel_rfl)
theorem ref_res (A0 : Option Addr) (c0 : Nat) (l0 : List Int) (w : World) (hr0 : Kd.C (Kd.int .i64) w A0 l0.length l0) (hc0 : l0.length ≤ c0) :
    Calls Try.prog 11 #[.slice A0 l0.length c0] w fun e w' => ∃ v0_ : Value, e = .returned (.tuple #[v0_, .int .i64 (resOf l0).2]) ∧ Kd.R (Kd.int .i64) 3 w' w.heap.size (fun _ => True) v0_ (resOf l0).1 ∧ Below w.heap.size w w' :=
  haystackref5_Array.calls A0 c0 l0 _ _ w hr0 hc0 (array_res l0)
/-- What stands behind the choice of an order. -/
theorem common_calls (w w0 : World) (A0 A1 : Option Addr) (c0 c1 : Nat) (s sa : List Int) (h0 : Kd.C (Kd.int .i64) w A0 s.length s) (hc0 : s.length ≤ c0) (h1 : Kd.C (Kd.int .i64) w A1 sa.length sa) (hc1 : sa.length ≤ c1) (hs : s.length ≤ 65536) (hsa : sa.length ≤ 65536) :
    ∃ r : List Int × Int, (Calls Try.prog 17 #[.slice A0 s.length c0, .slice A1 sa.length c1] w fun e w' => ∃ v0_ : Value, e = .returned (.tuple #[v0_, .int .i64 r.2]) ∧ Kd.R (Kd.int .i64) 3 w' w.heap.size (fun _ => True) v0_ r.1 ∧ Below w.heap.size w w') ∧
      (∀ w2, Below w.heap.size w w2 → Calls Try.prog 18 #[.slice A0 s.length c0, .slice A1 sa.length c1] w2 fun e w' => ∃ v0_ : Value, e = .returned (.tuple #[v0_, .int .i64 r.2]) ∧ Kd.R (Kd.int .i64) 3 w' w2.heap.size (fun _ => True) v0_ r.1 ∧ Below w2.heap.size w2 w') ∧ r.1.length ≤ 65536 := by
  obtain ⟨r, e1, e2, e3⟩ := common_same s sa hs hsa
  obtain ⟨k1, g1⟩ := e1.rounds
  obtain ⟨k2, g2⟩ := e2.rounds
  exact ⟨r, suffix_Common.calls k1 A0 c0 s A1 c1 sa r.1 r.2 w h0 hc0 h1 hc1 g1, fun w2 hb => haystackref5_Common.calls k2 A0 c0 s A1 c1 sa r.1 r.2 w2 (Kd.C_below h0 hb) hc0 (Kd.C_below h1 hb) hc1 g2, e3⟩
theorem ints_calls (A0 A1 : Option Addr) (c0 c1 : Nat) (l : List Int) (w : World) (h0 : Kd.C (Kd.int .i64) w A0 l.length l) (hc0 : l.length ≤ c0) (h1 : Kd.C (Kd.int .i64) w A1 l.length l) (hc1 : l.length ≤ c1) (hl : l.length ≤ 65536) :
    Calls Try.prog 12 #[.slice A0 l.length c0, .slice A1 l.length c1] w fun e w' => e = .returned (.bool true) ∧ ∃ n, w' = w.drewN n := by
  obtain ⟨k, g⟩ := (Ev.ret (ints_ev l l (by omega)) (by simp) : Ev (fun k => haystacklaw5_ints.f k l l) true).rounds
  exact (haystacklaw5_ints.calls k A0 c0 l A1 c1 l true w h0 hc0 h1 hc1 g).mono fun e w' h => ⟨h.1, h.2.out⟩
theorem known_true (w : World) : Calls Try.prog 13 #[] w fun e w' => e = .returned (.bool true) ∧ Below w.heap.size w w' := by
  obtain ⟨k, g⟩ := known_ev.rounds
  exact haystacklaw5_known.calls k true w g
set_option maxRecDepth 100000 in
set_option maxHeartbeats 4000000 in
theorem common_walk (s sa : List Int) (own : Bool) (A0 A1 : Option Addr) (c0 c1 : Nat) (w : World) (h0 : Kd.C (Kd.int .i64) w A0 s.length s) (hc0 : s.length ≤ c0) (h1 : Kd.C (Kd.int .i64) w A1 sa.length sa) (hc1 : sa.length ≤ c1) :
    Calls Try.prog 8 #[.slice A0 s.length c0, .slice A1 sa.length c1, .bool own] w fun e w' => e = .returned (.bool true) ∧ Below w.heap.size w w' := by
  by_cases g1 : (300 : Int) < s.length
  · clear h0 h1
    go_enter Try.func8, Try.ntmps8
    go_wp2
    go_ret
    exact ⟨rfl, Below.refl _ _⟩
  · by_cases g2 : (300 : Int) < sa.length
    · clear h0 h1
      go_enter Try.func8, Try.ntmps8
      go_wp2
      go_ret
      exact ⟨rfl, Below.refl _ _⟩
    · have H0 := Aside0.mk h0
      have H1 := Aside0.mk h1
      clear h0 h1
      cases own
      · obtain ⟨r, q1, q2, q3⟩ := common_calls w w A0 A1 c0 c1 s sa H0.out hc0 H1.out hc1 (by omega) (by omega)
        obtain ⟨r1, r2⟩ := r
        have Q1 := Aside0.mk q1
        have Q2 := Aside0.mk q2
        have Q3 := Aside0.mk q3
        clear q1 q2 q3
        go_enter Try.func8, Try.ntmps8
        go_wp2_with fail
        refine Q1.out.mono ?_
        rintro e w1 ⟨v1, rfl, hR1, hB1⟩
        obtain ⟨B1, d1, rfl⟩ := Kd.R_slice hR1
        have HR1 := Aside0.mk hR1
        have HB1 := Aside0.mk hB1
        clear hR1 hB1
        go_wp2_with fail
        refine (Q2.out w1 HB1.out).mono ?_
        rintro e w2 ⟨v2, rfl, hR2, hB2⟩
        obtain ⟨B2, d2, rfl⟩ := Kd.R_slice hR2
        have HR2 := Aside0.mk hR2
        have HB2 := Aside0.mk hB2
        clear hR2 hB2
        go_wp2_with fail
        refine (ints_calls B1 B2 d1 d2 r1 w2 (Kd.C_below (Kd.R_reads' HR1.out).2.2 HB2.out) (Kd.R_reads' HR1.out).2.1 (Kd.R_reads' HR2.out).2.2 (Kd.R_reads' HR2.out).2.1 Q3.out).mono ?_
        rintro e w3 ⟨rfl, n3, rfl⟩
        have HB3 := Aside0.mk (pw_below_drewN (HB1.out.trans (HB2.out.mono HB1.out.size)) n3)
        go_wp2_with (go_at_call 13; refine (known_true _).mono ?_; rintro e w4 ⟨rfl, hB4⟩)
        go_ret
        exact ⟨rfl, HB3.out.trans (hB4.mono HB3.out.size)⟩
      · go_enter Try.func8, Try.ntmps8
        go_wp2_with fail
        refine (ref_res A0 c0 s w H0.out hc0).mono ?_
        rintro e w0 ⟨v0, rfl, hR0, hB0⟩
        obtain ⟨B0, d0, rfl⟩ := Kd.R_slice hR0
        have hrl := res_len s
        generalize (resOf s).1 = t at hR0 hrl ⊢
        generalize (resOf s).2 = u at *
        obtain ⟨r, q1, q2, q3⟩ := common_calls w0 w0 A0 B0 c0 d0 s t (Kd.C_below H0.out hB0) hc0 (Kd.R_reads' hR0).2.2 (Kd.R_reads' hR0).2.1 (by omega) hrl
        obtain ⟨r1, r2⟩ := r
        have Q1 := Aside0.mk q1
        have Q2 := Aside0.mk q2
        have Q3 := Aside0.mk q3
        have HB0 := Aside0.mk hB0
        clear q1 q2 q3 hR0 hB0 hrl
        go_wp2_with fail
        refine Q1.out.mono ?_
        rintro e w1 ⟨v1, rfl, hR1, hB1⟩
        obtain ⟨B1, d1, rfl⟩ := Kd.R_slice hR1
        have HR1 := Aside0.mk hR1
        have HB1 := Aside0.mk hB1
        clear hR1 hB1
        go_wp2_with fail
        refine (Q2.out w1 HB1.out).mono ?_
        rintro e w2 ⟨v2, rfl, hR2, hB2⟩
        obtain ⟨B2, d2, rfl⟩ := Kd.R_slice hR2
        have HR2 := Aside0.mk hR2
        have HB2 := Aside0.mk hB2
        clear hR2 hB2
        go_wp2_with fail
        refine (ints_calls B1 B2 d1 d2 r1 w2 (Kd.C_below (Kd.R_reads' HR1.out).2.2 HB2.out) (Kd.R_reads' HR1.out).2.1 (Kd.R_reads' HR2.out).2.2 (Kd.R_reads' HR2.out).2.1 Q3.out).mono ?_
        rintro e w3 ⟨rfl, n3, rfl⟩
        have HB3 := Aside0.mk (HB0.out.trans ((pw_below_drewN (HB1.out.trans (HB2.out.mono HB1.out.size)) n3).mono HB0.out.size))
        go_wp2_with (go_at_call 13; refine (known_true _).mono ?_; rintro e w4 ⟨rfl, hB4⟩)
        go_ret
        exact ⟨rfl, HB3.out.trans (hB4.mono HB3.out.size)⟩
end Go.Proofs.Ytenmgimhgdhgmaa.Hand
