/- known: what lasts, and a draw of the rest: it returns true. -/
import Derived.Test.YtdepjlnljkbfjaaKnown
namespace Go.Proofs.Ytdepjlnljkbfjaa.Hand
open Go.RowKit Go.Proofs.Ytdepjlnljkbfjaa.PA Go.Proofs.Ytdepjlnljkbfjaa.MapP Go.Proofs.YtdepjlnljkbfjaaW.PrintWords Go.Proofs.YtdepjlnljkbfjaaW.PrintLast Go.Proofs.YtdepjlnljkbfjaaW.PrintMore
attribute [local go_sem] max2_int min2_int
set_option linter.unusedVariables false
set_option linter.unusedSimpArgs false
set_option linter.unusedSectionVars false
set_option maxRecDepth 100000 in
set_option maxHeartbeats 8000000 in
theorem known_calls (w : World) : Calls Try.prog 16 #[] w fun e w' => e = .returned (.bool true) ∧ Below w.heap.size w w' := by
  have kc := fun (w : World) (C : Array Value) (n c : Nat) => Lib.run_convert_bytes_const (P := Try.prog) w 23 5 C n c Try.underlying23 Try.underlying5
  go_enter Try.func16, Try.ntmps16
  go_wp2_with fail
  refine (new_calls 100 w (by decide) (by decide)).mono ?_
  rintro e w1 ⟨rfl, h1⟩
  have ha := append1 (h1.alloc (.cells (bts [49, 50, 51, 52, 53]).toArray 5 (5, 6))) nA (by unfold maxLen; decide) (some ⟨w1.heap.size, 0, none⟩) 5 [49, 50, 51, 52, 53] (bytes_new w1 _ (by simp) _) (by simp) (by intro z hz; simp at hz; omega) (by simp)
  rw [show (w1.alloc (.cells (bts [49, 50, 51, 52, 53]).toArray 5 (5, 6))).heap.size = w1.heap.size + 1 from by simp, show appendV ⟨100, false, 0, []⟩ nA [49, 50, 51, 52, 53] = _ from k1] at ha
  have HA := Aside0.mk ha
  clear ha h1
  go_wp2_with fail
  refine HA.out.mono ?_
  rintro e w2 ⟨rfl, h2, _⟩
  have hb := sync1 h2 nA (by unfold maxLen; decide)
  rw [k2] at hb
  have HB := Aside0.mk hb
  clear hb h2 HA
  go_wp2_with fail
  refine HB.out.mono ?_
  rintro e w3 ⟨rfl, h3, _⟩
  have hc := append1 (h3.alloc (.cells (bts [54, 55, 56]).toArray 5 (3, 4))) nA (by unfold maxLen; decide) (some ⟨w3.heap.size, 0, none⟩) 3 [54, 55, 56] (bytes_new w3 _ (by simp) _) (by simp) (by intro z hz; simp at hz; omega) (by simp)
  rw [show (w3.alloc (.cells (bts [54, 55, 56]).toArray 5 (3, 4))).heap.size = w3.heap.size + 1 from by simp, k3] at hc
  have HC := Aside0.mk hc
  clear hc h3 HB
  go_wp2_with fail
  refine HC.out.mono ?_
  rintro e w4 ⟨rfl, h4, _⟩
  have hd := crash_up h4 1
  rw [k4] at hd
  have HD := Aside0.mk hd
  clear hd h4 HC
  go_wp2_with fail
  refine HD.out.mono ?_
  rintro e w5 ⟨rfl, h5, _⟩
  have he := read_up h5 nA (by unfold maxLen; decide)
  rw [k5] at he
  have HE := Aside0.mk he
  clear he h5 HD
  go_wp2_with fail
  refine HE.out.mono ?_
  rintro e w6 ⟨A6, c6, rfl, hR6, h6, _⟩
  have hR := Kd.R_reads' hR6
  have HS := Aside0.mk (haystacklaw10_same.calls 7 A6 c6 [49, 50, 51, 52, 53, 54] (some ⟨w6.heap.size, 0, none⟩) 6 [49, 50, 51, 52, 53, 54] true (w6.alloc (.cells (bts [49, 50, 51, 52, 53, 54]).toArray 5 (6, 7))) (Kd.C_alloc hR.2.2 _) hR.2.1 (bytes_new w6 _ (by simp) _) (by simp) (by exact same_refl [49, 50, 51, 52, 53, 54] (by simp)))
  have HZ := Aside0.mk h6.below
  clear hR6 hR h6 HE
  go_wp2_with (go_at_call 42; refine HS.out.mono ?_; rintro e w7 ⟨rfl, q7, rfl⟩)
  go_ret
  exact ⟨rfl, bdrewN ((HZ.out).alloc HZ.out.size _) q7⟩
end Go.Proofs.Ytdepjlnljkbfjaa.Hand
