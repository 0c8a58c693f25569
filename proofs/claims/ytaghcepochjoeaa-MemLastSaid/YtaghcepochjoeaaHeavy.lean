/- The scripts of the laws of a Table: their weight. -/
import Derived.Test.YtaghcepochjoeaaPAx
import Derived.Test.YtaghcepochjoeaaBase
import Derived.Test.YtaghcepochjoeaaMsgs
namespace Go.Proofs.Ytaghcepochjoeaa.Hand
open Go.RowKit Go.Proofs.Ytaghcepochjoeaa.PA Go.Proofs.Ytaghcepochjoeaa.MapV Go.Proofs.YtaghcepochjoeaaW.PrintWords Go.Proofs.YtaghcepochjoeaaW.PrintLast Go.Proofs.YtaghcepochjoeaaW.PrintMore
set_option linter.unusedVariables false
set_option linter.unusedSimpArgs false
def Fits (x : S32) : Prop := x.f1.size ≤ 140737488355328 ∧ x.f2.length ≤ 140737488355328
theorem wr_is (x : Int) (h0 : 0 ≤ x) (h1 : x ≤ 4611686018427387905) : wrap64 x = x := by unfold wrap64; omega
theorem heavy0 (l : List S32) (hl : l.length ≤ 4611686018427387904) (hsz : ∀ i : Nat, i < l.length → Fits (rd_T32 l i)) : ∀ (d i : Nat) (v : Int), i + d = l.length → 0 ≤ v → v ≤ 6000 →
    ∃ b, haystacklaw12_heavy.l0 (2 * d + 2) l v i = some b ∧ (b = false → ∀ j : Nat, i ≤ j → j < l.length → j < 120 → ((rd_T32 l j).f1.size + (rd_T32 l j).f2.length : Int) ≤ 6000) := by
  intro d
  induction d with
  | zero =>
    intro i v h h0 h1
    refine ⟨false, ?_, fun _ j hj hj2 => by omega⟩
    unfold haystacklaw12_heavy.l0
    rw [if_neg (by omega)]
    unfold haystacklaw12_heavy.j1
    rw [if_neg (by decide)]
  | succ d ih =>
    intro i v h h0 h1
    obtain ⟨f1, f2⟩ := hsz i (by omega)
    obtain ⟨b, hb⟩ : ∃ b : Int, b = ((rd_T32 l i).f1.size : Int) := ⟨_, rfl⟩
    obtain ⟨c, hc⟩ : ∃ c : Int, c = ((rd_T32 l i).f2.length : Int) := ⟨_, rfl⟩
    have e1 := wr_is (v + 5) (by omega) (by omega)
    have e2 := wr_is (v + 5 + b) (by clear e1; omega) (by clear e1; omega)
    have e3 := wr_is (v + 5 + b + c) (by clear e1 e2; omega) (by clear e1 e2; omega)
    have e4 : wrap64 ((i : Int) + 1) = ((i + 1 : Nat) : Int) := wr_is _ (by clear e1 e2 e3; omega) (by clear e1 e2 e3; omega)
    obtain ⟨w1, hw1⟩ : ∃ w1, w1 = v + 5 + b + c := ⟨_, rfl⟩
    have E1 := Aside0.mk e1
    have E2 := Aside0.mk e2
    have E3 := Aside0.mk e3
    have E4 := Aside0.mk e4
    clear e1 e2 e3 e4
    show ∃ b, haystacklaw12_heavy.l0 (2 * d + 2 + 1 + 1) l v i = some b ∧ _
    unfold haystacklaw12_heavy.l0
    rw [if_pos (by omega)]
    unfold haystacklaw12_heavy.j1
    by_cases h120 : (i : Int) < 120
    · rw [if_pos (by simpa using h120), if_pos (by omega), if_pos (by omega), ← hb, ← hc, E1.out, E2.out, E3.out, E4.out, ← hw1]
      by_cases hbig : w1 > 6000
      · rw [if_pos hbig]
        exact ⟨true, rfl, fun h => by cases h⟩
      · rw [if_neg hbig]
        obtain ⟨r, hr1, hr2⟩ := ih (i + 1) w1 (by omega) (by omega) (by omega)
        refine ⟨r, hr1, fun hr j hj hj2 hj3 => ?_⟩
        rcases Nat.eq_or_lt_of_le hj with e | e
        · subst e
          rw [← hb, ← hc]
          omega
        · exact hr2 hr j e hj2 hj3
    · rw [if_neg (by simpa using h120)]
      exact ⟨false, rfl, fun _ j hj hj2 hj3 => by omega⟩
theorem heavy_is (l : List S32) (hl : l.length ≤ 4611686018427387904) (hsz : ∀ i : Nat, i < l.length → Fits (rd_T32 l i)) :
    ∃ k b, haystacklaw12_heavy.f k l = some b ∧ (b = false → ∀ j : Nat, j < l.length → j < 120 → ((rd_T32 l j).f1.size + (rd_T32 l j).f2.length : Int) ≤ 6000) := by
  obtain ⟨b, h1, h2⟩ := heavy0 l hl hsz l.length 0 0 (by omega) (by omega) (by omega)
  exact ⟨_, b, h1, fun hb j hj => h2 hb j (Nat.zero_le _) hj⟩
theorem bytes5 : Try.prog.bytesOf 5 = 1 := by kernel_rfl
theorem stepOk.fits {x : S32} (h : stepOk x) : Fits x := by
  obtain ⟨_, h2, h4, _⟩ := h
  rw [bytes5, Nat.mul_one] at h4
  unfold reachBytes at h2 h4
  exact ⟨by omega, by omega⟩
end Go.Proofs.Ytaghcepochjoeaa.Hand
