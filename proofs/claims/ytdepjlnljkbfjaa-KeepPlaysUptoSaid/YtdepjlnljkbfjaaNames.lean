/- DiskNames: what the disk is behind each step. -/
import Derived.Test.YtdepjlnljkbfjaaBase
import Derived.Test.YtdepjlnljkbfjaaRename
namespace Go.Proofs.Ytdepjlnljkbfjaa.Hand
open Go.RowKit Go.Proofs.Ytdepjlnljkbfjaa.PA Go.Proofs.Ytdepjlnljkbfjaa.MapP Go.Proofs.YtdepjlnljkbfjaaW.PrintWords Go.Proofs.YtdepjlnljkbfjaaW.PrintLast Go.Proofs.YtdepjlnljkbfjaaW.PrintMore
set_option linter.unusedVariables false
set_option linter.unusedSimpArgs false
set_option linter.unusedSectionVars false
abbrev nX : ByteArray := ⟨#[120]⟩
abbrev nY : ByteArray := ⟨#[121]⟩
abbrev nZ2 : ByteArray := ⟨#[122]⟩
def V (L : List (Key × (List Int × Nat))) : DV := ⟨1048576, false, 0, L⟩
theorem may_V (L : List (Key × (List Int × Nat))) (l : List ByteArray) (h : l.any badName = false) : mayV (V L).fused (V L).left l = 0 := by
  unfold mayV V
  simp only [Bool.false_and, Bool.false_eq_true, if_false, h]
theorem app_V (L : List (Key × (List Int × Nat))) (s : ByteArray) (xs : List Int) (hs : badName s = false) (ht : total L + xs.length ≤ 1048576) (hl : L.length < 4096) :
    appendV (V L) s xs = (0, V (put L s.data.toList (((at_ L s.data.toList).getD ([], 0)).1 ++ xs, ((at_ L s.data.toList).getD ([], 0)).2))) := by
  unfold appendV
  rw [may_V L [s] (by simp [hs]), if_neg (by simp), if_neg ?_]
  · rfl
  · have e1 : (V L).room = 1048576 := rfl
    have e2 : (V L).L = L := rfl
    rw [e1, e2]
    rintro (h | h)
    · omega
    · omega
theorem syn_V (L : List (Key × (List Int × Nat))) (s : ByteArray) (x : List Int × Nat) (hs : badName s = false) (ha : at_ L s.data.toList = some x) : oneV syncX (V L) s = (0, V (put L s.data.toList (x.1, x.1.length))) := by
  unfold oneV
  have e2 : (V L).L = L := rfl
  rw [may_V L [s] (by simp [hs]), if_neg (by simp), e2, ha]
  rfl
theorem ren_V (L : List (Key × (List Int × Nat))) (s s2 : ByteArray) (x : List Int × Nat) (hs : badName s = false) (hs2 : badName s2 = false) (ha : at_ L s.data.toList = some x) : renameV (V L) s s2 = (0, V (put (del L s.data.toList) s2.data.toList x)) := by
  unfold renameV
  have e2 : (V L).L = L := rfl
  rw [may_V L [s, s2] (by simp [hs, hs2]), if_neg (by simp), e2, ha]
  rfl
theorem ren_V0 (L : List (Key × (List Int × Nat))) (s s2 : ByteArray) (hs : badName s = false) (hs2 : badName s2 = false) (ha : at_ L s.data.toList = none) : renameV (V L) s s2 = (7, V L) := by
  unfold renameV
  have e2 : (V L).L = L := rfl
  rw [may_V L [s, s2] (by simp [hs, hs2]), if_neg (by simp), e2, ha]
theorem bX : badName nX = false := by decide
theorem bY : badName nY = false := by decide
theorem bZ : badName nZ2 = false := by decide
theorem n1 (a : List Int) (h : a.length ≤ 8000) : appendV (V []) nX a = (0, V [([120], (a, 0))]) := by
  rw [app_V [] nX a bX (by simp [total]; omega) (by simp)]
  rfl
theorem n2 (a : List Int) : oneV syncX (V [([120], (a, 0))]) nX = (0, V [([120], (a, a.length))]) := by
  rw [syn_V _ nX (a, 0) bX (by simp [at_cons])]
  simp [put_old (show at_ [(([120] : Key), (a, 0))] nX.data.toList = some (a, 0) from by simp [at_cons])]
theorem n3 (a b : List Int) (h : a.length + b.length ≤ 8000) : appendV (V [([120], (a, a.length))]) nX b = (0, V [([120], (a ++ b, a.length))]) := by
  have ha : at_ [(([120] : Key), (a, a.length))] nX.data.toList = some (a, a.length) := by simp [at_cons]
  rw [app_V _ nX b bX (by simp [total]; omega) (by simp), ha, put_old ha]
  simp
theorem n4 (a b c : List Int) (h : a.length + b.length + c.length ≤ 8000) : appendV (V [([120], (a ++ b, a.length))]) nY c = (0, V [([120], (a ++ b, a.length)), ([121], (c, 0))]) := by
  have ha : at_ [(([120] : Key), (a ++ b, a.length))] nY.data.toList = none := by simp [at_cons, at_nil]
  rw [app_V _ nY c bY (by simp [total]; omega) (by simp), ha, put_new ha]
  simp
theorem n5 (u c : List Int) (n : Nat) : oneV syncX (V [([120], (u, n)), ([121], (c, 0))]) nX = (0, V [([120], (u, u.length)), ([121], (c, 0))]) := by
  have ha : at_ [(([120] : Key), (u, n)), ([121], (c, 0))] nX.data.toList = some (u, n) := by simp [at_cons]
  rw [syn_V _ nX (u, n) bX ha, put_old ha]
  simp
theorem n6 (u c : List Int) (n : Nat) : renameV (V [([120], (u, n)), ([121], (c, 0))]) nX nY = (0, V [([121], (u, n))]) := by
  have ha : at_ [(([120] : Key), (u, n)), ([121], (c, 0))] nX.data.toList = some (u, n) := by simp [at_cons]
  have hd : del [(([120] : Key), (u, n)), ([121], (c, 0))] nX.data.toList = [([121], (c, 0))] := by simp [del]
  have hb : at_ [(([121] : Key), (c, 0))] nY.data.toList = some (c, 0) := by simp [at_cons]
  rw [ren_V _ nX nY (u, n) bX bY ha, hd, put_old hb]
  simp
theorem n7 (u : List Int) (n : Nat) : renameV (V [([121], (u, n))]) nX nZ2 = (7, V [([121], (u, n))]) :=
  ren_V0 _ nX nZ2 bX bZ (by simp [at_cons, at_nil])
theorem n8 (u : List Int) (n : Nat) : crashV 0 (V [([121], (u, n))]) = V [([121], (u.take n, n))] := by
  have e : stays 0 (u, n) = n := by unfold stays; simp
  simp [crashV, V, crashX, e]
theorem n9 (u : List Int) (n : Nat) : readV (V [([121], (u, n))]) nY = (u, 0) := by
  unfold readV
  have ha : at_ (V [(([121] : Key), (u, n))]).L nY.data.toList = some (u, n) := by simp [V, at_cons]
  rw [ha]
end Go.Proofs.Ytdepjlnljkbfjaa.Hand
