/- DiskMany: what the two disks are behind each step. -/
import Derived.Test.YtakomlealclomaaNames
import Derived.Test.YtakomlealclomaaRemove
namespace Go.Proofs.Ytakomlealclomaa.Hand
open Go.RowKit Go.Proofs.Ytakomlealclomaa.PA Go.Proofs.Ytakomlealclomaa.MapP Go.Proofs.YtakomlealclomaaW.PrintWords Go.Proofs.YtakomlealclomaaW.PrintLast Go.Proofs.YtakomlealclomaaW.PrintMore
set_option linter.unusedVariables false
set_option linter.unusedSimpArgs false
set_option linter.unusedSectionVars false
theorem m1 (u r : List Int) (n : Nat) (h : u.length + r.length ≤ 1048576) : appendV (V [([120], (u, n))]) nX r = (0, V [([120], (u ++ r, n))]) := by
  have ha : at_ [(([120] : Key), (u, n))] nX.data.toList = some (u, n) := by simp [at_cons]
  rw [app_V _ nX r bX (by simp [total]; omega) (by simp), ha, put_old ha]
  simp
theorem m2 (u c : List Int) (n : Nat) (h : u.length + c.length ≤ 1048576) : appendV (V [([120], (u, n))]) nY c = (0, V [([120], (u, n)), ([121], (c, 0))]) := by
  have ha : at_ [(([120] : Key), (u, n))] nY.data.toList = none := by simp [at_cons, at_nil]
  rw [app_V _ nY c bY (by simp [total]; omega) (by simp), ha, put_new ha]
  simp
theorem m3 (u c : List Int) (n k : Nat) : oneV syncX (V [([120], (u, n)), ([121], (c, k))]) nX = (0, V [([120], (u, u.length)), ([121], (c, k))]) := by
  have ha : at_ [(([120] : Key), (u, n)), ([121], (c, k))] nX.data.toList = some (u, n) := by simp [at_cons]
  rw [syn_V _ nX (u, n) bX ha, put_old ha]
  simp
theorem m4 (u c : List Int) (n k : Nat) : oneV syncX (V [([120], (u, n)), ([121], (c, k))]) nY = (0, V [([120], (u, n)), ([121], (c, c.length))]) := by
  have ha : at_ [(([120] : Key), (u, n)), ([121], (c, k))] nY.data.toList = some (c, k) := by simp [at_cons]
  rw [syn_V _ nY (c, k) bY ha, put_old ha]
  simp
theorem m5 (u c : List Int) (n k : Nat) : oneV syncX (V [([120], (u, n)), ([121], (c, k))]) nZ2 = (7, V [([120], (u, n)), ([121], (c, k))]) := by
  have ha : at_ [(([120] : Key), (u, n)), ([121], (c, k))] nZ2.data.toList = none := by simp [at_cons, at_nil]
  unfold oneV
  have e2 : (V [([120], (u, n)), ([121], (c, k))]).L = [([120], (u, n)), ([121], (c, k))] := rfl
  rw [may_V _ [nZ2] (by decide), if_neg (by simp), e2, ha]
theorem m6 (u c : List Int) (n k : Nat) : eachV syncX (V [([120], (u, n)), ([121], (c, k))]) [nX, nY] = (0, V [([120], (u, u.length)), ([121], (c, c.length))]) := by
  simp only [eachV, m3, m4, if_true]
theorem m7 (u c : List Int) (n k : Nat) : eachV syncX (V [([120], (u, n)), ([121], (c, k))]) [nX, nZ2, nY] = (7, V [([120], (u, u.length)), ([121], (c, k))]) := by
  simp only [eachV, m3, m5, if_true]
  simp
theorem rem_V (L : List (Key × (List Int × Nat))) (s : ByteArray) (x : List Int × Nat) (hs : badName s = false) (ha : at_ L s.data.toList = some x) : oneV removeX (V L) s = (0, V (del L s.data.toList)) := by
  unfold oneV
  have e2 : (V L).L = L := rfl
  rw [may_V L [s] (by simp [hs]), if_neg (by simp), e2, ha]
  rfl
theorem m8 (u c : List Int) (n k : Nat) : eachV removeX (V [([120], (u, n)), ([121], (c, k))]) [nX, nY] = (0, V []) := by
  have h1 : oneV removeX (V [([120], (u, n)), ([121], (c, k))]) nX = (0, V [([121], (c, k))]) := by
    rw [rem_V _ nX (u, n) bX (by simp [at_cons])]
    simp [del]
  have h2 : oneV removeX (V [([121], (c, k))]) nY = (0, V []) := by
    rw [rem_V _ nY (c, k) bY (by simp [at_cons])]
    simp [del]
  simp only [eachV, h1, h2, if_true]
theorem m9 : eachV removeX (V []) [nX] = (7, V []) := by kernel_rfl
end Go.Proofs.Ytakomlealclomaa.Hand
