import Derived.Test.YtdbjbeebjigofaaProg
import Derived.Test.YtdbjbeebjigofaaStab
import Derived.Shelf.SlSortCmp.Insertion1
import Derived.WalkArith
/-! slices.SortStableFunc's family: the walks. -/
namespace Go.Proofs.Try.Stab
set_option linter.unusedVariables false
set_option linter.unusedSimpArgs false
open Go.Shelf Go.RowKit Go.Lib Go.Sort Go.Proofs
variable {α : Type} [Inhabited α]

set_option maxHeartbeats 4000000 in
set_option maxRecDepth 1000000 in
/-- slices.swapRangeCmpFunc: two parts of one length change places. -/
theorem swapRange (enc : α → Value) (fv : Value) (blk off N cap : Nat) (d0 : Array α) (w0 w : World) (Rw : Row1 enc w0 blk off d0) (hd0 : d0.size = N)
    (P X M Y S : List α) (a b n : Int) (ha : a = P.length) (hb : b = (P.length + X.length + M.length : Nat)) (hn : n = X.length) (hxy : X.length = Y.length)
    (hN : (P ++ X ++ M ++ Y ++ S).length = N) (hsz : N < 4611686018427387904) (S0 : SW enc w0 blk off (P ++ X ++ M ++ Y ++ S).toArray w) :
    Calls Try.prog 57 #[.slice (some ⟨blk, off, none⟩) N cap, .int .i64 a, .int .i64 b, .int .i64 n, fv] w fun e w' =>
      e = .returned (.tuple #[]) ∧ SW enc w0 blk off (P ++ Y ++ M ++ X ++ S).toArray w' := by
  have mixed : Try.prog.follows .mixedOrders = true := by kernel_rfl
  have hcl0 := Rw.hO.cells
  simp only [Value.cells] at hcl0
  have hst := Rw.hO.store Try.prog
  have S0 : Aside (SW enc w0 blk off (swapped P X M Y S 0).toArray w) := by rw [swapped_zero]; exact S0
  have hlen : ∀ i, (swapped P X M Y S i).toArray.size = N := fun i => by rw [List.size_toArray, swapped_len P X M Y S _ i rfl hxy.symm]; exact hN
  have HL : Aside _ := hlen
  clear hlen
  subst ha hb hn
  obtain ⟨an, han⟩ : ∃ q, q = P.length := ⟨_, rfl⟩
  obtain ⟨nn, hnn⟩ : ∃ q, q = X.length := ⟨_, rfl⟩
  obtain ⟨bn, hbn⟩ : ∃ q, q = P.length + X.length + M.length := ⟨_, rfl⟩
  have hfit : bn + nn ≤ N := by rw [← hN]; simp; omega
  have hab : an + nn ≤ bn := by omega
  have HA : Hid (an = P.length) := han
  have HN' : Hid (nn = X.length) := hnn
  have HB : Hid (bn = P.length + X.length + M.length) := hbn
  have HXY : Hid (X.length = Y.length) := hxy
  rw [← han, ← hnn]
  rw [show ((an + nn + M.length : Nat) : Int) = (bn : Int) from by omega]
  clear han hnn hbn hxy hN
  go_enter Try.func57, Try.ntmps57
  go_wp2
  go_loopg [10] nn (fun g vi wr => ∃ i : Nat, vi = .int .i64 i ∧ i ≤ nn ∧ nn - i ≤ g ∧ Aside (SW enc w0 blk off (swapped P X M Y S i).toArray wr))
  case atStart => exact ⟨0, rfl, by omega, by omega, S0⟩
  case round =>
    clear S0
    obtain ⟨i, rfl, hin, hg, S1⟩ := hrel
    by_cases hlt : i < nn
    · have hltz : (i : Int) < (nn : Int) := by omega
      go_wp2_with fail
      obtain ⟨iN, hiN⟩ : ∃ q, q = an + i := ⟨_, rfl⟩
      obtain ⟨jN, hjN⟩ : ∃ q, q = bn + i := ⟨_, rfl⟩
      have ea : ((an : Int) + (i : Int)).toNat = iN := by omega
      have pa : (0 : Int) ≤ (an : Int) + (i : Int) := by omega
      have ba : (an : Int) + (i : Int) < (N : Int) := by omega
      have ra : IntKind.i64.wrap ((an : Int) + (i : Int)) = (an : Int) + (i : Int) := by rw [IntKind.wrap_i64]; omega
      have ec : ((bn : Int) + (i : Int)).toNat = jN := by omega
      have pc : (0 : Int) ≤ (bn : Int) + (i : Int) := by omega
      have bc : (bn : Int) + (i : Int) < (N : Int) := by omega
      have rc : IntKind.i64.wrap ((bn : Int) + (i : Int)) = (bn : Int) + (i : Int) := by rw [IntKind.wrap_i64]; omega
      have hds := HL.out i
      have hd0' : (swapped P X M Y S i).toArray.size = d0.size := by rw [hds, hd0]
      have hsw := swapped_succ P X M Y S nn i an bn HN'.out.symm (by rw [← HXY.out]; exact HN'.out.symm) hlt HA.out (by have := HB.out; have := HN'.out; omega)
      obtain ⟨dk, hdk⟩ : ∃ q, q = (swapped P X M Y S i).toArray := ⟨_, rfl⟩
      rw [← hdk] at S1 hds hd0' hsw
      have HSW : Hid (swp dk (an + i) (bn + i) = (swapped P X M Y S (i + 1)).toArray) := hsw
      clear hdk hsw
      obtain ⟨x, hx⟩ : ∃ x, x = dk[an + i]! := ⟨_, rfl⟩
      obtain ⟨y, hy⟩ : ∃ x, x = dk[bn + i]! := ⟨_, rfl⟩
      have S2 : Aside (SW enc w0 blk off (swp dk (an + i) (bn + i)) ((wr.setCell ⟨blk, off + iN, none⟩ (enc y)).setCell ⟨blk, off + jN, none⟩ (enc x)).drew) := by rw [hiN, hjN, hx, hy]; exact S1.out.swapped Rw (an + i) (bn + i) (by omega) (by omega)
      have c1 := S1.out.c1 Rw hd0' (an + i) (by omega)
      have c2 := S1.out.c1 Rw hd0' (bn + i) (by omega)
      have f1 := S1.out.f1 Rw hd0' (an + i) (by omega)
      have f2 := S1.out.f1 Rw hd0' (bn + i) (by omega)
      obtain ⟨u, c3⟩ := S1.out.c2 Rw hd0' (an + i) (bn + i) (by omega) (by omega) (enc y)
      rw [← hjN, ← hiN] at c3
      rw [← hx, ← hiN] at c1
      rw [← hy, ← hjN] at c2
      rw [← hiN] at f1
      rw [← hjN] at f2
      clear S1 hx hy hiN hjN hds hd0'
      go_wp2_with fail
      go_big_region_o
      clear c1 c2 c3 f1 f2
      generalize ((wr.setCell ⟨blk, off + iN, none⟩ (enc y)).setCell ⟨blk, off + jN, none⟩ (enc x)).drew = w2 at S2 ⊢
      clear ea ec
      go_wp2
      go_roundg (nn - (i + 1))
      case measure => omega
      case rel => exact ⟨i + 1, by go_num, by omega, Nat.le_refl _, by rw [← HSW.out]; exact S2⟩
    · have hnot : ¬ (i : Int) < (nn : Int) := by omega
      go_wp2
      go_end0
      have hi : i = nn := by omega
      subst hi
      refine ⟨rfl, ?_⟩
      have h := S1.out
      rw [swapped_all P X M Y S i HN'.out.symm (by rw [← HXY.out]; exact HN'.out.symm)] at h
      simpa only [List.append_assoc] using h

set_option maxHeartbeats 4000000 in
set_option maxRecDepth 1000000 in
/-- slices.rotateCmpFunc: two parts that stand side by side change places. -/
theorem rotate (enc : α → Value) (fv : Value) (blk off N cap : Nat) (d0 : Array α) (w0 w : World) (Rw : Row1 enc w0 blk off d0) (hd0 : d0.size = N)
    (P X Y S : List α) (a m b : Int) (ha : a = P.length) (hm : m = (P.length + X.length : Nat)) (hb : b = (P.length + X.length + Y.length : Nat))
    (hx : X ≠ []) (hy : Y ≠ [])
    (hN : (P ++ X ++ Y ++ S).length = N) (hsz : N < 4611686018427387904) (S0 : SW enc w0 blk off (P ++ X ++ Y ++ S).toArray w) :
    Calls Try.prog 46 #[.slice (some ⟨blk, off, none⟩) N cap, .int .i64 a, .int .i64 m, .int .i64 b, fv] w fun e w' =>
      e = .returned (.tuple #[]) ∧ SW enc w0 blk off (P ++ Y ++ X ++ S).toArray w' := by
  have hxl : 0 < X.length := List.length_pos_iff.2 hx
  have hyl : 0 < Y.length := List.length_pos_iff.2 hy
  have hlen : P.length + X.length + Y.length + S.length = N := by rw [← hN]; simp; omega
  obtain ⟨F, hF⟩ : ∃ F, F = (P ++ Y ++ X ++ S).toArray := ⟨_, rfl⟩
  have S1 : Aside (SW enc w0 blk off (P ++ X ++ Y ++ S).toArray w) := S0
  have RW : Aside (Row1 enc w0 blk off d0) := Rw
  rw [← hF]
  have HF : Hid (F = (P ++ Y ++ X ++ S).toArray) := hF
  clear hF S0 Rw
  obtain ⟨an, han⟩ : ∃ q, q = P.length := ⟨_, rfl⟩
  obtain ⟨mn, hmn⟩ : ∃ q, q = P.length + X.length := ⟨_, rfl⟩
  obtain ⟨bn, hbn⟩ : ∃ q, q = P.length + X.length + Y.length := ⟨_, rfl⟩
  rw [← han] at ha; rw [← hmn] at hm; rw [← hbn] at hb
  subst ha hm hb
  have HI : Hid (an = P.length ∧ mn = P.length + X.length ∧ bn = P.length + X.length + Y.length ∧ P.length + X.length + Y.length + S.length = N ∧ 0 < X.length ∧ 0 < Y.length) := ⟨han, hmn, hbn, hlen, hxl, hyl⟩
  have hfit : bn ≤ N := by omega
  have ham : an < mn := by omega
  have hmb : mn < bn := by omega
  clear han hmn hbn hlen hN hx hy hxl hyl
  have w1 : IntKind.i64.wrap ((mn : Int) - (an : Int)) = ((mn - an : Nat) : Int) := by rw [IntKind.wrap_i64] <;> omega
  have w2 : IntKind.i64.wrap ((bn : Int) - (mn : Int)) = ((bn - mn : Nat) : Int) := by rw [IntKind.wrap_i64] <;> omega
  go_enter Try.func46, Try.ntmps46
  go_wp2
  go_loopg [10, 11] (bn - an) (fun g vi vj wr => ∃ (i j : Nat) (P' X' Y' S' : List α), vi = .int .i64 i ∧ vj = .int .i64 j ∧ 0 < i ∧ 0 < j ∧ i + j ≤ g + 2 ∧ i + an ≤ mn ∧ mn + j ≤ bn ∧
    Hid (i = X'.length ∧ j = Y'.length ∧ P'.length + X'.length = mn ∧ (P' ++ Y' ++ X' ++ S').toArray = F ∧ (P' ++ X' ++ Y' ++ S').length = N) ∧ Aside (SW enc w0 blk off (P' ++ X' ++ Y' ++ S').toArray wr))
  case atStart =>
    refine ⟨mn - an, bn - mn, P, X, Y, S, by go_num, by go_num, by omega, by omega, by omega, by omega, by omega, ?_, S1⟩
    obtain ⟨h1, h2, h3, h4, h5, h6⟩ := HI.out
    exact ⟨by omega, by omega, by omega, HF.out.symm, by simp; omega⟩
  case round =>
    clear S1
    obtain ⟨i, j, P', X', Y', S', rfl, rfl, hi, hj, hg, hia, hjb, HX, SJ⟩ := hrel
    have wm : IntKind.i64.wrap ((mn : Int) - (i : Int)) = (mn : Int) - (i : Int) := by rw [IntKind.wrap_i64]; omega
    have wm2 : IntKind.i64.wrap ((mn : Int) + (j : Int)) = (mn : Int) + (j : Int) := by rw [IntKind.wrap_i64]; omega
    have wm3 : IntKind.i64.wrap ((mn : Int) + (j : Int) - (i : Int)) = (mn : Int) + (j : Int) - (i : Int) := by rw [IntKind.wrap_i64]; omega
    by_cases hne : i = j
    · subst hne
      have hc : Calls Try.prog 57 #[.slice (some ⟨blk, off, none⟩) N cap, .int .i64 ((mn : Int) - (i : Int)), .int .i64 (mn : Int), .int .i64 (i : Int), fv] wr fun e w' =>
          e = .returned (.tuple #[]) ∧ SW enc w0 blk off F w' := by
        obtain ⟨h1, h2, h3, h4, h5⟩ := HX.out
        have h6 : P'.length + X'.length + Y'.length + S'.length = N := by rw [← h5]; simp; omega
        have h := swapRange enc fv blk off N cap d0 w0 wr RW.out hd0 P' X' [] Y' S' ((mn : Int) - (i : Int)) mn i (by omega) (by simp; omega) (by omega) (by omega) (by simp; omega) hsz (by simpa using SJ.out)
        refine h.mono ?_
        rintro e w' ⟨he, hS⟩
        exact ⟨he, by rw [← h4]; simpa using hS⟩
      clear SJ
      go_wp2_with (go_at_call 57; refine hc.mono ?_; rintro e w1 ⟨rfl, hS⟩)
      go_end0
      exact ⟨rfl, hS⟩
    · have hnez : ¬ (i : Int) = (j : Int) := by omega
      by_cases hlt : j < i
      · have hltz : (j : Int) < (i : Int) := by omega
        have hc : Calls Try.prog 57 #[.slice (some ⟨blk, off, none⟩) N cap, .int .i64 ((mn : Int) - (i : Int)), .int .i64 (mn : Int), .int .i64 (j : Int), fv] wr fun e w' =>
            e = .returned (.tuple #[]) ∧ ∃ (P2 X2 Y2 S2 : List α), Hid (i - j = X2.length ∧ j = Y2.length ∧ P2.length + X2.length = mn ∧ (P2 ++ Y2 ++ X2 ++ S2).toArray = F ∧ (P2 ++ X2 ++ Y2 ++ S2).length = N) ∧ SW enc w0 blk off (P2 ++ X2 ++ Y2 ++ S2).toArray w' := by
          obtain ⟨h1, h2, h3, h4, h5⟩ := HX.out
          have h6 : P'.length + X'.length + Y'.length + S'.length = N := by rw [← h5]; simp; omega
          obtain ⟨X1, X2, rfl, hX1⟩ : ∃ X1 X2, X' = X1 ++ X2 ∧ X1.length = j := ⟨X'.take j, X'.drop j, (List.take_append_drop _ _).symm, by simp; omega⟩
          simp at h1 h3 h6
          have h := swapRange enc fv blk off N cap d0 w0 wr RW.out hd0 P' X1 X2 Y' S' ((mn : Int) - (i : Int)) mn j (by omega) (by simp; omega) (by omega) (by omega) (by simp; omega) hsz (by simpa using SJ.out)
          refine h.mono ?_
          rintro e w' ⟨he, hS⟩
          refine ⟨he, P' ++ Y', X2, X1, S', ⟨by omega, by omega, by simp; omega, by rw [← h4]; simp, by simp; omega⟩, by simpa using hS⟩
        clear SJ
        go_wp2_with (go_at_call 57; refine hc.mono ?_; rintro e w1 ⟨rfl, P2, X2, Y2, S2, HX2, hS⟩)
        have wij : IntKind.i64.wrap ((i : Int) - (j : Int)) = ((i - j : Nat) : Int) := by rw [IntKind.wrap_i64] <;> omega
        go_wp2
        go_roundg (i - j + j - 2)
        case measure => omega
        case rel => exact ⟨i - j, j, P2, X2, Y2, S2, by go_num, rfl, by omega, by omega, by omega, by omega, by omega, HX2, hS⟩
      · have hltz : ¬ (j : Int) < (i : Int) := by omega
        have hc : Calls Try.prog 57 #[.slice (some ⟨blk, off, none⟩) N cap, .int .i64 ((mn : Int) - (i : Int)), .int .i64 ((mn : Int) + (j : Int) - (i : Int)), .int .i64 (i : Int), fv] wr fun e w' =>
            e = .returned (.tuple #[]) ∧ ∃ (P2 X2 Y2 S2 : List α), Hid (i = X2.length ∧ j - i = Y2.length ∧ P2.length + X2.length = mn ∧ (P2 ++ Y2 ++ X2 ++ S2).toArray = F ∧ (P2 ++ X2 ++ Y2 ++ S2).length = N) ∧ SW enc w0 blk off (P2 ++ X2 ++ Y2 ++ S2).toArray w' := by
          obtain ⟨h1, h2, h3, h4, h5⟩ := HX.out
          have h6 : P'.length + X'.length + Y'.length + S'.length = N := by rw [← h5]; simp; omega
          obtain ⟨Y1, Y2, rfl, hY1⟩ : ∃ Y1 Y2, Y' = Y1 ++ Y2 ∧ Y1.length = j - i := ⟨Y'.take (j - i), Y'.drop (j - i), (List.take_append_drop _ _).symm, by simp; omega⟩
          simp at h2 h6
          have h := swapRange enc fv blk off N cap d0 w0 wr RW.out hd0 P' X' Y1 Y2 S' ((mn : Int) - (i : Int)) ((mn : Int) + (j : Int) - (i : Int)) i (by omega) (by simp; omega) (by omega) (by omega) (by simp; omega) hsz (by simpa using SJ.out)
          refine h.mono ?_
          rintro e w' ⟨he, hS⟩
          refine ⟨he, P', Y2, Y1, X' ++ S', ⟨by omega, by omega, by omega, by rw [← h4]; simp, by simp; omega⟩, by simpa using hS⟩
        clear SJ
        go_wp2_with (go_at_call 57; refine hc.mono ?_; rintro e w1 ⟨rfl, P2, X2, Y2, S2, HX2, hS⟩)
        have wij : IntKind.i64.wrap ((j : Int) - (i : Int)) = ((j - i : Nat) : Int) := by rw [IntKind.wrap_i64] <;> omega
        go_wp2
        go_roundg (i + (j - i) - 2)
        case measure => omega
        case rel => exact ⟨i, j - i, P2, X2, Y2, S2, rfl, by go_num, by omega, by omega, by omega, by omega, by omega, HX2, hS⟩

end Go.Proofs.Try.Stab

/-! slices.symMergeCmpFunc where one of the two parts is one element. -/
namespace Go.Proofs.Try.Stab
set_option linter.unusedVariables false
set_option linter.unusedSimpArgs false
open Go.Shelf Go.RowKit Go.Lib Go.Sort Go.Proofs
variable {α : Type} [Inhabited α]

/-- What the family is told, once. -/
structure Env (enc : α → Value) (cf : α → α → Int) (at_ : α → Nat) (g : Nat) (cb : Array Value) (blk off N : Nat) (d0 : Array α) (w0 : World) : Prop where
  row : Row1 enc w0 blk off d0
  size : d0.size = N
  eg : ∀ args w, (callFunc g args).run Try.prog w = .ok (.enter g args) w
  cmp : CmpLays1 Try.prog g cb enc cf blk off N w0
  ord : Ord (ltOf cf) at_
  fit : N < 4611686018427387904

variable {enc : α → Value} {cf : α → α → Int} {at_ : α → Nat} {g : Nat} {cb : Array Value} {blk off N : Nat} {d0 : Array α} {w0 : World}

set_option maxHeartbeats 8000000 in
set_option maxRecDepth 1000000 in
theorem merge_one (E : Env enc cf at_ g cb blk off N d0 w0) (cap : Nat) (w : World) (P : List α) (x : α) (B S : List α) (a m b : Int)
    (ha : a = P.length) (hm : m = (P.length + 1 : Nat)) (hb : b = (P.length + 1 + B.length : Nat)) (hN : (P ++ (x :: B) ++ S).length = N)
    (hB : B.Pairwise (R (ltOf cf) at_)) (hC : Cross at_ [x] B) (S0 : SW enc w0 blk off (P ++ (x :: B) ++ S).toArray w) :
    Calls Try.prog 41 #[.slice (some ⟨blk, off, none⟩) N cap, .int .i64 a, .int .i64 m, .int .i64 b, .func (.func g) #[] cb] w fun e w' =>
      e = .returned (.tuple #[]) ∧ ∃ M, SW enc w0 blk off (P ++ M ++ S).toArray w' ∧ M.Perm (x :: B) ∧ M.Pairwise (R (ltOf cf) at_) := by
  have mixed : Try.prog.follows .mixedOrders = true := by kernel_rfl
  have u3 := run_underlying Try.underlying3
  have u4 := run_underlying Try.underlying4
  have u22 := run_underlying Try.underlying22
  have u37 := run_underlying Try.underlying37
  have hcl0 := E.row.hO.cells
  simp only [Value.cells] at hcl0
  have hst := E.row.hO.store Try.prog
  have eg := E.eg
  have hsz := E.fit
  have EE : Aside _ := E
  obtain ⟨D, hD⟩ : ∃ D, D = (P ++ (x :: B) ++ S).toArray := ⟨_, rfl⟩
  have hDs : D.size = N := by rw [hD, List.size_toArray]; exact hN
  have S1 : Aside (SW enc w0 blk off D w) := by rw [hD]; exact S0
  clear S0
  obtain ⟨an, han⟩ : ∃ q, q = P.length := ⟨_, rfl⟩
  obtain ⟨bn, hbn⟩ : ∃ q, q = P.length + 1 + B.length := ⟨_, rfl⟩
  rw [← hbn] at hb
  have hlen : bn + S.length = N := by rw [← hN, hbn]; simp; omega
  have hax : D[an]! = x := by rw [hD, han, List.append_assoc]; exact get_mid P x (B ++ S)
  have hBt : ∀ t, t < B.length → D[an + 1 + t]! = B[t]! := fun t ht => by
    rw [hD, show P ++ (x :: B) ++ S = (P ++ [x]) ++ B ++ S from by simp]
    exact get_part (P ++ [x]) B S _ t (by simp; omega) ht
  have HB : Aside _ := hBt
  have HD : Hid (D = (P ++ (x :: B) ++ S).toArray ∧ an = P.length ∧ bn = P.length + 1 + B.length) := ⟨hD, han, hbn⟩
  have HX : Hid (D[an]! = x) := hax
  have hab : an + 1 ≤ bn := by omega
  have hbN : bn ≤ N := by omega
  have HS : Aside _ := And.intro hB hC
  rw [← han] at ha hm
  obtain ⟨mn, hmn⟩ : ∃ q, q = an + 1 := ⟨_, rfl⟩
  rw [← hmn] at hm
  have m1 : mn ≤ an + 1 := by omega
  have m2 : an + 1 ≤ mn := by omega
  clear hmn
  subst ha hm hb
  clear hB hC hBt hD han hbn hlen hN hax E
  have w1 : IntKind.i64.wrap ((mn : Int) - (an : Int)) = 1 := by rw [IntKind.wrap_i64] <;> omega
  go_enter Try.func41, Try.ntmps41
  go_wp2
  go_loopg [10, 11] (bn - an) (fun kx s9 s10 wr => ∃ lo hi : Nat, s9 = .int .i64 lo ∧ s10 = .int .i64 hi ∧ lo ≤ hi ∧ mn ≤ lo ∧ hi ≤ bn ∧ hi - lo ≤ kx ∧ Aside (SW enc w0 blk off D wr) ∧
    Hid ((lo = mn ∨ ltOf cf D[lo - 1]! x = true) ∧ (hi = bn ∨ ltOf cf D[hi]! x = false)))
  case atStart => exact ⟨mn, bn, rfl, rfl, by omega, Nat.le_refl _, Nat.le_refl _, by omega, S1, ⟨Or.inl rfl, Or.inl rfl⟩⟩
  case round =>
    clear S1
    obtain ⟨lo, hi, rfl, rfl, hlh, hlo, hhi, hg, S1, I⟩ := hrel
    by_cases hlt : lo < hi
    · have hltz : (lo : Int) < (hi : Int) := by omega
      obtain ⟨h, hh⟩ : ∃ h : Nat, h = (lo + hi) / 2 := ⟨_, rfl⟩
      have hhz : ((lo : Int) + (hi : Int)) / 2 = (h : Int) := by omega
      have h1 : lo ≤ h := by omega
      have h2 : h < hi := by omega
      clear hh
      have e1 : IntKind.i64.wrap (h : Int) = (h : Int) := by rw [IntKind.wrap_i64]; omega
      have hNz : (h : Int) < (N : Int) := by omega
      have aNz : (an : Int) < (N : Int) := by omega
      have cm := S1.out.cl EE.out.row (by rw [hDs, EE.out.size]) h (by omega)
      have cx := S1.out.cl EE.out.row (by rw [hDs, EE.out.size]) an (by omega)
      rw [HX.out] at cx
      obtain ⟨y, hy⟩ : ∃ y, D[h]! = y := ⟨_, rfl⟩
      rw [hy] at cm
      have Y : Hid (D[h]! = y) := hy
      clear hy
      have hc := S1.out.cmp EE.out.cmp hDs y x
      cases hv : ltOf cf y x with
      | true =>
        have hv1 : cf y x < 0 := of_decide_eq_true hv
        have hv2 : decide (cf y x < 0) = true := decide_eq_true hv1
        go_wp2_with fail
        go_quiet_grown (first | (go_at_fn g; refine Calls.grown_of (hc _ _)))
        have S2 : Aside (SW enc w0 blk off D (grow (wr.drewN nq) osq)) := S1.out.grown nq osq
        clear cm cx hc S1
        generalize grow (wr.drewN nq) osq = w2 at S2 ⊢
        go_wp2
        go_roundg (hi - (h + 1))
        case measure => omega
        case rel => exact ⟨h + 1, hi, by go_num, rfl, by omega, by omega, hhi, Nat.le_refl _, S2, ⟨Or.inr (by rw [Nat.add_sub_cancel, Y.out]; exact hv), I.out.2⟩⟩
      | false =>
        have hv1 : ¬ cf y x < 0 := of_decide_eq_false hv
        have hv2 : decide (cf y x < 0) = false := decide_eq_false hv1
        go_wp2_with fail
        go_quiet_grown (first | (go_at_fn g; refine Calls.grown_of (hc _ _)))
        have S2 : Aside (SW enc w0 blk off D (grow (wr.drewN nq) osq)) := S1.out.grown nq osq
        clear cm cx hc S1
        generalize grow (wr.drewN nq) osq = w2 at S2 ⊢
        go_wp2
        go_roundg (h - lo)
        case measure => omega
        case rel => exact ⟨lo, h, rfl, rfl, h1, hlo, by omega, Nat.le_refl _, S2, ⟨I.out.1, Or.inr (by rw [Y.out]; exact hv)⟩⟩
    · obtain rfl : lo = hi := by omega
      obtain ⟨j, hj⟩ : ∃ j, lo = mn + j := ⟨lo - mn, by omega⟩
      have hm1 : IntKind.i64.wrap ((lo : Int) - 1) = (lo : Int) - 1 := by rw [IntKind.wrap_i64] <;> omega
      have hfin : Hid (j ≤ B.length ∧ (B.take j ++ x :: B.drop j).Pairwise (R (ltOf cf) at_)) := by
        obtain ⟨e1, e2, e3⟩ := HD.out
        have hjB : j ≤ B.length := by omega
        refine ⟨hjB, one_sorted EE.out.ord x B j hjB HS.out.1 HS.out.2 ?_ ?_⟩
        · rcases I.out.1 with h | h
          · left; omega
          · rcases Nat.eq_zero_or_pos j with h0 | h0
            · exact Or.inl h0
            · right; rw [show lo - 1 = an + 1 + (j - 1) from by omega, HB.out (j - 1) (by omega)] at h; exact h
        · rcases I.out.2 with h | h
          · left; omega
          · rcases Nat.lt_or_ge j B.length with h0 | h0
            · right; rw [show lo = an + 1 + j from by omega, HB.out j h0] at h; exact h
            · left; omega
      have S2 : Aside (SW enc w0 blk off (P ++ (B.take 0 ++ x :: B.drop 0) ++ S).toArray wr) := by
        rw [show P ++ (B.take 0 ++ x :: B.drop 0) ++ S = P ++ (x :: B) ++ S from by simp, ← HD.out.1]; exact S1.out
      have HJ : Hid (lo = mn + j) := hj
      have l1 : an + j + 1 ≤ lo := by omega
      have l2 : lo ≤ an + j + 1 := by omega
      clear hj S1 I
      go_wp2
      go_loopg [13] j (fun kx s13 wr => ∃ k t : Nat, s13 = .int .i64 k ∧ k ≤ an + t ∧ an + t ≤ k ∧ t ≤ j ∧ j - t ≤ kx ∧ Aside (SW enc w0 blk off (P ++ (B.take t ++ x :: B.drop t) ++ S).toArray wr))
      case atStart => exact ⟨an, 0, rfl, by omega, by omega, by omega, by omega, S2⟩
      case round =>
        clear S2
        obtain ⟨k, t, rfl, hk1, hk2, htj, hg, S1⟩ := hrel
        by_cases hlt2 : t < j
        · have hltz : (k : Int) < (lo : Int) - 1 := by omega
          obtain ⟨iN, hiN⟩ : ∃ q, q = k := ⟨_, rfl⟩
          obtain ⟨jN, hjN⟩ : ∃ q, q = k + 1 := ⟨_, rfl⟩
          have ea : ((k : Int)).toNat = iN := by omega
          have pa : (0 : Int) ≤ (k : Int) := by omega
          have ba : (k : Int) < (N : Int) := by omega
          have ec : ((k : Int) + 1).toNat = jN := by omega
          have pc : (0 : Int) ≤ (k : Int) + 1 := by omega
          have bc : (k : Int) + 1 < (N : Int) := by omega
          have rc : IntKind.i64.wrap ((k : Int) + 1) = (k : Int) + 1 := by rw [IntKind.wrap_i64] <;> omega
          obtain ⟨dk, hdk⟩ : ∃ q, q = (P ++ (B.take t ++ x :: B.drop t) ++ S).toArray := ⟨_, rfl⟩
          have hds : dk.size = N := by
            obtain ⟨e1, e2, e3⟩ := HD.out
            rw [hdk, ← hDs, e1, List.size_toArray, List.size_toArray]
            simp; omega
          have hd0' : dk.size = d0.size := by rw [hds, EE.out.size]
          have HSW : Hid (swp dk k (k + 1) = (P ++ (B.take (t + 1) ++ x :: B.drop (t + 1)) ++ S).toArray) := by
            obtain ⟨e1, e2, e3⟩ := HD.out
            rw [hdk]; exact right_step P B S x t k (by omega) (by have := hfin.out.1; omega)
          rw [← hdk] at S1
          clear hdk
          obtain ⟨u, hu⟩ : ∃ q, q = dk[k]! := ⟨_, rfl⟩
          obtain ⟨v, hv⟩ : ∃ q, q = dk[k + 1]! := ⟨_, rfl⟩
          have S2 : Aside (SW enc w0 blk off (swp dk k (k + 1)) ((wr.setCell ⟨blk, off + iN, none⟩ (enc v)).setCell ⟨blk, off + jN, none⟩ (enc u)).drew) := by rw [hiN, hjN, hu, hv]; exact S1.out.swapped EE.out.row k (k + 1) (by omega) (by omega)
          have c1 := S1.out.c1 EE.out.row hd0' k (by omega)
          have c2 := S1.out.c1 EE.out.row hd0' (k + 1) (by omega)
          have f1 := S1.out.f1 EE.out.row hd0' k (by omega)
          have f2 := S1.out.f1 EE.out.row hd0' (k + 1) (by omega)
          obtain ⟨u3, c3⟩ := S1.out.c2 EE.out.row hd0' k (k + 1) (by omega) (by omega) (enc v)
          rw [← hjN, ← hiN] at c3
          rw [← hu, ← hiN] at c1
          rw [← hv, ← hjN] at c2
          rw [← hiN] at f1
          rw [← hjN] at f2
          clear S1 hu hv hiN hjN hds hd0'
          go_wp2_with fail
          go_big_region_o
          clear c1 c2 c3 f1 f2
          generalize ((wr.setCell ⟨blk, off + iN, none⟩ (enc v)).setCell ⟨blk, off + jN, none⟩ (enc u)).drew = w2 at S2 ⊢
          clear ea ec
          go_wp2
          go_roundg (j - (t + 1))
          case measure => omega
          case rel => exact ⟨k + 1, t + 1, by go_num, by omega, by omega, by omega, Nat.le_refl _, by rw [← HSW.out]; exact S2⟩
        · have hltz : ¬ (k : Int) < (lo : Int) - 1 := by omega
          obtain rfl : t = j := by omega
          go_wp2
          refine bodyPost_ret (results_none rfl _ _ _) rfl ?_
          exact ⟨rfl, B.take t ++ x :: B.drop t, by simpa only [List.append_assoc] using S1.out, perm_put B x t, hfin.out.2⟩

end Go.Proofs.Try.Stab

/-! slices.symMergeCmpFunc where the right part is one element. -/
namespace Go.Proofs.Try.Stab
set_option linter.unusedVariables false
set_option linter.unusedSimpArgs false
open Go.Shelf Go.RowKit Go.Lib Go.Sort Go.Proofs
variable {α : Type} [Inhabited α]
variable {enc : α → Value} {cf : α → α → Int} {at_ : α → Nat} {g : Nat} {cb : Array Value} {blk off N : Nat} {d0 : Array α} {w0 : World}

set_option maxHeartbeats 8000000 in
set_option maxRecDepth 1000000 in
theorem merge_last (E : Env enc cf at_ g cb blk off N d0 w0) (cap : Nat) (w : World) (P A : List α) (y : α) (S : List α) (a m b : Int)
    (ha : a = P.length) (hm : m = (P.length + A.length : Nat)) (hb : b = (P.length + A.length + 1 : Nat)) (hN : (P ++ (A ++ [y]) ++ S).length = N) (hA2 : 1 < A.length)
    (hA : A.Pairwise (R (ltOf cf) at_)) (hC : Cross at_ A [y]) (S0 : SW enc w0 blk off (P ++ (A ++ [y]) ++ S).toArray w) :
    Calls Try.prog 41 #[.slice (some ⟨blk, off, none⟩) N cap, .int .i64 a, .int .i64 m, .int .i64 b, .func (.func g) #[] cb] w fun e w' =>
      e = .returned (.tuple #[]) ∧ ∃ M, SW enc w0 blk off (P ++ M ++ S).toArray w' ∧ M.Perm (A ++ [y]) ∧ M.Pairwise (R (ltOf cf) at_) := by
  have mixed : Try.prog.follows .mixedOrders = true := by kernel_rfl
  have hcl0 := E.row.hO.cells
  simp only [Value.cells] at hcl0
  have hst := E.row.hO.store Try.prog
  have eg := E.eg
  have hsz := E.fit
  have EE : Aside _ := E
  obtain ⟨D, hD⟩ : ∃ D, D = (P ++ (A ++ [y]) ++ S).toArray := ⟨_, rfl⟩
  have hDs : D.size = N := by rw [hD, List.size_toArray]; exact hN
  have S1 : Aside (SW enc w0 blk off D w) := by rw [hD]; exact S0
  clear S0
  obtain ⟨an, han⟩ : ∃ q, q = P.length := ⟨_, rfl⟩
  obtain ⟨mn, hmn⟩ : ∃ q, q = P.length + A.length := ⟨_, rfl⟩
  obtain ⟨bn, hbn⟩ : ∃ q, q = P.length + A.length + 1 := ⟨_, rfl⟩
  rw [← hbn] at hb; rw [← hmn] at hm; rw [← han] at ha
  have hlen : bn + S.length = N := by rw [← hN, hbn]; simp; omega
  have hax : D[mn]! = y := by
    rw [hD, show P ++ (A ++ [y]) ++ S = (P ++ A) ++ y :: S from by simp, hmn, ← List.length_append]; exact get_mid (P ++ A) y S
  have hAt : ∀ t, t < A.length → D[an + t]! = A[t]! := fun t ht => by
    rw [hD, show P ++ (A ++ [y]) ++ S = P ++ A ++ ([y] ++ S) from by simp]
    exact get_part P A ([y] ++ S) _ t (by omega) ht
  have HB : Aside _ := hAt
  have HD : Hid (D = (P ++ (A ++ [y]) ++ S).toArray ∧ an = P.length ∧ mn = P.length + A.length ∧ bn = P.length + A.length + 1) := ⟨hD, han, hmn, hbn⟩
  have HX : Hid (D[mn]! = y) := hax
  have hab : an + 1 < mn := by omega
  have m1 : bn ≤ mn + 1 := by omega
  have m2 : mn + 1 ≤ bn := by omega
  have hbN : bn ≤ N := by omega
  have HS : Aside _ := And.intro hA hC
  subst ha hm hb
  clear hA hC hAt hD han hmn hbn hlen hN hax E hA2
  have w1 : IntKind.i64.wrap ((mn : Int) - (an : Int)) = (mn : Int) - (an : Int) := by rw [IntKind.wrap_i64] <;> omega
  have w1b : ((mn : Int) - (an : Int) == 1) = false := by rw [beq_eq_false_iff_ne]; omega
  have w2 : IntKind.i64.wrap ((bn : Int) - (mn : Int)) = 1 := by rw [IntKind.wrap_i64] <;> omega
  go_enter Try.func41, Try.ntmps41
  go_wp2
  go_loopg [14, 15] (bn - an) (fun kx s9 s10 wr => ∃ lo hi : Nat, s9 = .int .i64 lo ∧ s10 = .int .i64 hi ∧ lo ≤ hi ∧ an ≤ lo ∧ hi ≤ mn ∧ hi - lo ≤ kx ∧ Aside (SW enc w0 blk off D wr) ∧
    Hid ((lo = an ∨ ltOf cf y D[lo - 1]! = false) ∧ (hi = mn ∨ ltOf cf y D[hi]! = true)))
  case atStart => exact ⟨an, mn, rfl, rfl, by omega, Nat.le_refl _, Nat.le_refl _, by omega, S1, ⟨Or.inl rfl, Or.inl rfl⟩⟩
  case round =>
    clear S1
    obtain ⟨lo, hi, rfl, rfl, hlh, hlo, hhi, hg, S1, I⟩ := hrel
    by_cases hlt : lo < hi
    · have hltz : (lo : Int) < (hi : Int) := by omega
      obtain ⟨h, hh⟩ : ∃ h : Nat, h = (lo + hi) / 2 := ⟨_, rfl⟩
      have hhz : ((lo : Int) + (hi : Int)) / 2 = (h : Int) := by omega
      have h1 : lo ≤ h := by omega
      have h2 : h < hi := by omega
      clear hh
      have e1 : IntKind.i64.wrap (h : Int) = (h : Int) := by rw [IntKind.wrap_i64]; omega
      have hNz : (h : Int) < (N : Int) := by omega
      have aNz : (mn : Int) < (N : Int) := by omega
      have cm := S1.out.cl EE.out.row (by rw [hDs, EE.out.size]) h (by omega)
      have cx := S1.out.cl EE.out.row (by rw [hDs, EE.out.size]) mn (by omega)
      rw [HX.out] at cx
      obtain ⟨z, hz⟩ : ∃ z, D[h]! = z := ⟨_, rfl⟩
      rw [hz] at cm
      have Z : Hid (D[h]! = z) := hz
      clear hz
      have hc := S1.out.cmp EE.out.cmp hDs y z
      cases hv : ltOf cf y z with
      | false =>
        have hv1 : ¬ cf y z < 0 := of_decide_eq_false hv
        have hv2 : decide (cf y z < 0) = false := decide_eq_false hv1
        go_wp2_with fail
        go_quiet_grown (first | (go_at_fn g; refine Calls.grown_of (hc _ _)))
        have S2 : Aside (SW enc w0 blk off D (grow (wr.drewN nq) osq)) := S1.out.grown nq osq
        clear cm cx hc S1
        generalize grow (wr.drewN nq) osq = w2 at S2 ⊢
        go_wp2
        go_roundg (hi - (h + 1))
        case measure => omega
        case rel => exact ⟨h + 1, hi, by go_num, rfl, by omega, by omega, hhi, Nat.le_refl _, S2, ⟨Or.inr (by rw [Nat.add_sub_cancel, Z.out]; exact hv), I.out.2⟩⟩
      | true =>
        have hv1 : cf y z < 0 := of_decide_eq_true hv
        have hv2 : decide (cf y z < 0) = true := decide_eq_true hv1
        go_wp2_with fail
        go_quiet_grown (first | (go_at_fn g; refine Calls.grown_of (hc _ _)))
        have S2 : Aside (SW enc w0 blk off D (grow (wr.drewN nq) osq)) := S1.out.grown nq osq
        clear cm cx hc S1
        generalize grow (wr.drewN nq) osq = w2 at S2 ⊢
        go_wp2
        go_roundg (h - lo)
        case measure => omega
        case rel => exact ⟨lo, h, rfl, rfl, h1, hlo, by omega, Nat.le_refl _, S2, ⟨I.out.1, Or.inr (by rw [Z.out]; exact hv)⟩⟩
    · obtain rfl : lo = hi := by omega
      obtain ⟨j, hj⟩ : ∃ j, lo = an + j := ⟨lo - an, by omega⟩
      have hfin : Hid (j ≤ A.length ∧ (A.take j ++ y :: A.drop j).Pairwise (R (ltOf cf) at_)) := by
        obtain ⟨e1, e2, e3, e4⟩ := HD.out
        have hjB : j ≤ A.length := by omega
        refine ⟨hjB, last_sorted EE.out.ord y A j hjB HS.out.1 HS.out.2 ?_ ?_⟩
        · rcases I.out.1 with h | h
          · left; omega
          · rcases Nat.eq_zero_or_pos j with h0 | h0
            · exact Or.inl h0
            · right; rw [show lo - 1 = an + (j - 1) from by omega, HB.out (j - 1) (by omega)] at h; exact h
        · rcases I.out.2 with h | h
          · left; omega
          · rcases Nat.lt_or_ge j A.length with h0 | h0
            · right; rw [hj, HB.out j h0] at h; exact h
            · left; omega
      have S2 : Aside (SW enc w0 blk off (P ++ (A.take A.length ++ y :: A.drop A.length) ++ S).toArray wr) := by
        rw [show P ++ (A.take A.length ++ y :: A.drop A.length) ++ S = P ++ (A ++ [y]) ++ S from by simp, ← HD.out.1]; exact S1.out
      have HAL : Hid (an + A.length = mn) := by obtain ⟨e1, e2, e3, e4⟩ := HD.out; show _ = _; omega
      have l1 : an + j ≤ lo := by omega
      have l2 : lo ≤ an + j := by omega
      clear hj S1 I
      go_wp2
      go_loopg [17] (bn - an) (fun kx s13 wr => ∃ k t : Nat, s13 = .int .i64 k ∧ k ≤ an + t ∧ an + t ≤ k ∧ j ≤ t ∧ k ≤ mn ∧ t - j ≤ kx ∧ Aside (SW enc w0 blk off (P ++ (A.take t ++ y :: A.drop t) ++ S).toArray wr))
      case atStart => exact ⟨mn, A.length, rfl, by rw [HAL.out]; exact Nat.le_refl _, by rw [HAL.out]; exact Nat.le_refl _, hfin.out.1, Nat.le_refl _, by have := HAL.out; omega, S2⟩
      case round =>
        clear S2
        obtain ⟨k, t, rfl, hk1, hk2, htj, hkm, hg, S1⟩ := hrel
        by_cases hlt2 : j < t
        · obtain ⟨tp, rfl⟩ : ∃ tp, t = tp + 1 := ⟨t - 1, by omega⟩
          obtain ⟨kp, rfl⟩ : ∃ kp, k = kp + 1 := ⟨k - 1, by omega⟩
          have hltz : (lo : Int) < (kp : Int) + 1 := by omega
          go_wp2_with fail
          obtain ⟨iN, hiN⟩ : ∃ q, q = kp + 1 := ⟨_, rfl⟩
          obtain ⟨jN, hjN⟩ : ∃ q, q = kp := ⟨_, rfl⟩
          have ea : ((kp : Int) + 1).toNat = iN := by omega
          have pa : (0 : Int) ≤ (kp : Int) + 1 := by omega
          have ba : (kp : Int) + 1 < (N : Int) := by omega
          have ra : IntKind.i64.wrap ((kp : Int) + 1) = (kp : Int) + 1 := by rw [IntKind.wrap_i64] <;> omega
          have ec : ((kp : Int)).toNat = jN := by omega
          have pc : (0 : Int) ≤ (kp : Int) := by omega
          have bc : (kp : Int) < (N : Int) := by omega
          have rc : IntKind.i64.wrap (kp : Int) = (kp : Int) := by rw [IntKind.wrap_i64] <;> omega
          obtain ⟨dk, hdk⟩ : ∃ q, q = (P ++ (A.take (tp + 1) ++ y :: A.drop (tp + 1)) ++ S).toArray := ⟨_, rfl⟩
          have htA : tp < A.length := by have := HAL.out; omega
          have hds : dk.size = N := by
            obtain ⟨e1, e2, e3⟩ := HD.out
            rw [hdk, ← hDs, e1, List.size_toArray, List.size_toArray]
            simp; omega
          have hd0' : dk.size = d0.size := by rw [hds, EE.out.size]
          have HSW : Hid (swp dk (kp + 1) kp = (P ++ (A.take tp ++ y :: A.drop tp) ++ S).toArray) := by
            obtain ⟨e1, e2, e3⟩ := HD.out
            rw [hdk]; exact left_step P A S y tp (kp + 1) (by omega) htA
          rw [← hdk] at S1
          clear hdk htA
          obtain ⟨u, hu⟩ : ∃ q, q = dk[kp + 1]! := ⟨_, rfl⟩
          obtain ⟨v, hv⟩ : ∃ q, q = dk[kp]! := ⟨_, rfl⟩
          have S2 : Aside (SW enc w0 blk off (swp dk (kp + 1) kp) ((wr.setCell ⟨blk, off + iN, none⟩ (enc v)).setCell ⟨blk, off + jN, none⟩ (enc u)).drew) := by rw [hiN, hjN, hu, hv]; exact S1.out.swapped EE.out.row (kp + 1) kp (by omega) (by omega)
          have c1 := S1.out.c1 EE.out.row hd0' (kp + 1) (by omega)
          have c2 := S1.out.c1 EE.out.row hd0' kp (by omega)
          have f1 := S1.out.f1 EE.out.row hd0' (kp + 1) (by omega)
          have f2 := S1.out.f1 EE.out.row hd0' kp (by omega)
          obtain ⟨u3, c3⟩ := S1.out.c2 EE.out.row hd0' (kp + 1) kp (by omega) (by omega) (enc v)
          rw [← hiN, ← hjN] at c3
          rw [← hu, ← hiN] at c1
          rw [← hv, ← hjN] at c2
          rw [← hiN] at f1
          rw [← hjN] at f2
          clear S1 hu hv hiN hjN hds hd0'
          go_wp2_with fail
          go_big_region_o
          clear c1 c2 c3 f1 f2
          generalize ((wr.setCell ⟨blk, off + iN, none⟩ (enc v)).setCell ⟨blk, off + jN, none⟩ (enc u)).drew = w2 at S2 ⊢
          clear ea ec
          go_wp2
          go_roundg (tp - j)
          case measure => omega
          case rel => exact ⟨kp, tp, by first | rfl | go_num | (congr 1; omega), by omega, by omega, by omega, by omega, Nat.le_refl _, by rw [← HSW.out]; exact S2⟩
        · have hltz : ¬ (lo : Int) < (k : Int) := by omega
          obtain rfl : t = j := by omega
          go_wp2
          refine bodyPost_ret (results_none rfl _ _ _) rfl ?_
          exact ⟨rfl, A.take t ++ y :: A.drop t, by simpa only [List.append_assoc] using S1.out, (perm_put A y t).trans (by simpa using (List.perm_append_comm (l₁ := [y]) (l₂ := A))), hfin.out.2⟩

end Go.Proofs.Try.Stab
