/- A Table: New, Find; known. -/
import Derived.Test.YtaghcepochjoeaaTabF
namespace Go.Proofs.Ytaghcepochjoeaa.Hand
open Go.RowKit Go.Proofs.Ytaghcepochjoeaa.PA Go.Proofs.Ytaghcepochjoeaa.MapV Go.Proofs.YtaghcepochjoeaaW.PrintWords Go.Proofs.YtaghcepochjoeaaW.PrintLast Go.Proofs.YtaghcepochjoeaaW.PrintMore
attribute [local go_sem] max2_int min2_int
set_option linter.unusedVariables false
set_option linter.unusedSimpArgs false
set_option linter.unusedSectionVars false
def newT (l : List S34) : TS := l.foldl (fun S d => (tput S d.f0 d.f1).2) []
theorem newT_succ (l : List S34) (i : Nat) (hi : i < l.length) : newT (l.take (i + 1)) = (tput (newT (l.take i)) (rd_T34 l i).f0 (rd_T34 l i).f1).2 := by
  unfold newT rd_T34
  rw [List.take_succ_eq_append_getElem hi, List.foldl_append, Int.toNat_natCast, List.getD_eq_getElem?_getD, List.getElem?_eq_getElem hi]
  rfl
theorem tput_len (S : TS) (s : ByteArray) (xs : List Int) : (tput S s xs).2.length ≤ S.length + 1 := by
  unfold tput
  split
  · simp
  · split
    · simp
    · simp only [length_put]
      split <;> omega
theorem newT_len (l : List S34) (i : Nat) (hi : i ≤ l.length) : (newT (l.take i)).length ≤ i := by
  induction i with
  | zero => simp [newT]
  | succ i ih =>
    rw [newT_succ l i (by omega)]
    have := tput_len (newT (l.take i)) (rd_T34 l i).f0 (rd_T34 l i).f1
    have := ih (by omega)
    omega
def hitsTo (x p : List Int) (n : Nat) : List Nat := (List.range n).filter fun i => Lib.hasPrefix (Lib.bytesOf (x.drop i)) (Lib.bytesOf p)
def hits (x p : List Int) : List Nat := hitsTo x p (x.length + 1 - p.length)
def findD (p : List Int) (d : S34) : List S61 := (hits d.f1 p).map fun (i : Nat) => ⟨d.f0, (i : Int)⟩
def findT (S : TS) (p : List Int) : List S61 := if p.length = 0 then [] else (docsT S).flatMap (findD p)
section
variable {W W' w w0 w1 : World} {ok ok' T : Nat → Prop} {t m : Nat} {S : TS} {x : TE} {es : List (Key × TE)}
set_option maxRecDepth 100000 in
set_option maxHeartbeats 4000000 in
theorem new_up (A : Option Addr) (n c : Nat) (docs : List S34) (w : World) (hK : Kd.C k34 w A n docs) (hs : ∀ i : Nat, i < docs.length → (rd_T34 docs i).f0.size ≤ maxLen ∧ (rd_T34 docs i).f1.length ≤ 140737488355328) (few : docs.length ≤ 1000000) :
    Calls Try.prog 9 #[.slice A n c] w fun e w' => ∃ g, e = .returned (.pointer (some ⟨g, 0, none⟩)) ∧ TabUp w' w (fun k => w.heap.size ≤ k) g (newT docs) := by
  have hn : docs.length = n := hK.1
  have HN := Aside0.mk hn
  have HK := Aside0.mk hK
  have HS := Aside0.mk hs
  have hn2 : n ≤ 1000000 := by omega
  clear hK hs hn few
  have hmm := @run_makeMap Try.prog
  have HT0 : Aside0 (TabUp ((w.alloc (.map #[] 0)).alloc (.cells #[.map (some w.heap.size)] 66)) w (fun k => w.heap.size ≤ k) (w.heap.size + 1) []) := ⟨by
    have hb : Below w.heap.size w ((w.alloc (.map #[] 0)).alloc (.cells #[.map (some w.heap.size)] 66)) := ((Below.refl _ _).alloc (Nat.le_refl _) _).alloc (by simp) _
    have h1 := heap_alloc_new (w.alloc (.map #[] 0)) (.cells #[.map (some w.heap.size)] 66)
    rw [show (w.alloc (.map #[] 0)).heap.size = w.heap.size + 1 from by simp] at h1
    refine ⟨⟨w.heap.size, [], rfl, h1, (HasMap.made KE Try.prog 9 w).step ?_, by omega, ⟨by omega, by omega⟩, ⟨Nat.le_refl _, Nat.le_refl _⟩, fun p hp => by cases hp⟩, hb⟩
    exact ((Below.refl (w.alloc (.map #[] 0)).heap.size (w.alloc (.map #[] 0))).alloc (Nat.le_refl _) _).block w.heap.size (by simp)⟩
  go_enter Try.func9, Try.ntmps9
  go_wp2
  go_loopg [11] n (fun gk s11 wr => ∃ i : Nat, i ≤ n ∧ n - i ≤ gk ∧ s11 = .int .i64 i ∧ Aside0 (TabUp wr w (fun k => w.heap.size ≤ k) (w.heap.size + 1) (newT (docs.take i))))
  case atStart => exact ⟨0, Nat.zero_le _, by omega, rfl, HT0⟩
  case round =>
    clear HT0
    obtain ⟨i, hi, hgk, rfl, HT⟩ := hrel
    by_cases hlt : i < n
    · obtain ⟨gk, rfl⟩ : ∃ q, gk = q + 1 := ⟨gk - 1, by omega⟩
      have hl := HN.out
      obtain ⟨ad, A1, c1, rfl, hx0, hx1, hc1, hC1⟩ := at_T34 (Kd.C_below HK.out HT.out.below) (i : Int) (by omega) (by omega)
      simp only [Int.toNat_natCast] at hx0 hx1
      obtain ⟨hs0, hs1⟩ := HS.out i (by omega)
      have HNX := Aside0.mk (newT_succ docs i (by omega))
      have HL := Aside0.mk (newT_len docs i (by omega))
      generalize rd_T34 docs (i : Int) = d at *
      obtain ⟨s, xs⟩ := d
      simp only at hx0 hx1 hc1 hC1 hs0 hs1 HNX
      have K := Aside0.mk (put_up (HT.out.alloc (.cells #[.string s, .slice A1 xs.length c1] 34)) (by have := HL.out; omega) s hs0 A1 xs.length c1 xs rfl (Kd.C_alloc hC1 _) hs1)
      clear hC1 hs0 hs1 hl
      go_wp2_with fail
      refine K.out.mono ?_
      rintro e w2 ⟨rfl, h2, _⟩
      have HT2 : Aside0 (TabUp w2 w (fun k => w.heap.size ≤ k) (w.heap.size + 1) (newT (docs.take (i + 1)))) := ⟨by rw [HNX.out]; exact h2.mono (fun k hk => hk.elim id (fun h => Nat.le_trans HT.out.below.size (Nat.le_trans (by simp) h)))⟩
      clear h2 K
      go_wp2
      go_roundg gk
      case measure => omega
      case rel => exact ⟨i + 1, by omega, by omega, by go_num, HT2⟩
    · obtain rfl : i = n := by omega
      have HE : Aside0 (newT (docs.take i) = newT docs) := ⟨by rw [← HN.out, List.take_length]⟩
      go_wp2
      go_ret
      exact ⟨w.heap.size + 1, rfl, by rw [← HE.out]; exact HT.out⟩
theorem find_nil (A : Option Addr) (n c : Nat) (w : World) : Calls Try.prog 16 #[.pointer none, .slice A n c] w fun e w' => e = .returned (.slice none 0 0) ∧ Below w.heap.size w w' := by
  by_cases h0 : n = 0
  · subst h0
    go_enter Try.func16, Try.ntmps16
    go_wp2
    go_ret
    exact ⟨rfl, Below.refl _ _⟩
  · have K := Aside0.mk (docs_nil w)
    have hz : ((n : Int) == 0) = false := by rw [beq_eq_false_iff_ne]; omega
    go_enter Try.func16, Try.ntmps16
    go_wp2_with fail
    refine K.out.mono ?_
    rintro e w1 ⟨rfl, hB⟩
    go_wp2
    go_loopg [5, 15] 0 (fun gk s5 s15 wr => s5 = .slice none 0 0 ∧ s15 = .int .i64 0 ∧ wr = w1)
    case atStart => exact ⟨rfl, rfl, rfl⟩
    case round =>
      obtain ⟨rfl, rfl, rfl⟩ := hrel
      go_wp2
      go_ret
      exact ⟨rfl, hB⟩
end
end Go.Proofs.Ytaghcepochjoeaa.Hand
