/- A Table: the little table that is known: one document, one key that is gone. -/
import Derived.Test.YtaghcepochjoeaaTabH
import Derived.Lib.SmallJoins
namespace Go.Proofs.Ytaghcepochjoeaa.Hand
open Go.RowKit Go.Proofs.Ytaghcepochjoeaa.PA Go.Proofs.Ytaghcepochjoeaa.MapV Go.Proofs.YtaghcepochjoeaaW.PrintWords Go.Proofs.YtaghcepochjoeaaW.PrintLast Go.Proofs.YtaghcepochjoeaaW.PrintMore
attribute [local go_sem] max2_int min2_int
set_option linter.unusedVariables false
set_option linter.unusedSimpArgs false
def bK : ByteArray := ⟨#[98]⟩
def cK : ByteArray := ⟨#[99]⟩
def kS : TS := [([98], ([97, 97], true)), ([99], ([], false))]
theorem kn1 : newT [⟨bK, [97, 97]⟩] = [([98], ([97, 97], true))] := by rfl
theorem kn2 : tdel [([98], ([97, 97], true))] cK = (0, kS) := by rfl
theorem kn3 : namesT kS = [bK, cK] := by
  unfold namesT kS
  rw [show (([([98], ([97, 97], true)), ([99], ([], false))] : TS).map (·.1)) = [[98], [99]] from rfl]
  rw [List.mergeSort_of_pairwise (by simp [leK]; decide)]
  rfl
theorem kn4 : docsT kS = [⟨bK, [97, 97]⟩] := by
  unfold docsT keysT
  rw [kn3]
  rfl
theorem kn5 : findT kS [97] = [⟨bK, 0⟩, ⟨bK, 1⟩] := by
  unfold findT
  rw [kn4]
  rfl
theorem doc_row {w : World} {A : Option Addr} {c : Nat} {xs : List Int} (s : ByteArray) (hA : Kd.C (Kd.int .u8) w A xs.length xs) (hc : xs.length ≤ c) (t : TypeId) :
    Kd.C k34 (w.alloc (.cells #[.string s, .slice A xs.length c] t)) (some ⟨w.heap.size, 0, none⟩) 1 [⟨s, xs⟩] := by
  have hb := heap_alloc_new w (.cells #[.string s, .slice A xs.length c] t)
  refine ⟨rfl, by omega, fun _ => ⟨_, rfl, fun j p hj => ?_⟩⟩
  match j with
  | 0 =>
    cases hj
    refine ⟨[.string s, .slice A xs.length c], rfl, k34_mk _ ⟨s, xs⟩ hc (Kd.C_alloc hA _), fun i u hu => ?_⟩
    match i with
    | 0 =>
      cases hu
      rw [Addr.add_lit, blk_cell hb]
      rfl
    | 1 =>
      cases hu
      rw [Addr.add_lit, blk_cell hb]
      rfl
    | i + 2 => simp at hu
  | j + 1 => simp at hj
theorem hit_row (w : World) (s s' : ByteArray) (a b : Int) (t : TypeId) :
    Kd.C k61 (w.alloc (.cells #[.string s, .int .i64 a, .string s', .int .i64 b] t)) (some ⟨w.heap.size, 0, none⟩) 2 [⟨s, a⟩, ⟨s', b⟩] := by
  have hb := heap_alloc_new w (.cells #[.string s, .int .i64 a, .string s', .int .i64 b] t)
  refine ⟨rfl, by omega, fun _ => ⟨_, rfl, fun j p hj => ?_⟩⟩
  match j with
  | 0 =>
    cases hj
    refine ⟨[.string s, .int .i64 a], rfl, k61_mk _ ⟨s, a⟩, fun i u hu => ?_⟩
    match i with
    | 0 =>
      cases hu
      rw [Addr.add_lit, blk_cell hb]
      rfl
    | 1 =>
      cases hu
      rw [Addr.add_lit, blk_cell hb]
      rfl
    | i + 2 => simp at hu
  | 1 =>
    cases hj
    refine ⟨[.string s', .int .i64 b], rfl, k61_mk _ ⟨s', b⟩, fun i u hu => ?_⟩
    match i with
    | 0 =>
      cases hu
      rw [Addr.add_lit, blk_cell hb]
      rfl
    | 1 =>
      cases hu
      rw [Addr.add_lit, blk_cell hb]
      rfl
    | i + 2 => simp at hu
  | j + 2 => simp at hj
theorem matches_refl0 (l : List S61) (hl : l.length ≤ 4611686018427387904) : ∀ (d i : Nat), i + d = l.length → haystacklaw12_matches.l0 (d + 1) l l i = some true
  | 0, i, h => by
    unfold haystacklaw12_matches.l0
    rw [if_neg (by omega)]
  | d + 1, i, h => by
    unfold haystacklaw12_matches.l0
    rw [if_pos (by omega), if_pos (by omega), if_pos (by omega), if_neg (by simp)]
    rw [show wrap64 ((i : Int) + 1) = ((i + 1 : Nat) : Int) from by unfold wrap64; omega]
    exact matches_refl0 l hl d (i + 1) (by omega)
theorem matches_refl (l : List S61) (hl : l.length ≤ 4611686018427387904) : haystacklaw12_matches.f (l.length + 1) l l = some true := by
  unfold haystacklaw12_matches.f
  rw [if_pos rfl]
  exact matches_refl0 l hl l.length 0 (by omega)
set_option maxRecDepth 100000 in
theorem known_calls (w : World) : Calls Try.prog 7 #[] w fun e w' => e = .returned (.bool true) ∧ Below w.heap.size w w' := by
  have kc := fun (w : World) (C : Array Value) (n c : Nat) => Lib.run_convert_bytes_const (P := Try.prog) w 30 5 C n c Try.underlying30 Try.underlying5
  have hC1 := bytes_new w [97, 97] (by simp) (2, 3)
  have hD := doc_row (c := 2) bK hC1 (by simp) 34
  rw [show (w.alloc (.cells (bts [97, 97]).toArray 5 (2, 3))).heap.size = w.heap.size + 1 from by simp] at hD
  have k1 := new_up _ _ 1 [⟨bK, [97, 97]⟩] _ hD (fun i hi => by
    obtain rfl : i = 0 := by simpa using hi
    exact ⟨show (1 : Nat) ≤ maxLen from by unfold maxLen; omega, show (2 : Nat) ≤ 140737488355328 from by omega⟩) (by simp)
  rw [kn1] at k1
  have K1 := Aside0.mk k1
  clear k1 hD hC1
  go_enter Try.func7, Try.ntmps7
  go_wp2_with fail
  refine K1.out.mono ?_
  rintro e w1 ⟨g, rfl, h1⟩
  have k2 := del_up h1 (by simp) cK (show (1 : Nat) ≤ maxLen from by unfold maxLen; omega)
  rw [kn2] at k2
  have K2 := Aside0.mk k2
  clear k2 h1 K1
  go_wp2_with fail
  refine K2.out.mono ?_
  rintro e w2 ⟨rfl, h2, _⟩
  have hC3 := bytes_new w2 [97] (by simp) (1, 2)
  have k3 := find_up (h2.alloc (.cells (bts [97]).toArray 5 (1, 2))) (by simp [kS]) (by intro p hp; simp [kS] at hp; rcases hp with rfl | rfl <;> simp) (some ⟨w2.heap.size, 0, none⟩) 1 1 [97] hC3 (by simp)
  rw [kn5] at k3
  have K3 := Aside0.mk k3
  have H2 := Aside0.mk h2
  clear k3 hC3 h2 K2
  go_wp2_with fail
  refine K3.out.mono ?_
  rintro e w3 ⟨A3, c3, rfl, hc3, hR3, hb3⟩
  have HB3 := Aside0.mk hb3
  have hC4 := (Kd.R_reads' hR3).2.2
  have k4 := haystacklaw12_matches.calls 3 A3 c3 [⟨bK, 0⟩, ⟨bK, 1⟩] (some ⟨w3.heap.size, 0, none⟩) 2 [⟨bK, 0⟩, ⟨bK, 1⟩] true (w3.alloc (.cells #[.string bK, .int .i64 0, .string bK, .int .i64 1] 61)) (Kd.C_alloc hC4 _) hc3 (hit_row w3 bK bK 0 1 61) (by simp) (matches_refl [⟨bK, 0⟩, ⟨bK, 1⟩] (by simp))
  have K4 := Aside0.mk k4
  clear k4 hC4 hR3 hb3 K3
  go_wp2_with fail
  refine K4.out.mono ?_
  rintro e w4 ⟨rfl, hb4⟩
  have B1 : Below w.heap.size w w2 := (((Below.refl _ _).alloc (Nat.le_refl _) _).alloc (by simp) _).trans (H2.out.below.mono (by simp; omega))
  have B2 : Below w2.heap.size w2 w3 := ((Below.refl _ _).alloc (Nat.le_refl _) _).trans (HB3.out.mono (by simp))
  have B3 : Below w3.heap.size w3 w4 := ((Below.refl _ _).alloc (Nat.le_refl _) _).trans (hb4.below.mono (by simp))
  have HB := Aside0.mk (B1.trans ((B2.trans (B3.mono B2.size)).mono B1.size))
  have k5 := len_up (H2.out.quiet (B2.trans (B3.mono B2.size)))
  have K5 := Aside0.mk k5
  clear k5 B1 B2 B3 hb4 HB3 K4 H2
  go_wp2_with fail
  refine K5.out.mono ?_
  rintro e w5 ⟨rfl, rfl⟩
  go_wp2
  go_ret
  exact ⟨rfl, HB.out⟩
end Go.Proofs.Ytaghcepochjoeaa.Hand
