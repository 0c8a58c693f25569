/- known: what lasts, and a draw of the rest. -/
import Derived.Test.YtdepjlnljkbfjaaAppend
import Derived.Test.YtdepjlnljkbfjaaEach
import Derived.Test.YtdepjlnljkbfjaaCrash
import Derived.Test.YtdepjlnljkbfjaaPAx
import Derived.Lib.SlBytesConst
namespace Go.Proofs.Ytdepjlnljkbfjaa.Hand
open Go.RowKit Go.Proofs.Ytdepjlnljkbfjaa.PA Go.Proofs.Ytdepjlnljkbfjaa.MapP Go.Proofs.YtdepjlnljkbfjaaW.PrintWords Go.Proofs.YtdepjlnljkbfjaaW.PrintLast Go.Proofs.YtdepjlnljkbfjaaW.PrintMore
attribute [local go_sem] max2_int min2_int
set_option linter.unusedVariables false
set_option linter.unusedSimpArgs false
set_option linter.unusedSectionVars false
theorem same_refl0 (l : List Int) (hl : l.length ≤ 4611686018427387904) : ∀ (d i : Nat), i + d = l.length → haystacklaw10_same.l0 (d + 1) l l i = some true
  | 0, i, h => by
    unfold haystacklaw10_same.l0
    rw [if_neg (by omega)]
  | d + 1, i, h => by
    unfold haystacklaw10_same.l0
    have e : wrap64 ((i : Int) + 1) = ((i + 1 : Nat) : Int) := by unfold wrap64; omega
    rw [if_pos (by omega), if_pos (by omega), if_pos (by omega), if_pos rfl, e]
    exact same_refl0 l hl d (i + 1) (by omega)
theorem same_refl (l : List Int) (hl : l.length ≤ 4611686018427387904) : haystacklaw10_same.f (l.length + 1) l l = some true := by
  unfold haystacklaw10_same.f
  rw [if_pos rfl]
  exact same_refl0 l hl l.length 0 (by omega)
section
variable {w w0 W W' : World} {d m : Nat} {ok : Nat → Prop} {S S' : DV} {F : FL} {k : Key} {y : FV}
theorem rows_one {A : Option Addr} {c : Nat} {xs : List Int} (hC : Kd.C (Kd.int .u8) w A xs.length xs) (hc : xs.length ≤ c) (t : TypeId) : Kd.C (Kd.slice 5 (Kd.int .u8)) (w.alloc (.cells #[.slice A xs.length c] t)) (some ⟨w.heap.size, 0, none⟩) 1 [xs] := by
  refine ⟨rfl, by omega, fun _ => ⟨_, rfl, fun j p hj => ?_⟩⟩
  match j with
  | 0 =>
    cases hj
    refine ⟨[.slice A xs.length c], rfl, ⟨A, c, rfl, hc, Kd.C_alloc hC _⟩, fun i u hu => ?_⟩
    match i with
    | 0 =>
      simp at hu
      subst hu
      have h := blk_cell (heap_alloc_new w (.cells #[.slice A xs.length c] t)) 0
      rw [show (⟨w.heap.size, 0, none⟩ : Addr).add (0 * (Kd.slice 5 (Kd.int .u8)).sz + 0) = ⟨w.heap.size, 0, none⟩ from by simp [Addr.add]]
      rw [h]; rfl
    | i + 1 => simp at hu
  | j + 1 => simp at hj
theorem bytes_new (w : World) (xs : List Int) (hl : xs.length ≤ 9223372036854775807) (fr : Nat × Nat) : Kd.C (Kd.int .u8) (w.alloc (.cells (bts xs).toArray 5 fr)) (some ⟨w.heap.size, 0, none⟩) xs.length xs := by
  refine Kd.C_of_reads (d := (0 : Int)) (h1 := fun _ => rfl) ⟨rfl, hl, fun hp => ⟨_, rfl, fun j hj => ?_⟩⟩
  rw [Addr.add_lit, Nat.zero_add, cell_of_row _ _ j _ 5 fr (heap_alloc_new w _)]
  simp [hj]
/-- Append of one row, laid in a list of one. -/
theorem append1 (h : DiskUp w w0 ok d S) (s : ByteArray) (hsz : s.size ≤ maxLen) (A : Option Addr) (c : Nat) (xs : List Int) (hC : Kd.C (Kd.int .u8) w A xs.length xs) (hc : xs.length ≤ c) (hb : Bytes xs) (ht : xs.length ≤ 140737488355328) :
    Calls Try.prog 20 #[.pointer (some ⟨d, 0, none⟩), .string s, .slice (some ⟨w.heap.size, 0, none⟩) 1 1] (w.alloc (.cells #[.slice A xs.length c] 23)) fun e w' => e = .returned (.int .i64 (appendV S s xs).1) ∧ DiskUp w' w0 (fun k => ok k ∨ w.heap.size ≤ k) d (appendV S s xs).2 ∧ Kept w w' ok := by
  have h1 := append_walk (h.alloc (.cells #[.slice A xs.length c] 23)) s hsz (some ⟨w.heap.size, 0, none⟩) 1 [xs] (rows_one hC hc 23) (by simp) (fun l hl => by rw [List.mem_singleton.1 hl]; exact hb) (by simp) (by simpa using ht)
  have e : [xs].flatten = xs := by simp
  rw [e] at h1
  refine h1.mono ?_
  rintro e w' ⟨rfl, h2, h3⟩
  refine ⟨rfl, h2.mono (fun b hb => hb.imp_right (fun h => ?_)), ((Kept.refl w ok).alloc _).then_ h3 (fun b hb => .inl hb)⟩
  simp at h
  omega
/-- Sync of one file. -/
theorem sync1 (h : DiskUp w w0 ok d S) (s : ByteArray) (hsz : s.size ≤ maxLen) :
    Calls Try.prog 39 #[.pointer (some ⟨d, 0, none⟩), .slice (some ⟨w.heap.size, 0, none⟩) 1 1] (w.alloc (.cells #[.string s] 9)) fun e w' => e = .returned (.int .i64 (oneV syncX S s).1) ∧ DiskUp w' w0 (fun k => ok k ∨ w.heap.size ≤ k) d (oneV syncX S s).2 ∧ Kept w w' ok := by
  have hb := h.bound.alloc (.cells #[.string s] 9)
  have h1 := sync_up hb ⟨w.heap.size, 0, none⟩ [s] 1 (by simp) (fun W' hK j s' hj => by
    match j with
    | 0 =>
      cases hj
      refine ⟨?_, hsz⟩
      have h2 := (hK.2 w.heap.size (by simp) (fun h => by have := h.2.2; omega)).trans (heap_alloc_new w (.cells #[.string s] 9))
      rw [Addr.add_lit]
      rw [blk_cell h2]; rfl
    | j + 1 => simp at hj)
  have e : eachV syncX S [s] = oneV syncX S s := by
    unfold eachV
    split
    · rename_i h0
      unfold eachV
      exact Prod.ext h0.symm rfl
    · rfl
  rw [e] at h1
  refine h1.mono ?_
  rintro e w' ⟨rfl, h2, h3⟩
  refine ⟨rfl, h2.mono (fun b hb => ?_), ((Kept.refl w ok).alloc _).then_ h3 (fun b hb => .inl hb.1)⟩
  rcases hb with h | h
  · exact .inl h.1
  · right; simp at h; omega
end
abbrev nA : ByteArray := ⟨#[97]⟩
def S0 : DV := ⟨100, false, 0, []⟩
theorem k1 : appendV S0 nA [49, 50, 51, 52, 53] = (0, ⟨100, false, 0, [([97], ([49, 50, 51, 52, 53], 0))]⟩) := by kernel_rfl
theorem k2 : oneV syncX ⟨100, false, 0, [([97], ([49, 50, 51, 52, 53], 0))]⟩ nA = (0, ⟨100, false, 0, [([97], ([49, 50, 51, 52, 53], 5))]⟩) := by kernel_rfl
theorem k3 : appendV ⟨100, false, 0, [([97], ([49, 50, 51, 52, 53], 5))]⟩ nA [54, 55, 56] = (0, ⟨100, false, 0, [([97], ([49, 50, 51, 52, 53, 54, 55, 56], 5))]⟩) := by kernel_rfl
theorem k4 : crashV 1 ⟨100, false, 0, [([97], ([49, 50, 51, 52, 53, 54, 55, 56], 5))]⟩ = ⟨100, false, 0, [([97], ([49, 50, 51, 52, 53, 54], 6))]⟩ := by kernel_rfl
theorem k5 : readV ⟨100, false, 0, [([97], ([49, 50, 51, 52, 53, 54], 6))]⟩ nA = ([49, 50, 51, 52, 53, 54], 0) := by kernel_rfl
end Go.Proofs.Ytdepjlnljkbfjaa.Hand
