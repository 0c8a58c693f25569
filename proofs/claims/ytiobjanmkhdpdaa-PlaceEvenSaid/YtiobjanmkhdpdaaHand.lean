/- Two contracts by hand, in the form in which the printed texts tell theirs: place.Hash and slices.Sort at []int. -/
import Derived.Test.YtiobjanmkhdpdaaProg
import Derived.Test.YtiobjanmkhdpdaaShelf
import Derived.Test.YtiobjanmkhdpdaaWMore
import Derived.Test.YtiobjanmkhdpdaaWKept
import Derived.Lib.ConvBytes
import Derived.Sort.OwnSortedInts
import Derived.Test.YtiobjanmkhdpdaaWArr
namespace Go.Proofs.Ytiobjanmkhdpdaa.Hand
open Go.RowKit Go.Proofs.YtiobjanmkhdpdaaW.PrintWords Go.Proofs.YtiobjanmkhdpdaaW.PrintLast Go.Proofs.YtiobjanmkhdpdaaW.PrintMore

theorem below_bytesWorld (w : World) (e : TypeId) (s : ByteArray) : Below w.heap.size w (Lib.bytesWorld w e s) := by
  refine ⟨?_, ?_, ?_, by rw [Lib.bytesWorld_size]; omega, fun k hk => Lib.bytesWorld_at_old w e s k hk⟩ <;>
    simp [Lib.bytesWorld, World.freeze, World.alloc, World.drew, -World.alloc_eq, -World.drew_eq]

/-- One byte's part in the digest. -/
def hstep (h : Int) (c : Int) : Int := IntKind.u64.wrap (Go.bits .xor .u64 h (IntKind.u64.wrap c) * 1099511628211)
/-- The digest of the first k bytes. -/
def hfold (s : ByteArray) : Nat → Int
  | 0 => 14695981039346656037
  | k + 1 => hstep (hfold s k) (bt s k)
def place_Hash.f (a0 : ByteArray) : Option (Int) := if a0.size ≤ 140737488351232 then some (hfold a0 a0.size) else none

theorem u64_eq {a b : Int} (h : a = b) : Value.int .u64 a = Value.int .u64 b := by rw [h]

set_option maxHeartbeats 400000 in
theorem place_Hash.calls (a0 : ByteArray) (r : Int) (w : World) (h : place_Hash.f a0 = some r) :
    Calls Try.prog 13 #[.string a0] w fun e w' => e = .returned (.int .u64 r) ∧ Below w.heap.size w w' := by
  unfold place_Hash.f at h
  by_cases hs : a0.size ≤ 140737488351232
  case neg => rw [if_neg hs] at h; cases h
  rw [if_pos hs] at h
  obtain rfl := Option.some.inj h
  clear h
  have kc := fun (w : World) => Lib.run_convert_string_bytes (P := Try.prog) w 9 44 5 a0 Try.underlying9 Try.underlying44 Try.underlying5
  go_enter Try.func13, Try.ntmps13
  go_wp2
  go_loop [3, 9] (fun h i => ∃ k : Nat, k ≤ a0.size ∧ i = .int .i64 k ∧ h = .int .u64 (hfold a0 k)) (fun _ i => a0.size - (intOf i).toNat)
  case atStart => exact ⟨0, Nat.zero_le _, rfl, rfl⟩
  case round =>
    obtain ⟨k, hk, rfl, rfl⟩ := hrel
    by_cases hlt : k < a0.size
    · have hc := Lib.bytesWorld_cell w 5 a0 k hlt
      have hb : ((a0.data.toList.getD k 0).toNat : Int) = bt a0 k := by simp [bt, hlt]; rfl
      rw [hb] at hc
      clear hb
      generalize hq : hfold a0 k = q
      have HQ := Aside0.mk hq
      clear hq
      go_wp2
      go_round
      case rel =>
        refine ⟨k + 1, by omega, by go_num, ?_⟩
        refine u64_eq ?_
        show _ = hstep (hfold a0 k) (bt a0 k)
        rw [HQ.out]
        rfl
      case measure => simp [intOf]; omega
    · go_wp2
      go_ret
      refine ⟨?_, below_bytesWorld w 5 a0⟩
      obtain rfl : k = a0.size := by omega
      rfl

/-- A number laid into a rising list ahead of the first that is not less. -/
def ins (l : List Int) (x : Int) : List Int := l.takeWhile (fun y => decide (y < x)) ++ x :: l.dropWhile (fun y => decide (y < x))
def isort (l : List Int) : List Int := l.foldl ins []
theorem ins_perm (l : List Int) (x : Int) : (ins l x).Perm (l ++ [x]) := by
  unfold ins
  refine List.Perm.trans ?_ (List.perm_append_singleton x l).symm
  refine List.perm_middle.trans ?_
  rw [List.takeWhile_append_dropWhile]
theorem foldl_ins_perm (l : List Int) : ∀ a, (l.foldl ins a).Perm (a ++ l) := by
  induction l with
  | nil => intro a; simp
  | cons x l ih =>
    intro a
    rw [List.foldl_cons]
    refine (ih _).trans ?_
    refine ((ins_perm a x).append_right l).trans ?_
    simp
theorem mem_takeWhile_lt {l : List Int} {x y : Int} (h : y ∈ l.takeWhile (fun y => decide (y < x))) : y < x := by
  have := List.all_takeWhile (l := l) (p := fun y => decide (y < x))
  rw [List.all_eq_true] at this
  simpa using this y h
theorem ins_rises {l : List Int} (x : Int) (h : l.Pairwise (· ≤ ·)) : (ins l x).Pairwise (· ≤ ·) := by
  have h' := h
  rw [← List.takeWhile_append_dropWhile (p := fun y => decide (y < x)) (l := l)] at h'
  obtain ⟨h1, h2, h3⟩ := List.pairwise_append.1 h'
  unfold ins
  refine List.pairwise_append.2 ⟨h1, List.pairwise_cons.2 ⟨fun y hy => ?_, h2⟩, fun a ha b hb => ?_⟩
  · have hd : ∀ z, (l.dropWhile (fun y => decide (y < x))).head? = some z → x ≤ z := by
      intro z hz
      have := List.head?_dropWhile_not (fun y => decide (y < x)) l
      rw [hz] at this
      simp at this
      exact this
    cases hq : l.dropWhile (fun y => decide (y < x)) with
    | nil => rw [hq] at hy; simp at hy
    | cons z t =>
      rw [hq] at hy h2 hd
      have hz := hd z rfl
      rcases List.mem_cons.1 hy with rfl | hy
      · exact hz
      · have := (List.pairwise_cons.1 h2).1 y hy
        omega
  · rcases List.mem_cons.1 hb with rfl | hb
    · have := mem_takeWhile_lt ha
      omega
    · exact h3 a ha b hb
theorem foldl_ins_rises (l : List Int) : ∀ a : List Int, a.Pairwise (· ≤ ·) → (l.foldl ins a).Pairwise (· ≤ ·) := by
  induction l with
  | nil => intro a h; simpa using h
  | cons x l ih => intro a h; exact ih _ (ins_rises x h)
theorem sort_eq (l : List Int) : (l.mergeSort fun x y => decide (x ≤ y)) = isort l := by
  refine List.Perm.eq_of_pairwise (le := (· ≤ ·)) (fun a b _ _ h1 h2 => by omega) ?_ (foldl_ins_rises l [] List.Pairwise.nil) ((List.mergeSort_perm _ _).trans ?_)
  · refine (List.pairwise_mergeSort (le := fun x y => decide (x ≤ y)) ?_ ?_ l).imp ?_
    · intro a b c; simp; omega
    · intro a b; simp; omega
    · intro a b h; simpa using h
  · have := (foldl_ins_perm l []).symm
    simpa [isort] using this

def slices_Sort_int_int.f (l0 : List Int) : Option (List Int) := if l0.length < 4611686018427387904 then some (isort l0) else none

theorem calls_take_len {P : Program} {f : FuncId} {α : Type} {A : Option Addr} {l : List α} {x : Int} {c : Nat} {y : Value} {w : World} {R : Ending → World → Prop} (hx : x ≤ l.length)
    (h : Calls P f #[.slice A (l.take x.toNat).length c, y] w R) : Calls P f #[.slice A x.toNat c, y] w R := by
  rw [List.length_take, show min x.toNat l.length = x.toNat from by omega] at h
  exact h

theorem sort_ends {w : World} {g cap : Nat} {cur : Array Value} {l : List Int} {w' : World} (w0 : World) (P : Nat → Prop) (hB : Below w0.heap.size w0 w) (hP : P g) (hbase : w0.heap.size ≤ g) (hb : w.heap[g]? = some (.cells cur 3 (0, 0)))
    (h1 : l.length ≤ cap) (h2 : cap ≤ maxLen) (h3 : cur.size = cap * 1)
    (h : ∃ n os, w' = Sort.grow (Sort.putRow (Value.int .i64) (Sort.ahead w n) g 0 (l.mergeSort fun x y => decide (x ≤ y)).toArray) os) :
    Kd.R (Kd.int .i64) 3 w' w0.heap.size (fun k_ => (P k_ ∨ w.heap.size ≤ k_)) (.slice (some ⟨g, 0, none⟩) l.length cap) (l.mergeSort fun x y => decide (x ≤ y)) ∧ Below w0.heap.size w0 w' ∧ Kept w w' (fun k_ => P k_) := by
  obtain ⟨n, os, rfl⟩ := h
  have hl : (l.mergeSort fun x y => decide (x ≤ y)).length = l.length := List.length_mergeSort _
  have ho := Go.ownsRow_sortedI (n := n) (os := os) (ts := l.mergeSort fun x y => decide (x ≤ y)) hl hbase hb h1 h2 h3
  have hg := Go.grownBy_sortedI (w := w) (g := g) (n := n) (os := os) (l.mergeSort fun x y => decide (x ≤ y)).toArray
  refine ⟨⟨fun k hk => ?_, (l.mergeSort fun x y => decide (x ≤ y)).map (Value.int .i64), ?_, Kd.reps_scalar _⟩, hB.grown hg hB.size (fun k hk => by cases hk; exact hbase), hg.size, fun i hi hn => hg.block i hi (fun e => ?_)⟩
  · have : g = k := by simpa [Value.ownBlock] using hk
    subst this
    exact .inl hP
  · rw [hl]; exact ho
  · cases e
    exact hn hP

theorem slices_Sort_int_int.calls (P0_ : Nat → Prop) (u9000_ : Value) (l0 : List Int) (r : List Int) (w0 w : World) (hB : Below w0.heap.size w0 w) (ho0 : Kd.R (Kd.int .i64) 3 w w0.heap.size P0_ u9000_ l0) (h : slices_Sort_int_int.f l0 = some r) :
    Calls Try.prog 17 #[u9000_] w fun e w' => e = .returned (.tuple #[]) ∧ Kd.R (Kd.int .i64) 3 w' w0.heap.size (fun k_ => (P0_ k_ ∨ w.heap.size ≤ k_)) u9000_ r ∧ Below w0.heap.size w0 w' ∧ Kept w w' (fun k_ => P0_ k_) := by
  unfold slices_Sort_int_int.f at h
  by_cases hs : l0.length < 4611686018427387904
  case neg => rw [if_neg hs] at h; cases h
  rw [if_pos hs] at h
  obtain rfl := Option.some.inj h
  clear h
  rw [← sort_eq]
  obtain ⟨hp, inner, ho, hr⟩ := ho0
  obtain rfl := Kd.reps_encs (h := hr)
  rcases ho.2 with ⟨rfl, hl⟩ | ⟨g, cap, cur, rfl, hbase, hb, h1, h2, h3, h4⟩
  · obtain rfl := List.eq_nil_of_length_eq_zero hl
    refine (Try.slices_Sort_int_none none 0 w).mono ?_
    rintro e w' ⟨rfl, rfl⟩
    rw [List.mergeSort_nil]
    exact ⟨rfl, Kd.R_nil _ _ _ _ _, hB, Kept.refl _ _⟩
  · have h4' : cur.toList.take l0.length = l0.map (Value.int .i64) := by simpa [Kd.int, Kd.scalar, encs] using h4
    refine (Try.slices_Sort_int g 0 cap l0 w (Go.holds_of_blockI hb h4') (Array.getElem?_eq_some_iff.1 hb).1 hs).mono ?_
    rintro e w' ⟨rfl, hw⟩
    exact ⟨rfl, sort_ends w0 P0_ hB (hp g rfl) hbase hb h1 h2 h3 hw⟩
end Go.Proofs.Ytiobjanmkhdpdaa.Hand
