/- The first contracts by hand: New, may, done, Used. -/
import Derived.Test.YtdepjlnljkbfjaaState
import Derived.Deep.DeepMust
import Derived.Carry
namespace Go.Proofs.Ytdepjlnljkbfjaa.Hand
open Go.RowKit Go.Proofs.Ytdepjlnljkbfjaa.MapP Go.Proofs.YtdepjlnljkbfjaaW.PrintWords Go.Proofs.YtdepjlnljkbfjaaW.PrintLast Go.Proofs.YtdepjlnljkbfjaaW.PrintMore
attribute [local go_sem] max2_int min2_int
set_option linter.unusedVariables false
set_option linter.unusedSimpArgs false
set_option linter.unusedSectionVars false

theorem PT : PM Try.prog 66 9 73 := ⟨Try.underlying9, Try.underlying66, Try.zeroValue73⟩
def badName (s : ByteArray) : Bool := decide (s.size < 1) || decide (64 < s.size)
/-- The errors ahead of all else. -/
def mayV (fused : Bool) (left : Int) (names : List ByteArray) : Int := if (fused && decide (left = 0)) = true then 9 else if names.any badName = true then 1 else 0
section
variable {w w0 : World} {d m : Nat} {room left : Int} {fused : Bool} {ok : Nat → Prop} {S : DV}
theorem Head.c0 (h : Head w d m room fused left) : w.cell? ⟨d, 0, none⟩ = some (.int .i64 room) := by rw [blk_cell h]; rfl
theorem Head.c1 (h : Head w d m room fused left) : w.cell? ⟨d, 1, none⟩ = some (.map (some m)) := by rw [blk_cell h]; rfl
theorem Head.c2 (h : Head w d m room fused left) : w.cell? ⟨d, 2, none⟩ = some (.bool fused) := by rw [blk_cell h]; rfl
theorem Head.c3 (h : Head w d m room fused left) : w.cell? ⟨d, 3, none⟩ = some (.int .i64 left) := by rw [blk_cell h]; rfl
theorem Head.fz (h : Head w d m room fused left) (i : Nat) : w.frozen? ⟨d, i, none⟩ = false := blk_frozen h i
theorem may_nil (v : Value) (w : World) : Calls Try.prog 44 #[.pointer none, v] w fun e w' => e = .returned (.int .i64 1) ∧ w' = w := by
  go_enter Try.func44, Try.ntmps44
  go_wp2
  go_ret
  exact ⟨rfl, rfl⟩
theorem may_dead (h : Head w d m room true 0) (v : Value) : Calls Try.prog 44 #[.pointer (some ⟨d, 0, none⟩), v] w fun e w' => e = .returned (.int .i64 9) ∧ w' = w := by
  have h0 := h.c2
  have h1 := h.c3
  go_enter Try.func44, Try.ntmps44
  go_wp2
  go_ret
  exact ⟨rfl, rfl⟩
theorem any_bad (names : List ByteArray) (i : Nat) (s : ByteArray) (hs : names[i]? = some s) (hb : badName s = true) : names.any badName = true := by
  rw [List.any_eq_true]
  exact ⟨s, List.mem_of_getElem? hs, hb⟩
theorem may_live (r : Int) (names : List ByteArray) (h : Head w d m room fused left) (hr : r = if names.any badName = true then 1 else 0) (hl : fused = true → left ≠ 0) (a : Addr) (c : Nat) (hc : names.length ≤ 4611686018427387904) (hn : ∀ (j : Nat) (s : ByteArray), names[j]? = some s → w.cell? (a.add j) = some (.string s) ∧ s.size ≤ maxLen) :
    Calls Try.prog 44 #[.pointer (some ⟨d, 0, none⟩), .slice (some a) names.length c] w fun e w' => e = .returned (.int .i64 r) ∧ w' = w := by
  have HR := Aside0.mk hr
  clear hr
  have h0 := h.c2
  have h1 := h.c3
  have HN := Aside0.mk hn
  have HH := Aside0.mk h
  clear hn h
  go_enter Try.func44, Try.ntmps44
  cases fused
  case' true => have hl := hl rfl
  all_goals
    go_wp2
    go_loopw [24] (fun s24 wr => ∃ (i : Nat), i ≤ names.length ∧ s24 = .int .i64 i ∧ wr = w ∧ Aside0 (∀ j : Nat, j < i → ∀ s, names[j]? = some s → badName s = false)) (fun s _ => names.length - (intOf s).toNat)
    case atStart => exact ⟨0, Nat.zero_le _, rfl, rfl, ⟨fun j hj => by omega⟩⟩
    case round =>
      obtain ⟨i, hi, rfl, rfl, HI⟩ := hrel
      by_cases hlt : i < names.length
      · obtain ⟨s, hs⟩ : ∃ s, names[i]? = some s := ⟨_, List.getElem?_eq_getElem hlt⟩
        obtain ⟨hcell, hsz⟩ := HN.out i s hs
        have HS := Aside0.mk hs
        clear hs
        by_cases hs1 : s.size < 1
        · go_wp2
          go_ret
          rw [any_bad names i s HS.out (by unfold badName; rw [decide_eq_true hs1]; rfl)] at HR; exact ⟨by rw [HR.out]; rfl, rfl⟩
        · by_cases hs2 : 64 < s.size
          · go_wp2
            go_ret
            rw [any_bad names i s HS.out (by unfold badName; rw [decide_eq_true hs2, decide_eq_false hs1]; rfl)] at HR; exact ⟨by rw [HR.out]; rfl, rfl⟩
          · go_wp2
            go_roundw
            case measure => simp [intOf]; omega
            case rel =>
              refine ⟨i + 1, by omega, by go_num, by first | rfl | trivial, ⟨fun j hj s' hs' => ?_⟩⟩
              by_cases e : j = i
              · subst e
                rw [HS.out] at hs'
                injection hs' with hs'
                subst hs'
                show (decide (s.size < 1) || decide (64 < s.size)) = false
                rw [decide_eq_false hs1, decide_eq_false hs2]; rfl
              · exact HI.out j (by omega) s' hs'
      · have hb : names.any badName = false := by
          rw [List.any_eq_false]
          intro s hs
          obtain ⟨j, hj⟩ := List.mem_iff_getElem?.1 hs
          rw [HI.out j (by have := (List.getElem?_eq_some_iff.1 hj).1; omega) s hj]
          simp
        have HB := Aside0.mk hb
        clear hb
        go_wp2
        go_ret
        exact ⟨by rw [HR.out, HB.out]; rfl, rfl⟩
theorem may_calls (h : Head w d m room fused left) (a : Addr) (names : List ByteArray) (c : Nat) (hc : names.length ≤ 4611686018427387904) (hn : ∀ (j : Nat) (s : ByteArray), names[j]? = some s → w.cell? (a.add j) = some (.string s) ∧ s.size ≤ maxLen) :
    Calls Try.prog 44 #[.pointer (some ⟨d, 0, none⟩), .slice (some a) names.length c] w fun e w' => e = .returned (.int .i64 (mayV fused left names)) ∧ w' = w := by
  by_cases hd : (fused && decide (left = 0)) = true
  · have e : mayV fused left names = 9 := by unfold mayV; rw [if_pos hd]
    rw [e]
    simp at hd
    obtain ⟨rfl, rfl⟩ := hd
    exact may_dead h _
  · have e : mayV fused left names = if names.any badName = true then 1 else 0 := by unfold mayV; rw [if_neg hd]
    rw [e]
    exact may_live _ names h rfl (fun e1 e2 => hd (by simp [e1, e2])) a c hc hn
def doneL (fused : Bool) (left : Int) : Int := if fused = true then left - 1 else left
theorem done_calls (h : Head w d m room fused left) (hl : 0 ≤ left) (hl2 : left ≤ 9223372036854775807) :
    Calls Try.prog 47 #[.pointer (some ⟨d, 0, none⟩)] w fun e w' => e = .returned (.int .i64 0) ∧ Head w' d m room fused (doneL fused left) ∧ Kept w w' (fun k => k = d) ∧ (∀ B, B ≤ d → Below B w w') := by
  have h0 := h.c2
  have h1 := h.c3
  have f1 := h.fz 3
  go_enter Try.func47, Try.ntmps47
  cases fused
  · go_wp2
    go_ret
    exact ⟨rfl, h, Kept.refl _ _, fun B hB => Below.refl _ _⟩
  · go_wp2
    go_ret
    refine ⟨rfl, ?_, (Kept.refl w (fun k => k = d)).setCell (p := ⟨d, 3, none⟩) (.inl rfl) _, fun B hB => (Below.refl _ _).setCell (p := ⟨d, 3, none⟩) hB _⟩
    have := blk_set h 3 (.int .i64 (left - 1))
    exact this
theorem new_calls (room : Int) (w : World) (h0 : 0 ≤ room) (h1 : room ≤ 1073741824) :
    Calls Try.prog 9 #[.int .i64 room] w fun e w' => e = .returned (.tuple #[.pointer (some ⟨w.heap.size + 1, 0, none⟩), .int .i64 0]) ∧ DiskUp w' w (fun k => w.heap.size ≤ k) (w.heap.size + 1) ⟨room, false, 0, []⟩ := by
  have hmm := @run_makeMap Try.prog
  go_enter Try.func9, Try.ntmps9
  go_wp2
  go_ret2
  refine ⟨rfl, ⟨w.heap.size, [], ⟨?_, ?_, fun p hp => (by cases hp), ?_, rfl⟩, ?_⟩, ?_, ?_⟩
  · have := heap_alloc_new (w.alloc (.map #[] 0)) (.cells #[.int .i64 room, .map (some w.heap.size), .bool false, .int .i64 0] 68)
    have e : (w.alloc (.map #[] 0)).heap.size = w.heap.size + 1 := by simp
    rw [e] at this
    exact this
  · exact (HasMap.made Try.prog 9 w).step (Below.heap_alloc _ _ _ (by simp))
  · simp [foot, blocks]
  · intro b hb
    simp [foot, blocks] at hb
    rcases hb with rfl | rfl <;> simp
  · exact ((Below.refl _ _).alloc (Nat.le_refl _) _).alloc (by simp) _
  · exact ⟨h0, h1, by simp, by simp, by simpa [total] using h0, fun p hp => (by cases hp), List.nodup_nil, by simp⟩
/-- How many bytes a file has. -/
def lenAt (F : FL) (p : Key × Nat) : Nat := match at_ F p.1 with
  | some y => y.x.1.length
  | none => 0
def sumOf (F : FL) (l : List (Key × Nat)) : Nat := (l.map (lenAt F)).sum
theorem sumOf_perm (F : FL) {l l' : List (Key × Nat)} (h : l.Perm l') : sumOf F l = sumOf F l' := (h.map _).sum_nat
theorem sumOf_all (F : FL) (ho : Once F) : sumOf F (gm F) = total (xm F) := by
  have : ∀ l : FL, (∀ p ∈ l, at_ F p.1 = some p.2) → sumOf F (gm l) = total (xm l) := by
    intro l
    induction l with
    | nil => intro _; rfl
    | cons p l ih =>
      intro h
      have h1 := h p (by simp)
      have h2 := ih (fun q hq => h q (by simp [hq]))
      simp only [sumOf, gm, xm, List.map_cons, List.sum_cons, total] at h2 ⊢
      rw [h2]
      congr 1
      unfold lenAt
      rw [h1]
  exact this F (fun p hp => ho.at_of_mem hp)
theorem used_nil (w : World) : Calls Try.prog 46 #[.pointer none] w fun e w' => e = .returned (.int .i64 0) ∧ w' = w := by
  go_enter Try.func46, Try.ntmps46
  go_wp2
  go_ret
  exact ⟨rfl, rfl⟩
theorem sumOf_cons (F : FL) (p : Key × Nat) (l : List (Key × Nat)) : sumOf F (p :: l) = lenAt F p + sumOf F l := by simp [sumOf]
theorem Dat.slice {W : World} {v : Value} {xs : List Int} (h : Dat W v xs) : ∃ A c, v = .slice A xs.length c ∧ xs.length ≤ c := by
  obtain ⟨A, c, h1, h2, _⟩ := h
  exact ⟨A, c, h1, h2⟩
theorem FileAt.c0 {W : World} {y : FV} (h : FileAt W y) : W.cell? ⟨y.g, 0, none⟩ = some y.v := by rw [blk_cell h.1]; rfl
theorem FileAt.c1 {W : World} {y : FV} (h : FileAt W y) : W.cell? ⟨y.g, 1, none⟩ = some (.int .i64 y.x.2) := by rw [blk_cell h.1]; rfl
end
end Go.Proofs.Ytdepjlnljkbfjaa.Hand
