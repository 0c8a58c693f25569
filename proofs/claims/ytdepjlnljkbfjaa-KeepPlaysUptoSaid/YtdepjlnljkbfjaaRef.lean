/- The reference's disk in memory: a row of files behind a pointer. -/
import Derived.Test.YtdepjlnljkbfjaaClear
import Derived.Sort.Walk0
import Derived.Deep.QuietTactic
import Derived.BigQuiet
namespace Go.Proofs.Ytdepjlnljkbfjaa.Hand
open Go.RowKit Go.Proofs.Ytdepjlnljkbfjaa.PA Go.Proofs.Ytdepjlnljkbfjaa.MapP Go.Proofs.YtdepjlnljkbfjaaW.PrintWords Go.Proofs.YtdepjlnljkbfjaaW.PrintLast Go.Proofs.YtdepjlnljkbfjaaW.PrintMore
attribute [local go_sem] max2_int min2_int
set_option linter.unusedVariables false
set_option linter.unusedSimpArgs false
set_option linter.unusedSectionVars false
/-- A file of the reference: its name, its bytes' slice, its bytes and how many last. -/
structure RE where
  nm : ByteArray
  v : Value
  x : List Int × Nat
def flatE (e : RE) : List Value := [.string e.nm, e.v, .int .i64 e.x.2]
def flatR (es : List RE) : List Value := es.flatMap flatE
theorem flatR_len (es : List RE) : (flatR es).length = es.length * 3 := by
  unfold flatR
  induction es with
  | nil => rfl
  | cons e es ih => rw [List.flatMap_cons, List.length_append, ih, List.length_cons]; simp [flatE]; omega
theorem flatR_app (a b : List RE) : flatR (a ++ b) = flatR a ++ flatR b := by simp [flatR]
theorem flatR_at {es : List RE} {i : Nat} {e : RE} (h : es[i]? = some e) (j : Nat) (hj : j < 3) : (flatR es)[i * 3 + j]? = (flatE e)[j]? := by
  have hi : i < es.length := (List.getElem?_eq_some_iff.1 h).1
  have e1 : es = es.take i ++ (e :: es.drop (i + 1)) := by
    have h2 := List.getElem_cons_drop hi
    have h3 : es[i] = e := (List.getElem?_eq_some_iff.1 h).2
    rw [← h3, h2, List.take_append_drop]
  rw [e1, flatR_app, List.getElem?_append_right (by rw [flatR_len, List.length_take]; omega), flatR_len, List.length_take, Nat.min_eq_left (by omega), Nat.add_sub_cancel_left]
  show (flatE e ++ flatR (es.drop (i + 1)))[j]? = _
  rw [List.getElem?_append_left (by simpa [flatE] using hj)]
theorem flatR_set {es : List RE} {i : Nat} {e e' : RE} (h : es[i]? = some e) (j : Nat) (hj : j < 3) (u : Value) (he : flatE e' = (flatE e).set j u) : flatR (es.set i e') = (flatR es).set (i * 3 + j) u := by
  have hi : i < es.length := (List.getElem?_eq_some_iff.1 h).1
  have h3 : es[i] = e := (List.getElem?_eq_some_iff.1 h).2
  have e1 : es = es.take i ++ (e :: es.drop (i + 1)) := by
    have h2 := List.getElem_cons_drop hi
    rw [← h3, h2, List.take_append_drop]
  have e2 : es.set i e' = es.take i ++ (e' :: es.drop (i + 1)) := by rw [List.set_eq_take_append_cons_drop, if_pos hi]
  have hl : (flatR (es.take i)).length = i * 3 := by rw [flatR_len, List.length_take, Nat.min_eq_left (by omega)]
  have e3 : flatR es = flatR (es.take i) ++ (flatE e ++ flatR (es.drop (i + 1))) := (congrArg flatR e1).trans (flatR_app _ _)
  rw [e2, flatR_app, e3, List.set_append_right _ _ (by rw [hl]; omega), hl, Nat.add_sub_cancel_left]
  congr 1
  show flatE e' ++ flatR (es.drop (i + 1)) = (flatE e ++ flatR (es.drop (i + 1))).set j u
  rw [he, List.set_append_left _ _ (by simpa [flatE] using hj)]
/-- What the reference's disk is. -/
structure RV where
  room : Int
  left : Int
  L : List (Key × (List Int × Nat))
def keyR (e : RE) : Key × (List Int × Nat) := (e.nm.data.toList, e.x)
structure RV.Fine (R : RV) : Prop where
  r0 : 0 ≤ R.room
  r1 : R.room ≤ 1073741824
  l0 : -1 ≤ R.left
  l1 : R.left ≤ 9223372036854775807
  used : (total R.L : Int) ≤ R.room
  lasts : ∀ p ∈ R.L, p.2.2 ≤ p.2.1.length
  many : R.L.length ≤ 4096
def HeadR (w : World) (r : Nat) (room : Int) (vL : Value) (left : Int) : Prop := w.heap[r]? = some (.cells #[.int .i64 room, vL, .int .i64 left] 79 (0, 0))
def footR (r : Nat) (vL : Value) (es : List RE) : List Nat := r :: (vL.ownBlock.toList ++ es.flatMap fun e => e.v.ownBlock.toList)
structure IsRef (W : World) (base r : Nat) (R : RV) (vL : Value) (es : List RE) : Prop where
  head : HeadR W r R.room vL R.left
  row : W.ownsRow base 82 3 vL es.length (flatR es)
  dat : ∀ e ∈ es, Dat W e.v e.x.1
  val : R.L = es.map keyR
section
variable {W W' w w0 : World} {base r : Nat} {R R' : RV} {vL : Value} {es : List RE} {e : RE} {ok : Nat → Prop}
theorem HeadR.c0 (h : HeadR W r R.room vL R.left) : W.cell? ⟨r, 0, none⟩ = some (.int .i64 R.room) := by rw [blk_cell h]; rfl
theorem HeadR.c1 (h : HeadR W r R.room vL R.left) : W.cell? ⟨r, 1, none⟩ = some vL := by rw [blk_cell h]; rfl
theorem HeadR.c2 (h : HeadR W r R.room vL R.left) : W.cell? ⟨r, 2, none⟩ = some (.int .i64 R.left) := by rw [blk_cell h]; rfl
theorem HeadR.fz {room left : Int} (h : HeadR W r room vL left) (i : Nat) : W.frozen? ⟨r, i, none⟩ = false := blk_frozen h i
theorem IsRef.len (h : IsRef W base r R vL es) : R.L.length = es.length := by rw [h.val, List.length_map]
theorem IsRef.slice (h : IsRef W base r R vL es) : ∃ A c, vL = .slice A es.length c ∧ es.length ≤ c ∧ (A = none → es.length = 0) ∧ ∀ a, A = some a → ∃ g, a = ⟨g, 0, none⟩ := by
  rcases h.row.2 with ⟨rfl, h0⟩ | ⟨g, cap, cur, rfl, _, _, h1, _⟩
  · exact ⟨none, 0, by rw [h0], by omega, fun _ => h0, fun a ha => by cases ha⟩
  · exact ⟨_, cap, rfl, h1, fun h => (by cases h), fun a ha => ⟨g, (Option.some.inj ha).symm⟩⟩
/-- The cells of the file at a place. -/
theorem IsRef.at_ (h : IsRef W base r R vL es) {i : Nat} (hi : es[i]? = some e) : ∃ g c, vL = .slice (some ⟨g, 0, none⟩) es.length c ∧ es.length ≤ c ∧ W.cell? ⟨g, i * 3, none⟩ = some (.string e.nm) ∧ W.cell? ⟨g, i * 3 + 1, none⟩ = some e.v ∧ W.cell? ⟨g, i * 3 + 2, none⟩ = some (.int .i64 e.x.2) ∧ ∀ j, W.frozen? ⟨g, j, none⟩ = false := by
  have hlt : i < es.length := (List.getElem?_eq_some_iff.1 hi).1
  have hrow := h.row
  rcases hrow.2 with ⟨rfl, h0⟩ | ⟨g, cap, cur, rfl, _, _, h1, _⟩
  · omega
  · refine ⟨g, cap, rfl, h1, ?_, ?_, ?_, fun j => hrow.frozenAt j⟩
    · rw [hrow.cellAt (i * 3) (by omega)]; exact (flatR_at hi 0 (by omega)).trans rfl
    · rw [hrow.cellAt (i * 3 + 1) (by omega)]; exact (flatR_at hi 1 (by omega)).trans rfl
    · rw [hrow.cellAt (i * 3 + 2) (by omega)]; exact (flatR_at hi 2 (by omega)).trans rfl
theorem mem_footR {e : RE} (he : e ∈ es) {b : Nat} (hb : e.v.ownBlock = some b) : b ∈ footR r vL es := by
  unfold footR
  simp only [List.mem_cons, List.mem_append, List.mem_flatMap]
  exact .inr (.inr ⟨e, he, by simp [hb]⟩)
theorem IsRef.lt (h : IsRef W base r R vL es) : ∀ b ∈ footR r vL es, b < W.heap.size := by
  intro b hb
  unfold footR at hb
  simp only [List.mem_cons, List.mem_append, List.mem_flatMap] at hb
  rcases hb with rfl | hb | ⟨e, he, hb⟩
  · exact blk_lt h.head
  · exact (h.row.lt b (by simpa using hb)).2
  · exact (h.dat e he).lt (by simpa using hb)
theorem row_step {v : Value} {n : Nat} {xs : List Value} {sz : Nat} {t : TypeId} (h : W.ownsRow base t sz v n xs) (hs : ∀ b, v.ownBlock = some b → W'.heap[b]? = W.heap[b]?) : W'.ownsRow base t sz v n xs := by
  refine ⟨h.1, h.2.imp_right ?_⟩
  rintro ⟨g, cap, cur, rfl, h1, h2, h3⟩
  exact ⟨g, cap, cur, rfl, h1, (hs g rfl).trans h2, h3⟩
theorem IsRef.step (h : IsRef W base r R vL es) (hs : ∀ b ∈ footR r vL es, W'.heap[b]? = W.heap[b]?) : IsRef W' base r R vL es :=
  ⟨(hs r (by simp [footR])).trans h.head, row_step h.row (fun b hb => hs b (by simp [footR, hb])), fun e he => (h.dat e he).step (fun g hg => hs g (mem_footR he hg)), h.val⟩
/-- The row, its head's pointer and the bytes lie in blocks of three types. -/
theorem IsRef.row_ne (h : IsRef W base r R vL es) : vL.ownBlock ≠ some r := by
  intro e
  rcases h.row.2 with ⟨rfl, _⟩ | ⟨g, cap, cur, rfl, _, hb, _⟩
  · cases e
  · have e : some g = some r := e
    injection e with e
    subst e
    have := h.head
    rw [HeadR, hb] at this
    injection this with this
    injection this with _ this
    cases this
theorem dat_type {v : Value} {xs : List Int} (h : Dat W v xs) {b : Nat} (hb : v.ownBlock = some b) : ∃ cur, W.heap[b]? = some (.cells cur 5 (0, 0)) := by
  obtain ⟨A, c, rfl, _, _, h3⟩ := h
  rcases h3 with ⟨rfl, _⟩ | ⟨g, cur, rfl, h4, _⟩
  · cases hb
  · have hb : some g = some b := hb
    injection hb with hb
    subst hb
    exact ⟨cur, h4⟩
theorem IsRef.dat_ne_row (h : IsRef W base r R vL es) (he : e ∈ es) {b : Nat} (hb : e.v.ownBlock = some b) : vL.ownBlock ≠ some b := by
  intro e2
  obtain ⟨cur, h1⟩ := dat_type (h.dat e he) hb
  rcases h.row.2 with ⟨rfl, _⟩ | ⟨g, cap, cur, rfl, _, h2, _⟩
  · cases e2
  · have e2 : some g = some b := e2
    injection e2 with e2
    subst e2
    rw [h1] at h2
    injection h2 with h2
    injection h2 with _ h2
    cases h2
theorem IsRef.dat_ne_head (h : IsRef W base r R vL es) (he : e ∈ es) {b : Nat} (hb : e.v.ownBlock = some b) : b ≠ r := by
  intro e2
  subst e2
  obtain ⟨cur, h1⟩ := dat_type (h.dat e he) hb
  have h2 := h.head
  rw [HeadR, h1] at h2
  injection h2 with h2
  injection h2 with _ h2
  cases h2
/-- The head is written. -/
theorem IsRef.headed (h : IsRef W base r R vL es) (hh : HeadR W' r R'.room vL R'.left) (hs : ∀ b ∈ footR r vL es, b ≠ r → W'.heap[b]? = W.heap[b]?) (hL : R'.L = R.L) : IsRef W' base r R' vL es :=
  ⟨hh, row_step h.row (fun b hb => hs b (by simp [footR, hb]) (fun e => h.row_ne (by rw [hb, e]))), fun e he => (h.dat e he).step (fun g hg => hs g (mem_footR he hg) (h.dat_ne_head he hg)), hL.trans h.val⟩
/-- A reference's disk whose blocks are ok; the world ahead of w0's end stands. -/
structure RefUp (W w0 : World) (ok : Nat → Prop) (r : Nat) (R : RV) : Prop where
  is : ∃ vL es, IsRef W w0.heap.size r R vL es ∧ ∀ b ∈ footR r vL es, ok b ∧ w0.heap.size ≤ b
  below : Below w0.heap.size w0 W
  fine : R.Fine
theorem RefUp.mono (h : RefUp W w0 ok r R) {ok' : Nat → Prop} (hm : ∀ k, ok k → ok' k) : RefUp W w0 ok' r R := by
  obtain ⟨⟨vL, es, h1, h2⟩, h3, h4⟩ := h
  exact ⟨⟨vL, es, h1, fun b hb => ⟨hm b (h2 b hb).1, (h2 b hb).2⟩⟩, h3, h4⟩
theorem RefUp.bound (h : RefUp W w0 ok r R) : RefUp W w0 (fun k => ok k ∧ w0.heap.size ≤ k ∧ k < W.heap.size) r R := by
  obtain ⟨⟨vL, es, h1, h2⟩, h3, h4⟩ := h
  exact ⟨⟨vL, es, h1, fun b hb => ⟨⟨(h2 b hb).1, (h2 b hb).2, h1.lt b hb⟩, (h2 b hb).2⟩⟩, h3, h4⟩
theorem RefUp.kept (h : RefUp W w0 ok r R) {T : Nat → Prop} (hk : Kept W W' T) (ha : ∀ k, ok k → ¬ T k) (hB : Below w0.heap.size w0 W') : RefUp W' w0 ok r R := by
  obtain ⟨⟨vL, es, h1, h2⟩, h3, h4⟩ := h
  exact ⟨⟨vL, es, h1.step (fun b hb => hk.2 b (h1.lt b hb) (ha b (h2 b hb).1)), h2⟩, hB, h4⟩
theorem RefUp.quiet (h : RefUp W w0 ok r R) (hb : Below W.heap.size W W') : RefUp W' w0 ok r R :=
  h.kept (T := fun _ => False) ⟨hb.size, fun k hk _ => hb.block k hk⟩ (fun _ _ h => h) (h.below.trans (hb.mono h.below.size))
theorem RefUp.alloc (h : RefUp W w0 ok r R) (o : Obj) : RefUp (W.alloc o) w0 ok r R := h.quiet ((Below.refl _ _).alloc (Nat.le_refl _) o)
def mayR (left : Int) (names : List ByteArray) : Int := if left = 0 then 9 else if names.any badName = true then 1 else 0
def didR (left : Int) : Int := if 0 < left then left - 1 else left
theorem refNew_calls (room : Int) (w : World) (h0 : 0 ≤ room) (h1 : room ≤ 1073741824) :
    Calls Try.prog 17 #[.int .i64 room] w fun e w' => e = .returned (.tuple #[.pointer (some ⟨w.heap.size, 0, none⟩), .int .i64 0]) ∧ RefUp w' w (fun k => w.heap.size ≤ k) w.heap.size ⟨room, -1, []⟩ := by
  go_enter Try.func17, Try.ntmps17
  go_wp2
  go_ret2
  refine ⟨rfl, ⟨.slice none 0 0, [], ⟨heap_alloc_new w _, World.ownsRow_nil _ _ _ _, fun e he => (by cases he), rfl⟩, fun b hb => ?_⟩, (Below.refl _ _).alloc (Nat.le_refl _) _, h0, h1, by simp, by simp, by simpa [total] using h0, fun p hp => (by cases hp), by simp⟩
  simp [footR, Value.ownBlock] at hb
  subst hb
  exact ⟨Nat.le_refl _, Nat.le_refl _⟩
theorem refNew_bad (room : Int) (w : World) (h : room < 0 ∨ 1073741824 < room) : Calls Try.prog 17 #[.int .i64 room] w fun e w' => e = .returned (.tuple #[.pointer none, .int .i64 1]) ∧ w' = w := by
  by_cases h0 : room < 0
  · go_enter Try.func17, Try.ntmps17
    go_wp2
    go_ret2
    exact ⟨rfl, rfl⟩
  · have h1 : 1073741824 < room := by omega
    go_enter Try.func17, Try.ntmps17
    go_wp2
    go_ret2
    exact ⟨rfl, rfl⟩
theorem did_calls {left : Int} {room : Int} (h : HeadR w r room vL left) (h1 : left ≤ 9223372036854775807) (h0 : -1 ≤ left) :
    Calls Try.prog 67 #[.pointer (some ⟨r, 0, none⟩)] w fun e w' => e = .returned (.int .i64 0) ∧ HeadR w' r room vL (didR left) ∧ Kept w w' (fun k => k = r) ∧ (∀ B, B ≤ r → Below B w w') := by
  have h2 : w.cell? ⟨r, 2, none⟩ = some (.int .i64 left) := by rw [blk_cell h]; rfl
  have f2 := h.fz 2
  have HH := Aside0.mk h
  clear h
  by_cases hp : 0 < left
  · have e : didR left = left - 1 := by unfold didR; rw [if_pos hp]
    rw [e]
    go_enter Try.func67, Try.ntmps67
    go_wp2
    go_ret
    exact ⟨rfl, blk_set HH.out 2 (.int .i64 (left - 1)), (Kept.refl w (fun k => k = r)).setCell (p := ⟨r, 2, none⟩) (.inl rfl) _, fun B hB => (Below.refl _ _).setCell (p := ⟨r, 2, none⟩) hB _⟩
  · have e : didR left = left := by unfold didR; rw [if_neg hp]
    rw [e]
    go_enter Try.func67, Try.ntmps67
    go_wp2
    go_ret
    exact ⟨rfl, HH.out, Kept.refl _ _, fun B hB => Below.refl _ _⟩
end
end Go.Proofs.Ytdepjlnljkbfjaa.Hand

/- The reference's disk: its methods that only read. -/
namespace Go.Proofs.Ytdepjlnljkbfjaa.Hand
open Go.RowKit Go.Proofs.Ytdepjlnljkbfjaa.PA Go.Proofs.Ytdepjlnljkbfjaa.MapP Go.Proofs.YtdepjlnljkbfjaaW.PrintWords Go.Proofs.YtdepjlnljkbfjaaW.PrintLast Go.Proofs.YtdepjlnljkbfjaaW.PrintMore
attribute [local go_sem] max2_int min2_int
set_option linter.unusedVariables false
set_option linter.unusedSimpArgs false
set_option linter.unusedSectionVars false
/-- Where a name stands, or would stand. -/
def spotN (L : List (Key × (List Int × Nat))) (k : Key) : Nat := (L.takeWhile fun p => decide (p.1 < k)).length
def spotB (L : List (Key × (List Int × Nat))) (k : Key) : Bool := match L[spotN L k]? with
  | some p => p.1 == k
  | none => false
theorem spotN_of {L : List (Key × (List Int × Nat))} {k : Key} {i : Nat} (hi : i ≤ L.length) (h1 : ∀ p ∈ L.take i, p.1 < k) (h2 : ∀ p, L[i]? = some p → ¬ p.1 < k) : spotN L k = i := by
  unfold spotN
  rw [← List.take_append_drop i L, List.takeWhile_append_of_pos (fun p hp => by simpa using h1 p hp)]
  have h3 : (L.drop i).takeWhile (fun p => decide (p.1 < k)) = [] := by
    cases hd : L.drop i with
    | nil => rfl
    | cons p l =>
      have : L[i]? = some p := by rw [← List.head?_drop, hd]; rfl
      rw [List.takeWhile_cons_of_neg (by simpa using h2 p this)]
  rw [h3, List.append_nil, List.length_take, Nat.min_eq_left hi]
theorem spotN_le (L : List (Key × (List Int × Nat))) (k : Key) : spotN L k ≤ L.length := (List.takeWhile_sublist _).length_le
section
variable {W W' w w0 : World} {base r : Nat} {R R' : RV} {vL : Value} {es : List RE} {e : RE} {ok : Nat → Prop}
theorem mayR_calls (h : IsRef w base r R vL es) (a : Addr) (names : List ByteArray) (c : Nat) (hc : names.length ≤ 4611686018427387904) (hn : ∀ (j : Nat) (s : ByteArray), names[j]? = some s → w.cell? (a.add j) = some (.string s) ∧ s.size ≤ maxLen) :
    Calls Try.prog 65 #[.pointer (some ⟨r, 0, none⟩), .slice (some a) names.length c] w fun e w' => e = .returned (.int .i64 (mayR R.left names)) ∧ w' = w := by
  have h2 := h.head.c2
  have HN := Aside0.mk hn
  clear h hn
  obtain ⟨left, hl⟩ : ∃ left, left = R.left := ⟨_, rfl⟩
  rw [← hl] at h2 ⊢
  clear hl
  by_cases h0 : left = 0
  · subst h0
    go_enter Try.func65, Try.ntmps65
    go_wp2
    go_ret
    exact ⟨rfl, rfl⟩
  · have hnb : (left == 0) = false := by simpa using h0
    have HR : Aside0 (mayR left names = if names.any badName = true then 1 else 0) := ⟨by unfold mayR; rw [if_neg h0]⟩
    clear h0
    go_enter Try.func65, Try.ntmps65
    go_wp2
    go_loopw [5] (fun s5 wr => ∃ (i : Nat), i ≤ names.length ∧ s5 = .int .i64 i ∧ wr = w ∧ Aside0 (∀ j : Nat, j < i → ∀ s, names[j]? = some s → badName s = false)) (fun s _ => names.length - (intOf s).toNat)
    case atStart => exact ⟨0, Nat.zero_le _, rfl, rfl, ⟨fun j hj => by omega⟩⟩
    case round =>
      obtain ⟨i, hi, rfl, rfl, HI⟩ := hrel
      by_cases hlt : i < names.length
      · obtain ⟨s, hs⟩ : ∃ s, names[i]? = some s := ⟨_, List.getElem?_eq_getElem hlt⟩
        obtain ⟨hcell, hsz⟩ := HN.out i s hs
        have HS := Aside0.mk hs
        clear hs
        by_cases hs1 : s.size < 1
        · go_wp2
          go_ret
          rw [HR.out, any_bad names i s HS.out (by unfold badName; rw [decide_eq_true hs1]; rfl)]
          exact ⟨rfl, rfl⟩
        · by_cases hs2 : 64 < s.size
          · go_wp2
            go_ret
            rw [HR.out, any_bad names i s HS.out (by unfold badName; rw [decide_eq_true hs2, decide_eq_false hs1]; rfl)]
            exact ⟨rfl, rfl⟩
          · go_wp2
            go_roundw
            case measure => simp [intOf]; omega
            case rel =>
              refine ⟨i + 1, by omega, by go_num, by first | rfl | trivial, ⟨fun j hj s' hs' => ?_⟩⟩
              by_cases e : j = i
              · subst e
                rw [HS.out] at hs'
                injection hs' with hs'
                subst hs'
                show (decide (s.size < 1) || decide (64 < s.size)) = false
                rw [decide_eq_false hs1, decide_eq_false hs2]; rfl
              · exact HI.out j (by omega) s' hs'
      · have hb : names.any badName = false := by
          rw [List.any_eq_false]
          intro s hs
          obtain ⟨j, hj⟩ := List.mem_iff_getElem?.1 hs
          rw [HI.out j (by have := (List.getElem?_eq_some_iff.1 hj).1; omega) s hj]
          simp
        have HB := Aside0.mk hb
        clear hb
        go_wp2
        go_ret
        rw [HR.out, HB.out]
        exact ⟨rfl, rfl⟩
theorem fuseR_calls (h : HeadR w r R.room vL R.left) (n : Int) : Calls Try.prog 31 #[.pointer (some ⟨r, 0, none⟩), .int .i64 n] w fun e w' => e = .returned (.tuple #[]) ∧ HeadR w' r R.room vL (max (-1) n) ∧ Kept w w' (fun k => k = r) ∧ (∀ B, B ≤ r → Below B w w') := by
  have h2 := h.c2
  have f2 := h.fz 2
  have HH := Aside0.mk h
  clear h
  go_enter Try.func31, Try.ntmps31
  go_wp2
  go_end0
  exact ⟨rfl, blk_set HH.out 2 (.int .i64 (max (-1) n)), (Kept.refl w (fun k => k = r)).setCell (p := ⟨r, 2, none⟩) (.inl rfl) _, fun B hB => (Below.refl _ _).setCell (p := ⟨r, 2, none⟩) hB _⟩
set_option maxRecDepth 100000 in
set_option maxHeartbeats 2000000 in
theorem spot_calls (h : IsRef w base r R vL es) (hm : es.length ≤ 4096) (s : ByteArray) :
    Calls Try.prog 66 #[.pointer (some ⟨r, 0, none⟩), .string s] w fun e w' => e = .returned (.tuple #[.int .i64 (spotN R.L s.data.toList), .bool (spotB R.L s.data.toList)]) ∧ Below w.heap.size w w' := by
  have h1 := h.head.c1
  have H := Aside0.mk h
  obtain ⟨A, c, rfl, hc, hA0, hA⟩ := h.slice
  clear h hA0 hA
  go_enter Try.func66, Try.ntmps66
  go_wp2
  go_loopw [6] (fun s6 wr => ∃ (i : Nat), i ≤ es.length ∧ s6 = .int .i64 i ∧ wr = w ∧ Aside0 (∀ j : Nat, j < i → ∀ e, es[j]? = some e → e.nm.data.toList < s.data.toList)) (fun s _ => es.length - (intOf s).toNat)
  case atStart => exact ⟨0, Nat.zero_le _, rfl, rfl, ⟨fun j hj => by omega⟩⟩
  case round =>
    obtain ⟨i, hi, rfl, rfl, HI⟩ := hrel
    by_cases hlt : i < es.length
    · obtain ⟨e, he⟩ : ∃ e, es[i]? = some e := ⟨_, List.getElem?_eq_getElem hlt⟩
      obtain ⟨g, c', eA, hc', hn, hv, hx, hz⟩ := H.out.at_ he
      injection eA with eA _ ec
      subst eA ec
      have hle : (Op.bytesLess e.nm.toList s.toList = true) ↔ e.nm.data.toList < s.data.toList := by rw [bytesLess_eq, ByteArray.toList_eq, ByteArray.toList_eq, decide_eq_true_iff]
      have HLE := Aside0.mk hle
      have HE := Aside0.mk he
      clear hle he
      by_cases hb : Op.bytesLess e.nm.toList s.toList = true
      · go_wp2
        go_roundw
        case measure => simp [intOf]; omega
        case rel =>
          refine ⟨i + 1, by omega, by go_num, by first | rfl | trivial, ⟨fun j hj e' he' => ?_⟩⟩
          by_cases ej : j = i
          · subst ej
            rw [HE.out] at he'
            injection he' with he'
            subst he'
            exact HLE.out.1 hb
          · exact HI.out j (by omega) e' he'
      · have hb : Op.bytesLess e.nm.toList s.toList = false := by simpa using hb
        have hsp : spotN R.L s.data.toList = i := by
          refine spotN_of (by rw [H.out.len]; omega) (fun p hp => ?_) (fun p hp => ?_)
          · rw [H.out.val, ← List.map_take] at hp
            obtain ⟨e', he', rfl⟩ := List.mem_map.1 hp
            obtain ⟨j, hj⟩ := List.mem_iff_getElem?.1 he'
            rw [List.getElem?_take] at hj
            split at hj
            · rename_i hji
              exact HI.out j hji e' hj
            · cases hj
          · rw [H.out.val, List.getElem?_map, HE.out] at hp
            injection hp with hp
            subst hp
            exact fun h => by have := HLE.out.2 h; rw [hb] at this; cases this
        have hsb : spotB R.L s.data.toList = (e.nm.toList == s.toList) := by
          unfold spotB
          rw [hsp, H.out.val, List.getElem?_map, HE.out, ByteArray.toList_eq, ByteArray.toList_eq]
          rfl
        have HSP := Aside0.mk hsp
        have HSB := Aside0.mk hsb
        obtain ⟨q, hq⟩ : ∃ q, q = (e.nm.toList == s.toList) := ⟨_, rfl⟩
        have hbe : (e.nm.toList == s.toList) = q := hq.symm
        clear hsp hsb hq
        go_wp2
        go_quiet (fail)
        go_wp2
        go_ret2
        rw [HSP.out, HSB.out, hbe]
        exact ⟨rfl, bdrewN (Below.refl _ _) _⟩
    · obtain rfl : i = es.length := by omega
      have hsp : spotN R.L s.data.toList = es.length := by
        refine spotN_of (by rw [H.out.len]; omega) (fun p hp => ?_) (fun p hp => ?_)
        · rw [H.out.val, ← List.map_take] at hp
          obtain ⟨e', he', rfl⟩ := List.mem_map.1 hp
          obtain ⟨j, hj⟩ := List.mem_iff_getElem?.1 he'
          rw [List.getElem?_take] at hj
          split at hj
          · rename_i hji
            exact HI.out j hji e' hj
          · cases hj
        · rw [H.out.val, List.getElem?_eq_none (by simp)] at hp
          cases hp
      have hsb : spotB R.L s.data.toList = false := by
        unfold spotB
        rw [hsp, H.out.val, List.getElem?_eq_none (by simp)]
      have HSP := Aside0.mk hsp
      have HSB := Aside0.mk hsb
      clear hsp hsb
      go_wp2
      go_quiet (fail)
      go_wp2
      go_ret2
      rw [HSP.out, HSB.out]
      exact ⟨rfl, bdrewN (Below.refl _ _) _⟩
end
end Go.Proofs.Ytdepjlnljkbfjaa.Hand

/- The reference's disk: Used, List, Read. -/
namespace Go.Proofs.Ytdepjlnljkbfjaa.Hand
open Go.RowKit Go.Proofs.Ytdepjlnljkbfjaa.PA Go.Proofs.Ytdepjlnljkbfjaa.MapP Go.Proofs.YtdepjlnljkbfjaaW.PrintWords Go.Proofs.YtdepjlnljkbfjaaW.PrintLast Go.Proofs.YtdepjlnljkbfjaaW.PrintMore
attribute [local go_sem] max2_int min2_int
set_option linter.unusedVariables false
set_option linter.unusedSimpArgs false
set_option linter.unusedSectionVars false
theorem infoS : (Try.prog.info? 9).map (fun i => (i.zero, i.size, i.bytes)) = some (some (.string ByteArray.empty), 1, 16) := by kernel_rfl
theorem total_app2 (a b : List (Key × (List Int × Nat))) : total (a ++ b) = total a + total b := by
  induction a with
  | nil => simp [total]
  | cons p a ih => simp only [List.cons_append, total, ih]; omega
theorem total_take_succ {L : List (Key × (List Int × Nat))} {i : Nat} {p : Key × (List Int × Nat)} (h : L[i]? = some p) : total (L.take (i + 1)) = total (L.take i) + p.2.1.length := by
  rw [List.take_add_one, total_app2, h]
  simp [total]
theorem total_take_le (L : List (Key × (List Int × Nat))) (i : Nat) : total (L.take i) ≤ total L := by
  have h : total L = total (L.take i) + total (L.drop i) := by rw [← total_app2, List.take_append_drop]
  omega
def getR (L : List (Key × (List Int × Nat))) (k : Key) : List Int × Nat := (L.getD (spotN L k) ([], ([], 0))).2
def readRV (R : RV) (k : Key) : List Int × Int := if spotB R.L k = true then ((getR R.L k).1, 0) else ([], 7)
def namesR (R : RV) : List ByteArray := R.L.map fun p => byK p.1
section
variable {W W' w w0 : World} {base r : Nat} {R R' : RV} {vL : Value} {es : List RE} {e : RE} {ok : Nat → Prop}
theorem IsRef.get (h : IsRef w base r R vL es) {i : Nat} (he : es[i]? = some e) : R.L[i]? = some (keyR e) := by rw [h.val, List.getElem?_map, he]; rfl
theorem spot_lt {L : List (Key × (List Int × Nat))} {k : Key} (h : spotB L k = true) : spotN L k < L.length := by
  unfold spotB at h
  cases hg : L[spotN L k]? with
  | none => rw [hg] at h; cases h
  | some p => exact (List.getElem?_eq_some_iff.1 hg).1
theorem usedR_calls (h : IsRef w base r R vL es) (ht : total R.L ≤ 1073741824) (hm : es.length ≤ 4096) : Calls Try.prog 57 #[.pointer (some ⟨r, 0, none⟩)] w fun e w' => e = .returned (.int .i64 (total R.L)) ∧ w' = w := by
  have h1 := h.head.c1
  have H := Aside0.mk h
  obtain ⟨A, c, rfl, hc, hA0, hA⟩ := h.slice
  clear h hA0 hA
  go_enter Try.func57, Try.ntmps57
  go_wp2
  go_loopw [3, 4] (fun s3 s4 wr => ∃ (i : Nat), i ≤ es.length ∧ s4 = .int .i64 i ∧ s3 = .int .i64 (total (R.L.take i) : Nat) ∧ wr = w) (fun _ s _ => es.length - (intOf s).toNat)
  case atStart => exact ⟨0, Nat.zero_le _, rfl, rfl, rfl⟩
  case round =>
    obtain ⟨i, hi, rfl, rfl, rfl⟩ := hrel
    by_cases hlt : i < es.length
    · obtain ⟨e, he⟩ : ∃ e, es[i]? = some e := ⟨_, List.getElem?_eq_getElem hlt⟩
      obtain ⟨g, c', eA, hc', hn, hv, hx, hz⟩ := H.out.at_ he
      injection eA with eA _ ec
      subst eA ec
      obtain ⟨Ae, ce, hev, hce⟩ := (H.out.dat e (List.mem_of_getElem? he)).slice
      rw [hev] at hv
      have hts := total_take_succ (H.out.get he)
      have htl := total_take_le R.L (i + 1)
      obtain ⟨m, hm'⟩ : ∃ m, m = total (R.L.take i) := ⟨_, rfl⟩
      obtain ⟨n, hn'⟩ : ∃ n, n = e.x.1.length := ⟨_, rfl⟩
      have hts2 : total (R.L.take (i + 1)) = m + n := by rw [hts, hm', hn']; rfl
      rw [← hm']
      rw [← hn'] at hv
      have hmn : m + n ≤ 1073741824 := by omega
      have HTS := Aside0.mk hts2
      clear hts htl hm' hn' hts2 he hev
      go_wp2
      go_roundw
      case measure => simp [intOf]; omega
      case rel => exact ⟨i + 1, by omega, by go_num, by rw [HTS.out]; go_num, by first | rfl | trivial⟩
    · obtain rfl : i = es.length := by omega
      have e1 : R.L.take es.length = R.L := by rw [← H.out.len, List.take_length]
      rw [e1]
      go_wp2
      go_ret
      exact ⟨rfl, rfl⟩
set_option maxRecDepth 100000 in
set_option maxHeartbeats 2000000 in
theorem listR_calls (h : IsRef w base r R vL es) (hm : es.length ≤ 4096) (hne : ∀ b ∈ footR r vL es, b < w.heap.size) : Calls Try.prog 33 #[.pointer (some ⟨r, 0, none⟩)] w fun e w' => ∃ A c, e = .returned (.slice A (namesR R).length c) ∧ (namesR R).length ≤ c ∧ Kd.R Kd.string 9 w' w.heap.size (fun k => w.heap.size ≤ k) (.slice A (namesR R).length c) (namesR R) ∧ Below w.heap.size w w' := by
  have H := Aside0.mk h
  obtain ⟨A, c, rfl, hc, hA0, hA⟩ := h.slice
  have HN : Aside0 (∀ i, ((es.take i).map (·.nm)).length = min i es.length) := ⟨fun i => by simp⟩
  clear h hA0 hA hne
  have h1 := H.out.head.c1
  go_enter Try.func33, Try.ntmps33
  go_wp2
  go_loopw [3, 4] (fun s3 s4 wr => ∃ (i : Nat) (Al : Option Addr) (cl : Nat), i ≤ es.length ∧ s4 = .int .i64 i ∧ s3 = .slice Al i cl ∧ Aside0 (Kd.R Kd.string 9 wr w.heap.size (fun k => w.heap.size ≤ k) (.slice Al i cl) ((es.take i).map (·.nm))) ∧ Aside0 (Below w.heap.size w wr)) (fun _ s _ => es.length - (intOf s).toNat)
  case atStart => exact ⟨0, none, 0, Nat.zero_le _, rfl, rfl, ⟨Kd.R_nil _ _ _ _ _⟩, ⟨Below.refl _ _⟩⟩
  case round =>
    clear h1
    obtain ⟨i, Al, cl, hi, rfl, rfl, HR, HB⟩ := hrel
    have HW := Aside0.mk (H.out.step (fun b hb => HB.out.block b (H.out.lt b hb)))
    have h1 := HW.out.head.c1
    by_cases hlt : i < es.length
    · obtain ⟨e, he⟩ : ∃ e, es[i]? = some e := ⟨_, List.getElem?_eq_getElem hlt⟩
      obtain ⟨g, c', eA, hc', hn, hv, hx, hz⟩ := HW.out.at_ he
      injection eA with eA _ ec
      subst eA ec
      have HNI : Aside0 (((es.take i).map (·.nm)).length = i) := ⟨by rw [HN.out]; omega⟩
      have HE : Aside0 ((es.take (i + 1)).map (·.nm) = (es.take i).map (·.nm) ++ [e.nm]) := ⟨by rw [List.take_add_one, he]; simp⟩
      obtain ⟨nm, hnm⟩ : ∃ nm, nm = e.nm := ⟨_, rfl⟩
      rw [← hnm] at hn HE
      clear he hv hx hz hnm
      go_wp2_with ((with_reducible refine gate_builtin (b := .append) (xs := #[.tmp 14, .tmp 23]) rfl ?_); at_builtin; refine Kd.R_append Kd.string (w0 := w) w.heap.size rfl (.tmp 14) (.tmp 23) 51 9 (.string ByteArray.empty) 16 rfl Try.underlying51 infoS rfl (by decide) (by decide) (.slice Al i cl) ((es.take i).map (·.nm)) nm [.string nm] (fun k => w.heap.size ≤ k) (fun _ => False) rfl rfl ?aP (fun _ hk => hk.elim) ?aF ?aO ?aB ?aS ?aL ?_; (case aP => rfl); (case aF => exact (fun k hk => Nat.le_trans HB.out.size hk)); (case aO => exact HR.out); (case aB => exact HB.out); (case aS => exact HB.out.size); (case aL => rw [HNI.out]; omega); intro v9 w9 ho9 hb9 hg9 hat9; obtain ⟨A9, c9, rfl⟩ := Kd.R_slice ho9; have HO9 := Aside0.mk ho9; have HB9 := Aside0.mk hb9; clear ho9 hb9 hg9 hat9)
      have HL9 : Aside0 (((es.take i).map (·.nm) ++ [nm]).length = i + 1) := ⟨by rw [List.length_append, HNI.out]; rfl⟩
      rw [HL9.out] at HO9
      go_roundw
      case measure => simp [intOf]; omega
      case rel => exact ⟨i + 1, A9, c9, by omega, by go_num, rfl, ⟨by rw [HE.out]; exact HO9.out⟩, HB9⟩
    · obtain rfl : i = es.length := by omega
      have hnr : (es.take es.length).map (·.nm) = namesR R := by
        rw [List.take_length]
        unfold namesR
        rw [H.out.val, List.map_map]
        rfl
      rw [hnr] at HR
      have hln : (namesR R).length = es.length := by rw [← hnr, HN.out, Nat.min_self]
      have HLN := Aside0.mk hln
      clear hnr hln
      go_wp2
      go_ret
      refine ⟨Al, cl, (by rw [HLN.out]; exact rfl), ?_, by rw [HLN.out]; exact HR.out, HB.out⟩
      have := Kd.R_reads' HR.out
      rw [HLN.out]
      exact this.2.1
set_option maxRecDepth 100000 in
set_option maxHeartbeats 2000000 in
theorem readR_calls (h : IsRef w base r R vL es) (hm : es.length ≤ 4096) (ht : total R.L ≤ 1073741824) (s : ByteArray) :
    Calls Try.prog 35 #[.pointer (some ⟨r, 0, none⟩), .string s] w fun e w' => ∃ A c, e = .returned (.tuple #[.slice A (readRV R s.data.toList).1.length c, .int .i64 (readRV R s.data.toList).2]) ∧ (readRV R s.data.toList).1.length ≤ c ∧ Dat w' (.slice A (readRV R s.data.toList).1.length c) (readRV R s.data.toList).1 ∧ (∀ k, (Value.slice A (readRV R s.data.toList).1.length c).ownBlock = some k → w.heap.size ≤ k) ∧ Below w.heap.size w w' := by
  have k1 := spot_calls h hm s
  have K1 := Aside0.mk k1
  have H := Aside0.mk h
  clear k1 h
  cases hb : spotB R.L s.data.toList with
  | false =>
    have HE : Aside0 (readRV R s.data.toList = ([], 7)) := ⟨by unfold readRV; rw [hb]; rfl⟩
    rw [hb] at K1
    go_enter Try.func35, Try.ntmps35
    go_wp2_with fail
    refine K1.out.mono ?_
    rintro e w1 ⟨rfl, hb1⟩
    go_wp2
    go_ret2
    rw [HE.out]
    exact ⟨none, 0, rfl, by simp, Dat.nil _, fun k hk => (by cases hk), hb1⟩
  | true =>
    have hlt := spot_lt hb
    rw [H.out.len] at hlt
    obtain ⟨i, hi⟩ : ∃ i, i = spotN R.L s.data.toList := ⟨_, rfl⟩
    rw [← hi] at hlt K1
    obtain ⟨e, he⟩ : ∃ e, es[i]? = some e := ⟨_, List.getElem?_eq_getElem hlt⟩
    have HE : Aside0 (readRV R s.data.toList = (e.x.1, 0)) := ⟨by
      unfold readRV getR
      rw [hb, if_pos rfl, ← hi, List.getD_eq_getElem?_getD, H.out.get he]
      rfl⟩
    have hxl : e.x.1.length ≤ 1073741824 := by
      have h1 := total_take_succ (H.out.get he)
      have h2 := total_take_le R.L (i + 1)
      have : (keyR e).2.1.length = e.x.1.length := rfl
      omega
    have HEM := Aside0.mk (List.mem_of_getElem? he)
    have HEI := Aside0.mk he
    rw [hb] at K1
    clear hb hi he
    go_enter Try.func35, Try.ntmps35
    go_wp2_with fail
    refine K1.out.mono ?_
    rintro e1 w1 ⟨rfl, hb1⟩
    have HW := Aside0.mk (H.out.step (fun b hb => hb1.block b (H.out.lt b hb)))
    have h1 := HW.out.head.c1
    obtain ⟨g, c', eA, hc', hn, hv, hx, hz⟩ := HW.out.at_ HEI.out
    subst eA
    have hdat := HW.out.dat e HEM.out
    obtain ⟨Ae, ce, hev, hce⟩ := hdat.slice
    rw [hev] at hv hdat
    obtain ⟨v5, W5, hrun5, hd5, hg5, ho5⟩ := (Dat.new (w := w1) (0, 0)).append 23 Ae e.x.1.length ce e.x.1 (Kd.C_alloc (hdat.C rfl) _) rfl (by simp; omega)
    simp only [List.nil_append] at hd5
    have hb5 : Below w1.heap.size w1 W5 := ((Below.refl w1.heap.size w1).alloc (Nat.le_refl _) _).grown hg5 (by simp) (fun k hk => by have := own_new hk; omega)
    have how : ∀ k, v5.ownBlock = some k → w1.heap.size ≤ k := fun k hk => ho5.elim (fun h => by rw [h] at hk; have := own_new hk; omega) (fun h => by have := h k hk; simp at this; omega)
    obtain ⟨A5, c5, hv5, hc5⟩ := hd5.slice
    subst hv5
    obtain ⟨l, hl⟩ : ∃ l, l = e.x.1 := ⟨_, rfl⟩
    rw [← hl] at hrun5 hd5 hc5 hv HE hxl how
    have HD5 := Aside0.mk hd5
    have HB5 := Aside0.mk hb5
    have HB1 := Aside0.mk hb1
    have HOW := Aside0.mk how
    have HL := Aside0.mk hl
    have h1a : (w1.alloc (.cells #[] 5)).cell? ⟨r, 1, none⟩ = _ := Go.Lib.cell?_alloc_some _ h1
    have hva : (w1.alloc (.cells #[] 5)).cell? ⟨g, i * 3 + 1, none⟩ = _ := Go.Lib.cell?_alloc_some _ hv
    clear hg5 ho5 hdat hb5 hb1 hd5 how hev hl h1 hv hn hx hz
    go_wp2_with (first | ((with_reducible refine gate_op (op := .buildSlice 23 0 #[]) rfl ?_); refine wpList_value_run (v := .slice (some ⟨w1.heap.size, 0, none⟩) 0 0) (w1 := w1.alloc (.cells #[] 5)) rfl (by go_simp) ?_) | ((with_reducible refine gate_builtin (b := .append) (xs := #[.tmp 16, .tmp 24]) rfl ?_); at_builtin; refine wpList_append_run rfl (.tmp 16) (.tmp 24) 23 rfl (.slice (some ⟨w1.heap.size, 0, none⟩) 0 0) (.slice Ae l.length ce) _ _ rfl rfl hrun5 ?_))
    go_ret2
    rw [HE.out]
    exact ⟨A5, c5, rfl, hc5, HD5.out, fun k hk => Nat.le_trans HB1.out.size (HOW.out k hk), HB1.out.trans (HB5.out.mono HB1.out.size)⟩
end
end Go.Proofs.Ytdepjlnljkbfjaa.Hand

/- The reference's disk: what stores and appends do to its row. -/
namespace Go.Proofs.Ytdepjlnljkbfjaa.Hand
open Go.RowKit Go.Proofs.Ytdepjlnljkbfjaa.PA Go.Proofs.Ytdepjlnljkbfjaa.MapP Go.Proofs.YtdepjlnljkbfjaaW.PrintWords Go.Proofs.YtdepjlnljkbfjaaW.PrintLast Go.Proofs.YtdepjlnljkbfjaaW.PrintMore
attribute [local go_sem] max2_int min2_int
set_option linter.unusedVariables false
set_option linter.unusedSimpArgs false
set_option linter.unusedSectionVars false
theorem infoF : (Try.prog.info? 82).map (fun i => (i.zero, i.size, i.bytes)) = some (some (.agg #[.string ByteArray.empty, .slice none 0 0, .int .i64 0]), 3, 48) := by kernel_rfl
section
variable {W W' W1 w w0 : World} {base r : Nat} {R R' : RV} {vL v : Value} {es es' : List RE} {e : RE} {ok : Nat → Prop} {g i c n : Nat}
theorem dat_off_row (h : IsRef W base r R vL es) {v : Value} {xs : List Int} (hd : Dat W v xs) {b : Nat} (hb : v.ownBlock = some b) : vL.ownBlock ≠ some b ∧ b ≠ r := by
  obtain ⟨cur, h1⟩ := dat_type hd hb
  refine ⟨fun e2 => ?_, fun e2 => ?_⟩
  · rcases h.row.2 with ⟨rfl, _⟩ | ⟨g, cap, cur, rfl, _, h2, _⟩
    · cases e2
    · have e2 : some g = some b := e2
      injection e2 with e2
      subst e2
      rw [h1] at h2
      injection h2 with h2
      injection h2 with _ h2
      cases h2
  · subst e2
    have h2 := h.head
    rw [HeadR, h1] at h2
    injection h2 with h2
    injection h2 with _ h2
    cases h2
/-- A file's bytes are others now. -/
theorem IsRef.putV (h : IsRef W base r R (.slice (some ⟨g, 0, none⟩) n c) es) (hi : es[i]? = some e) {xs : List Int} (hd : Dat W v xs) :
    IsRef (W.setCell ⟨g, i * 3 + 1, none⟩ v) base r { R with L := R.L.set i (e.nm.data.toList, (xs, e.x.2)) } (.slice (some ⟨g, 0, none⟩) n c) (es.set i ⟨e.nm, v, (xs, e.x.2)⟩) := by
  have hrow := h.row
  have hn : n = es.length := by
    obtain ⟨A, c', e1, _⟩ := h.slice
    injection e1
  subst hn
  have hst := hrow.stored (i * 3 + 1) v
  have hlt : i < es.length := (List.getElem?_eq_some_iff.1 hi).1
  refine ⟨?_, ?_, fun e' he' => ?_, ?_⟩
  · exact (Below.heap_setCell W ⟨g, i * 3 + 1, none⟩ v r (fun e2 => h.row_ne (by show some g = some r; rw [e2]))).trans h.head
  · rw [List.length_set, flatR_set hi 1 (by omega) v (by rfl)]
    exact hst.1
  · rcases List.mem_or_eq_of_mem_set he' with h1 | h1
    · exact (h.dat e' h1).step (fun b hb => Below.heap_setCell W ⟨g, i * 3 + 1, none⟩ v b (fun e2 => h.dat_ne_row h1 hb (by show some g = some b; rw [e2])))
    · subst h1
      exact hd.step (fun b hb => Below.heap_setCell W ⟨g, i * 3 + 1, none⟩ v b (fun e2 => (dat_off_row h hd hb).1 (by show some g = some b; rw [e2])))
  · show R.L.set i _ = _
    rw [h.val, List.map_set]
    rfl
/-- How many of a file's bytes last is another number now. -/
theorem IsRef.putN (h : IsRef W base r R (.slice (some ⟨g, 0, none⟩) n c) es) (hi : es[i]? = some e) (m : Nat) :
    IsRef (W.setCell ⟨g, i * 3 + 2, none⟩ (.int .i64 m)) base r { R with L := R.L.set i (e.nm.data.toList, (e.x.1, m)) } (.slice (some ⟨g, 0, none⟩) n c) (es.set i ⟨e.nm, e.v, (e.x.1, m)⟩) := by
  have hrow := h.row
  have hn : n = es.length := by
    obtain ⟨A, c', e1, _⟩ := h.slice
    injection e1
  subst hn
  have hst := hrow.stored (i * 3 + 2) (.int .i64 m)
  have hlt : i < es.length := (List.getElem?_eq_some_iff.1 hi).1
  refine ⟨?_, ?_, fun e' he' => ?_, ?_⟩
  · exact (Below.heap_setCell W ⟨g, i * 3 + 2, none⟩ _ r (fun e2 => h.row_ne (by show some g = some r; rw [e2]))).trans h.head
  · rw [List.length_set, flatR_set hi 2 (by omega) (.int .i64 m) (by rfl)]
    exact hst.1
  · have hk : ∀ e1 ∈ es, Dat (W.setCell ⟨g, i * 3 + 2, none⟩ (.int .i64 m)) e1.v e1.x.1 := fun e1 h1 => (h.dat e1 h1).step (fun b hb => Below.heap_setCell W ⟨g, i * 3 + 2, none⟩ _ b (fun e2 => h.dat_ne_row h1 hb (by show some g = some b; rw [e2])))
    rcases List.mem_or_eq_of_mem_set he' with h1 | h1
    · exact hk e' h1
    · subst h1
      exact hk e (List.mem_of_getElem? hi)
  · show R.L.set i _ = _
    rw [h.val, List.map_set]
    rfl
/-- The head has another row. -/
theorem IsRef.putL (h : HeadR W r R.room vL R.left) (hrow : W.ownsRow base 82 3 v es'.length (flatR es')) (hdat : ∀ e ∈ es', Dat W e.v e.x.1) :
    IsRef (W.setCell ⟨r, 1, none⟩ v) base r { R with L := es'.map keyR } v es' := by
  have hne : v.ownBlock ≠ some r := by
    intro e2
    rcases hrow.2 with ⟨rfl, _⟩ | ⟨g, cap, cur, rfl, _, h2, _⟩
    · cases e2
    · have e2 : some g = some r := e2
      injection e2 with e2
      subst e2
      rw [HeadR, h2] at h
      injection h with h
      injection h with _ h
      cases h
  refine ⟨blk_set h 1 v, row_step hrow (fun b hb => Below.heap_setCell W ⟨r, 1, none⟩ v b (fun e2 => hne (by rw [hb]; exact congrArg some e2))), fun e he => (hdat e he).step (fun b hb => Below.heap_setCell W ⟨r, 1, none⟩ v b (fun e2 => ?_)), rfl⟩
  have e2 : b = r := e2
  subst e2
  obtain ⟨cur, h1⟩ := dat_type (hdat e he) hb
  rw [HeadR, h1] at h
  injection h with h
  injection h with _ h
  cases h
/-- append onto a row of files. -/
theorem row_append {news : List Value} {xs : List Value} (h : W.ownsRow base 82 3 v n xs) (ty : TypeId) (A : Option Addr) (m c : Nat) (hnl : news.length = m * 3) (hA : A = none → m = 0) (hcells : ∀ a, A = some a → ∀ j u, news[j]? = some u → W.cell? (a.add j) = some u) (h1 : ∀ u ∈ news, u.oneCell' = true) (hbig : n + m ≤ 100000) (hbase : base ≤ W.heap.size) :
    ∃ v' W', (Builtin.append_ #[77, 77] ty #[v, .slice A m c]).run Try.prog W = .ok v' W' ∧ W'.ownsRow base 82 3 v' (n + m) (xs ++ news) ∧ W.grownBy W' v.ownBlock ∧ (v'.ownBlock = v.ownBlock ∨ ∀ g, v'.ownBlock = some g → W.heap.size ≤ g) := by
  obtain ⟨i0, hi, hz0, hz1, hz2⟩ := info_parts infoF
  cases A with
  | none =>
    have h0 := hA rfl
    subst h0
    have hn0 : news = [] := List.eq_nil_of_length_eq_zero (by omega)
    subst hn0
    have hv : ∃ A c', v = .slice A n c' ∧ n ≤ c' := by
      rcases h.2 with ⟨rfl, h0⟩ | ⟨g, cap, cur, rfl, _, _, h1, _⟩
      · exact ⟨none, 0, by rw [h0], by omega⟩
      · exact ⟨_, cap, rfl, h1⟩
    obtain ⟨A', c', rfl, hc'⟩ := hv
    exact ⟨_, W, run_append_nothing 77 ty 82 i0 Try.underlying77 hi A' _ _ c hc', by simpa using h, World.grownBy.refl W _, .inl rfl⟩
  | some a =>
    obtain ⟨v', W', hrun, ho', hg, _, hat⟩ := run_append_own_at (P := Try.prog) W base 77 ty 82 i0 _ 3 48 Try.underlying77 hi hz0 hz1 hz2 rfl (by omega) _ _ _ h a m c news hnl (hcells a rfl) h1 (by unfold maxLen; omega) (by omega) hbase
    exact ⟨v', W', hrun, ho', hg, hat.imp_right (fun e g hg => by rw [e] at hg; injection hg with hg; omega)⟩
theorem flatR_one {es : List RE} (h : ∀ e ∈ es, e.v.oneCell' = true) : ∀ u ∈ flatR es, u.oneCell' = true := by
  intro u hu
  obtain ⟨e, he, hu⟩ := List.mem_flatMap.1 hu
  simp only [flatE, List.mem_cons, List.not_mem_nil, or_false] at hu
  rcases hu with rfl | rfl | rfl
  · rfl
  · exact h e he
  · rfl
theorem IsRef.ones (h : IsRef W base r R vL es) : ∀ e ∈ es, e.v.oneCell' = true := by
  intro e he
  obtain ⟨A, c, hv, _⟩ := (h.dat e he).slice
  rw [hv]
  rfl
theorem flatR_take (es : List RE) (i : Nat) : flatR (es.take i) = (flatR es).take (i * 3) := by
  rcases Nat.lt_or_ge i es.length with h | h
  · have h1 : flatR es = flatR (es.take i) ++ flatR (es.drop i) := by rw [← flatR_app, List.take_append_drop]
    have h2 : (flatR (es.take i)).length = i * 3 := by rw [flatR_len, List.length_take]; omega
    rw [h1, ← h2, List.take_left]
  · rw [List.take_of_length_le h, List.take_of_length_le (by rw [flatR_len]; omega)]
theorem flatR_drop (es : List RE) (i : Nat) (h : i ≤ es.length) : flatR (es.drop i) = (flatR es).drop (i * 3) := by
  have h1 : flatR es = flatR (es.take i) ++ flatR (es.drop i) := by rw [← flatR_app, List.take_append_drop]
  have h2 : (flatR (es.take i)).length = i * 3 := by rw [flatR_len, List.length_take]; omega
  rw [h1, ← h2, List.drop_left]
/-- The cells of a part of the row. -/
theorem IsRef.part (h : IsRef W base r R (.slice (some ⟨g, 0, none⟩) n c) es) (k m : Nat) (hkm : k + m ≤ es.length) : ∀ j u, (flatR ((es.drop k).take m))[j]? = some u → W.cell? ((⟨g, k * 3, none⟩ : Addr).add j) = some u := by
  intro j u hu
  have hn : n = es.length := by
    obtain ⟨A, c', e1, _⟩ := h.slice
    injection e1
  subst hn
  rw [flatR_take, flatR_drop es k (by omega), List.getElem?_take] at hu
  split at hu
  · rename_i hj
    rw [List.getElem?_drop] at hu
    rw [Addr.add_lit, h.row.cellAt (k * 3 + j) (by omega)]
    exact hu
  · cases hu
theorem made_row (w : World) (hb : base ≤ w.heap.size) : (w.alloc (.cells #[] 82)).ownsRow base 82 3 (.slice (some ⟨w.heap.size, 0, none⟩) 0 0) 0 [] :=
  ⟨by simp, .inr ⟨w.heap.size, 0, #[], rfl, hb, heap_alloc_new w _, Nat.le_refl _, Nat.zero_le _, by simp, by simp⟩⟩
theorem part_cells (h : IsRef W base r R (.slice (some ⟨g, 0, none⟩) n c) es) (A : Option Addr) (k m : Nat) (hkm : k + m ≤ es.length) (hA : A = some ⟨g, k * 3, none⟩ ∨ m = 0) : ∀ a, A = some a → ∀ j u, (flatR ((es.drop k).take m))[j]? = some u → W.cell? (a.add j) = some u := by
  intro a ha j u hu
  rcases hA with hA | hA
  · rw [hA] at ha
    injection ha with ha
    subst ha
    exact h.part k m hkm j u hu
  · subst hA
    simp [flatR] at hu
/-- Two parts of the row, one behind the other, in a new row. -/
theorem two_parts (h : IsRef W base r R (.slice (some ⟨g, 0, none⟩) n c) es) (hbase : base ≤ W.heap.size) (hm : es.length ≤ 4097) (i k : Nat) (hi : i ≤ es.length) (hk : k ≤ es.length) (A : Option Addr) (c1 c2 : Nat) (hA : A = some ⟨g, k * 3, none⟩ ∨ es.length - k = 0) :
    ∃ v6 W6 v7 W7, (Builtin.append_ #[77, 77] 77 #[.slice (some ⟨W.heap.size, 0, none⟩) 0 0, .slice (some ⟨g, 0, none⟩) i c1]).run Try.prog (W.alloc (.cells #[] 82)) = .ok v6 W6 ∧ (Builtin.append_ #[77, 77] 77 #[v6, .slice A (es.length - k) c2]).run Try.prog W6 = .ok v7 W7 ∧
      W7.ownsRow base 82 3 v7 (es.take i ++ es.drop k).length (flatR (es.take i ++ es.drop k)) ∧ Below W.heap.size W W6 ∧ Below W.heap.size W W7 ∧ (∀ b, v6.ownBlock = some b → W.heap.size ≤ b) ∧ (∀ b, v7.ownBlock = some b → W.heap.size ≤ b) := by
  have hn : n = es.length := by
    obtain ⟨A, c', e1, _⟩ := h.slice
    injection e1
  subst hn
  have ha : IsRef (W.alloc (.cells #[] 82)) base r R (.slice (some ⟨g, 0, none⟩) es.length c) es := h.step (fun b hb => Below.heap_alloc _ _ _ (h.lt b hb))
  have e1 : flatR ((es.drop 0).take i) = flatR (es.take i) := by rw [List.drop_zero]
  obtain ⟨v6, W6, hrun6, ho6, hg6, hat6⟩ := row_append (news := flatR (es.take i)) (made_row W hbase) 77 (some ⟨g, 0, none⟩) i c1 (by rw [flatR_len, List.length_take]; omega) (fun h => by cases h) (by rw [← e1]; exact part_cells ha _ 0 i (by omega) (.inl (by simp))) (flatR_one (fun e he => h.ones e (List.mem_of_mem_take he))) (by omega) (by simp; omega)
  simp only [Nat.zero_add, List.nil_append] at ho6
  have hw6 : ∀ b, v6.ownBlock = some b → W.heap.size ≤ b := fun b hb => hat6.elim (fun h => by rw [h] at hb; have := own_new hb; omega) (fun h => by have := h b hb; simp at this; omega)
  have hb6 : Below W.heap.size W W6 := ((Below.refl _ _).alloc (Nat.le_refl _) _).grown hg6 (by simp) (fun k hk => by have := own_new hk; omega)
  have h6 : IsRef W6 base r R (.slice (some ⟨g, 0, none⟩) es.length c) es := h.step (fun b hb => hb6.block b (h.lt b hb))
  have e2 : flatR ((es.drop k).take (es.length - k)) = flatR (es.drop k) := by rw [List.take_of_length_le (by rw [List.length_drop]; omega)]
  obtain ⟨v7, W7, hrun7, ho7, hg7, hat7⟩ := row_append (news := flatR (es.drop k)) ho6 77 A (es.length - k) c2 (by rw [flatR_len, List.length_drop]) (fun h => by
      rcases hA with hA | hA
      · rw [hA] at h; cases h
      · exact hA) (by rw [← e2]; exact part_cells h6 A k (es.length - k) (by omega) hA) (flatR_one (fun e he => h.ones e (List.mem_of_mem_drop he))) (by omega) (Nat.le_trans hbase hb6.size)
  have el : i + (es.length - k) = (es.take i ++ es.drop k).length := by rw [List.length_append, List.length_take, List.length_drop]; omega
  rw [← flatR_app, el] at ho7
  exact ⟨v6, W6, v7, W7, hrun6, hrun7, ho7, hb6, hb6.grown hg7 hb6.size hw6, hw6, fun b hb => hat7.elim (fun h => hw6 b (by rw [← h]; exact hb)) (fun h => Nat.le_trans hb6.size (h b hb))⟩
end
end Go.Proofs.Ytdepjlnljkbfjaa.Hand

/- The reference's disk: remove. -/
namespace Go.Proofs.Ytdepjlnljkbfjaa.Hand
open Go.RowKit Go.Proofs.Ytdepjlnljkbfjaa.PA Go.Proofs.Ytdepjlnljkbfjaa.MapP Go.Proofs.YtdepjlnljkbfjaaW.PrintWords Go.Proofs.YtdepjlnljkbfjaaW.PrintLast Go.Proofs.YtdepjlnljkbfjaaW.PrintMore
attribute [local go_sem] max2_int min2_int
set_option linter.unusedVariables false
set_option linter.unusedSimpArgs false
set_option linter.unusedSectionVars false
def delR (L : List (Key × (List Int × Nat))) (k : Key) : List (Key × (List Int × Nat)) := if spotB L k = true then L.take (spotN L k) ++ L.drop (spotN L k + 1) else L
theorem delR_sub (L : List (Key × (List Int × Nat))) (k : Key) : List.Sublist (delR L k) L := by
  unfold delR
  split
  · have h := List.Sublist.append (List.Sublist.refl (L.take (spotN L k))) (List.drop_sublist_drop_left L (Nat.le_succ (spotN L k)))
    rw [List.take_append_drop] at h
    exact h
  · exact List.Sublist.refl _
theorem total_sub {L L' : List (Key × (List Int × Nat))} (h : List.Sublist L L') : total L ≤ total L' := by
  induction h with
  | slnil => exact Nat.le_refl _
  | cons a _ ih => simp only [total]; omega
  | cons_cons a _ ih => simp only [total]; omega
theorem RV.Fine.sub {R : RV} (h : R.Fine) {L : List (Key × (List Int × Nat))} (hs : List.Sublist L R.L) : ({ R with L := L } : RV).Fine :=
  ⟨h.r0, h.r1, h.l0, h.l1, by have := total_sub hs; have := h.used; show (total L : Int) ≤ R.room; omega, fun p hp => h.lasts p (hs.subset hp), Nat.le_trans hs.length_le h.many⟩
section
variable {W W' W1 w w0 : World} {base r : Nat} {R R' : RV} {vL v : Value} {es es' : List RE} {e : RE} {ok : Nat → Prop} {g i c n : Nat}
theorem RefUp.to (h : RefUp W w0 ok r R) (hi : IsRef W' w0.heap.size r R' vL es) (hf : ∀ b ∈ footR r vL es, ok b ∧ w0.heap.size ≤ b ∨ W.heap.size ≤ b) (hB : Below w0.heap.size w0 W') (hF : R'.Fine) :
    RefUp W' w0 (fun k => ok k ∨ W.heap.size ≤ k) r R' := by
  refine ⟨⟨vL, es, hi, fun b hb => ?_⟩, hB, hF⟩
  rcases hf b hb with h1 | h1
  · exact ⟨.inl h1.1, h1.2⟩
  · exact ⟨.inr h1, Nat.le_trans h.below.size h1⟩
/-- Entries that stay keep their bytes' blocks. -/
theorem foot_sub {es es' : List RE} (hs : ∀ e ∈ es', e ∈ es) {vL v : Value} {N : Nat} (hv : ∀ b, v.ownBlock = some b → N ≤ b) {P : Nat → Prop} (hP : ∀ b ∈ footR r vL es, P b) : ∀ b ∈ footR r v es', P b ∨ N ≤ b := by
  intro b hb
  unfold footR at hb
  simp only [List.mem_cons, List.mem_append, List.mem_flatMap] at hb
  rcases hb with rfl | hb | ⟨e, he, hb⟩
  · exact .inl (hP b (by simp [footR]))
  · exact .inr (hv b (by simpa using hb))
  · exact .inl (hP b (mem_footR (hs e he) (by simpa using hb)))
set_option maxRecDepth 100000 in
set_option maxHeartbeats 1000000 in
theorem removeR_keeps (h : RefUp w w0 ok r R) (s : ByteArray) :
    Calls Try.prog 76 #[.pointer (some ⟨r, 0, none⟩), .string s] w fun e w' => e = .returned (.tuple #[]) ∧ RefUp w' w0 (fun k => ok k ∨ w.heap.size ≤ k) r { R with L := delR R.L s.data.toList } ∧ Kept w w' (fun k => k = r) := by
  have HD := Aside0.mk h
  obtain ⟨⟨vL, es, hi, hft⟩, hB0, hf⟩ := h
  have hm : es.length ≤ 4096 := by have := hf.many; rw [hi.len] at this; exact this
  have k1 := spot_calls hi hm s
  have HFT := Aside0.mk hft
  have HI := Aside0.mk hi
  have HFI := Aside0.mk hf
  cases hb : spotB R.L s.data.toList with
  | false =>
    have HE : Aside0 (delR R.L s.data.toList = R.L) := ⟨by unfold delR; rw [hb]; rfl⟩
    rw [hb] at k1
    have K1 := Aside0.mk k1
    clear k1 hi hft hB0 hf
    go_enter Try.func76, Try.ntmps76
    go_wp2_with fail
    refine K1.out.mono ?_
    rintro e w1 ⟨rfl, hb1⟩
    go_wp2
    go_end0
    rw [HE.out]
    exact ⟨rfl, (HD.out.quiet hb1).mono (fun _ h => .inl h), (Kept.refl _ _).below hb1⟩
  | true =>
    have hlt := spot_lt hb
    rw [hi.len] at hlt
    obtain ⟨i, hii⟩ : ∃ i, i = spotN R.L s.data.toList := ⟨_, rfl⟩
    have HE : Aside0 (delR R.L s.data.toList = (es.take i ++ es.drop (i + 1)).map keyR) := ⟨by unfold delR; rw [hb, if_pos rfl, ← hii, hi.val, List.map_append, List.map_take, List.map_drop]⟩
    rw [← hii] at hlt k1
    rw [hb] at k1
    have K1 := Aside0.mk k1
    obtain ⟨g, c, hvL, hcc⟩ : ∃ g c, vL = .slice (some ⟨g, 0, none⟩) es.length c ∧ es.length ≤ c := by
      obtain ⟨e, he⟩ : ∃ e, es[i]? = some e := ⟨_, List.getElem?_eq_getElem hlt⟩
      obtain ⟨g, c, h1, h2, _⟩ := hi.at_ he
      exact ⟨g, c, h1, h2⟩
    subst hvL
    clear k1 hi hft hB0 hf hii hb
    obtain ⟨n, hn⟩ : ∃ n, n = es.length := ⟨_, rfl⟩
    go_enter Try.func76, Try.ntmps76
    go_wp2_with fail
    refine K1.out.mono ?_
    rintro e w1 ⟨rfl, hb1⟩
    have hi1 := HI.out.step (W' := w1.drew) (fun b hb => hb1.block b (HI.out.lt b hb))
    have HI1 := Aside0.mk hi1
    have hbs : w0.heap.size ≤ w1.drew.heap.size := Nat.le_trans HD.out.below.size hb1.size
    have HB1 : Aside0 (Below w.heap.size w w1.drew) := ⟨bdrew hb1⟩
    obtain ⟨A2, hA2⟩ : ∃ A2 : Option Addr, A2 = if c = i + 1 then some ⟨g, 0, none⟩ else some ⟨g, (i + 1) * 3, none⟩ := ⟨_, rfl⟩
    obtain ⟨v6, W6, v7, W7, hr6, hr7, ho7, hb6, hb7, hw6, hw7⟩ := two_parts hi1 hbs (by omega) i (i + 1) (by omega) (by omega) A2 c (c - (i + 1)) (by
      rw [hA2]
      split
      · right; omega
      · left; rfl)
    have hc1 := hi1.head.c1
    have hc6 : W6.cell? ⟨r, 1, none⟩ = _ := cell_below hc1 hb6
    have hc7 : W7.cell? ⟨r, 1, none⟩ = _ := cell_below hc1 hb7
    have hz7 : W7.frozen? ⟨r, 1, none⟩ = false := blk_frozen ((hb7.block r (HI1.out.lt r (by simp [footR]))).trans hi1.head) 1
    obtain ⟨A7, n7, c7, hv7⟩ : ∃ A7 n7 c7, v7 = .slice A7 n7 c7 := by
      rcases ho7.2 with ⟨rfl, _⟩ | ⟨g', cap, cur, rfl, _⟩
      · exact ⟨_, _, _, rfl⟩
      · exact ⟨_, _, _, rfl⟩
    subst hv7
    rw [← hn] at hr7 hc1 hc6 hc7 hlt hcc
    have HRUN6 := Aside0.mk hr6
    have HRUN7 := Aside0.mk hr7
    have HC6 := Aside0.mk hc6
    have HC7 := Aside0.mk hc7
    have HO7 := Aside0.mk ho7
    have HB7 := Aside0.mk hb7
    have HW7 := Aside0.mk hw7
    have HN := Aside0.mk hn
    clear hr6 hr7 hc6 ho7 hb6 hb7 hw6 hw7 hi1 hn hb1 hbs
    have hnI : (i : Int) < n := by omega
    have hm2 : n ≤ 4096 := by rw [HN.out]; exact hm
    have hw1 : wrap64 ((i : Int) + 1) = ((i + 1 : Nat) : Int) := by unfold wrap64; omega
    have hnI2 : (i : Int) + 1 ≤ n := by omega
    have hnI3 : (0 : Int) ≤ (i : Int) + 1 := by omega
    have hncI : (n : Int) ≤ c := by omega
    have hicI : (i : Int) ≤ c := by omega

    go_wp2
    by_cases hci : c = i + 1
    case' pos =>
      rw [if_pos hci] at hA2
      subst hA2
      have hci2 : (c = i + 1) = True := eq_true hci
      clear hci
    case' neg =>
      rw [if_neg hci] at hA2
      subst hA2
    all_goals
      refine start_ (n := 20) (S := fun w' => w'.cell? ⟨r, 1, none⟩ = some (.slice (some ⟨g, 0, none⟩) n c)) (ds := [19]) #[false, false, false, false, false, false, false, false, false, false, false, false, false, false, false, false, false, false, false, false] (by kernel_rfl) rfl rfl (hc1) (fun hHeld => ?_)
      refine pure_ (i := 0) (N := some 13) (v := ?_) (a' := ?_) #[true, false, false, false, false, false, false, false, false, false, false, false, false, false, false, false, false, false, false, false] rfl rfl (by kernel_rfl) (fun _ _ _ h => h) (Or.inl ⟨by rfl, ?_⟩) ?_ ?_
      rotate_left
      · intro w'
        go_simp
        with_reducible rfl
      rotate_left
      · simp only [Act.put, List.setIfInBounds_toArray, List.set_cons_zero, List.set_cons_succ, i64_w, i32_w]
        rfl
      refine pure_ (i := 2) (N := some 15) (v := ?_) (a' := ?_) #[true, false, true, false, false, false, false, false, false, false, false, false, false, false, false, false, false, false, false, false] rfl rfl (by kernel_rfl) (fun _ _ _ h => h) (Or.inl ⟨by rfl, ?_⟩) ?_ ?_
      rotate_left
      · intro w'
        go_simp
        with_reducible rfl
      rotate_left
      · simp only [Act.put, List.setIfInBounds_toArray, List.set_cons_zero, List.set_cons_succ, i64_w, i32_w]
        rfl
      refine pure_ (i := 3) (N := some 16) (v := ?_) (a' := ?_) #[true, false, true, true, false, false, false, false, false, false, false, false, false, false, false, false, false, false, false, false] rfl rfl (by kernel_rfl) (fun _ _ _ h => h) (Or.inl ⟨by rfl, ?_⟩) ?_ ?_
      rotate_left
      · intro w'
        go_simp
        with_reducible rfl
      rotate_left
      · simp only [Act.put, List.setIfInBounds_toArray, List.set_cons_zero, List.set_cons_succ, i64_w, i32_w]
        rfl
      refine pure_ (i := 4) (N := some 17) (v := ?_) (a' := ?_) #[true, false, true, true, true, false, false, false, false, false, false, false, false, false, false, false, false, false, false, false] rfl rfl (by kernel_rfl) (fun _ _ _ h => h) (Or.inl ⟨by rfl, ?_⟩) ?_ ?_
      rotate_left
      · intro w'
        go_simp
        with_reducible rfl
      rotate_left
      · simp only [Act.put, List.setIfInBounds_toArray, List.set_cons_zero, List.set_cons_succ, i64_w, i32_w]
        rfl
      refine pure_ (i := 6) (N := some 19) (v := ?_) (a' := ?_) #[true, false, true, true, true, false, true, false, false, false, false, false, false, false, false, false, false, false, false, false] rfl rfl (by kernel_rfl) (fun _ _ _ h => h) (Or.inl ⟨by rfl, ?_⟩) ?_ ?_
      rotate_left
      · intro w'
        go_simp
        with_reducible rfl
      rotate_left
      · simp only [Act.put, List.setIfInBounds_toArray, List.set_cons_zero, List.set_cons_succ, i64_w, i32_w]
        rfl
      refine pure_ (i := 9) (N := some 22) (v := ?_) (a' := ?_) #[true, false, true, true, true, false, true, false, false, true, false, false, false, false, false, false, false, false, false, false] rfl rfl (by kernel_rfl) (fun _ _ _ h => h) (Or.inl ⟨by rfl, ?_⟩) ?_ ?_
      rotate_left
      · intro w'
        go_simp
        with_reducible rfl
      rotate_left
      · simp only [Act.put, List.setIfInBounds_toArray, List.set_cons_zero, List.set_cons_succ, i64_w, i32_w]
        rfl
      refine pure_ (i := 10) (N := some 23) (v := ?_) (a' := ?_) #[true, false, true, true, true, false, true, false, false, true, true, false, false, false, false, false, false, false, false, false] rfl rfl (by kernel_rfl) (fun _ _ _ h => h) (Or.inl ⟨by rfl, ?_⟩) ?_ ?_
      rotate_left
      · intro w'
        go_simp
        with_reducible rfl
      rotate_left
      · simp only [Act.put, List.setIfInBounds_toArray, List.set_cons_zero, List.set_cons_succ, i64_w, i32_w]
        rfl
      refine pure_ (i := 11) (N := some 24) (v := ?_) (a' := ?_) #[true, false, true, true, true, false, true, false, false, true, true, true, false, false, false, false, false, false, false, false] rfl rfl (by kernel_rfl) (fun _ _ _ h => h) (Or.inl ⟨by rfl, ?_⟩) ?_ ?_
      rotate_left
      · intro w'
        go_simp
        with_reducible rfl
      rotate_left
      · simp only [Act.put, List.setIfInBounds_toArray, List.set_cons_zero, List.set_cons_succ, i64_w, i32_w]
        rfl
      refine pure_ (i := 13) (N := some 26) (v := ?_) (a' := ?_) #[true, false, true, true, true, false, true, false, false, true, true, true, false, true, false, false, false, false, false, false] rfl rfl (by kernel_rfl) (fun _ _ _ h => h) (Or.inl ⟨by rfl, ?_⟩) ?_ ?_
      rotate_left
      · intro w'
        go_simp
        with_reducible rfl
      rotate_left
      · simp only [Act.put, List.setIfInBounds_toArray, List.set_cons_zero, List.set_cons_succ, i64_w, i32_w]
        rfl
      refine pure_ (i := 14) (N := some 27) (v := ?_) (a' := ?_) #[true, false, true, true, true, false, true, false, false, true, true, true, false, true, true, false, false, false, false, false] rfl rfl (by kernel_rfl) (fun _ _ _ h => h) (Or.inl ⟨by rfl, ?_⟩) ?_ ?_
      rotate_left
      · intro w'
        go_simp
        with_reducible rfl
      rotate_left
      · simp only [Act.put, List.setIfInBounds_toArray, List.set_cons_zero, List.set_cons_succ, i64_w, i32_w]
        rfl
      refine take_ (i := 5) (N := some 18) (v := ?_) (a' := ?_) #[true, false, true, true, true, true, true, false, false, true, true, true, false, true, true, false, false, false, false, false] rfl rfl (by kernel_rfl) (fun _ _ _ h => h) (Or.inl ⟨by rfl, ?_⟩) hHeld ?_ ?_
      rotate_left
      · intro w' s0
        go_simp
        with_reducible rfl
      rotate_left
      · simp only [Act.put, List.setIfInBounds_toArray, List.set_cons_zero, List.set_cons_succ, i64_w, i32_w]
        rfl
      refine pure_ (i := 7) (N := some 20) (v := ?_) (a' := ?_) #[true, false, true, true, true, true, true, true, false, true, true, true, false, true, true, false, false, false, false, false] rfl rfl (by kernel_rfl) (fun _ _ _ h => h) (Or.inl ⟨by rfl, ?_⟩) ?_ ?_
      rotate_left
      · intro w'
        go_simp
        with_reducible rfl
      rotate_left
      · simp only [Act.put, List.setIfInBounds_toArray, List.set_cons_zero, List.set_cons_succ, i64_w, i32_w]
        rfl
      refine take_ (i := 12) (N := some 25) (v := ?_) (a' := ?_) #[true, false, true, true, true, true, true, true, false, true, true, true, true, true, true, false, false, false, false, false] rfl rfl (by kernel_rfl) (fun _ _ _ h => h) (Or.inl ⟨by rfl, ?_⟩) hHeld ?_ ?_
      rotate_left
      · intro w' s0
        go_simp
        with_reducible rfl
      rotate_left
      · simp only [Act.put, List.setIfInBounds_toArray, List.set_cons_zero, List.set_cons_succ, i64_w, i32_w]
        rfl
      refine pure_ (i := 15) (N := some 28) (v := ?_) (a' := ?_) #[true, false, true, true, true, true, true, true, false, true, true, true, true, true, true, true, false, false, false, false] rfl rfl (by kernel_rfl) (fun _ _ _ h => h) (Or.inl ⟨by rfl, ?_⟩) ?_ ?_
      rotate_left
      · intro w'
        go_simp
        with_reducible rfl
      rotate_left
      · simp only [Act.put, List.setIfInBounds_toArray, List.set_cons_zero, List.set_cons_succ, i64_w, i32_w]
        rfl
      refine one_ (i := 1) (N := some 14) #[true, true, true, true, true, true, true, true, false, true, true, true, true, true, true, true, false, false, false, false] rfl rfl (by kernel_rfl) (by decide) (fun K hK => ?_)
      refine value_ (w1 := ?_) (v := ?_) (by rfl) rfl ?_ ?_
      rotate_left 2
      · go_simp
        constructor
        · rfl
        · rfl
      refine hK.out _ _ ((Go.Lib.cell?_alloc_some _ hHeld)) (fun hHeld => ?_)
      clear hK K
      refine norm_ (a' := ?_) ?_ ?_
      rotate_left
      · show Act.put _ (some 14) _ = _
        simp only [Act.put, List.setIfInBounds_toArray, List.set_cons_zero, List.set_cons_succ, i64_w, i32_w]
        rfl
      refine one_ (i := 8) (N := some 21) #[true, true, true, true, true, true, true, true, true, true, true, true, true, true, true, true, false, false, false, false] rfl rfl (by kernel_rfl) (by decide) (fun K hK => ?_)
      refine append_step (by rfl) (.tmp 14) (.tmp 20) 77 rfl (.slice (some ⟨w1.heap.size, 0, none⟩) 0 0) (.slice (some ⟨g, 0, none⟩) i c) rfl rfl _ HRUN6.out rfl ?_
      refine hK.out _ _ (HC6.out) (fun hHeld => ?_)
      clear hK K
      refine norm_ (a' := ?_) ?_ ?_
      rotate_left
      · show Act.put _ (some 21) _ = _
        simp only [Act.put, List.setIfInBounds_toArray, List.set_cons_zero, List.set_cons_succ, i64_w, i32_w]
        rfl
      refine one_ (i := 16) (N := some 29) #[true, true, true, true, true, true, true, true, true, true, true, true, true, true, true, true, true, false, false, false] rfl rfl (by kernel_rfl) (by decide) (fun K hK => ?_)
      refine append_step (by rfl) (.tmp 21) (.tmp 28) 77 rfl _ _ rfl rfl _ HRUN7.out rfl ?_
      refine hK.out _ _ (HC7.out) (fun hHeld => ?_)
      clear hK K
      refine norm_ (a' := ?_) ?_ ?_
      rotate_left
      · show Act.put _ (some 29) _ = _
        simp only [Act.put, List.setIfInBounds_toArray, List.set_cons_zero, List.set_cons_succ, i64_w, i32_w]
        rfl
      refine pure_ (i := 17) (N := some 30) (v := ?_) (a' := ?_) #[true, true, true, true, true, true, true, true, true, true, true, true, true, true, true, true, true, true, false, false] rfl rfl (by kernel_rfl) (fun _ _ _ h => h) (Or.inl ⟨by rfl, ?_⟩) ?_ ?_
      rotate_left
      · intro w'
        go_simp
        with_reducible rfl
      rotate_left
      · simp only [Act.put, List.setIfInBounds_toArray, List.set_cons_zero, List.set_cons_succ, i64_w, i32_w]
        rfl
      refine pure_ (i := 18) (N := some 31) (v := ?_) (a' := ?_) #[true, true, true, true, true, true, true, true, true, true, true, true, true, true, true, true, true, true, true, false] rfl rfl (by kernel_rfl) (fun _ _ _ h => h) (Or.inl ⟨by rfl, ?_⟩) ?_ ?_
      rotate_left
      · intro w'
        go_simp
        with_reducible rfl
      rotate_left
      · simp only [Act.put, List.setIfInBounds_toArray, List.set_cons_zero, List.set_cons_succ, i64_w, i32_w]
        rfl
      refine last_ (i := 19) (N := none) #[true, true, true, true, true, true, true, true, true, true, true, true, true, true, true, true, true, true, true, true] rfl rfl (by kernel_rfl) (by decide) (fun K hK => ?_)
      refine skip_ (w1 := ?_) (by rfl) rfl ?_ ?_
      rotate_left
      · go_simp
        rfl
      refine hK.out _ _ ?_
      clear hK K
      refine done_ (by kernel_rfl) ?_

      go_wp2
      go_end0
      clear hHeld
      have hh7 : HeadR W7 r R.room (.slice (some ⟨g, 0, none⟩) es.length c) R.left := (HB7.out.block r (HI1.out.lt r (by simp [footR]))).trans HI1.out.head
      have hd7 : ∀ e ∈ es.take i ++ es.drop (i + 1), Dat W7 e.v e.x.1 := fun e he => (HI1.out.dat e ((List.mem_append.1 he).elim List.mem_of_mem_take List.mem_of_mem_drop)).step (fun b hb => HB7.out.block b (HI1.out.lt b (mem_footR ((List.mem_append.1 he).elim List.mem_of_mem_take List.mem_of_mem_drop) hb)))
      have hp := IsRef.putL (R := R) hh7 HO7.out hd7
      rw [← HE.out] at hp
      have hwb := Nat.le_trans HD.out.below.size HB1.out.size
      have hK7 : Kept w W7 (fun k => k = r) := ((Kept.refl w _).below HB1.out).below HB7.out
      refine ⟨rfl, HD.out.to hp (foot_sub (fun e he => (List.mem_append.1 he).elim List.mem_of_mem_take List.mem_of_mem_drop) (fun b hb => Nat.le_trans HB1.out.size (HW7.out b hb)) HFT.out) ?_ (HFI.out.sub (delR_sub _ _)), hK7.setCell (p := ⟨r, 1, none⟩) (.inl rfl) _⟩
      exact ((HD.out.below.trans ((HB1.out.trans (HB7.out.mono HB1.out.size)).mono HD.out.below.size))).setCell (p := ⟨r, 1, none⟩) (HFT.out r (by simp [footR])).2 _

theorem RefUp.mine (h : RefUp w w0 ok r R) : ok r ∧ w0.heap.size ≤ r := by
  obtain ⟨⟨vL, es, h1, h2⟩, _, _⟩ := h
  exact h2 r (by simp [footR])
theorem removeR_calls (h : RefUp w w0 ok r R) (s : ByteArray) :
    Calls Try.prog 76 #[.pointer (some ⟨r, 0, none⟩), .string s] w fun e w' => e = .returned (.tuple #[]) ∧ RefUp w' w0 (fun k => ok k ∨ w.heap.size ≤ k) r { R with L := delR R.L s.data.toList } ∧ Kept w w' ok := by
  refine (removeR_keeps h s).mono ?_
  rintro e w' ⟨h1, h2, h3⟩
  exact ⟨h1, h2, (Kept.refl w ok).then_ h3 (fun k hk => .inl (by rw [hk]; exact h.mine.1))⟩
end
end Go.Proofs.Ytdepjlnljkbfjaa.Hand
