/- A Table: New, Put, Delete, Get, Len. -/
import Derived.Test.YtaghcepochjoeaaTab
import Derived.WalkSpells
namespace Go.Proofs.Ytaghcepochjoeaa.Hand
open Go.RowKit Go.Proofs.Ytaghcepochjoeaa.PA Go.Proofs.Ytaghcepochjoeaa.MapV Go.Proofs.YtaghcepochjoeaaW.PrintWords Go.Proofs.YtaghcepochjoeaaW.PrintLast Go.Proofs.YtaghcepochjoeaaW.PrintMore
attribute [local go_sem] max2_int min2_int
set_option linter.unusedVariables false
set_option linter.unusedSimpArgs false
set_option linter.unusedSectionVars false
def goodK (s : ByteArray) : Bool := decide (1 ≤ s.size) && decide (s.size ≤ 64)
def tput (S : TS) (s : ByteArray) (xs : List Int) : Int × TS :=
  if goodK s = false then (1, S) else if 4096 < xs.length then (5, S) else (0, put S s.data.toList (xs, true))
def tdel (S : TS) (s : ByteArray) : Int × TS := if goodK s = false then (1, S) else (0, put S s.data.toList ([], false))
def tget (S : TS) (s : ByteArray) : List Int × Bool × Bool := match at_ S s.data.toList with
  | none => ([], false, false)
  | some x => (x.1, x.2, true)
theorem view_len (es : List (Key × TE)) : (view es).length = es.length := by unfold view; simp
theorem mem_put {es : List (Key × TE)} {k : Key} {x : TE} {p : Key × TE} (h : p ∈ put es k x) : p.2 = x ∨ p ∈ es := by
  unfold put at h
  split at h
  · obtain ⟨q, hq, rfl⟩ := List.mem_map.1 h
    split
    · exact .inl rfl
    · exact .inr hq
  · rcases List.mem_append.1 h with h | h
    · exact .inr h
    · rw [List.mem_singleton.1 h]; exact .inl rfl
section
variable {W W' w w0 w1 : World} {ok ok' T : Nat → Prop} {t m : Nat} {S : TS} {x : TE} {es : List (Key × TE)}
theorem may_nil (s : ByteArray) (w : World) : Calls Try.prog 30 #[.pointer none, .string s] w fun e w' => e = .returned (.bool false) ∧ w' = w := by
  go_enter Try.func30, Try.ntmps30
  go_wp2
  go_ret
  exact ⟨rfl, rfl⟩
theorem may_calls (t : Nat) (s : ByteArray) (w : World) : Calls Try.prog 30 #[.pointer (some ⟨t, 0, none⟩), .string s] w fun e w' => e = .returned (.bool (goodK s)) ∧ w' = w := by
  by_cases h1 : s.size < 1
  · have e : goodK s = false := by unfold goodK; simp; omega
    have HE := Aside0.mk e
    clear e
    go_enter Try.func30, Try.ntmps30
    go_wp2
    go_ret
    rw [HE.out]
    exact ⟨by first | rfl | simp, rfl⟩
  · by_cases h2 : 64 < s.size
    · have e : goodK s = false := by unfold goodK; simp; omega
      have HE := Aside0.mk e
      clear e
      go_enter Try.func30, Try.ntmps30
      go_wp2
      go_ret
      rw [HE.out]
      exact ⟨by first | rfl | (simp; omega), rfl⟩
    · have e : goodK s = true := by unfold goodK; simp; omega
      have HE := Aside0.mk e
      clear e
      go_enter Try.func30, Try.ntmps30
      go_wp2
      go_ret
      rw [HE.out]
      exact ⟨by first | rfl | (simp; omega), rfl⟩
set_option maxRecDepth 100000 in
set_option maxHeartbeats 4000000 in
theorem lay_calls (hh : W.heap[t]? = some (.cells #[.map (some m)] 66 (0, 0))) (hm : HasMap KE Try.prog 9 W m es) (htm : t ≠ m) (few : es.length < maxLen) (s : ByteArray) (hs : s.size ≤ maxLen) (A : Option Addr) (n c : Nat) (b : Bool) (x : TE) (hx : teV x = .agg #[.slice A n c, .bool b]) :
    Calls Try.prog 31 #[.pointer (some ⟨t, 0, none⟩), .string s, .agg #[.slice A n c, .bool b]] W fun e W' => e = .returned (.tuple #[]) ∧ HasMap KE Try.prog 9 W' m (put es s.data.toList x) ∧ W.heap.size ≤ W'.heap.size ∧ (∀ b, b < W.heap.size → b ≠ m → W'.heap[b]? = W.heap[b]?) ∧ (∀ (a : World), Below a.heap.size a W → a.heap.size ≤ m → Below a.heap.size a W') := by
  have hlt := hm.lt
  have hbl : Below W.heap.size W (W.alloc (.cells #[.slice A n c, .bool b] 69)).drew := bdrew ((Below.refl _ _).alloc (Nat.le_refl _) _)
  have hm1 : HasMap KE Try.prog 9 (W.alloc (.cells #[.slice A n c, .bool b] 69)).drew m es := hm.step (hbl.block m hlt)
  obtain ⟨W2, hrun, hm2, ht2⟩ := hm1.store PT few s hs x
  rw [show KE.enc x = teV x from rfl, hx] at hrun
  have HM2 := Aside0.mk hm2
  have HG := Aside0.mk ht2.grown
  have HBL := Aside0.mk hbl
  have HLT := Aside0.mk hlt
  have c00 : W.cell? ⟨t, 0, none⟩ = some (.map (some m)) := (blk_cell hh 0).trans rfl
  have c0 : (W.alloc (.cells #[.slice A n c, .bool b] 69)).cell? ⟨t, 0, none⟩ = some (.map (some m)) := Go.Lib.cell?_alloc_some _ c00
  have c1 : (W.alloc (.cells #[.slice A n c, .bool b] 69)).cell? ⟨W.heap.size, 0, none⟩ = some (.slice A n c) := (blk_cell (heap_alloc_new W _) 0).trans rfl
  have c2 : (W.alloc (.cells #[.slice A n c, .bool b] 69)).cell? ⟨W.heap.size, 1, none⟩ = some (.bool b) := (blk_cell (heap_alloc_new W _) 1).trans rfl
  have hnil := fun W => Go.run_eql_map_nil (P := Try.prog) W 64 9 69 (some m) Try.underlying64
  clear hh hm hm1 hm2 ht2 hbl hlt hx
  go_enter Try.func31, Try.ntmps31
  go_wp2
  refine start_ (n := 7) (S := fun w' => w'.cell? ⟨t, 0, none⟩ = some (.map (some m)) ∧ w'.cell? ⟨W.heap.size, 0, none⟩ = some (.slice A n c) ∧ w'.cell? ⟨W.heap.size, 1, none⟩ = some (.bool b)) (ds := [6]) #[false, false, false, false, false, false, false] (by kernel_rfl) rfl rfl ⟨c0, c1, c2⟩ (fun hHeld => ?_)
  refine pure_ (i := 0) (N := some 15) (v := ?_) (a' := ?_) #[true, false, false, false, false, false, false] rfl rfl (by kernel_rfl) (fun _ _ _ h => h) (Or.inl ⟨by rfl, ?_⟩) ?_ ?_
  rotate_left
  · intro w'
    go_simp
    with_reducible rfl
  rotate_left
  · simp only [Act.put, List.setIfInBounds_toArray, List.set_cons_zero, List.set_cons_succ, i64_w, i32_w]
    rfl
  refine pure_ (i := 1) (N := some 16) (v := ?_) (a' := ?_) #[true, true, false, false, false, false, false] rfl rfl (by kernel_rfl) (fun _ _ _ h => h) (Or.inl ⟨by rfl, ?_⟩) ?_ ?_
  rotate_left
  · intro w'
    go_simp
    with_reducible rfl
  rotate_left
  · simp only [Act.put, List.setIfInBounds_toArray, List.set_cons_zero, List.set_cons_succ, i64_w, i32_w]
    rfl
  refine pure_ (i := 2) (N := some 17) (v := ?_) (a' := ?_) #[true, true, true, false, false, false, false] rfl rfl (by kernel_rfl) (fun _ _ _ h => h) (Or.inl ⟨by rfl, ?_⟩) ?_ ?_
  rotate_left
  · intro w'
    go_simp
    with_reducible rfl
  rotate_left
  · simp only [Act.put, List.setIfInBounds_toArray, List.set_cons_zero, List.set_cons_succ, i64_w, i32_w]
    rfl
  refine pure_ (i := 4) (N := some 19) (v := ?_) (a' := ?_) #[true, true, true, false, true, false, false] rfl rfl (by kernel_rfl) (fun _ _ _ h => h) (Or.inl ⟨by rfl, ?_⟩) ?_ ?_
  rotate_left
  · intro w'
    go_simp
    with_reducible rfl
  rotate_left
  · simp only [Act.put, List.setIfInBounds_toArray, List.set_cons_zero, List.set_cons_succ, i64_w, i32_w]
    rfl
  refine take_ (i := 3) (N := some 18) (v := ?_) (a' := ?_) #[true, true, true, true, true, false, false] rfl rfl (by kernel_rfl) (fun _ _ _ h => h) (Or.inl ⟨by rfl, ?_⟩) hHeld ?_ ?_
  rotate_left
  · rintro w' ⟨s0, s1, s2⟩
    go_simp
    with_reducible rfl
  rotate_left
  · simp only [Act.put, List.setIfInBounds_toArray, List.set_cons_zero, List.set_cons_succ, i64_w, i32_w]
    rfl
  refine take_ (i := 5) (N := some 20) (v := ?_) (a' := ?_) #[true, true, true, true, true, true, false] rfl rfl (by kernel_rfl) (fun _ _ _ h => h) (Or.inl ⟨by rfl, ?_⟩) hHeld ?_ ?_
  rotate_left
  · rintro w' ⟨s0, s1, s2⟩
    go_simp
    with_reducible rfl
  rotate_left
  · simp only [Act.put, List.setIfInBounds_toArray, List.set_cons_zero, List.set_cons_succ, i64_w, i32_w]
    rfl
  refine last_ (i := 6) (N := none) #[true, true, true, true, true, true, true] rfl rfl (by kernel_rfl) (by decide) (fun K hK => ?_)
  refine skip_ (w1 := ?_) (by rfl) rfl ?_ ?_
  rotate_left
  · go_simp
    rfl
  refine hK.out _ _ ?_
  clear hK K
  refine done_ (by kernel_rfl) ?_
  clear hHeld
  go_wp2
  go_end0
  refine ⟨rfl, HM2.out, Nat.le_trans HBL.out.size HG.out.size, fun b hb hbm => (HG.out.block b (Nat.lt_of_lt_of_le hb HBL.out.size) (fun e => hbm (by injection e))).trans (HBL.out.block b hb), fun a hB hBm => ?_⟩
  have h1 : Below a.heap.size a (W.alloc (.cells #[.slice A n c, .bool b] 69)).drew := hB.trans (HBL.out.mono hB.size)
  exact h1.grown HG.out (Nat.le_trans hB.size HBL.out.size) (fun k hk => by injection hk with hk; omega)
theorem laid (h : TabUp W w0 ok t S) {m : Nat} {es : List (Key × TE)} (hS : S = view es) (hh : W.heap[t]? = some (.cells #[.map (some m)] 66 (0, 0))) (hm : HasMap KE Try.prog 9 W m es) (htm : t ≠ m) (ht : ok t ∧ w0.heap.size ≤ t) (hmm : ok m ∧ w0.heap.size ≤ m) (hr : ∀ p ∈ es, RowOk W w0 ok t m p.2)
    (hB : Below W.heap.size W w1) (few : S.length ≤ 1000000) (s : ByteArray) (hs : s.size ≤ maxLen) (A : Option Addr) (n c : Nat) (b : Bool) (xs : List Int) (hn : n = xs.length) (hc : n ≤ c) (hC : Kd.C (Kd.int .u8) w1 A n xs) (hA : ∀ ad, A = some ad → ∃ g o, ad = ⟨g, o, none⟩ ∧ W.heap.size ≤ g ∧ g < w1.heap.size) :
    Calls Try.prog 31 #[.pointer (some ⟨t, 0, none⟩), .string s, .agg #[.slice A n c, .bool b]] w1 fun e W' => e = .returned (.tuple #[]) ∧ TabUp W' w0 (fun k => ok k ∨ W.heap.size ≤ k) t (put S s.data.toList (xs, b)) ∧ Kept W W' ok := by
  have htlt : t < W.heap.size := (Array.getElem?_eq_some_iff.1 hh).1
  have hmlt := hm.lt
  obtain ⟨x, hx, hxa, hxn, hxc, hxx, hxb⟩ : ∃ x : TE, teV x = .agg #[.slice A n c, .bool b] ∧ x.addr = A ∧ x.n = n ∧ x.c = c ∧ x.xs = xs ∧ x.has = b := by
    cases A with
    | none => exact ⟨⟨none, n, c, b, xs⟩, rfl, rfl, rfl, rfl, rfl, rfl⟩
    | some ad =>
      obtain ⟨g, o, rfl, _⟩ := hA ad rfl
      exact ⟨⟨some (g, o), n, c, b, xs⟩, rfl, rfl, rfl, rfl, rfl, rfl⟩
  have hfew : es.length < maxLen := by rw [← view_len, ← hS]; unfold maxLen; omega
  refine (lay_calls ((hB.block t htlt).trans hh) (hm.step (hB.block m hmlt)) htm hfew s hs A n c b x hx).mono ?_
  rintro e W' ⟨rfl, h1, h2, h3, h4⟩
  have hBW : Below w0.heap.size w0 W' := h4 w0 (h.below.trans (hB.mono h.below.size)) hmm.2
  have hold : ∀ k, k < W.heap.size → k ≠ m → W'.heap[k]? = W.heap[k]? := fun k hk hkm => (h3 k (Nat.lt_of_lt_of_le hk hB.size) hkm).trans (hB.block k hk)
  have hsz : W.heap.size ≤ W'.heap.size := Nat.le_trans hB.size h2
  refine ⟨rfl, ⟨⟨m, put es s.data.toList x, by rw [view_put, hS]; unfold seen; rw [hxx, hxb], (hold t htlt htm).trans hh, h1, htm, ⟨.inl ht.1, ht.2⟩, ⟨.inl hmm.1, hmm.2⟩, fun p hp => ?_⟩, hBW⟩, ⟨hsz, fun k hk hz => hold k hk (fun e => hz (e ▸ hmm.1))⟩⟩
  rcases mem_put hp with e | hp
  · rw [e]
    refine ⟨by rw [hxn, hxx, hn], by rw [hxn, hxc]; exact hc, ?_, fun ad ha => ?_⟩
    · rw [hxa, hxn, hxx]
      refine C_block hC (fun ad ha => ?_)
      obtain ⟨g, o, rfl, h5, h6⟩ := hA ad ha
      exact h3 g h6 (fun e => by subst e; omega)
    · rw [hxa] at ha
      obtain ⟨g, o, rfl, h5, h6⟩ := hA ad ha
      refine ⟨.inr h5, Nat.le_trans h.below.size h5, Nat.lt_of_lt_of_le h6 h2, fun e => ?_, fun e => ?_⟩
      · simp only at e; omega
      · simp only at e; omega
  · have q := (hr p hp).step hsz (fun b hb _ hbm => hold b hb hbm)
    exact ⟨q.len, q.cap, q.row, fun ad e => have z := q.mine ad e; ⟨.inl z.1, z.2⟩⟩
set_option maxRecDepth 100000 in
set_option maxHeartbeats 4000000 in
theorem put_up (h : TabUp W w0 ok t S) (few : S.length ≤ 1000000) (s : ByteArray) (hs : s.size ≤ maxLen) (A : Option Addr) (n c : Nat) (xs : List Int) (hn : n = xs.length) (hC : Kd.C (Kd.int .u8) W A n xs) (hl : n ≤ 140737488355328) :
    Calls Try.prog 12 #[.pointer (some ⟨t, 0, none⟩), .string s, .slice A n c] W fun e W' => e = .returned (.int .i64 (tput S s xs).1) ∧ TabUp W' w0 (fun k => ok k ∨ W.heap.size ≤ k) t (tput S s xs).2 ∧ Kept W W' ok := by
  obtain ⟨⟨m, es, h1, h2, h3, h4, h5, h6, h7⟩, _⟩ := id h
  have HD := Aside0.mk h
  have HCL := Aside0.mk (clone_calls A n c xs W hC hl)
  have HL := Aside0.mk (fun w1 (hB : Below W.heap.size W w1) A' c' hc' hC' hA' => laid (w1 := w1) h h1 h2 h3 h4 h5 h6 h7 hB few s hs A' xs.length c' true xs rfl hc' hC' hA')
  have HN := Aside0.mk hn
  cases hg : goodK s with
  | false =>
    have HE : Aside0 (tput S s xs = (1, S)) := ⟨by unfold tput; rw [if_pos hg]⟩
    have hm := may_calls t s W
    rw [hg] at hm
    have HM := Aside0.mk hm
    clear h h1 h2 h3 h4 h5 h6 h7 hC hm hg hn
    go_enter Try.func12, Try.ntmps12
    go_wp2_with fail
    refine HM.out.mono ?_
    rintro e w1 ⟨rfl, rfl⟩
    go_wp2
    go_ret
    rw [HE.out]
    exact ⟨rfl, HD.out.mono (fun _ h => .inl h), Kept.refl _ _⟩
  | true =>
    have hm := may_calls t s W
    rw [hg] at hm
    have HM := Aside0.mk hm
    by_cases hbig : 4096 < n
    · have HE : Aside0 (tput S s xs = (5, S)) := ⟨by unfold tput; rw [if_neg (by rw [hg]; simp), if_pos (by omega)]⟩
      clear h h1 h2 h3 h4 h5 h6 h7 hC hm hg hn
      go_enter Try.func12, Try.ntmps12
      go_wp2_with fail
      refine HM.out.mono ?_
      rintro e w1 ⟨rfl, rfl⟩
      go_wp2
      go_ret
      rw [HE.out]
      exact ⟨rfl, HD.out.mono (fun _ h => .inl h), Kept.refl _ _⟩
    · have HE : Aside0 (tput S s xs = (0, put S s.data.toList (xs, true))) := ⟨by unfold tput; rw [if_neg (by rw [hg]; simp), if_neg (by omega)]⟩
      clear h h1 h2 h3 h4 h5 h6 h7 hC hm hg hn
      go_enter Try.func12, Try.ntmps12
      go_wp2_with fail
      refine HM.out.mono ?_
      rintro e w1 ⟨rfl, rfl⟩
      go_wp2_with fail
      refine HCL.out.mono ?_
      rintro e w2 ⟨A2, c2, rfl, hc2, hC2, hA2, hB2⟩
      have K := Aside0.mk (HL.out w2 hB2 A2 c2 hc2 hC2 hA2)
      clear hC2 hA2 hB2 HL
      go_wp2_with fail
      refine K.out.mono ?_
      rintro e w3 ⟨rfl, h3, hk3⟩
      go_wp2
      go_ret
      rw [HE.out]
      exact ⟨rfl, h3, hk3⟩
set_option maxRecDepth 100000 in
set_option maxHeartbeats 4000000 in
theorem del_up (h : TabUp W w0 ok t S) (few : S.length ≤ 1000000) (s : ByteArray) (hs : s.size ≤ maxLen) :
    Calls Try.prog 13 #[.pointer (some ⟨t, 0, none⟩), .string s] W fun e W' => e = .returned (.int .i64 (tdel S s).1) ∧ TabUp W' w0 (fun k => ok k ∨ W.heap.size ≤ k) t (tdel S s).2 ∧ Kept W W' ok := by
  obtain ⟨⟨m, es, h1, h2, h3, h4, h5, h6, h7⟩, _⟩ := id h
  have HD := Aside0.mk h
  have HL := Aside0.mk (laid h h1 h2 h3 h4 h5 h6 h7 (Below.refl _ _) few s hs none 0 0 false [] rfl (Nat.le_refl _) ⟨rfl, by simp, fun h => absurd h (by simp)⟩ (fun ad h => by cases h))
  have hm := may_calls t s W
  cases hg : goodK s with
  | false =>
    have HE : Aside0 (tdel S s = (1, S)) := ⟨by unfold tdel; rw [if_pos hg]⟩
    rw [hg] at hm
    have HM := Aside0.mk hm
    clear h h1 h2 h3 h4 h5 h6 h7 hm hg
    go_enter Try.func13, Try.ntmps13
    go_wp2_with fail
    refine HM.out.mono ?_
    rintro e w1 ⟨rfl, rfl⟩
    go_wp2
    go_ret
    rw [HE.out]
    exact ⟨rfl, HD.out.mono (fun _ h => .inl h), Kept.refl _ _⟩
  | true =>
    have HE : Aside0 (tdel S s = (0, put S s.data.toList ([], false))) := ⟨by unfold tdel; rw [if_neg (by rw [hg]; simp)]⟩
    rw [hg] at hm
    have HM := Aside0.mk hm
    clear h h1 h2 h3 h4 h5 h6 h7 hm hg
    go_enter Try.func13, Try.ntmps13
    go_wp2_with fail
    refine HM.out.mono ?_
    rintro e w1 ⟨rfl, rfl⟩
    go_wp2_with fail
    refine HL.out.mono ?_
    rintro e w3 ⟨rfl, h3, hk3⟩
    go_wp2
    go_ret
    rw [HE.out]
    exact ⟨rfl, h3, hk3⟩
theorem entry (h : TabUp w w0 ok t S) (s : ByteArray) (hs : s.size ≤ maxLen) : ∃ m A n c, w.cell? ⟨t, 0, none⟩ = some (.map (some m)) ∧ (Instr.lookup 64 (.map (some m)) (.string s) true).run Try.prog w = .ok (.tuple #[.agg #[.slice A n c, .bool (tget S s).2.1], .bool (tget S s).2.2]) w ∧ (Instr.lookup 64 (.map (some m)) (.string s) false).run Try.prog w = .ok (.agg #[.slice A n c, .bool (tget S s).2.1]) w ∧ n = (tget S s).1.length ∧ n ≤ c ∧ Kd.C (Kd.int .u8) w A n (tget S s).1 := by
  obtain ⟨⟨m, es, h1, h2, h3, h4, h5, h6, h7⟩, _⟩ := h
  have hl := h3.look_ok PT s hs
  have hl2 := h3.look PT s hs
  have hv : at_ S s.data.toList = (at_ es s.data.toList).map seen := by rw [h1, view_at]
  unfold tget
  rw [hv]
  cases hat : at_ es s.data.toList with
  | none =>
    rw [hat] at hl hl2
    exact ⟨m, none, 0, 0, (blk_cell h2 0).trans rfl, hl, hl2, rfl, Nat.le_refl _, ⟨rfl, by simp, fun h => absurd h (by simp)⟩⟩
  | some x =>
    rw [hat] at hl hl2
    have hr := h7 _ (at_mem hat)
    exact ⟨m, x.addr, x.n, x.c, (blk_cell h2 0).trans rfl, hl, hl2, hr.len, hr.cap, hr.row⟩
theorem get_nil (s : ByteArray) (w : World) : Calls Try.prog 18 #[.pointer none, .string s] w fun e w' => e = .returned (.tuple #[.slice none 0 0, .bool false, .bool false]) ∧ w' = w := by
  go_enter Try.func18, Try.ntmps18
  go_wp2
  exact bodyPost_ret (v := .tuple #[.slice none 0 0, .bool false, .bool false]) (by simp [results, Try.results18, go_sem]) rfl ⟨rfl, rfl⟩
set_option maxRecDepth 100000 in
set_option maxHeartbeats 4000000 in
theorem get_up (h : TabUp w w0 ok t S) (s : ByteArray) (hs : s.size ≤ maxLen) (hl : (tget S s).1.length ≤ 140737488355328) :
    Calls Try.prog 18 #[.pointer (some ⟨t, 0, none⟩), .string s] w fun e w' => ∃ A c, e = .returned (.tuple #[.slice A (tget S s).1.length c, .bool (tget S s).2.1, .bool (tget S s).2.2]) ∧ (tget S s).1.length ≤ c ∧ Kd.C (Kd.int .u8) w' A (tget S s).1.length (tget S s).1 ∧ Below w.heap.size w w' := by
  obtain ⟨m, A, n, c, h1, h2, _, h3, h4, h5⟩ := entry h s hs
  obtain ⟨⟨xs, b, k⟩, hv⟩ : ∃ v, v = tget S s := ⟨_, rfl⟩
  rw [← hv] at h2 h3 h5 hl ⊢
  simp only at h2 h3 h5 hl ⊢
  have c0 : (w.alloc (.cells #[.slice A n c, .bool b] 69)).cell? ⟨w.heap.size, 0, none⟩ = some (.slice A n c) := (blk_cell (heap_alloc_new w _) 0).trans rfl
  have c1 : (w.alloc (.cells #[.slice A n c, .bool b] 69)).cell? ⟨w.heap.size, 1, none⟩ = some (.bool b) := (blk_cell (heap_alloc_new w _) 1).trans rfl
  have HB : Aside0 (Below w.heap.size w (w.alloc (.cells #[.slice A n c, .bool b] 69)).drew) := ⟨bdrew ((Below.refl _ _).alloc (Nat.le_refl _) _)⟩
  have HCL : Aside0 (∀ (_ : Unit), Calls Try.prog 32 #[.slice A n c] (w.alloc (.cells #[.slice A n c, .bool b] 69)).drew _) := ⟨fun _ => clone_calls A n c xs _ (Kd.C_below h5 HB.out) (by omega)⟩
  clear h h5 hv h3 hl
  go_enter Try.func18, Try.ntmps18
  go_wp2
  refine start_ (n := 9) (S := fun w' => w'.cell? ⟨w.heap.size, 0, none⟩ = some (.slice A n c) ∧ w'.cell? ⟨w.heap.size, 1, none⟩ = some (.bool b)) (ds := []) #[false, false, false, false, false, false, false, false, false] (by kernel_rfl) rfl rfl ⟨c0, c1⟩ (fun hHeld => ?_)
  refine pure_ (i := 0) (N := some 19) (v := ?_) (a' := ?_) #[true, false, false, false, false, false, false, false, false] rfl rfl (by kernel_rfl) (fun _ _ _ h => h) (Or.inl ⟨by rfl, ?_⟩) ?_ ?_
  rotate_left
  · intro w'
    go_simp
    with_reducible rfl
  rotate_left
  · simp only [Act.put, List.setIfInBounds_toArray, List.set_cons_zero, List.set_cons_succ, i64_w, i32_w]
    rfl
  refine pure_ (i := 3) (N := some 22) (v := ?_) (a' := ?_) #[true, false, false, true, false, false, false, false, false] rfl rfl (by kernel_rfl) (fun _ _ _ h => h) (Or.inl ⟨by rfl, ?_⟩) ?_ ?_
  rotate_left
  · intro w'
    go_simp
    with_reducible rfl
  rotate_left
  · simp only [Act.put, List.setIfInBounds_toArray, List.set_cons_zero, List.set_cons_succ, i64_w, i32_w]
    rfl
  refine pure_ (i := 5) (N := some 24) (v := ?_) (a' := ?_) #[true, false, false, true, false, true, false, false, false] rfl rfl (by kernel_rfl) (fun _ _ _ h => h) (Or.inl ⟨by rfl, ?_⟩) ?_ ?_
  rotate_left
  · intro w'
    go_simp
    with_reducible rfl
  rotate_left
  · simp only [Act.put, List.setIfInBounds_toArray, List.set_cons_zero, List.set_cons_succ, i64_w, i32_w]
    rfl
  refine take_ (i := 1) (N := some 20) (v := ?_) (a' := ?_) #[true, true, false, true, false, true, false, false, false] rfl rfl (by kernel_rfl) (fun _ _ _ h => h) (Or.inl ⟨by rfl, ?_⟩) hHeld ?_ ?_
  rotate_left
  · rintro w' ⟨s0, s1⟩
    go_simp
    with_reducible rfl
  rotate_left
  · simp only [Act.put, List.setIfInBounds_toArray, List.set_cons_zero, List.set_cons_succ, i64_w, i32_w]
    rfl
  refine take_ (i := 4) (N := some 23) (v := ?_) (a' := ?_) #[true, true, false, true, true, true, false, false, false] rfl rfl (by kernel_rfl) (fun _ _ _ h => h) (Or.inl ⟨by rfl, ?_⟩) hHeld ?_ ?_
  rotate_left
  · rintro w' ⟨s0, s1⟩
    go_simp
    with_reducible rfl
  rotate_left
  · simp only [Act.put, List.setIfInBounds_toArray, List.set_cons_zero, List.set_cons_succ, i64_w, i32_w]
    rfl
  refine one_ (i := 2) (N := some 21) #[true, true, true, true, true, true, false, false, false] rfl rfl (by kernel_rfl) (by decide) (fun K hK => ?_)
  refine goes_ Try.func32 (by kernel_rfl) rfl #[.slice A n c] (by rfl) rfl rfl (by simp only [List.map_toArray, List.map_cons, List.map_nil]; rfl) ?_
  with_reducible refine (HCL.out ()).mono ?_
  rintro e w3 ⟨A3, c3, rfl, hc3, hC3, _, hB3⟩
  refine ⟨_, rfl, ?_⟩
  refine hK.out _ _ ⟨(cell_below hHeld.1 hB3), (cell_below hHeld.2 hB3)⟩ (fun hHeld => ?_)
  clear hK K
  refine norm_ (a' := ?_) ?_ ?_
  rotate_left
  · show Act.put _ (some 21) _ = _
    simp only [Act.put, List.setIfInBounds_toArray, List.set_cons_zero, List.set_cons_succ, i64_w, i32_w]
    rfl
  refine pure_ (i := 6) (N := some 4) (v := ?_) (a' := ?_) #[true, true, true, true, true, true, true, false, false] rfl rfl (by kernel_rfl) (fun _ _ _ h => h) (Or.inl ⟨by rfl, ?_⟩) ?_ ?_
  rotate_left
  · intro w'
    go_simp
    with_reducible rfl
  rotate_left
  · simp only [Act.put, List.setIfInBounds_toArray, List.set_cons_zero, List.set_cons_succ, i64_w, i32_w]
    rfl
  refine pure_ (i := 7) (N := some 5) (v := ?_) (a' := ?_) #[true, true, true, true, true, true, true, true, false] rfl rfl (by kernel_rfl) (fun _ _ _ h => h) (Or.inl ⟨by rfl, ?_⟩) ?_ ?_
  rotate_left
  · intro w'
    go_simp
    with_reducible rfl
  rotate_left
  · simp only [Act.put, List.setIfInBounds_toArray, List.set_cons_zero, List.set_cons_succ, i64_w, i32_w]
    rfl
  refine pure_ (i := 8) (N := some 6) (v := ?_) (a' := ?_) #[true, true, true, true, true, true, true, true, true] rfl rfl (by kernel_rfl) (fun _ _ _ h => h) (Or.inl ⟨by rfl, ?_⟩) ?_ ?_
  rotate_left
  · intro w'
    go_simp
    with_reducible rfl
  rotate_left
  · simp only [Act.put, List.setIfInBounds_toArray, List.set_cons_zero, List.set_cons_succ, i64_w, i32_w]
    rfl
  refine done_ (by kernel_rfl) ?_
  clear hHeld
  go_wp2
  exact bodyPost_ret (v := .tuple #[.slice A3 xs.length c3, .bool b, .bool k]) (by simp [results, Try.results18, go_sem]) rfl ⟨A3, c3, rfl, hc3, hC3, HB.out.trans (hB3.mono HB.out.size)⟩
theorem len_nil (w : World) : Calls Try.prog 22 #[.pointer none] w fun e w' => e = .returned (.int .i64 0) ∧ w' = w := by
  go_enter Try.func22, Try.ntmps22
  go_wp2
  go_ret
  exact ⟨rfl, rfl⟩
theorem len_up (h : TabUp w w0 ok t S) : Calls Try.prog 22 #[.pointer (some ⟨t, 0, none⟩)] w fun e w' => e = .returned (.int .i64 S.length) ∧ w' = w := by
  obtain ⟨⟨m, es, h1, h2, h3, h4, h5, h6, h7⟩, _⟩ := h
  have hl := h3.len PT 3
  have c0 : w.cell? ⟨t, 0, none⟩ = some (.map (some m)) := (blk_cell h2 0).trans rfl
  have HE : Aside0 (S.length = es.length) := ⟨by rw [h1, view_len]⟩
  clear h1 h2 h3 h4 h5 h6 h7
  go_enter Try.func22, Try.ntmps22
  go_wp2
  go_ret
  rw [HE.out]
  exact ⟨rfl, rfl⟩
end
end Go.Proofs.Ytaghcepochjoeaa.Hand
