/- A Table's keys, its documents, the keys that are gone. -/
import Derived.Test.YtaghcepochjoeaaTabK
namespace Go.Proofs.Ytaghcepochjoeaa.MapV
open Go.RowKit
theorem Ranges.short {β : Type} {E : Elem β} {P : Program} {mT kT eT : TypeId} {m r : Nat} {fm : List (Key × β)} (T : PM E P mT kT eT) : ∀ (n : Nat) (W : World) (todo : List (Key × β)) (cnt : Nat), cnt ≤ n → Ranges E P kT W m r fm todo cnt → ∀ p ∈ todo, p.1.length ≤ maxLen := by
  intro n
  induction n with
  | zero =>
    intro W todo cnt hc h p hp
    rcases h.next T 0 with ⟨_, hnil, _⟩ | ⟨s, g, todo', W', cnt', hsz, hat, hperm, hr2, hlt, _⟩
    · rw [hnil] at hp; cases hp
    · omega
  | succ n ih =>
    intro W todo cnt hc h p hp
    rcases h.next T 0 with ⟨_, hnil, _⟩ | ⟨s, g, todo', W', cnt', hsz, hat, hperm, hr2, hlt, _⟩
    · rw [hnil] at hp; cases hp
    · rcases List.mem_cons.1 (hperm.mem_iff.1 hp) with rfl | hp
      · exact hsz
      · exact ih W' todo' cnt' (by omega) hr2 p hp
end Go.Proofs.Ytaghcepochjoeaa.MapV
namespace Go.Proofs.Ytaghcepochjoeaa.Hand
open Go.RowKit Go.Proofs.Ytaghcepochjoeaa.PA Go.Proofs.Ytaghcepochjoeaa.MapV Go.Proofs.YtaghcepochjoeaaW.PrintWords Go.Proofs.YtaghcepochjoeaaW.PrintLast Go.Proofs.YtaghcepochjoeaaW.PrintMore
attribute [local go_sem] max2_int min2_int
set_option linter.unusedVariables false
set_option linter.unusedSimpArgs false
set_option linter.unusedSectionVars false
def hasT (S : TS) (k : Key) : Bool := ((at_ S k).map (·.2)).getD false
def namesT (S : TS) : List ByteArray := ((S.map (·.1)).mergeSort leK).map byK
def keysT (S : TS) (b : Bool) : List ByteArray := (namesT S).filter fun s => hasT S s.data.toList == b
theorem tget_has (S : TS) (s : ByteArray) : (tget S s).2.1 = hasT S s.data.toList := by
  unfold tget hasT
  cases at_ S s.data.toList <;> rfl
section
variable {W W' w w0 w1 : World} {ok ok' T : Nat → Prop} {t m : Nat} {S : TS} {x : TE} {es : List (Key × TE)}
theorem TabUp.short (h : TabUp w w0 ok t S) : ∀ p ∈ S, p.1.length ≤ maxLen := by
  obtain ⟨⟨m, es, h1, h2, h3, _⟩, _⟩ := h
  obtain ⟨W2, _, hr, _⟩ := h3.range PT
  intro p hp
  rw [h1] at hp
  obtain ⟨q, hq, rfl⟩ := List.mem_map.1 hp
  exact Ranges.short PT _ _ _ _ (Nat.le_refl _) hr q hq
set_option maxRecDepth 100000 in
set_option maxHeartbeats 4000000 in
theorem kdel_calls (h : TabUp w w0 ok t S) (b2 b3 : Nat) (b : Bool) (hb2 : w.cell? ⟨b2, 0, none⟩ = some (.pointer (some ⟨t, 0, none⟩))) (hb3 : w.cell? ⟨b3, 0, none⟩ = some (.bool b)) (s : ByteArray) (hs : s.size ≤ maxLen) :
    Calls Try.prog 41 #[.string s, .pointer (some ⟨b2, 0, none⟩), .pointer (some ⟨b3, 0, none⟩)] w fun e w' => e = .returned (.bool (!(hasT S s.data.toList == b))) ∧ Below w.heap.size w w' := by
  obtain ⟨m, A, n, c, h1, _, h2, _⟩ := entry (h.quiet (bdrew (Below.refl _ _))) s hs
  rw [tget_has] at h2
  generalize hasT S s.data.toList = hv at h2 ⊢
  have hfld : ∀ (W : World) (A : Option Addr) (n c : Nat), (Instr.field 69 (Value.agg #[Value.slice A n c, Value.bool hv]) 1).run Try.prog W = .ok (.bool hv) W := fun W A n c => by simp [Instr.field, asAgg, go_sem]
  have hneq : ∀ W, (binOp BinOp.neq 4 (Value.bool hv) (Value.bool b)).run Try.prog W = .ok (.bool (!(hv == b))) W := fun W => by simp [go_sem]
  clear h
  go_enter Try.func41, Try.ntmps41
  go_wp2
  refine start_ (n := 10) (S := fun w' => w'.cell? ⟨b2, 0, none⟩ = some (.pointer (some ⟨t, 0, none⟩)) ∧ w'.cell? ⟨t, 0, none⟩ = some (.map (some m)) ∧ (Instr.lookup 64 (.map (some m)) (.string s) false).run Try.prog w' = .ok (.agg #[.slice A n c, .bool hv]) w' ∧ w'.cell? ⟨b3, 0, none⟩ = some (.bool b)) (ds := []) #[false, false, false, false, false, false, false, false, false, false] (by kernel_rfl) rfl rfl ⟨hb2, h1, h2, hb3⟩ (fun hHeld => ?_)
  refine pure_ (i := 4) (N := some 9) (v := ?_) (a' := ?_) #[false, false, false, false, true, false, false, false, false, false] rfl rfl (by kernel_rfl) (fun _ _ _ h => h) (Or.inl ⟨by rfl, ?_⟩) ?_ ?_
  rotate_left
  · intro w'
    go_simp
    with_reducible rfl
  rotate_left
  · simp only [Act.put, List.setIfInBounds_toArray, List.set_cons_zero, List.set_cons_succ, i64_w, i32_w]
    rfl
  refine take_ (i := 0) (N := some 5) (v := ?_) (a' := ?_) #[true, false, false, false, true, false, false, false, false, false] rfl rfl (by kernel_rfl) (fun _ _ _ h => h) (Or.inl ⟨by rfl, ?_⟩) hHeld ?_ ?_
  rotate_left
  · rintro w' ⟨s0, s1, s2, s3⟩
    go_simp
    with_reducible rfl
  rotate_left
  · simp only [Act.put, List.setIfInBounds_toArray, List.set_cons_zero, List.set_cons_succ, i64_w, i32_w]
    rfl
  refine pure_ (i := 1) (N := some 6) (v := ?_) (a' := ?_) #[true, true, false, false, true, false, false, false, false, false] rfl rfl (by kernel_rfl) (fun _ _ _ h => h) (Or.inl ⟨by rfl, ?_⟩) ?_ ?_
  rotate_left
  · intro w'
    go_simp
    with_reducible rfl
  rotate_left
  · simp only [Act.put, List.setIfInBounds_toArray, List.set_cons_zero, List.set_cons_succ, i64_w, i32_w]
    rfl
  refine pure_ (i := 2) (N := some 7) (v := ?_) (a' := ?_) #[true, true, true, false, true, false, false, false, false, false] rfl rfl (by kernel_rfl) (fun _ _ _ h => h) (Or.inl ⟨by rfl, ?_⟩) ?_ ?_
  rotate_left
  · intro w'
    go_simp
    with_reducible rfl
  rotate_left
  · simp only [Act.put, List.setIfInBounds_toArray, List.set_cons_zero, List.set_cons_succ, i64_w, i32_w]
    rfl
  refine take_ (i := 3) (N := some 8) (v := ?_) (a' := ?_) #[true, true, true, true, true, false, false, false, false, false] rfl rfl (by kernel_rfl) (fun _ _ _ h => h) (Or.inl ⟨by rfl, ?_⟩) hHeld ?_ ?_
  rotate_left
  · rintro w' ⟨s0, s1, s2, s3⟩
    go_simp
    with_reducible rfl
  rotate_left
  · simp only [Act.put, List.setIfInBounds_toArray, List.set_cons_zero, List.set_cons_succ, i64_w, i32_w]
    rfl
  refine take_ (i := 5) (N := some 10) (v := ?_) (a' := ?_) #[true, true, true, true, true, true, false, false, false, false] rfl rfl (by kernel_rfl) (fun _ _ _ h => h) (Or.inl ⟨by rfl, ?_⟩) hHeld ?_ ?_
  rotate_left
  · rintro w' ⟨s0, s1, s2, s3⟩
    go_simp
    with_reducible rfl
  rotate_left
  · simp only [Act.put, List.setIfInBounds_toArray, List.set_cons_zero, List.set_cons_succ, i64_w, i32_w]
    rfl
  refine pure_ (i := 6) (N := some 11) (v := ?_) (a' := ?_) #[true, true, true, true, true, true, true, false, false, false] rfl rfl (by kernel_rfl) (fun _ _ _ h => h) (Or.inl ⟨by rfl, ?_⟩) ?_ ?_
  rotate_left
  · intro w'
    go_simp
    with_reducible rfl
  rotate_left
  · simp only [Act.put, List.setIfInBounds_toArray, List.set_cons_zero, List.set_cons_succ, i64_w, i32_w]
    rfl
  refine take_ (i := 7) (N := some 12) (v := ?_) (a' := ?_) #[true, true, true, true, true, true, true, true, false, false] rfl rfl (by kernel_rfl) (fun _ _ _ h => h) (Or.inl ⟨by rfl, ?_⟩) hHeld ?_ ?_
  rotate_left
  · rintro w' ⟨s0, s1, s2, s3⟩
    go_simp
    with_reducible rfl
  rotate_left
  · simp only [Act.put, List.setIfInBounds_toArray, List.set_cons_zero, List.set_cons_succ, i64_w, i32_w]
    rfl
  refine pure_ (i := 8) (N := some 13) (v := ?_) (a' := ?_) #[true, true, true, true, true, true, true, true, true, false] rfl rfl (by kernel_rfl) (fun _ _ _ h => h) (Or.inl ⟨by rfl, ?_⟩) ?_ ?_
  rotate_left
  · intro w'
    go_simp
    with_reducible rfl
  rotate_left
  · simp only [Act.put, List.setIfInBounds_toArray, List.set_cons_zero, List.set_cons_succ, i64_w, i32_w]
    rfl
  refine pure_ (i := 9) (N := some 4) (v := ?_) (a' := ?_) #[true, true, true, true, true, true, true, true, true, true] rfl rfl (by kernel_rfl) (fun _ _ _ h => h) (Or.inl ⟨by rfl, ?_⟩) ?_ ?_
  rotate_left
  · intro w'
    go_simp
    with_reducible rfl
  rotate_left
  · simp only [Act.put, List.setIfInBounds_toArray, List.set_cons_zero, List.set_cons_succ, i64_w, i32_w]
    rfl
  refine done_ (by kernel_rfl) ?_
  clear hHeld
  go_wp2
  go_ret
  refine ⟨by first | rfl | trivial, by first | exact bdrew (Below.refl _ _) | exact Below.refl _ _⟩
theorem sort_byK (ss : List (List UInt8)) : (ss.mergeSort (fun x y => decide (x ≤ y))).map encStr = encs Value.string ((ss.mergeSort leK).map byK) := by
  rw [show (fun x y : Key => decide (x ≤ y)) = leK from rfl]
  unfold encs
  rw [List.map_map]
  rfl
set_option maxRecDepth 100000 in
set_option maxHeartbeats 4000000 in
theorem keys_up (h : TabUp w w0 ok t S) (few : S.length ≤ 1000000) (b : Bool) :
    Calls Try.prog 36 #[.pointer (some ⟨t, 0, none⟩), .bool b] w fun e w' => ∃ A c, e = .returned (.slice A (keysT S b).length c) ∧ (keysT S b).length ≤ c ∧ Kd.R Kd.string 9 w' w.heap.size (fun k => w.heap.size ≤ k) (.slice A (keysT S b).length c) (keysT S b) ∧ Below w.heap.size w w' := by
  obtain ⟨⟨m, es, hS, hh, hm, htm, ht, hmm, hr⟩, _⟩ := id h
  obtain ⟨wA, hwA⟩ : ∃ wA, wA = w.alloc (.cells #[.pointer (some ⟨t, 0, none⟩)] 36) := ⟨_, rfl⟩
  obtain ⟨w1, hw1⟩ : ∃ w1, w1 = wA.alloc (.cells #[.bool b] 4) := ⟨_, rfl⟩
  have hsA : wA.heap.size = w.heap.size + 1 := by rw [hwA]; simp
  have hs1 : w1.heap.size = w.heap.size + 2 := by rw [hw1]; simp [hsA]
  have hBA : Below w.heap.size w wA := by rw [hwA]; exact (Below.refl _ _).alloc (Nat.le_refl _) _
  have hB1 : Below w.heap.size w w1 := by rw [hw1]; exact hBA.alloc hBA.size _
  have hcA : wA.heap[w.heap.size]? = some (.cells #[.pointer (some ⟨t, 0, none⟩)] 36 (0, 0)) := by rw [hwA]; exact heap_alloc_new _ _
  have hc2 : w1.heap[w.heap.size]? = some (.cells #[.pointer (some ⟨t, 0, none⟩)] 36 (0, 0)) := by
    rw [hw1]
    exact (((Below.refl wA.heap.size wA).alloc (Nat.le_refl _) _).block _ (by omega)).trans hcA
  have hc3 : w1.heap[w.heap.size + 1]? = some (.cells #[.bool b] 4 (0, 0)) := by
    have h2 := heap_alloc_new wA (.cells #[.bool b] 4)
    rw [hsA, ← hw1] at h2
    exact h2
  have hT1 := h.bound.quiet hB1
  have hm1 : HasMap KE Try.prog 9 w1 m es := hm.step (hB1.block m hm.lt)
  have hh1 := (hB1.block t (Array.getElem?_eq_some_iff.1 hh).1).trans hh
  obtain ⟨D, hown, hsize, hperm⟩ := HasMap.keys hm1 Try.underlying9
  have hfew : es.length ≤ 1000000 := by rw [← view_len, ← hS]; exact few
  have hk := callsIn_wide.1 (Try.maps_Keys_40 (some m) w1)
  have hs := callsIn_wide.1 (Try.slices_Sorted_keys_39_40 m _ D KE.elem w1 hown (by unfold maxLen; omega) (by omega))
  have hp2 : es.map (·.1) = S.map (·.1) := by rw [hS]; unfold view; rw [List.map_map]; rfl
  rw [hp2] at hperm
  have HK := Aside0.mk hk
  have HSO := Aside0.mk hs
  have HP := Aside0.mk hperm
  have c1 : w1.cell? ⟨w.heap.size, 0, none⟩ = some (.pointer (some ⟨t, 0, none⟩)) := (blk_cell hc2 0).trans rfl
  have c2 : w1.cell? ⟨t, 0, none⟩ = some (.map (some m)) := (blk_cell hh1 0).trans rfl
  have HSH := Aside0.mk h.short
  have HBW0 := Aside0.mk h.below
  have HT1 := Aside0.mk hT1
  have HB1 := Aside0.mk hB1
  have HC2 := Aside0.mk hc2
  have HC3 := Aside0.mk hc3
  have HW1 : Aside0 (w1 = (w.alloc (.cells #[.pointer (some ⟨t, 0, none⟩)] 36)).alloc (.cells #[.bool b] 4)) := ⟨by rw [hw1, hwA]⟩
  have HS1 := Aside0.mk hs1
  clear h hk hs hperm hp2 hown hm hm1 hh hh1 hr hT1 hB1 hBA hcA hc2 hc3 hsA hs1 hsize few hfew hwA hw1 htm ht hmm hS
  have hsz2 : ((w.alloc (.cells #[.pointer (some ⟨t, 0, none⟩)] 36)).alloc (.cells #[.bool b] 4)).heap.size = w.heap.size + 1 + 1 := by simp
  rw [HW1.out] at c1 c2 HK HSO
  rw [hsz2] at HSO HK
  go_enter Try.func36, Try.ntmps36
  go_wp2_with fail
  refine HK.out.mono ?_
  rintro e w2 ⟨rfl, rfl⟩
  go_wp2_with fail
  refine HSO.out.mono ?_
  rintro e w3 ⟨v, ss, rfl, hpm, hrow, hnil, hb⟩
  rw [← HW1.out] at hrow hb
  have hB2 : Below w1.heap.size w1 w3 := ((Below.refl _ _).alloc (Nat.le_refl _) _).trans (hb.mono (by simp))
  have HB3 := Aside0.mk (HB1.out.trans (hB2.mono HB1.out.size))
  have hsort : (ss.mergeSort leK).map byK = namesT S := by unfold namesT; rw [sort_perm (hpm.trans HP.out.symm)]
  have hnl : ss.length = (namesT S).length := by rw [← hsort]; simp
  rw [sort_byK, hsort, hnl, show (w1.alloc (.cells #[.map (some m)] 64)).heap.size = w.heap.size + 3 from by simp [HS1.out]] at hrow
  have hR : Kd.R Kd.string 9 w3 (w.heap.size + 3) (fun k => w.heap.size ≤ k) v (namesT S) := Kd.R_of_own (h1 := fun _ => rfl) hrow (fun k hk => by
    rcases hrow.2 with ⟨rfl, _⟩ | ⟨g, cap, cur, rfl, hg, _⟩
    · simp [Value.ownBlock] at hk
    · have := own_new hk; omega)
  have HE0 : Aside0 (namesT S = [] → keysT S b = []) := ⟨fun e => by unfold keysT; rw [e]; rfl⟩
  rcases hrow.2 with ⟨rfl, h0⟩ | ⟨g, cap, cur, rfl, hg, hblk, _⟩
  · have he := HE0.out (List.eq_nil_of_length_eq_zero h0)
    have HE := Aside0.mk he
    have HD := Aside0.mk (del_none w3 w.heap.size (w.heap.size + 1))
    clear hpm hrow hnil hb hB2 hsort hnl hR h0 he HE0
    go_wp2_with fail
    refine HD.out.mono ?_
    rintro e w4 ⟨rfl, hB4⟩
    go_wp2
    go_ret
    rw [HE.out]
    exact ⟨none, 0, rfl, Nat.le_refl _, Kd.R_nil _ _ _ _ _, HB3.out.trans (hB4.mono HB3.out.size)⟩
  · have hs : ∀ z ∈ namesT S, z.size ≤ maxLen := fun z hz => by
      rw [← hsort] at hz
      obtain ⟨k, hk, rfl⟩ := List.mem_map.1 hz
      rw [List.mem_mergeSort] at hk
      obtain ⟨p, hp, rfl⟩ := List.mem_map.1 ((hpm.trans HP.out.symm).mem_iff.1 hk)
      have := HSH.out p hp
      simpa [byK, ByteArray.size] using this
    have HD := Aside0.mk (delfunc_calls (kp := fun s => hasT S s.data.toList == b) w w3 (fun k => w.heap.size ≤ k) g (namesT S).length cap (namesT S) w.heap.size (w.heap.size + 1) HB3.out (Kd.R_lower hR (by omega)) rfl hs (fun W hBW hKW x hx => by
      have hT3 := HT1.out.quiet hB2
      have hB0 := HT1.out.below
      have hT := hT3.kept (T := fun k => k = g) hKW (fun k hk e => by have := hk.2.2; omega) ((TabUp.below hT3).trans (show Below w0.heap.size w3 W from ⟨by rw [hBW.os, HB3.out.os], by rw [hBW.tape, HB3.out.tape], by rw [hBW.output, HB3.out.output], hKW.1, fun k hk => hKW.2 k (Nat.lt_of_lt_of_le hk (TabUp.below hT3).size) (fun e => by have := HBW0.out.size; omega)⟩))
      refine kdel_calls hT w.heap.size (w.heap.size + 1) b ?_ ?_ x hx
      · have h1 := (hKW.2 w.heap.size (by have := hB2.size; have := HS1.out; omega) (fun e => by omega)).trans ((hB2.block _ (by have := HS1.out; omega)).trans HC2.out)
        exact (blk_cell h1 0).trans rfl
      · have h1 := (hKW.2 (w.heap.size + 1) (by have := hB2.size; have := HS1.out; omega) (fun e => by omega)).trans ((hB2.block _ (by have := HS1.out; omega)).trans HC3.out)
        exact (blk_cell h1 0).trans rfl))
    have HNL := Aside0.mk hnl
    clear hpm hrow hnil hb hB2 hsort hR hs hblk hnl HE0
    go_wp2_with fail
    refine HD.out.mono ?_
    rintro e w4 ⟨rfl, hR4, hB4, hK4⟩
    go_wp2
    go_ret
    obtain ⟨A', c', e', hc', _⟩ := Kd.R_reads hR4
    injection e' with e1 e2 e3
    refine ⟨some ⟨g, 0, none⟩, cap, rfl, by rw [e3]; exact hc', hR4, hB4⟩
end
end Go.Proofs.Ytaghcepochjoeaa.Hand
