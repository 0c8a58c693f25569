/- The reference's disk: Sync. -/
import Derived.Test.YtdepjlnljkbfjaaRef
namespace Go.Proofs.Ytdepjlnljkbfjaa.Hand
open Go.RowKit Go.Proofs.Ytdepjlnljkbfjaa.PA Go.Proofs.Ytdepjlnljkbfjaa.MapP Go.Proofs.YtdepjlnljkbfjaaW.PrintWords Go.Proofs.YtdepjlnljkbfjaaW.PrintLast Go.Proofs.YtdepjlnljkbfjaaW.PrintMore
attribute [local go_sem] max2_int min2_int
set_option linter.unusedVariables false
set_option linter.unusedSimpArgs false
set_option linter.unusedSectionVars false
section
variable {W W' W1 w w0 : World} {base r : Nat} {R R' : RV} {vL v : Value} {es es' : List RE} {e : RE} {ok : Nat → Prop} {g i c n : Nat}
theorem IsRef.belowed (h : IsRef W base r R vL es) (hb : Below W.heap.size W W') : IsRef W' base r R vL es := h.step (fun b hb' => hb.block b (h.lt b hb'))
theorem mayR_one (h : IsRef w base r R vL es) (s : ByteArray) (hsz : s.size ≤ maxLen) :
    Calls Try.prog 65 #[.pointer (some ⟨r, 0, none⟩), .slice (some ⟨w.heap.size, 0, none⟩) 1 1] (w.alloc (.cells #[.string s] 9)) fun e w' => e = .returned (.int .i64 (mayR R.left [s])) ∧ w' = w.alloc (.cells #[.string s] 9) :=
  mayR_calls (names := [s]) (h.belowed ((Below.refl w.heap.size w).alloc (Nat.le_refl _) (.cells #[.string s] 9))) ⟨w.heap.size, 0, none⟩ 1 (by simp) (fun j s' hs' => by
    match j with
    | 0 =>
      cases hs'
      refine ⟨?_, hsz⟩
      rw [Addr.add_lit, blk_cell (heap_alloc_new w _)]
      rfl
    | j + 1 => simp at hs')
theorem did_up (h : IsRef w base r R vL es) (h1 : R.left ≤ 9223372036854775807) (h0 : -1 ≤ R.left) :
    Calls Try.prog 67 #[.pointer (some ⟨r, 0, none⟩)] w fun e w' => e = .returned (.int .i64 0) ∧ IsRef w' base r { R with left := didR R.left } vL es ∧ Kept w w' (fun k => k = r) ∧ (∀ B, B ≤ r → Below B w w') := by
  refine (did_calls h.head h1 h0).mono ?_
  rintro e w' ⟨rfl, h2, h3, h4⟩
  exact ⟨rfl, h.headed (R' := { R with left := didR R.left }) h2 (fun b hb hne => h3.2 b (h.lt b hb) hne) rfl, h3, h4⟩
theorem didR_range {l : Int} (h0 : -1 ≤ l) (h1 : l ≤ 9223372036854775807) : -1 ≤ didR l ∧ didR l ≤ 9223372036854775807 := by
  unfold didR
  split <;> omega
def syncR (R : RV) (s : ByteArray) : Int × RV :=
  if mayR R.left [s] ≠ 0 then (mayR R.left [s], R)
  else if spotB R.L s.data.toList = true then (0, { R with left := didR R.left, L := R.L.set (spotN R.L s.data.toList) (s.data.toList, ((getR R.L s.data.toList).1, (getR R.L s.data.toList).1.length)) })
  else (7, R)
theorem spotB_key {L : List (Key × (List Int × Nat))} {k : Key} (h : spotB L k = true) : L[spotN L k]? = some (k, getR L k) := by
  have hlt := spot_lt h
  have h1 := List.getElem?_eq_getElem hlt
  unfold spotB at h
  rw [h1] at h
  have h2 : L[spotN L k].1 = k := by simpa using h
  unfold getR
  rw [List.getD_eq_getElem?_getD, h1]
  exact congrArg some (Prod.ext h2 rfl)
theorem total_set {L : List (Key × (List Int × Nat))} {i : Nat} {p q : Key × (List Int × Nat)} (h : L[i]? = some p) : total (L.set i q) + p.2.1.length = total L + q.2.1.length := by
  have hlt := (List.getElem?_eq_some_iff.1 h).1
  have h1 := total_take_succ h
  have h2 : total L = total (L.take (i + 1)) + total (L.drop (i + 1)) := by rw [← total_app2, List.take_append_drop]
  have h3 : total (L.set i q) = total (L.take i) + (q.2.1.length + total (L.drop (i + 1))) := by
    rw [List.set_eq_take_append_cons_drop, if_pos hlt, total_app2]
    rfl
  omega
theorem RV.Fine.set {R : RV} (h : R.Fine) {i : Nat} {k : Key} {x y : List Int × Nat} (hi : R.L[i]? = some (k, x)) (hy : y.2 ≤ y.1.length) (ht : (total R.L : Int) + y.1.length ≤ R.room + x.1.length) {l : Int} (hl : -1 ≤ l ∧ l ≤ 9223372036854775807) : ({ R with left := l, L := R.L.set i (k, y) } : RV).Fine := by
  refine ⟨h.r0, h.r1, hl.1, hl.2, ?_, fun p hp => ?_, ?_⟩
  · have := total_set (q := (k, y)) hi
    simp only at this ⊢
    omega
  · rcases List.mem_or_eq_of_mem_set hp with h1 | h1
    · exact h.lasts p h1
    · subst h1; exact hy
  · simp only [List.length_set]; exact h.many
theorem sync_fineR (hf : R.Fine) (s : ByteArray) : (syncR R s).2.Fine := by
  unfold syncR
  split
  · exact hf
  · split
    · rename_i h
      have hk := spotB_key h
      exact hf.set hk (Nat.le_refl _) (by have := hf.used; simp only; omega) (didR_range hf.l0 hf.l1)
    · exact hf
set_option maxRecDepth 100000 in
set_option maxHeartbeats 1000000 in
theorem syncR_calls (h : RefUp w w0 ok r R) (s : ByteArray) (hsz : s.size ≤ maxLen) :
    Calls Try.prog 51 #[.pointer (some ⟨r, 0, none⟩), .string s] w fun e w' => e = .returned (.int .i64 (syncR R s).1) ∧ RefUp w' w0 (fun k => ok k ∨ w.heap.size ≤ k) r (syncR R s).2 ∧ Kept w w' ok := by
  have HFINE := Aside0.mk (sync_fineR h.fine s)
  obtain ⟨res, hres⟩ : ∃ res, syncR R s = res := ⟨_, rfl⟩
  rw [hres] at HFINE ⊢
  have HD := Aside0.mk h
  obtain ⟨⟨vL, es, hi, hft⟩, hB0, hf⟩ := h
  have hm : es.length ≤ 4096 := by have := hf.many; rw [hi.len] at this; exact this
  have hia := hi.belowed ((Below.refl w.heap.size w).alloc (Nat.le_refl _) (.cells #[.string s] 9))
  have K1 := Aside0.mk (mayR_one hi s hsz)
  have K2 := Aside0.mk (spot_calls hia hm s)
  have HFT := Aside0.mk hft
  have HI := Aside0.mk hi
  have HFI := Aside0.mk hf
  obtain ⟨mv, hmv⟩ : ∃ mv, mv = mayR R.left [s] := ⟨_, rfl⟩
  have HR : Aside0 ((if mv ≠ 0 then (mv, R) else if spotB R.L s.data.toList = true then (0, { R with left := didR R.left, L := R.L.set (spotN R.L s.data.toList) (s.data.toList, ((getR R.L s.data.toList).1, (getR R.L s.data.toList).1.length)) }) else (7, R)) = res) := ⟨by rw [← hres, hmv]; rfl⟩
  rw [← hmv] at K1
  clear hi hft hB0 hf hia hmv hres
  by_cases hm0 : mv = 0
  case neg =>
    have HE : Aside0 ((mv, R) = res) := ⟨by rw [← HR.out, if_pos hm0]⟩
    obtain rfl := HE.out
    have hnb : (mv != 0) = true := by simpa using hm0
    clear hm0
    go_enter Try.func51, Try.ntmps51
    go_wp2_with fail
    refine K1.out.mono ?_
    rintro e w1 ⟨rfl, rfl⟩
    go_wp2
    go_ret
    exact ⟨rfl, (HD.out.alloc _).mono (fun _ h => .inl h), (Kept.refl _ _).alloc _⟩
  subst hm0
  rw [if_neg (by simp)] at HR
  cases hb : spotB R.L s.data.toList with
  | false =>
    have HE : Aside0 ((7, R) = res) := ⟨by rw [← HR.out, hb, if_neg (by simp)]⟩
    obtain rfl := HE.out
    rw [hb] at K2
    go_enter Try.func51, Try.ntmps51
    go_wp2_with fail
    refine K1.out.mono ?_
    rintro e w1 ⟨rfl, rfl⟩
    go_wp2_with fail
    refine K2.out.mono ?_
    rintro e w2 ⟨rfl, hb2⟩
    have hb3 : Below w.heap.size w w2 := ((Below.refl _ _).alloc (Nat.le_refl _) _).trans (hb2.mono (by simp))
    go_wp2
    go_ret
    exact ⟨rfl, (HD.out.quiet hb3).mono (fun _ h => .inl h), (Kept.refl _ _).below hb3⟩
  | true =>
    have hkey := spotB_key hb
    rw [hb, if_pos rfl] at HR
    rw [hb] at K2
    obtain ⟨i, hii⟩ : ∃ i, i = spotN R.L s.data.toList := ⟨_, rfl⟩
    obtain ⟨x, hx⟩ : ∃ x, x = getR R.L s.data.toList := ⟨_, rfl⟩
    rw [← hii] at K2
    rw [← hii, ← hx] at HR hkey
    have hlt : i < es.length := by have := (List.getElem?_eq_some_iff.1 hkey).1; rw [HI.out.len] at this; exact this
    obtain ⟨e, he⟩ : ∃ e, es[i]? = some e := ⟨_, List.getElem?_eq_getElem hlt⟩
    have hek : keyR e = (s.data.toList, x) := by have := HI.out.get he; rw [hkey] at this; injection this with this; exact this.symm
    have HEK := Aside0.mk hek
    have HEI := Aside0.mk he
    have HKEY := Aside0.mk hkey
    clear hb hii hx hkey he hek
    go_enter Try.func51, Try.ntmps51
    go_wp2_with fail
    refine K1.out.mono ?_
    rintro e1 w1 ⟨rfl, rfl⟩
    go_wp2_with fail
    refine K2.out.mono ?_
    rintro e2 w2 ⟨rfl, hb2⟩
    have hb3 : Below w.heap.size w w2 := ((Below.refl _ _).alloc (Nat.le_refl _) _).trans (hb2.mono (by simp))
    have hi2 := HI.out.belowed (W' := w2.drew) (bdrew hb3)
    have HI2 := Aside0.mk hi2
    have HB3 := Aside0.mk (bdrew hb3)
    have hc1 := hi2.head.c1
    obtain ⟨g, c, hvL, hcc, hn1, hv1, hx1, hz1⟩ := hi2.at_ HEI.out
    obtain ⟨n, hn⟩ : ∃ n, n = es.length := ⟨_, rfl⟩
    obtain ⟨Ae, ce, hev, hce⟩ := (hi2.dat e (List.mem_of_getElem? HEI.out)).slice
    obtain ⟨m, hmm⟩ : ∃ m, m = e.x.1.length := ⟨_, rfl⟩
    rw [hev] at hv1
    rw [hvL, ← hn] at hc1
    rw [← hn] at hlt hcc hm
    rw [← hmm] at hv1
    have hnI : (i : Int) < n := by omega
    have hz2 := hz1 (i * 3 + 2)
    have HVL := Aside0.mk hvL
    have HN := Aside0.mk hn
    have HM := Aside0.mk hmm
    clear hi2 hb2 hb3 hn1 hz1 hvL hn hmm hev hce
    go_wp2
    refine start_ (n := 17) (S := fun w' => w'.cell? ⟨r, 1, none⟩ = some (.slice (some ⟨g, 0, none⟩) n c) ∧ w'.cell? ⟨g, i * 3 + 1, none⟩ = some (.slice Ae m ce)) (ds := [16]) #[false, false, false, false, false, false, false, false, false, false, false, false, false, false, false, false, false] (by kernel_rfl) rfl rfl ⟨hc1, hv1⟩ (fun hHeld => ?_)
    refine pure_ (i := 0) (N := some 23) (v := ?_) (a' := ?_) #[true, false, false, false, false, false, false, false, false, false, false, false, false, false, false, false, false] rfl rfl (by kernel_rfl) (fun _ _ _ h => h) (Or.inl ⟨by rfl, ?_⟩) ?_ ?_
    rotate_left
    · intro w'
      go_simp
      with_reducible rfl
    rotate_left
    · simp only [Act.put, List.setIfInBounds_toArray, List.set_cons_zero, List.set_cons_succ, i64_w, i32_w]
      rfl
    refine pure_ (i := 1) (N := some 24) (v := ?_) (a' := ?_) #[true, true, false, false, false, false, false, false, false, false, false, false, false, false, false, false, false] rfl rfl (by kernel_rfl) (fun _ _ _ h => h) (Or.inl ⟨by rfl, ?_⟩) ?_ ?_
    rotate_left
    · intro w'
      go_simp
      with_reducible rfl
    rotate_left
    · simp only [Act.put, List.setIfInBounds_toArray, List.set_cons_zero, List.set_cons_succ, i64_w, i32_w]
      rfl
    refine pure_ (i := 2) (N := some 25) (v := ?_) (a' := ?_) #[true, true, true, false, false, false, false, false, false, false, false, false, false, false, false, false, false] rfl rfl (by kernel_rfl) (fun _ _ _ h => h) (Or.inl ⟨by rfl, ?_⟩) ?_ ?_
    rotate_left
    · intro w'
      go_simp
      with_reducible rfl
    rotate_left
    · simp only [Act.put, List.setIfInBounds_toArray, List.set_cons_zero, List.set_cons_succ, i64_w, i32_w]
      rfl
    refine pure_ (i := 4) (N := some 27) (v := ?_) (a' := ?_) #[true, true, true, false, true, false, false, false, false, false, false, false, false, false, false, false, false] rfl rfl (by kernel_rfl) (fun _ _ _ h => h) (Or.inl ⟨by rfl, ?_⟩) ?_ ?_
    rotate_left
    · intro w'
      go_simp
      with_reducible rfl
    rotate_left
    · simp only [Act.put, List.setIfInBounds_toArray, List.set_cons_zero, List.set_cons_succ, i64_w, i32_w]
      rfl
    refine pure_ (i := 5) (N := some 28) (v := ?_) (a' := ?_) #[true, true, true, false, true, true, false, false, false, false, false, false, false, false, false, false, false] rfl rfl (by kernel_rfl) (fun _ _ _ h => h) (Or.inl ⟨by rfl, ?_⟩) ?_ ?_
    rotate_left
    · intro w'
      go_simp
      with_reducible rfl
    rotate_left
    · simp only [Act.put, List.setIfInBounds_toArray, List.set_cons_zero, List.set_cons_succ, i64_w, i32_w]
      rfl
    refine pure_ (i := 6) (N := some 29) (v := ?_) (a' := ?_) #[true, true, true, false, true, true, true, false, false, false, false, false, false, false, false, false, false] rfl rfl (by kernel_rfl) (fun _ _ _ h => h) (Or.inl ⟨by rfl, ?_⟩) ?_ ?_
    rotate_left
    · intro w'
      go_simp
      with_reducible rfl
    rotate_left
    · simp only [Act.put, List.setIfInBounds_toArray, List.set_cons_zero, List.set_cons_succ, i64_w, i32_w]
      rfl
    refine pure_ (i := 7) (N := some 30) (v := ?_) (a' := ?_) #[true, true, true, false, true, true, true, true, false, false, false, false, false, false, false, false, false] rfl rfl (by kernel_rfl) (fun _ _ _ h => h) (Or.inl ⟨by rfl, ?_⟩) ?_ ?_
    rotate_left
    · intro w'
      go_simp
      with_reducible rfl
    rotate_left
    · simp only [Act.put, List.setIfInBounds_toArray, List.set_cons_zero, List.set_cons_succ, i64_w, i32_w]
      rfl
    refine pure_ (i := 9) (N := some 32) (v := ?_) (a' := ?_) #[true, true, true, false, true, true, true, true, false, true, false, false, false, false, false, false, false] rfl rfl (by kernel_rfl) (fun _ _ _ h => h) (Or.inl ⟨by rfl, ?_⟩) ?_ ?_
    rotate_left
    · intro w'
      go_simp
      with_reducible rfl
    rotate_left
    · simp only [Act.put, List.setIfInBounds_toArray, List.set_cons_zero, List.set_cons_succ, i64_w, i32_w]
      rfl
    refine take_ (i := 3) (N := some 26) (v := ?_) (a' := ?_) #[true, true, true, true, true, true, true, true, false, true, false, false, false, false, false, false, false] rfl rfl (by kernel_rfl) (fun _ _ _ h => h) (Or.inl ⟨by rfl, ?_⟩) hHeld ?_ ?_
    rotate_left
    · rintro w' ⟨s0, s1⟩
      go_simp
      with_reducible rfl
    rotate_left
    · simp only [Act.put, List.setIfInBounds_toArray, List.set_cons_zero, List.set_cons_succ, i64_w, i32_w]
      rfl
    refine take_ (i := 8) (N := some 31) (v := ?_) (a' := ?_) #[true, true, true, true, true, true, true, true, true, true, false, false, false, false, false, false, false] rfl rfl (by kernel_rfl) (fun _ _ _ h => h) (Or.inl ⟨by rfl, ?_⟩) hHeld ?_ ?_
    rotate_left
    · rintro w' ⟨s0, s1⟩
      go_simp
      with_reducible rfl
    rotate_left
    · simp only [Act.put, List.setIfInBounds_toArray, List.set_cons_zero, List.set_cons_succ, i64_w, i32_w]
      rfl
    refine pure_ (i := 10) (N := some 33) (v := ?_) (a' := ?_) #[true, true, true, true, true, true, true, true, true, true, true, false, false, false, false, false, false] rfl rfl (by kernel_rfl) (fun _ _ _ h => h) (Or.inl ⟨by rfl, ?_⟩) ?_ ?_
    rotate_left
    · intro w'
      go_simp
      with_reducible rfl
    rotate_left
    · simp only [Act.put, List.setIfInBounds_toArray, List.set_cons_zero, List.set_cons_succ, i64_w, i32_w]
      rfl
    refine pure_ (i := 11) (N := some 34) (v := ?_) (a' := ?_) #[true, true, true, true, true, true, true, true, true, true, true, true, false, false, false, false, false] rfl rfl (by kernel_rfl) (fun _ _ _ h => h) (Or.inl ⟨by rfl, ?_⟩) ?_ ?_
    rotate_left
    · intro w'
      go_simp
      with_reducible rfl
    rotate_left
    · simp only [Act.put, List.setIfInBounds_toArray, List.set_cons_zero, List.set_cons_succ, i64_w, i32_w]
      rfl
    refine take_ (i := 12) (N := some 35) (v := ?_) (a' := ?_) #[true, true, true, true, true, true, true, true, true, true, true, true, true, false, false, false, false] rfl rfl (by kernel_rfl) (fun _ _ _ h => h) (Or.inl ⟨by rfl, ?_⟩) hHeld ?_ ?_
    rotate_left
    · rintro w' ⟨s0, s1⟩
      go_simp
      with_reducible rfl
    rotate_left
    · simp only [Act.put, List.setIfInBounds_toArray, List.set_cons_zero, List.set_cons_succ, i64_w, i32_w]
      rfl
    refine pure_ (i := 13) (N := some 36) (v := ?_) (a' := ?_) #[true, true, true, true, true, true, true, true, true, true, true, true, true, true, false, false, false] rfl rfl (by kernel_rfl) (fun _ _ _ h => h) (Or.inl ⟨by rfl, ?_⟩) ?_ ?_
    rotate_left
    · intro w'
      go_simp
      with_reducible rfl
    rotate_left
    · simp only [Act.put, List.setIfInBounds_toArray, List.set_cons_zero, List.set_cons_succ, i64_w, i32_w]
      rfl
    refine pure_ (i := 14) (N := some 37) (v := ?_) (a' := ?_) #[true, true, true, true, true, true, true, true, true, true, true, true, true, true, true, false, false] rfl rfl (by kernel_rfl) (fun _ _ _ h => h) (Or.inl ⟨by rfl, ?_⟩) ?_ ?_
    rotate_left
    · intro w'
      go_simp
      with_reducible rfl
    rotate_left
    · simp only [Act.put, List.setIfInBounds_toArray, List.set_cons_zero, List.set_cons_succ, i64_w, i32_w]
      rfl
    refine pure_ (i := 15) (N := some 38) (v := ?_) (a' := ?_) #[true, true, true, true, true, true, true, true, true, true, true, true, true, true, true, true, false] rfl rfl (by kernel_rfl) (fun _ _ _ h => h) (Or.inl ⟨by rfl, ?_⟩) ?_ ?_
    rotate_left
    · intro w'
      go_simp
      with_reducible rfl
    rotate_left
    · simp only [Act.put, List.setIfInBounds_toArray, List.set_cons_zero, List.set_cons_succ, i64_w, i32_w]
      rfl
    refine last_ (i := 16) (N := none) #[true, true, true, true, true, true, true, true, true, true, true, true, true, true, true, true, true] rfl rfl (by kernel_rfl) (by decide) (fun K hK => ?_)
    refine skip_ (w1 := ?_) (by rfl) rfl ?_ ?_
    rotate_left
    · go_simp
      rfl
    refine hK.out _ _ ?_
    clear hK K
    refine done_ (by kernel_rfl) ?_

    clear hHeld
    have hp := (HVL.out ▸ HI2.out : IsRef w2.drew w0.heap.size r R (.slice (some ⟨g, 0, none⟩) es.length c) es).putN HEI.out m
    have hL : R.L.set i (e.nm.data.toList, (e.x.1, m)) = R.L.set i (s.data.toList, (x.1, x.1.length)) := by
      have h1 := HEK.out
      unfold keyR at h1
      injection h1 with h1 h2
      rw [h1, HM.out, h2]
    have hfoot : ∀ b ∈ footR r vL (es.set i ⟨e.nm, e.v, (e.x.1, m)⟩), b ∈ footR r vL es := fun b hb => by
      unfold footR at hb ⊢
      simp only [List.mem_cons, List.mem_append, List.mem_flatMap] at hb ⊢
      rcases hb with hb | hb | ⟨e', he', hb⟩
      · exact .inl hb
      · exact .inr (.inl hb)
      · rcases List.mem_or_eq_of_mem_set he' with h1 | h1
        · exact .inr (.inr ⟨e', h1, hb⟩)
        · subst h1
          exact .inr (.inr ⟨e, List.mem_of_getElem? HEI.out, hb⟩)
    have hg : ok g ∧ w0.heap.size ≤ g := HFT.out g (by rw [HVL.out]; simp [footR, Value.ownBlock])
    have HG := Aside0.mk hg
    have HK4 : Aside0 (Kept w (w2.drew.setCell ⟨g, i * 3 + 2, none⟩ (.int .i64 m)) ok) := ⟨(((Kept.refl w ok).below HB3.out)).setCell (p := ⟨g, i * 3 + 2, none⟩) (.inl hg.1) _⟩
    have HB4 : Aside0 (Below w0.heap.size w0 (w2.drew.setCell ⟨g, i * 3 + 2, none⟩ (.int .i64 m))) := ⟨(HD.out.below.trans (HB3.out.mono HD.out.below.size)).setCell (p := ⟨g, i * 3 + 2, none⟩) hg.2 _⟩
    rw [hL] at hp
    have hdd := did_up hp HFI.out.l1 HFI.out.l0
    have KD := Aside0.mk hdd
    have HFO := Aside0.mk hfoot
    clear hp hL hfoot hg hdd
    go_wp2_with fail
    refine KD.out.mono ?_
    rintro e3 w5 ⟨rfl, hi5, hk5, hb5⟩
    have HE := HR.out
    go_wp2
    go_ret
    obtain rfl := HE
    have hr : ok r ∧ w0.heap.size ≤ r := HFT.out r (by simp [footR])
    refine ⟨rfl, HD.out.to hi5 (fun b hb => .inl (HFT.out b (HFO.out b (by rw [HVL.out]; exact hb)))) (HB4.out.trans (hb5 _ hr.2)) HFINE.out, HK4.out.then_ hk5 (fun b hb => .inl (by rw [hb]; exact hr.1))⟩
end
end Go.Proofs.Ytdepjlnljkbfjaa.Hand

/- The reference's disk: Truncate. -/
namespace Go.Proofs.Ytdepjlnljkbfjaa.Hand
open Go.RowKit Go.Proofs.Ytdepjlnljkbfjaa.PA Go.Proofs.Ytdepjlnljkbfjaa.MapP Go.Proofs.YtdepjlnljkbfjaaW.PrintWords Go.Proofs.YtdepjlnljkbfjaaW.PrintLast Go.Proofs.YtdepjlnljkbfjaaW.PrintMore
attribute [local go_sem] max2_int min2_int
set_option linter.unusedVariables false
set_option linter.unusedSimpArgs false
set_option linter.unusedSectionVars false
section
variable {W W' W1 w w0 : World} {base r : Nat} {R R' : RV} {vL v : Value} {es es' : List RE} {e : RE} {ok : Nat → Prop} {g i c n : Nat}
theorem foot_set {es : List RE} {i : Nat} {e e' : RE} {vL : Value} {N : Nat} {P : Nat → Prop} (hi : es[i]? = some e) (hv : e'.v = e.v ∨ ∀ b, e'.v.ownBlock = some b → N ≤ b) (hP : ∀ b ∈ footR r vL es, P b) : ∀ b ∈ footR r vL (es.set i e'), P b ∨ N ≤ b := by
  intro b hb
  unfold footR at hb
  simp only [List.mem_cons, List.mem_append, List.mem_flatMap] at hb
  rcases hb with rfl | hb | ⟨e1, he1, hb⟩
  · exact .inl (hP b (by simp [footR]))
  · exact .inl (hP b (by simp only [footR, List.mem_cons, List.mem_append]; exact .inr (.inl hb)))
  · rcases List.mem_or_eq_of_mem_set he1 with h1 | h1
    · exact .inl (hP b (mem_footR h1 (by simpa using hb)))
    · subst h1
      rcases hv with hv | hv
      · rw [hv] at hb
        exact .inl (hP b (mem_footR (List.mem_of_getElem? hi) (by simpa using hb)))
      · exact .inr (hv b (by simpa using hb))
theorem Dat.fresh {w : World} {A : Option Addr} {m c : Nat} {l : List Int} (hC : Kd.C (Kd.int .u8) w A l.length l) (hm : l.length = m) (hl : l.length ≤ 140737488355328) :
    ∃ A6 c6 W6, (Builtin.append_ #[23, 23] 23 #[.slice (some ⟨w.heap.size, 0, none⟩) 0 0, .slice A m c]).run Try.prog (w.alloc (.cells #[] 5)) = .ok (.slice A6 l.length c6) W6 ∧ Dat W6 (.slice A6 l.length c6) l ∧ Below w.heap.size w W6 ∧ ∀ b, (Value.slice A6 l.length c6).ownBlock = some b → w.heap.size ≤ b := by
  obtain ⟨v5, W5, hrun5, hd5, hg5, ho5⟩ := (Dat.new (w := w) (0, 0)).append 23 A m c l (Kd.C_alloc hC _) hm (by simp; omega)
  simp only [List.nil_append] at hd5
  have hb5 : Below w.heap.size w W5 := ((Below.refl w.heap.size w).alloc (Nat.le_refl _) _).grown hg5 (by simp) (fun k hk => by have := own_new hk; omega)
  have how : ∀ k, v5.ownBlock = some k → w.heap.size ≤ k := fun k hk => ho5.elim (fun h => by rw [h] at hk; have := own_new hk; omega) (fun h => by have := h k hk; simp at this; omega)
  obtain ⟨A5, c5, hv5, hc5⟩ := hd5.slice
  subst hv5
  exact ⟨A5, c5, W5, hrun5, hd5, hb5, how⟩
def truncR (R : RV) (s : ByteArray) (n : Int) : Int × RV :=
  if mayR R.left [s] ≠ 0 then (mayR R.left [s], R)
  else if spotB R.L s.data.toList = true then (if n < 0 ∨ ((getR R.L s.data.toList).1.length : Int) < n then (1, R) else (0, { R with left := didR R.left, L := R.L.set (spotN R.L s.data.toList) (s.data.toList, ((getR R.L s.data.toList).1.take n.toNat, min (getR R.L s.data.toList).2 n.toNat)) }))
  else (7, R)
theorem trunc_fineR (hf : R.Fine) (s : ByteArray) (n : Int) : (truncR R s n).2.Fine := by
  unfold truncR
  split
  · exact hf
  · split
    · rename_i h
      split
      · exact hf
      · rename_i h2
        have hk := spotB_key h
        have hl := hf.lasts _ (List.mem_of_getElem? hk)
        simp only at hl
        exact hf.set hk (by simp only [List.length_take]; omega) (by have := hf.used; simp only [List.length_take]; omega) (didR_range hf.l0 hf.l1)
    · exact hf
set_option maxRecDepth 100000 in
set_option maxHeartbeats 2000000 in
theorem truncR_calls (h : RefUp w w0 ok r R) (s : ByteArray) (hsz : s.size ≤ maxLen) (nn : Int) :
    Calls Try.prog 53 #[.pointer (some ⟨r, 0, none⟩), .string s, .int .i64 nn] w fun e w' => e = .returned (.int .i64 (truncR R s nn).1) ∧ RefUp w' w0 (fun k => ok k ∨ w.heap.size ≤ k) r (truncR R s nn).2 ∧ Kept w w' ok := by
  have HFINE := Aside0.mk (trunc_fineR h.fine s nn)
  obtain ⟨res, hres⟩ : ∃ res, truncR R s nn = res := ⟨_, rfl⟩
  rw [hres] at HFINE ⊢
  have HD := Aside0.mk h
  obtain ⟨⟨vL, es, hi, hft⟩, hB0, hf⟩ := h
  have hm : es.length ≤ 4096 := by have := hf.many; rw [hi.len] at this; exact this
  have hia := hi.belowed ((Below.refl w.heap.size w).alloc (Nat.le_refl _) (.cells #[.string s] 9))
  have K1 := Aside0.mk (mayR_one hi s hsz)
  have K2 := Aside0.mk (spot_calls hia hm s)
  have HFT := Aside0.mk hft
  have HI := Aside0.mk hi
  have HFI := Aside0.mk hf
  obtain ⟨mv, hmv⟩ : ∃ mv, mv = mayR R.left [s] := ⟨_, rfl⟩
  have HR : Aside0 ((if mv ≠ 0 then (mv, R) else if spotB R.L s.data.toList = true then (if nn < 0 ∨ ((getR R.L s.data.toList).1.length : Int) < nn then (1, R) else (0, { R with left := didR R.left, L := R.L.set (spotN R.L s.data.toList) (s.data.toList, ((getR R.L s.data.toList).1.take nn.toNat, min (getR R.L s.data.toList).2 nn.toNat)) })) else (7, R)) = res) := ⟨by rw [← hres, hmv]; rfl⟩
  rw [← hmv] at K1
  clear hi hft hB0 hf hia hmv hres
  by_cases hm0 : mv = 0
  case neg =>
    have HE : Aside0 ((mv, R) = res) := ⟨by rw [← HR.out, if_pos hm0]⟩
    obtain rfl := HE.out
    have hnb : (mv != 0) = true := by simpa using hm0
    clear hm0
    go_enter Try.func53, Try.ntmps53
    go_wp2_with fail
    refine K1.out.mono ?_
    rintro e w1 ⟨rfl, rfl⟩
    go_wp2
    go_ret
    exact ⟨rfl, (HD.out.alloc _).mono (fun _ h => .inl h), (Kept.refl _ _).alloc _⟩
  subst hm0
  rw [if_neg (by simp)] at HR
  cases hb : spotB R.L s.data.toList with
  | false =>
    have HE : Aside0 ((7, R) = res) := ⟨by rw [← HR.out, hb, if_neg (by simp)]⟩
    obtain rfl := HE.out
    rw [hb] at K2
    go_enter Try.func53, Try.ntmps53
    go_wp2_with fail
    refine K1.out.mono ?_
    rintro e w1 ⟨rfl, rfl⟩
    go_wp2_with fail
    refine K2.out.mono ?_
    rintro e w2 ⟨rfl, hb2⟩
    have hb3 : Below w.heap.size w w2 := ((Below.refl _ _).alloc (Nat.le_refl _) _).trans (hb2.mono (by simp))
    go_wp2
    go_ret
    exact ⟨rfl, (HD.out.quiet hb3).mono (fun _ h => .inl h), (Kept.refl _ _).below hb3⟩
  | true =>
    have hkey := spotB_key hb
    rw [hb, if_pos rfl] at HR
    rw [hb] at K2
    obtain ⟨i, hii⟩ : ∃ i, i = spotN R.L s.data.toList := ⟨_, rfl⟩
    obtain ⟨x, hx⟩ : ∃ x, x = getR R.L s.data.toList := ⟨_, rfl⟩
    rw [← hii] at K2
    rw [← hii, ← hx] at HR
    rw [← hii, ← hx] at hkey
    have hlt : i < es.length := by have := (List.getElem?_eq_some_iff.1 hkey).1; rw [HI.out.len] at this; exact this
    obtain ⟨e, he⟩ : ∃ e, es[i]? = some e := ⟨_, List.getElem?_eq_getElem hlt⟩
    have hek : keyR e = (s.data.toList, x) := by have := HI.out.get he; rw [hkey] at this; injection this with this; exact this.symm
    have HEK := Aside0.mk hek
    have HEI := Aside0.mk he
    have HKEY := Aside0.mk hkey
    clear hb hii hx hkey he hek
    have hxl : e.x = x := congrArg Prod.snd HEK.out
    have hnm : e.nm.data.toList = s.data.toList := congrArg Prod.fst HEK.out
    have HXL := Aside0.mk hxl
    have HNM := Aside0.mk hnm
    have hus : x.1.length ≤ 1073741824 := by
      have h1 := total_take_succ HKEY.out
      have h2 := total_take_le R.L (i + 1)
      have h3 := HFI.out.used
      have h4 := HFI.out.r1
      simp only at h1
      omega
    have hla := HFI.out.lasts _ (List.mem_of_getElem? HKEY.out)
    simp only at hla
    obtain ⟨n, hn⟩ : ∃ n, n = es.length := ⟨_, rfl⟩
    have HN := Aside0.mk hn
    rw [← hn] at hlt hm
    clear hxl hnm hn
    go_enter Try.func53, Try.ntmps53
    go_wp2_with fail
    refine K1.out.mono ?_
    rintro e1 w1 ⟨rfl, rfl⟩
    go_wp2_with fail
    refine K2.out.mono ?_
    rintro e2 w2 ⟨rfl, hb2⟩
    have hb3 : Below w.heap.size w w2 := ((Below.refl _ _).alloc (Nat.le_refl _) _).trans (hb2.mono (by simp))
    have HI2 := Aside0.mk (HI.out.belowed hb3)
    have HB3 := Aside0.mk hb3
    obtain ⟨g, c, hvL, hcc, hn1, hv1, hx1, hz1⟩ := HI2.out.at_ HEI.out
    have hc1 := HI2.out.head.c1
    obtain ⟨Ae, ce, hev, hce⟩ := (HI2.out.dat e (List.mem_of_getElem? HEI.out)).slice
    have HEV := Aside0.mk hev
    obtain ⟨m, hmm⟩ : ∃ m, m = e.x.1.length := ⟨_, rfl⟩
    have hmx : m = x.1.length := by rw [hmm, HXL.out]
    have HMX := Aside0.mk hmx
    rw [hev] at hv1
    rw [hvL, ← HN.out] at hc1
    rw [← HN.out] at hcc
    rw [← hmm] at hv1 hce
    rw [← hmx] at hus hla
    have hnI : (i : Int) < n := by omega
    have HVL := Aside0.mk hvL
    clear hb2 hb3 hn1 hx1 hz1 hvL hmm hev hmx
    by_cases hbad : nn < 0 ∨ (m : Int) < nn
    · have HE : Aside0 ((1, R) = res) := ⟨by rw [← HR.out, ← HMX.out, if_pos hbad]⟩
      obtain rfl := HE.out
      by_cases hn0 : nn < 0
      · go_wp2
        go_ret
        exact ⟨rfl, (HD.out.quiet HB3.out).mono (fun _ h => .inl h), (Kept.refl _ _).below HB3.out⟩
      · have hn1 : (m : Int) < nn := by omega
        clear hbad
        go_wp2
        go_ret
        exact ⟨rfl, (HD.out.quiet HB3.out).mono (fun _ h => .inl h), (Kept.refl _ _).below HB3.out⟩
    have hn0 : 0 ≤ nn := by omega
    obtain ⟨nk, rfl⟩ := Int.eq_ofNat_of_zero_le hn0
    have hnm : nk ≤ m := by omega
    have HE : Aside0 ((0, { R with left := didR R.left, L := R.L.set i (s.data.toList, (x.1.take nk, min x.2 nk)) }) = res) := ⟨by rw [← HR.out, if_neg (by rw [← HMX.out]; omega), Int.toNat_natCast]⟩
    clear hbad
    have hnb1 : ¬ ((nk : Int) < 0) := by omega
    have hnb2 : ¬ ((m : Int) < (nk : Int)) := by omega
    go_wp2
    have hHI3 : IsRef w2.drew w0.heap.size r R vL es := HI2.out.step (fun _ _ => rfl)
    have hc1 : w2.drew.cell? ⟨r, 1, none⟩ = some (.slice (some ⟨g, 0, none⟩) n c) := by rw [HN.out, ← HVL.out]; exact hHI3.head.c1
    have hv1 : w2.drew.cell? ⟨g, i * 3 + 1, none⟩ = some (.slice Ae m ce) := hv1
    have HI3 := Aside0.mk hHI3
    have hdt := hHI3.dat e (List.mem_of_getElem? HEI.out)
    rw [HEV.out] at hdt
    have hCe : Kd.C (Kd.int .u8) w2.drew Ae nk (e.x.1.take nk) := C_take' (hdt.C rfl) (by rw [HXL.out, ← HMX.out]; exact hnm)
    have hlt6 : (e.x.1.take nk).length = nk := by rw [List.length_take, HXL.out, ← HMX.out]; omega
    have hCe2 : Kd.C (Kd.int .u8) w2.drew Ae (e.x.1.take nk).length (e.x.1.take nk) := by rw [hlt6]; exact hCe
    obtain ⟨A6, c6, W6, hr6, hd6, hb6, ho6⟩ := Dat.fresh (m := nk) (c := ce) hCe2 hlt6 (by omega)
    rw [hlt6] at hr6 hd6 ho6
    have hI6 := HI3.out.belowed hb6
    have hc6 : W6.cell? ⟨r, 1, none⟩ = _ := cell_below hc1 hb6
    have hv6 : W6.cell? ⟨g, i * 3 + 1, none⟩ = _ := cell_below hv1 hb6
    rw [HVL.out] at hI6
    obtain ⟨g', c', eg, _, _, _, hx6, hz6⟩ := hI6.at_ HEI.out
    injection eg with eg _ ec
    injection eg with eg
    injection eg with eg
    subst eg ec
    have hz61 := hz6 (i * 3 + 1)
    have hp1 := hI6.putV HEI.out hd6
    have HP1 := Aside0.mk hp1
    have HRUN6 := Aside0.mk hr6
    have HC6 := Aside0.mk hc6
    have HV6 := Aside0.mk hv6
    have HB6 := Aside0.mk hb6
    have HO6 := Aside0.mk ho6
    have hnc : (nk : Int) ≤ ce := by omega
    clear hr6 hd6 hb6 ho6 hI6 hCe hCe2 hlt6 hdt hHI3 hz6 hp1
    refine start_ (n := 20) (S := fun w' => w'.cell? ⟨r, 1, none⟩ = some (.slice (some ⟨g, 0, none⟩) n c) ∧ w'.cell? ⟨g, i * 3 + 1, none⟩ = some (.slice Ae m ce)) (ds := [19]) #[false, false, false, false, false, false, false, false, false, false, false, false, false, false, false, false, false, false, false, false] (by kernel_rfl) rfl rfl ⟨hc1, hv1⟩ (fun hHeld => ?_)
    refine pure_ (i := 0) (N := some 40) (v := ?_) (a' := ?_) #[true, false, false, false, false, false, false, false, false, false, false, false, false, false, false, false, false, false, false, false] rfl rfl (by kernel_rfl) (fun _ _ _ h => h) (Or.inl ⟨by rfl, ?_⟩) ?_ ?_
    rotate_left
    · intro w'
      go_simp
      with_reducible rfl
    rotate_left
    · simp only [Act.put, List.setIfInBounds_toArray, List.set_cons_zero, List.set_cons_succ, i64_w, i32_w]
      rfl
    refine pure_ (i := 1) (N := some 41) (v := ?_) (a' := ?_) #[true, true, false, false, false, false, false, false, false, false, false, false, false, false, false, false, false, false, false, false] rfl rfl (by kernel_rfl) (fun _ _ _ h => h) (Or.inl ⟨by rfl, ?_⟩) ?_ ?_
    rotate_left
    · intro w'
      go_simp
      with_reducible rfl
    rotate_left
    · simp only [Act.put, List.setIfInBounds_toArray, List.set_cons_zero, List.set_cons_succ, i64_w, i32_w]
      rfl
    refine pure_ (i := 2) (N := some 42) (v := ?_) (a' := ?_) #[true, true, true, false, false, false, false, false, false, false, false, false, false, false, false, false, false, false, false, false] rfl rfl (by kernel_rfl) (fun _ _ _ h => h) (Or.inl ⟨by rfl, ?_⟩) ?_ ?_
    rotate_left
    · intro w'
      go_simp
      with_reducible rfl
    rotate_left
    · simp only [Act.put, List.setIfInBounds_toArray, List.set_cons_zero, List.set_cons_succ, i64_w, i32_w]
      rfl
    refine pure_ (i := 4) (N := some 44) (v := ?_) (a' := ?_) #[true, true, true, false, true, false, false, false, false, false, false, false, false, false, false, false, false, false, false, false] rfl rfl (by kernel_rfl) (fun _ _ _ h => h) (Or.inl ⟨by rfl, ?_⟩) ?_ ?_
    rotate_left
    · intro w'
      go_simp
      with_reducible rfl
    rotate_left
    · simp only [Act.put, List.setIfInBounds_toArray, List.set_cons_zero, List.set_cons_succ, i64_w, i32_w]
      rfl
    refine pure_ (i := 6) (N := some 46) (v := ?_) (a' := ?_) #[true, true, true, false, true, false, true, false, false, false, false, false, false, false, false, false, false, false, false, false] rfl rfl (by kernel_rfl) (fun _ _ _ h => h) (Or.inl ⟨by rfl, ?_⟩) ?_ ?_
    rotate_left
    · intro w'
      go_simp
      with_reducible rfl
    rotate_left
    · simp only [Act.put, List.setIfInBounds_toArray, List.set_cons_zero, List.set_cons_succ, i64_w, i32_w]
      rfl
    refine pure_ (i := 7) (N := some 47) (v := ?_) (a' := ?_) #[true, true, true, false, true, false, true, true, false, false, false, false, false, false, false, false, false, false, false, false] rfl rfl (by kernel_rfl) (fun _ _ _ h => h) (Or.inl ⟨by rfl, ?_⟩) ?_ ?_
    rotate_left
    · intro w'
      go_simp
      with_reducible rfl
    rotate_left
    · simp only [Act.put, List.setIfInBounds_toArray, List.set_cons_zero, List.set_cons_succ, i64_w, i32_w]
      rfl
    refine pure_ (i := 8) (N := some 48) (v := ?_) (a' := ?_) #[true, true, true, false, true, false, true, true, true, false, false, false, false, false, false, false, false, false, false, false] rfl rfl (by kernel_rfl) (fun _ _ _ h => h) (Or.inl ⟨by rfl, ?_⟩) ?_ ?_
    rotate_left
    · intro w'
      go_simp
      with_reducible rfl
    rotate_left
    · simp only [Act.put, List.setIfInBounds_toArray, List.set_cons_zero, List.set_cons_succ, i64_w, i32_w]
      rfl
    refine pure_ (i := 10) (N := some 50) (v := ?_) (a' := ?_) #[true, true, true, false, true, false, true, true, true, false, true, false, false, false, false, false, false, false, false, false] rfl rfl (by kernel_rfl) (fun _ _ _ h => h) (Or.inl ⟨by rfl, ?_⟩) ?_ ?_
    rotate_left
    · intro w'
      go_simp
      with_reducible rfl
    rotate_left
    · simp only [Act.put, List.setIfInBounds_toArray, List.set_cons_zero, List.set_cons_succ, i64_w, i32_w]
      rfl
    refine pure_ (i := 14) (N := some 54) (v := ?_) (a' := ?_) #[true, true, true, false, true, false, true, true, true, false, true, false, false, false, true, false, false, false, false, false] rfl rfl (by kernel_rfl) (fun _ _ _ h => h) (Or.inl ⟨by rfl, ?_⟩) ?_ ?_
    rotate_left
    · intro w'
      go_simp
      with_reducible rfl
    rotate_left
    · simp only [Act.put, List.setIfInBounds_toArray, List.set_cons_zero, List.set_cons_succ, i64_w, i32_w]
      rfl
    refine take_ (i := 3) (N := some 43) (v := ?_) (a' := ?_) #[true, true, true, true, true, false, true, true, true, false, true, false, false, false, true, false, false, false, false, false] rfl rfl (by kernel_rfl) (fun _ _ _ h => h) (Or.inl ⟨by rfl, ?_⟩) hHeld ?_ ?_
    rotate_left
    · rintro w' ⟨s0, s1⟩
      go_simp
      with_reducible rfl
    rotate_left
    · simp only [Act.put, List.setIfInBounds_toArray, List.set_cons_zero, List.set_cons_succ, i64_w, i32_w]
      rfl
    refine take_ (i := 9) (N := some 49) (v := ?_) (a' := ?_) #[true, true, true, true, true, false, true, true, true, true, true, false, false, false, true, false, false, false, false, false] rfl rfl (by kernel_rfl) (fun _ _ _ h => h) (Or.inl ⟨by rfl, ?_⟩) hHeld ?_ ?_
    rotate_left
    · rintro w' ⟨s0, s1⟩
      go_simp
      with_reducible rfl
    rotate_left
    · simp only [Act.put, List.setIfInBounds_toArray, List.set_cons_zero, List.set_cons_succ, i64_w, i32_w]
      rfl
    refine pure_ (i := 11) (N := some 51) (v := ?_) (a' := ?_) #[true, true, true, true, true, false, true, true, true, true, true, true, false, false, true, false, false, false, false, false] rfl rfl (by kernel_rfl) (fun _ _ _ h => h) (Or.inl ⟨by rfl, ?_⟩) ?_ ?_
    rotate_left
    · intro w'
      go_simp
      with_reducible rfl
    rotate_left
    · simp only [Act.put, List.setIfInBounds_toArray, List.set_cons_zero, List.set_cons_succ, i64_w, i32_w]
      rfl
    refine pure_ (i := 12) (N := some 52) (v := ?_) (a' := ?_) #[true, true, true, true, true, false, true, true, true, true, true, true, true, false, true, false, false, false, false, false] rfl rfl (by kernel_rfl) (fun _ _ _ h => h) (Or.inl ⟨by rfl, ?_⟩) ?_ ?_
    rotate_left
    · intro w'
      go_simp
      with_reducible rfl
    rotate_left
    · simp only [Act.put, List.setIfInBounds_toArray, List.set_cons_zero, List.set_cons_succ, i64_w, i32_w]
      rfl
    refine take_ (i := 13) (N := some 53) (v := ?_) (a' := ?_) #[true, true, true, true, true, false, true, true, true, true, true, true, true, true, true, false, false, false, false, false] rfl rfl (by kernel_rfl) (fun _ _ _ h => h) (Or.inl ⟨by rfl, ?_⟩) hHeld ?_ ?_
    rotate_left
    · rintro w' ⟨s0, s1⟩
      go_simp
      with_reducible rfl
    rotate_left
    · simp only [Act.put, List.setIfInBounds_toArray, List.set_cons_zero, List.set_cons_succ, i64_w, i32_w]
      rfl
    refine pure_ (i := 15) (N := some 55) (v := ?_) (a' := ?_) #[true, true, true, true, true, false, true, true, true, true, true, true, true, true, true, true, false, false, false, false] rfl rfl (by kernel_rfl) (fun _ _ _ h => h) (Or.inl ⟨by rfl, ?_⟩) ?_ ?_
    rotate_left
    · intro w'
      go_simp
      with_reducible rfl
    rotate_left
    · simp only [Act.put, List.setIfInBounds_toArray, List.set_cons_zero, List.set_cons_succ, i64_w, i32_w]
      rfl
    refine one_ (i := 5) (N := some 45) #[true, true, true, true, true, true, true, true, true, true, true, true, true, true, true, true, false, false, false, false] rfl rfl (by kernel_rfl) (by decide) (fun K hK => ?_)
    refine value_ (w1 := ?_) (v := ?_) (by rfl) rfl ?_ ?_
    rotate_left 2
    · go_simp
      constructor
      · rfl
      · rfl
    refine hK.out _ _ ⟨(Go.Lib.cell?_alloc_some _ hHeld.1), (Go.Lib.cell?_alloc_some _ hHeld.2)⟩ (fun hHeld => ?_)
    clear hK K
    refine norm_ (a' := ?_) ?_ ?_
    rotate_left
    · show Act.put _ (some 45) _ = _
      simp only [Act.put, List.setIfInBounds_toArray, List.set_cons_zero, List.set_cons_succ, i64_w, i32_w]
      rfl
    refine one_ (i := 16) (N := some 56) #[true, true, true, true, true, true, true, true, true, true, true, true, true, true, true, true, true, false, false, false] rfl rfl (by kernel_rfl) (by decide) (fun K hK => ?_)
    refine append_step (by rfl) (.tmp 45) (.tmp 55) 23 rfl _ _ rfl rfl _ HRUN6.out rfl ?_
    refine hK.out _ _ ⟨HC6.out, HV6.out⟩ (fun hHeld => ?_)
    clear hK K
    refine norm_ (a' := ?_) ?_ ?_
    rotate_left
    · show Act.put _ (some 56) _ = _
      simp only [Act.put, List.setIfInBounds_toArray, List.set_cons_zero, List.set_cons_succ, i64_w, i32_w]
      rfl
    refine pure_ (i := 17) (N := some 57) (v := ?_) (a' := ?_) #[true, true, true, true, true, true, true, true, true, true, true, true, true, true, true, true, true, true, false, false] rfl rfl (by kernel_rfl) (fun _ _ _ h => h) (Or.inl ⟨by rfl, ?_⟩) ?_ ?_
    rotate_left
    · intro w'
      go_simp
      with_reducible rfl
    rotate_left
    · simp only [Act.put, List.setIfInBounds_toArray, List.set_cons_zero, List.set_cons_succ, i64_w, i32_w]
      rfl
    refine pure_ (i := 18) (N := some 58) (v := ?_) (a' := ?_) #[true, true, true, true, true, true, true, true, true, true, true, true, true, true, true, true, true, true, true, false] rfl rfl (by kernel_rfl) (fun _ _ _ h => h) (Or.inl ⟨by rfl, ?_⟩) ?_ ?_
    rotate_left
    · intro w'
      go_simp
      with_reducible rfl
    rotate_left
    · simp only [Act.put, List.setIfInBounds_toArray, List.set_cons_zero, List.set_cons_succ, i64_w, i32_w]
      rfl
    refine last_ (i := 19) (N := none) #[true, true, true, true, true, true, true, true, true, true, true, true, true, true, true, true, true, true, true, true] rfl rfl (by kernel_rfl) (by decide) (fun K hK => ?_)
    refine skip_ (w1 := ?_) (by rfl) rfl ?_ ?_
    rotate_left
    · go_simp
      rfl
    refine hK.out _ _ ?_
    clear hK K
    refine done_ (by kernel_rfl) ?_

    clear hHeld hc6 hv6 hx6 hz61
    obtain ⟨W7, hW7⟩ : ∃ W7, W7 = W6.setCell ⟨g, i * 3 + 1, none⟩ (.slice A6 nk c6) := ⟨_, rfl⟩
    have HW7 := Aside0.mk hW7
    rw [← hW7] at HP1 ⊢
    clear hW7
    have hgi : (es.set i ⟨e.nm, .slice A6 nk c6, (e.x.1.take nk, e.x.2)⟩)[i]? = some ⟨e.nm, .slice A6 nk c6, (e.x.1.take nk, e.x.2)⟩ := by rw [List.getElem?_set_self (by rw [← HN.out]; exact hlt)]
    have HGI := Aside0.mk hgi
    obtain ⟨la, hlae⟩ : ∃ la, la = e.x.2 := ⟨_, rfl⟩
    have HLA := Aside0.mk hlae
    obtain ⟨g', c', eg, _, _, _, hx7, hz7⟩ := (HP1.out.step (W' := W7.drew) (fun _ _ => rfl)).at_ HGI.out
    injection eg with eg _ ec
    injection eg with eg
    injection eg with eg
    subst eg ec
    have hc7 := (HP1.out.step (W' := W7.drew) (fun _ _ => rfl)).head.c1
    rw [← HN.out] at hc7
    simp only [← hlae] at hx7
    have hz72 := hz7 (i * 3 + 2)
    clear hgi hz7 hlae
    go_wp2
    refine start_ (n := 18) (S := fun w' => w'.cell? ⟨r, 1, none⟩ = some (.slice (some ⟨g, 0, none⟩) n c) ∧ w'.cell? ⟨g, i * 3 + 2, none⟩ = some (.int .i64 (la : Nat))) (ds := [17]) #[false, false, false, false, false, false, false, false, false, false, false, false, false, false, false, false, false, false] (by kernel_rfl) rfl rfl ⟨hc7, hx7⟩ (fun hHeld => ?_)
    refine pure_ (i := 0) (N := some 59) (v := ?_) (a' := ?_) #[true, false, false, false, false, false, false, false, false, false, false, false, false, false, false, false, false, false] rfl rfl (by kernel_rfl) (fun _ _ _ h => h) (Or.inl ⟨by rfl, ?_⟩) ?_ ?_
    rotate_left
    · intro w'
      go_simp
      with_reducible rfl
    rotate_left
    · simp only [Act.put, List.setIfInBounds_toArray, List.set_cons_zero, List.set_cons_succ, i64_w, i32_w]
      rfl
    refine pure_ (i := 1) (N := some 60) (v := ?_) (a' := ?_) #[true, true, false, false, false, false, false, false, false, false, false, false, false, false, false, false, false, false] rfl rfl (by kernel_rfl) (fun _ _ _ h => h) (Or.inl ⟨by rfl, ?_⟩) ?_ ?_
    rotate_left
    · intro w'
      go_simp
      with_reducible rfl
    rotate_left
    · simp only [Act.put, List.setIfInBounds_toArray, List.set_cons_zero, List.set_cons_succ, i64_w, i32_w]
      rfl
    refine pure_ (i := 2) (N := some 61) (v := ?_) (a' := ?_) #[true, true, true, false, false, false, false, false, false, false, false, false, false, false, false, false, false, false] rfl rfl (by kernel_rfl) (fun _ _ _ h => h) (Or.inl ⟨by rfl, ?_⟩) ?_ ?_
    rotate_left
    · intro w'
      go_simp
      with_reducible rfl
    rotate_left
    · simp only [Act.put, List.setIfInBounds_toArray, List.set_cons_zero, List.set_cons_succ, i64_w, i32_w]
      rfl
    refine pure_ (i := 4) (N := some 63) (v := ?_) (a' := ?_) #[true, true, true, false, true, false, false, false, false, false, false, false, false, false, false, false, false, false] rfl rfl (by kernel_rfl) (fun _ _ _ h => h) (Or.inl ⟨by rfl, ?_⟩) ?_ ?_
    rotate_left
    · intro w'
      go_simp
      with_reducible rfl
    rotate_left
    · simp only [Act.put, List.setIfInBounds_toArray, List.set_cons_zero, List.set_cons_succ, i64_w, i32_w]
      rfl
    refine pure_ (i := 5) (N := some 64) (v := ?_) (a' := ?_) #[true, true, true, false, true, true, false, false, false, false, false, false, false, false, false, false, false, false] rfl rfl (by kernel_rfl) (fun _ _ _ h => h) (Or.inl ⟨by rfl, ?_⟩) ?_ ?_
    rotate_left
    · intro w'
      go_simp
      with_reducible rfl
    rotate_left
    · simp only [Act.put, List.setIfInBounds_toArray, List.set_cons_zero, List.set_cons_succ, i64_w, i32_w]
      rfl
    refine pure_ (i := 6) (N := some 65) (v := ?_) (a' := ?_) #[true, true, true, false, true, true, true, false, false, false, false, false, false, false, false, false, false, false] rfl rfl (by kernel_rfl) (fun _ _ _ h => h) (Or.inl ⟨by rfl, ?_⟩) ?_ ?_
    rotate_left
    · intro w'
      go_simp
      with_reducible rfl
    rotate_left
    · simp only [Act.put, List.setIfInBounds_toArray, List.set_cons_zero, List.set_cons_succ, i64_w, i32_w]
      rfl
    refine pure_ (i := 7) (N := some 66) (v := ?_) (a' := ?_) #[true, true, true, false, true, true, true, true, false, false, false, false, false, false, false, false, false, false] rfl rfl (by kernel_rfl) (fun _ _ _ h => h) (Or.inl ⟨by rfl, ?_⟩) ?_ ?_
    rotate_left
    · intro w'
      go_simp
      with_reducible rfl
    rotate_left
    · simp only [Act.put, List.setIfInBounds_toArray, List.set_cons_zero, List.set_cons_succ, i64_w, i32_w]
      rfl
    refine pure_ (i := 9) (N := some 68) (v := ?_) (a' := ?_) #[true, true, true, false, true, true, true, true, false, true, false, false, false, false, false, false, false, false] rfl rfl (by kernel_rfl) (fun _ _ _ h => h) (Or.inl ⟨by rfl, ?_⟩) ?_ ?_
    rotate_left
    · intro w'
      go_simp
      with_reducible rfl
    rotate_left
    · simp only [Act.put, List.setIfInBounds_toArray, List.set_cons_zero, List.set_cons_succ, i64_w, i32_w]
      rfl
    refine pure_ (i := 13) (N := some 72) (v := ?_) (a' := ?_) #[true, true, true, false, true, true, true, true, false, true, false, false, false, true, false, false, false, false] rfl rfl (by kernel_rfl) (fun _ _ _ h => h) (Or.inl ⟨by rfl, ?_⟩) ?_ ?_
    rotate_left
    · intro w'
      go_simp
      with_reducible rfl
    rotate_left
    · simp only [Act.put, List.setIfInBounds_toArray, List.set_cons_zero, List.set_cons_succ, i64_w, i32_w]
      rfl
    refine take_ (i := 3) (N := some 62) (v := ?_) (a' := ?_) #[true, true, true, true, true, true, true, true, false, true, false, false, false, true, false, false, false, false] rfl rfl (by kernel_rfl) (fun _ _ _ h => h) (Or.inl ⟨by rfl, ?_⟩) hHeld ?_ ?_
    rotate_left
    · rintro w' ⟨s0, s1⟩
      go_simp
      with_reducible rfl
    rotate_left
    · simp only [Act.put, List.setIfInBounds_toArray, List.set_cons_zero, List.set_cons_succ, i64_w, i32_w]
      rfl
    refine take_ (i := 8) (N := some 67) (v := ?_) (a' := ?_) #[true, true, true, true, true, true, true, true, true, true, false, false, false, true, false, false, false, false] rfl rfl (by kernel_rfl) (fun _ _ _ h => h) (Or.inl ⟨by rfl, ?_⟩) hHeld ?_ ?_
    rotate_left
    · rintro w' ⟨s0, s1⟩
      go_simp
      with_reducible rfl
    rotate_left
    · simp only [Act.put, List.setIfInBounds_toArray, List.set_cons_zero, List.set_cons_succ, i64_w, i32_w]
      rfl
    refine pure_ (i := 10) (N := some 69) (v := ?_) (a' := ?_) #[true, true, true, true, true, true, true, true, true, true, true, false, false, true, false, false, false, false] rfl rfl (by kernel_rfl) (fun _ _ _ h => h) (Or.inl ⟨by rfl, ?_⟩) ?_ ?_
    rotate_left
    · intro w'
      go_simp
      with_reducible rfl
    rotate_left
    · simp only [Act.put, List.setIfInBounds_toArray, List.set_cons_zero, List.set_cons_succ, i64_w, i32_w]
      rfl
    refine pure_ (i := 11) (N := some 70) (v := ?_) (a' := ?_) #[true, true, true, true, true, true, true, true, true, true, true, true, false, true, false, false, false, false] rfl rfl (by kernel_rfl) (fun _ _ _ h => h) (Or.inl ⟨by rfl, ?_⟩) ?_ ?_
    rotate_left
    · intro w'
      go_simp
      with_reducible rfl
    rotate_left
    · simp only [Act.put, List.setIfInBounds_toArray, List.set_cons_zero, List.set_cons_succ, i64_w, i32_w]
      rfl
    refine take_ (i := 12) (N := some 71) (v := ?_) (a' := ?_) #[true, true, true, true, true, true, true, true, true, true, true, true, true, true, false, false, false, false] rfl rfl (by kernel_rfl) (fun _ _ _ h => h) (Or.inl ⟨by rfl, ?_⟩) hHeld ?_ ?_
    rotate_left
    · rintro w' ⟨s0, s1⟩
      go_simp
      with_reducible rfl
    rotate_left
    · simp only [Act.put, List.setIfInBounds_toArray, List.set_cons_zero, List.set_cons_succ, i64_w, i32_w]
      rfl
    refine pure_ (i := 14) (N := some 73) (v := ?_) (a' := ?_) #[true, true, true, true, true, true, true, true, true, true, true, true, true, true, true, false, false, false] rfl rfl (by kernel_rfl) (fun _ _ _ h => h) (Or.inl ⟨by rfl, ?_⟩) ?_ ?_
    rotate_left
    · intro w'
      go_simp
      with_reducible rfl
    rotate_left
    · simp only [Act.put, List.setIfInBounds_toArray, List.set_cons_zero, List.set_cons_succ, i64_w, i32_w]
      rfl
    refine pure_ (i := 15) (N := some 74) (v := ?_) (a' := ?_) #[true, true, true, true, true, true, true, true, true, true, true, true, true, true, true, true, false, false] rfl rfl (by kernel_rfl) (fun _ _ _ h => h) (Or.inl ⟨by rfl, ?_⟩) ?_ ?_
    rotate_left
    · intro w'
      go_simp
      with_reducible rfl
    rotate_left
    · simp only [Act.put, List.setIfInBounds_toArray, List.set_cons_zero, List.set_cons_succ, i64_w, i32_w]
      rfl
    refine pure_ (i := 16) (N := some 75) (v := ?_) (a' := ?_) #[true, true, true, true, true, true, true, true, true, true, true, true, true, true, true, true, true, false] rfl rfl (by kernel_rfl) (fun _ _ _ h => h) (Or.inl ⟨by rfl, ?_⟩) ?_ ?_
    rotate_left
    · intro w'
      go_simp
      with_reducible rfl
    rotate_left
    · simp only [Act.put, List.setIfInBounds_toArray, List.set_cons_zero, List.set_cons_succ, i64_w, i32_w]
      rfl
    refine last_ (i := 17) (N := none) #[true, true, true, true, true, true, true, true, true, true, true, true, true, true, true, true, true, true] rfl rfl (by kernel_rfl) (by decide) (fun K hK => ?_)
    refine skip_ (w1 := ?_) (by rfl) rfl ?_ ?_
    rotate_left
    · go_simp
      rfl
    refine hK.out _ _ ?_
    clear hK K
    refine done_ (by kernel_rfl) ?_

    clear hHeld hc7 hx7 hz72
    have hmin : min (la : Int) (nk : Int) = ((min la nk : Nat) : Int) := by omega
    have hp2 := (HP1.out.step (W' := W7.drew) (fun _ _ => rfl)).putN HGI.out (min la nk)
    rw [List.set_set] at hp2
    simp only [List.set_set, HNM.out, HXL.out, HLA.out] at hp2
    have hlx : la = x.2 := by rw [HLA.out, HXL.out]
    rw [hmin, hlx]
    have hg : ok g ∧ w0.heap.size ≤ g := HFT.out g (by rw [HVL.out]; simp [footR, Value.ownBlock])
    have hb62 : Below w.heap.size w W6 := (bdrew HB3.out).trans (HB6.out.mono (bdrew HB3.out).size)
    have HK8 : Aside0 (Kept w (W7.drew.setCell ⟨g, i * 3 + 2, none⟩ (.int .i64 (min x.2 nk : Nat))) ok) := ⟨by
      rw [HW7.out]
      exact ((((Kept.refl w ok).below hb62).setCell (p := ⟨g, i * 3 + 1, none⟩) (.inl hg.1) _).drew).setCell (p := ⟨g, i * 3 + 2, none⟩) (.inl hg.1) _⟩
    have HB8 : Aside0 (Below w0.heap.size w0 (W7.drew.setCell ⟨g, i * 3 + 2, none⟩ (.int .i64 (min x.2 nk : Nat)))) := ⟨by
      rw [HW7.out]
      exact (bdrew ((HD.out.below.trans (hb62.mono HD.out.below.size)).setCell (p := ⟨g, i * 3 + 1, none⟩) hg.2 _)).setCell (p := ⟨g, i * 3 + 2, none⟩) hg.2 _⟩
    have hfo : ∀ b ∈ footR r (.slice (some ⟨g, 0, none⟩) es.length c) (es.set i ⟨e.nm, .slice A6 nk c6, (x.1.take nk, min x.2 nk)⟩), (ok b ∧ w0.heap.size ≤ b) ∨ w.heap.size ≤ b :=
      foot_set HEI.out (.inr (fun b hb => Nat.le_trans (bdrew HB3.out).size (HO6.out b hb))) (by rw [← HVL.out]; exact HFT.out)
    have HFO := Aside0.mk hfo
    have KD := Aside0.mk (did_up hp2 HFI.out.l1 HFI.out.l0)
    clear hp2 hmin hlx hg hb62 hfo
    go_wp2_with fail
    refine KD.out.mono ?_
    rintro e3 w9 ⟨rfl, hi9, hk9, hb9⟩
    go_wp2
    go_ret
    have HE9 := HE.out
    obtain rfl := HE9
    have hr : ok r ∧ w0.heap.size ≤ r := HFT.out r (by simp [footR])
    exact ⟨rfl, HD.out.to hi9 HFO.out (HB8.out.trans (hb9 _ hr.2)) HFINE.out, HK8.out.then_ hk9 (fun b hb => .inl (by rw [hb]; exact hr.1))⟩
end
end Go.Proofs.Ytdepjlnljkbfjaa.Hand

/- The reference's disk: a file laid into the row. -/
namespace Go.Proofs.Ytdepjlnljkbfjaa.Hand
open Go.RowKit Go.Proofs.Ytdepjlnljkbfjaa.PA Go.Proofs.Ytdepjlnljkbfjaa.MapP Go.Proofs.YtdepjlnljkbfjaaW.PrintWords Go.Proofs.YtdepjlnljkbfjaaW.PrintLast Go.Proofs.YtdepjlnljkbfjaaW.PrintMore
attribute [local go_sem] max2_int min2_int
set_option linter.unusedVariables false
set_option linter.unusedSimpArgs false
set_option linter.unusedSectionVars false
section
variable {W W' W1 w w0 : World} {base r : Nat} {R R' : RV} {vL v : Value} {es es' : List RE} {e : RE} {ok : Nat → Prop} {g i c n : Nat}
theorem row_slice {v : Value} {xs : List Value} {sz : Nat} {t : TypeId} (h : W.ownsRow base t sz v n xs) : ∃ A c, v = .slice A n c ∧ n ≤ c := by
  rcases h.2 with ⟨rfl, h0⟩ | ⟨g, cap, cur, rfl, _, _, h1, _⟩
  · exact ⟨none, 0, by rw [h0], by omega⟩
  · exact ⟨_, cap, rfl, h1⟩
theorem three_parts {A0 : Option Addr} {c : Nat} (h : IsRef W base r R (.slice A0 es.length c) es) (hbase : base ≤ W.heap.size) (hm : es.length ≤ 4096) (i : Nat) (hi : i ≤ es.length) (e' : RE) (he1 : e'.v.oneCell' = true) (A2 : Option Addr) (c1 c2 : Nat)
    (hA2 : ∀ g : Nat, A0 = some ⟨g, 0, none⟩ → A2 = some ⟨g, i * 3, none⟩ ∨ es.length - i = 0) (hA2n : A0 = none → A2 = none) :
    ∃ v6 W6 v7 W7 v8 W8, (Builtin.append_ #[77, 77] 77 #[.slice (some ⟨W.heap.size, 0, none⟩) 0 0, .slice A0 i c1]).run Try.prog (W.alloc (.cells #[] 82)) = .ok v6 W6 ∧ (Builtin.append_ #[77, 77] 77 #[v6, .slice (some ⟨W6.heap.size, 0, none⟩) 1 1]).run Try.prog (W6.alloc (.cells (flatE e').toArray 82)) = .ok v7 W7 ∧ (Builtin.append_ #[77, 77] 77 #[v7, .slice A2 (es.length - i) c2]).run Try.prog W7 = .ok v8 W8 ∧
      W8.ownsRow base 82 3 v8 (es.take i ++ e' :: es.drop i).length (flatR (es.take i ++ e' :: es.drop i)) ∧ Below W.heap.size W W6 ∧ Below W.heap.size W W7 ∧ Below W.heap.size W W8 ∧ (∀ b, v8.ownBlock = some b → W.heap.size ≤ b) ∧ (∃ A c, v6 = .slice A i c) ∧ (∃ A c, v7 = .slice A (i + 1) c) ∧ (∃ A n c, v8 = .slice A n c) := by
  obtain ⟨A', c', e1, hc, hA0, hA0'⟩ := h.slice
  injection e1 with e1 _ e3
  subst e1 e3
  have hcut : ∀ (W' : World), Below W.heap.size W W' → IsRef W' base r R (.slice A0 es.length c) es := fun W' hb => h.step (fun b hb' => hb.block b (h.lt b hb'))
  have hcell : ∀ (W' : World), Below W.heap.size W W' → ∀ (k m : Nat), k + m ≤ es.length → ∀ (A : Option Addr), (∀ g : Nat, A0 = some ⟨g, 0, none⟩ → A = some ⟨g, k * 3, none⟩ ∨ m = 0) → (A0 = none → A = none) → ∀ a, A = some a → ∀ j u, (flatR ((es.drop k).take m))[j]? = some u → W'.cell? (a.add j) = some u := by
    intro W' hb k m hkm A hA hAn a ha j u hu
    cases A0 with
    | none => rw [hAn rfl] at ha; cases ha
    | some a0 =>
      obtain ⟨g, rfl⟩ := hA0' a0 rfl
      exact part_cells (hcut W' hb) A k m hkm (hA g rfl) a ha j u hu
  have e1 : flatR ((es.drop 0).take i) = flatR (es.take i) := by rw [List.drop_zero]
  have hb0 : Below W.heap.size W (W.alloc (.cells #[] 82)) := (Below.refl _ _).alloc (Nat.le_refl _) _
  obtain ⟨v6, W6, hrun6, ho6, hg6, hat6⟩ := row_append (news := flatR (es.take i)) (made_row W hbase) 77 A0 i c1 (by rw [flatR_len, List.length_take]; omega) (fun h0 => by have := hA0 h0; omega) (by rw [← e1]; exact hcell _ hb0 0 i (by omega) A0 (fun g hg => .inl (by rw [hg])) id) (flatR_one (fun e he => h.ones e (List.mem_of_mem_take he))) (by omega) (by simp; omega)
  simp only [Nat.zero_add, List.nil_append] at ho6
  have hw6 : ∀ b, v6.ownBlock = some b → W.heap.size ≤ b := fun b hb => hat6.elim (fun h => by rw [h] at hb; have := own_new hb; omega) (fun h => by have := h b hb; simp at this; omega)
  have hb6 : Below W.heap.size W W6 := hb0.grown hg6 (by simp) (fun k hk => by have := own_new hk; omega)
  have hb6a : Below W.heap.size W (W6.alloc (.cells (flatE e').toArray 82)) := hb6.alloc hb6.size _
  obtain ⟨v7, W7, hrun7, ho7, hg7, hat7⟩ := row_append (news := flatE e') (ho6.alloc (.cells (flatE e').toArray 82)) 77 (some ⟨W6.heap.size, 0, none⟩) 1 1 (by simp [flatE]) (fun h => by cases h) (fun a ha j u hu => by
      have ha2 := Option.some.inj ha
      rw [← ha2]
      have hblk := heap_alloc_new W6 (.cells (flatE e').toArray 82)
      generalize flatE e' = fl at hu hblk ⊢
      rw [Addr.add_lit, Nat.zero_add, blk_cell hblk j, List.getElem?_toArray]
      exact hu) (fun u hu => by
      simp only [flatE, List.mem_cons, List.not_mem_nil, or_false] at hu
      rcases hu with rfl | rfl | rfl
      · rfl
      · exact he1
      · rfl) (by omega) (Nat.le_trans hbase hb6a.size)
  have hw7 : ∀ b, v7.ownBlock = some b → W.heap.size ≤ b := fun b hb => hat7.elim (fun h => hw6 b (by rw [← h]; exact hb)) (fun h => Nat.le_trans hb6a.size (h b hb))
  have hb7 : Below W.heap.size W W7 := hb6a.grown hg7 hb6a.size hw6
  have e2 : flatR ((es.drop i).take (es.length - i)) = flatR (es.drop i) := by rw [List.take_of_length_le (by rw [List.length_drop]; omega)]
  obtain ⟨v8, W8, hrun8, ho8, hg8, hat8⟩ := row_append (news := flatR (es.drop i)) ho7 77 A2 (es.length - i) c2 (by rw [flatR_len, List.length_drop]) (fun h0 => by
      cases A0 with
      | none => have := hA0 rfl; omega
      | some a0 =>
        obtain ⟨g, rfl⟩ := hA0' a0 rfl
        rcases hA2 g rfl with hA | hA
        · rw [hA] at h0; cases h0
        · exact hA) (by rw [← e2]; exact hcell _ hb7 i (es.length - i) (by omega) A2 hA2 hA2n) (flatR_one (fun e he => h.ones e (List.mem_of_mem_drop he))) (by omega) (Nat.le_trans hbase hb7.size)
  have hw8 : ∀ b, v8.ownBlock = some b → W.heap.size ≤ b := fun b hb => hat8.elim (fun h => hw7 b (by rw [← h]; exact hb)) (fun h => Nat.le_trans hb7.size (h b hb))
  have hb8 : Below W.heap.size W W8 := hb7.grown hg8 hb7.size hw7
  have el : i + 1 + (es.length - i) = (es.take i ++ e' :: es.drop i).length := by rw [List.length_append, List.length_take, List.length_cons, List.length_drop]; omega
  have ef : flatR (es.take i) ++ flatE e' ++ flatR (es.drop i) = flatR (es.take i ++ e' :: es.drop i) := by rw [flatR_app, List.append_assoc]; rfl
  rw [ef, el] at ho8
  obtain ⟨A6, c6, hs6, _⟩ := row_slice ho6
  obtain ⟨A7, c7, hs7, _⟩ := row_slice ho7
  obtain ⟨A8, c8, hs8, _⟩ := row_slice ho8
  exact ⟨v6, W6, v7, W7, v8, W8, hrun6, hrun7, hrun8, ho8, hb6, hb7, hb8, hw8, ⟨A6, c6, hs6⟩, ⟨A7, c7, hs7⟩, ⟨A8, _, c8, hs8⟩⟩
end
end Go.Proofs.Ytdepjlnljkbfjaa.Hand
