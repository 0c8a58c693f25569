/- frame.Decode, frame.One: the walks. -/
import Derived.Test.YtdepjlnljkbfjaaFramew
namespace Go.Proofs.Ytdepjlnljkbfjaa.Hand
open Go.RowKit Go.Proofs.Ytdepjlnljkbfjaa.PA Go.Proofs.Ytdepjlnljkbfjaa.MapP Go.Proofs.YtdepjlnljkbfjaaW.PrintWords Go.Proofs.YtdepjlnljkbfjaaW.PrintLast Go.Proofs.YtdepjlnljkbfjaaW.PrintMore
attribute [local go_sem] max2_int min2_int
set_option linter.unusedVariables false
set_option linter.unusedSimpArgs false
set_option linter.unusedSectionVars false
theorem bdrew_of {w w' : World} (h : Below w.drew.heap.size w.drew w') : Below w.heap.size w w' := (bdrew (Below.refl _ _)).trans h
theorem C_take' {w : World} {A : Option Addr} {l : List Int} {m : Nat} (h : Kd.C (Kd.int .u8) w A l.length l) (hm : m ≤ l.length) : Kd.C (Kd.int .u8) w A m (l.take m) := by
  have h2 := Kd.C_take h hm
  rw [List.length_take, Nat.min_eq_left hm] at h2
  exact h2
theorem plain_at {w : World} {ad : Addr} {l : List Int} (h : Kd.C (Kd.int .u8) w (some ad) l.length l) (hp : 0 < l.length) : ∃ g o, ad = ⟨g, o, none⟩ := by
  obtain ⟨ad2, e, hc⟩ := Kd.at_int h 0 (by omega) (by omega)
  injection e with e
  subst e
  obtain ⟨g, o, sp⟩ := ad
  obtain rfl := sub_none hc
  exact ⟨g, o, rfl⟩
theorem C_cell8 {w : World} {g o n : Nat} {l : List Int} (h : Kd.C (Kd.int .u8) w (some ⟨g, o, none⟩) n l) (i : Nat) (hi : i < n) : w.cell? ⟨g, o + i, none⟩ = some (.int .u8 (l.getD i 0)) := by
  obtain ⟨ad, e, hc⟩ := Kd.at_int h (i : Int) (by omega) (by omega)
  injection e with e
  subst e
  rw [Addr.add_lit] at hc
  simpa [rd] using hc
theorem C_drop' {w : World} {g o : Nat} {l : List Int} {m : Nat} (h : Kd.C (Kd.int .u8) w (some ⟨g, o, none⟩) l.length l) (hm : m ≤ l.length) : Kd.C (Kd.int .u8) w (some ⟨g, o + m, none⟩) (l.length - m) (l.drop m) := by
  refine Kd.C_of_reads (d := (0 : Int)) (h1 := fun _ => rfl) ⟨by simp, by have := h.2.1; omega, fun hp => ⟨_, rfl, fun j hj => ?_⟩⟩
  rw [Addr.add_lit, Nat.add_assoc, C_cell8 h (m + j) (by omega)]
  simp
theorem C_len {w : World} {A : Option Addr} {n : Nat} {l : List Int} (h : Kd.C (Kd.int .u8) w A n l) : l.length = n := h.1
theorem conv_l {w : World} {A : Option Addr} {n c : Nat} {l : List Int} (h : Kd.C (Kd.int .u8) w A n l) (hp : 0 < n) : (convert 23 9 (.slice A n c)).run Try.prog w = .ok (.string (strOfNums l)) w := by
  have hn := C_len h
  subst hn
  obtain ⟨ad, e, _⟩ := h.2.2 hp
  subst e
  obtain ⟨g, o, rfl⟩ := plain_at h hp
  exact run_convert_bytes_arg (P := Try.prog) w 23 5 Try.underlying23 Try.underlying5 g o l.length c l rfl (fun i hi => C_cell8 h i hi) 9 Try.underlying9
theorem eq_calls (A B : Option Addr) (n m c d : Nat) (xs ys : List Int) (w : World) (hA : Kd.C (Kd.int .u8) w A n xs) (hB : Kd.C (Kd.int .u8) w B m ys) (bx : Bytes xs) (by_ : Bytes ys) (hn : 0 < n := by omega) (hm : 0 < m := by omega) :
    Calls Try.prog 87 #[.slice A n c, .slice B m d] w fun e w' => e = .returned (.bool (decide (xs = ys))) ∧ w' = w := by
  have h := Try.bytes_Equal _ _ xs ys w (conv_l (c := c) hA hn) (conv_l (c := d) hB hm)
  have e : (Lib.bytesOf xs == Lib.bytesOf ys) = decide (xs = ys) := by
    rw [Bool.eq_iff_iff, beq_iff_eq, decide_eq_true_iff]
    exact ⟨fun h => b8_inj xs ys bx by_ h, fun h => by rw [h]⟩
  rw [e] at h
  exact h
theorem from_n (A : Option Addr) (n c : Nat) (l : List Int) (w : World) (hC : Kd.C (Kd.int .u8) w A n l) (hc : n ≤ c) (hl : 4 ≤ n) : Calls Try.prog 86 #[.slice A n c] w fun e w' => e = .returned (.int .u32 (fromV l)) ∧ Below w.heap.size w w' := by
  have hn := C_len hC
  subst hn
  exact from_at A c l w hC hc hl
theorem sum_n (A : Option Addr) (n c : Nat) (l : List Int) (w : World) (hC : Kd.C (Kd.int .u8) w A n l) (hb : Bytes l) :
    Calls Try.prog 70 #[.slice (some ⟨w.heap.size, 0, none⟩) 1 1] (w.alloc (.cells #[.slice A n c] 23)) fun e w' => e = .returned (.int .u32 (sumL l)) ∧ w' = w.alloc (.cells #[.slice A n c] 23) := by
  have hn := C_len hC
  subst hn
  exact sum1 A c l w hC hb
theorem clone_n (A : Option Addr) (n c : Nat) (l : List Int) (w : World) (hC : Kd.C (Kd.int .u8) w A n l) (hl : n ≤ 140737488355328) :
    Calls Try.prog 43 #[.slice A n c] w fun e w' => ∃ A' c', e = .returned (.slice A' l.length c') ∧ l.length ≤ c' ∧ Kd.C (Kd.int .u8) w' A' l.length l ∧ Below w.heap.size w w' := by
  have hn := C_len hC
  subst hn
  refine (clone_calls A c l w hC hl).mono ?_
  rintro e w' ⟨v, rfl, hR, hb⟩
  obtain ⟨A', c', rfl, h1, h2⟩ := Kd.R_reads hR
  exact ⟨A', c', rfl, h1, h2, hb⟩
set_option maxRecDepth 100000 in
set_option maxHeartbeats 4000000 in
theorem dec_calls (A : Option Addr) (c : Nat) (l : List Int) (w : World) (hC : Kd.C (Kd.int .u8) w A l.length l) (hc : l.length ≤ c) (hb : Bytes l) (hl : l.length ≤ 140737488355328) :
    Calls Try.prog 74 #[.slice A l.length c] w fun e w' => ∃ A' c', e = .returned (.tuple #[.slice A' (decV l).1.length c', .int .i64 (decV l).2.1, .int .i64 (decV l).2.2]) ∧ (decV l).1.length ≤ c' ∧ Kd.C (Kd.int .u8) w' A' (decV l).1.length (decV l).1 ∧ Below w.heap.size w w' := by
  have HC := Aside0.mk hC
  have HBY := Aside0.mk hb
  have hnil : ∀ W, Kd.C (Kd.int .u8) W none ([] : List Int).length [] := fun W => ⟨rfl, by simp, fun h => absurd h (by simp)⟩
  have HNIL := Aside0.mk hnil
  clear hC hb hnil
  by_cases h8 : l.length < 8
  · have e : decV l = ([], 0, 2) := by unfold decV; rw [if_pos h8]
    have HE := Aside0.mk e
    clear e
    go_enter Try.func74, Try.ntmps74
    go_wp2
    exact bodyPost_ret (v := .tuple #[.slice none 0 0, .int .i64 0, .int .i64 2]) (by simp [results, Try.results74, go_sem]) rfl (by rw [HE.out]; exact ⟨none, 0, rfl, Nat.le_refl _, HNIL.out _, Below.refl _ _⟩)
  · have hg8 : 8 ≤ l.length := by omega
    obtain ⟨ad, rfl, _⟩ := HC.out.2.2 (by omega)
    obtain ⟨g, o, rfl⟩ := plain_at HC.out (by omega)
    have H8 := Aside0.mk hg8
    have h8c : (8 : Int) ≤ c := by omega
    go_enter Try.func74, Try.ntmps74
    go_wp2_with fail
    refine (from_n _ _ _ l _ HC.out hc (by omega)).mono ?_
    rintro e w1 ⟨rfl, hb1⟩
    have hfr := fromV_range l
    obtain ⟨k, hk⟩ : ∃ k : Nat, fromV l = k := ⟨(fromV l).toNat, by omega⟩
    rw [hk] at hfr ⊢
    have hkr : k < 4294967296 := by omega
    have HK := Aside0.mk hk
    have HC1 : Aside0 (Kd.C (Kd.int .u8) w1.drew (some ⟨g, o, none⟩) l.length l) := ⟨Kd.C_drew (Kd.C_below HC.out hb1)⟩
    have HB1 := Aside0.mk hb1
    obtain ⟨q, hq⟩ : ∃ q : Bool, q = decide (l.take 8 = headF k) := ⟨_, rfl⟩
    have HQ := Aside0.mk hq
    clear hq hk hb1 hfr
    go_wp2
    refine start_ (n := 7) (S := fun w' => True) (ds := []) #[false, false, false, false, false, false, false] (by kernel_rfl) rfl rfl trivial (fun hHeld => ?_)
    refine pure_ (i := 0) (N := some 13) (v := ?_) (a' := ?_) #[true, false, false, false, false, false, false] rfl rfl (by kernel_rfl) (fun _ _ _ h => h) (Or.inl ⟨by rfl, ?_⟩) ?_ ?_
    rotate_left
    · intro w'
      go_simp
      with_reducible rfl
    rotate_left
    · simp only [Act.put, List.setIfInBounds_toArray, List.set_cons_zero, List.set_cons_succ, i64_w, i32_w]
      rfl
    refine pure_ (i := 1) (N := some 14) (v := ?_) (a' := ?_) #[true, true, false, false, false, false, false] rfl rfl (by kernel_rfl) (fun _ _ _ h => h) (Or.inl ⟨by rfl, ?_⟩) ?_ ?_
    rotate_left
    · intro w'
      go_simp
      with_reducible rfl
    rotate_left
    · simp only [Act.put, List.setIfInBounds_toArray, List.set_cons_zero, List.set_cons_succ, i64_w, i32_w]
      rfl
    refine pure_ (i := 2) (N := some 15) (v := ?_) (a' := ?_) #[true, true, true, false, false, false, false] rfl rfl (by kernel_rfl) (fun _ _ _ h => h) (Or.inl ⟨by rfl, ?_⟩) ?_ ?_
    rotate_left
    · intro w'
      go_simp
      with_reducible rfl
    rotate_left
    · simp only [Act.put, List.setIfInBounds_toArray, List.set_cons_zero, List.set_cons_succ, i64_w, i32_w]
      rfl
    refine one_ (i := 3) (N := some 16) #[true, true, true, true, false, false, false] rfl rfl (by kernel_rfl) (by decide) (fun K hK => ?_)
    refine goes_ Try.func68 (by kernel_rfl) rfl #[.int .u32 k] (by rfl) rfl rfl (by simp only [List.map_toArray, List.map_cons, List.map_nil]; rfl) ?_
    with_reducible refine (head_calls k _).mono ?_
    rintro e w2 ⟨A2, c2, rfl, hc2, hC2, hb2⟩
    refine ⟨_, rfl, ?_⟩
    have HC2 := Aside0.mk hC2
    have HB2d := Aside0.mk hb2
    have HB2 := Aside0.mk (bdrew_of hb2)
    clear hC2 hb2
    refine hK.out _ _ trivial (fun hHeld => ?_)
    clear hK K
    refine norm_ (a' := ?_) ?_ ?_
    rotate_left
    · show Act.put _ (some 16) _ = _
      simp only [Act.put, List.setIfInBounds_toArray, List.set_cons_zero, List.set_cons_succ, i64_w, i32_w]
      rfl
    refine one_ (i := 4) (N := some 17) #[true, true, true, true, true, false, false] rfl rfl (by kernel_rfl) (by decide) (fun K hK => ?_)
    have k5 := eq_calls (some ⟨g, o, none⟩) A2 8 8 c c2 (l.take 8) (headF k) w2 (Kd.C_below (C_take' HC1.out H8.out) HB2d.out) HC2.out (bytes_take HBY.out 8) (headF_bytes k)
    rw [← HQ.out] at k5
    have K5 := Aside0.mk k5
    clear k5
    refine goes_ Try.func87 (by kernel_rfl) rfl #[.slice (some ⟨g, o, none⟩) 8 c, .slice A2 8 c2] (by rfl) rfl rfl (by simp only [List.map_toArray, List.map_cons, List.map_nil]; rfl) ?_
    with_reducible refine (K5.out).mono ?_
    rintro e w3 ⟨rfl, rfl⟩
    refine ⟨_, rfl, ?_⟩
    refine hK.out _ _ trivial (fun hHeld => ?_)
    clear hK K
    refine norm_ (a' := ?_) ?_ ?_
    rotate_left
    · show Act.put _ (some 17) _ = _
      simp only [Act.put, List.setIfInBounds_toArray, List.set_cons_zero, List.set_cons_succ, i64_w, i32_w]
      rfl
    refine pure_ (i := 5) (N := some 18) (v := ?_) (a' := ?_) #[true, true, true, true, true, true, false] rfl rfl (by kernel_rfl) (fun _ _ _ h => h) (Or.inl ⟨by rfl, ?_⟩) ?_ ?_
    rotate_left
    · intro w'
      go_simp
      with_reducible rfl
    rotate_left
    · simp only [Act.put, List.setIfInBounds_toArray, List.set_cons_zero, List.set_cons_succ, i64_w, i32_w]
      rfl
    refine pure_ (i := 6) (N := some 12) (v := ?_) (a' := ?_) #[true, true, true, true, true, true, true] rfl rfl (by kernel_rfl) (fun _ _ _ h => h) (Or.inl ⟨by rfl, ?_⟩) ?_ ?_
    rotate_left
    · intro w'
      go_simp
      with_reducible rfl
    rotate_left
    · simp only [Act.put, List.setIfInBounds_toArray, List.set_cons_zero, List.set_cons_succ, i64_w, i32_w]
      rfl
    refine done_ (by kernel_rfl) ?_


    clear hHeld
    have HB3 := Aside0.mk (HB1.out.trans (HB2.out.mono HB1.out.size))
    have HC3 := Aside0.mk (Kd.C_below HC.out HB3.out)
    cases q
    · have e : decV l = ([], 0, 4) := by unfold decV; rw [if_neg h8, HK.out, if_pos (of_decide_eq_false HQ.out.symm)]
      have HE := Aside0.mk e
      clear e
      go_wp2
      exact bodyPost_ret (v := .tuple #[.slice none 0 0, .int .i64 0, .int .i64 4]) (by simp [results, Try.results74, go_sem]) rfl (by rw [HE.out]; exact ⟨none, 0, rfl, Nat.le_refl _, HNIL.out _, HB3.out⟩)
    · have HQ1 : Aside0 (l.take 8 = headF k) := ⟨of_decide_eq_true HQ.out.symm⟩
      by_cases hbig : 1048576 < k
      · have e : decV l = ([], 0, 5) := by unfold decV; rw [if_neg h8, HK.out, if_neg (by rw [HQ1.out]; simp), if_pos (by omega)]
        have HE := Aside0.mk e
        clear e
        go_wp2
        exact bodyPost_ret (v := .tuple #[.slice none 0 0, .int .i64 0, .int .i64 5]) (by simp [results, Try.results74, go_sem]) rfl (by rw [HE.out]; exact ⟨none, 0, rfl, Nat.le_refl _, HNIL.out _, HB3.out⟩)
      · by_cases hsh : (l.length : Int) - 12 < k
        · have e : decV l = ([], 0, 2) := by unfold decV; rw [if_neg h8, HK.out, if_neg (by rw [HQ1.out]; simp), if_neg (by omega), if_pos (by omega)]
          have HE := Aside0.mk e
          clear e
          have hs2 : (l.length : Int) - 8 - 4 < k := by omega
          go_wp2
          exact bodyPost_ret (v := .tuple #[.slice none 0 0, .int .i64 0, .int .i64 2]) (by simp [results, Try.results74, go_sem]) rfl (by rw [HE.out]; exact ⟨none, 0, rfl, Nat.le_refl _, HNIL.out _, HB3.out⟩)
        · have hs2 : ¬ (l.length : Int) - 8 - 4 < k := by omega
          have hge : k + 12 ≤ l.length := by omega
          have hdv : decV l = if fromV (l.drop (8 + k)) ≠ sumL (l.take (8 + k)) then ([], 0, 4) else ((l.take (8 + k)).drop 8, (k : Int) + 12, 0) := by
            unfold decV
            rw [if_neg h8, HK.out, if_neg (by rw [HQ1.out]; simp), if_neg (by omega), if_neg (by omega)]
            rfl
          have HDV := Aside0.mk hdv
          obtain ⟨fv, hfv⟩ : ∃ fv, fv = fromV (l.drop (8 + k)) := ⟨_, rfl⟩
          obtain ⟨sm, hsm⟩ : ∃ sm, sm = sumL (l.take (8 + k)) := ⟨_, rfl⟩
          have k6 := from_n (some ⟨g, o + (8 + k), none⟩) (l.length - (8 + k)) (c - (8 + k)) (l.drop (8 + k)) _ (C_drop' HC3.out (by omega)) (by omega) (by omega)
          rw [← hfv] at k6
          rw [← hfv, ← hsm] at HDV
          have K6 := Aside0.mk k6
          have HSM := Aside0.mk hsm
          clear hdv hfv k6 hsm
          go_wp2_with fail
          refine K6.out.mono ?_
          rintro e w4 ⟨rfl, hb4⟩
          obtain ⟨l2, hl2⟩ : ∃ l2, l2 = l.take (8 + k) := ⟨_, rfl⟩
          have hl2l : l2.length = 8 + k := by rw [hl2, List.length_take]; omega
          have hC4 : Kd.C (Kd.int .u8) w4 (some ⟨g, o, none⟩) (8 + k) l2 := by rw [hl2]; exact C_take' (Kd.C_below HC3.out hb4) (by omega)
          rw [← hl2] at HSM HDV
          have hl2b : Bytes l2 := by rw [hl2]; exact bytes_take HBY.out _
          have k7 := sum_n (some ⟨g, o, none⟩) (8 + k) c l2 w4 hC4 hl2b
          rw [← HSM.out] at k7
          have K7 := Aside0.mk k7
          have HB4 := Aside0.mk (HB3.out.trans (hb4.mono HB3.out.size))
          have HC4 := Aside0.mk hC4
          have HL2L := Aside0.mk hl2l
          clear hl2 hl2l hC4 hl2b k7 hb4 K6
          go_wp2_with fail
          refine K7.out.mono ?_
          rintro e w5 ⟨rfl, rfl⟩
          by_cases hne : fv = sm
          · have hE : decV l = (l2.drop 8, 8 + (k : Int) + 4, 0) := by rw [HDV.out, if_neg (by rw [hne]; simp), show (k : Int) + 12 = 8 + (k : Int) + 4 from by omega]
            obtain ⟨l3, hl3⟩ : ∃ l3, l3 = l2.drop 8 := ⟨_, rfl⟩
            have hl3l : l3.length = k := by rw [hl3, List.length_drop, HL2L.out]; omega
            rw [← hl3] at hE
            have hC5 : Kd.C (Kd.int .u8) (w4.alloc (.cells #[.slice (some ⟨g, o, none⟩) (8 + k) c] 23)) (some ⟨g, o + 8, none⟩) k l3 := by
              have h := HC4.out
              rw [← HL2L.out] at h
              have h2 := Kd.C_alloc (C_drop' h (m := 8) (by rw [HL2L.out]; omega)) (.cells #[.slice (some ⟨g, o, none⟩) (8 + k) c] 23)
              rw [HL2L.out, show 8 + k - 8 = k from by omega] at h2
              rw [hl3]
              exact h2
            have k8 := clone_n (some ⟨g, o + 8, none⟩) k (c - 8) l3 _ hC5 (by omega)
            have K8 := Aside0.mk k8
            have HE := Aside0.mk hE
            have HB5 := Aside0.mk (HB4.out.alloc HB4.out.size (.cells #[.slice (some ⟨g, o, none⟩) (8 + k) c] 23))
            have hnb : (fv != sm) = false := by rw [hne]; simp
            have h88 : 8 + k - 8 = k := by omega
            clear hE k8 hC5 hl3 hl3l hne
            go_wp2_with fail
            refine K8.out.mono ?_
            rintro e w6 ⟨A6, c6, rfl, hc6, hC6, hb6⟩
            go_wp2
            exact bodyPost_ret (v := .tuple #[.slice A6 l3.length c6, .int .i64 (8 + (k : Int) + 4), .int .i64 0]) (by simp [results, Try.results74, go_sem]) rfl (by rw [HE.out]; exact ⟨A6, c6, rfl, hc6, hC6, HB5.out.trans (hb6.mono HB5.out.size)⟩)
          · have hE : decV l = ([], 0, 4) := by rw [HDV.out, if_pos hne]
            have HE := Aside0.mk hE
            have HB5 := Aside0.mk (HB4.out.alloc HB4.out.size (.cells #[.slice (some ⟨g, o, none⟩) (8 + k) c] 23))
            have hnb : (fv != sm) = true := by simpa using hne
            clear hE
            go_wp2
            exact bodyPost_ret (v := .tuple #[.slice none 0 0, .int .i64 0, .int .i64 4]) (by simp [results, Try.results74, go_sem]) rfl (by rw [HE.out]; exact ⟨none, 0, rfl, Nat.le_refl _, HNIL.out _, HB5.out⟩)
set_option maxRecDepth 100000 in
set_option maxHeartbeats 2000000 in
theorem one_calls (A : Option Addr) (c : Nat) (l : List Int) (w : World) (hC : Kd.C (Kd.int .u8) w A l.length l) (hc : l.length ≤ c) (hb : Bytes l) (hl : l.length ≤ 140737488355328) :
    Calls Try.prog 41 #[.slice A l.length c] w fun e w' => ∃ A' c', e = .returned (.tuple #[.slice A' (oneF l).1.length c', .int .i64 (oneF l).2]) ∧ (oneF l).1.length ≤ c' ∧ Kd.C (Kd.int .u8) w' A' (oneF l).1.length (oneF l).1 ∧ Below w.heap.size w w' := by
  have K := Aside0.mk (dec_calls A c l w hC hc hb hl)
  obtain ⟨p, hp⟩ : ∃ p, p = (decV l).1 := ⟨_, rfl⟩
  obtain ⟨n, hn⟩ : ∃ n, n = (decV l).2.1 := ⟨_, rfl⟩
  obtain ⟨e, he⟩ : ∃ e, e = (decV l).2.2 := ⟨_, rfl⟩
  have ho : oneF l = if e = 0 ∧ n ≠ l.length then ([], 3) else (p, e) := by unfold oneF; rw [← hp, ← hn, ← he]
  rw [← hp, ← hn, ← he] at K
  have HO := Aside0.mk ho
  clear hp hn he ho hC hb
  go_enter Try.func41, Try.ntmps41
  go_wp2_with fail
  refine K.out.mono ?_
  rintro e w1 ⟨A1, c1, rfl, hc1, hC1, hb1⟩
  have HC1 := Aside0.mk hC1
  have HB1 := Aside0.mk hb1
  clear hC1 hb1
  by_cases h0 : e = 0
  · subst h0
    by_cases hne : n = (l.length : Int)
    · have HE : Aside0 (oneF l = (p, 0)) := ⟨by rw [HO.out, if_neg (by rw [hne]; simp)]⟩
      have hnb : (n != (l.length : Int)) = false := by rw [hne]; simp
      clear hne
      go_wp2
      go_ret2
      rw [HE.out]
      exact ⟨A1, c1, rfl, hc1, HC1.out, HB1.out⟩
    · have HE : Aside0 (oneF l = ([], 3)) := ⟨by rw [HO.out, if_pos ⟨rfl, hne⟩]⟩
      have hnb : (n != (l.length : Int)) = true := by simpa using hne
      clear hne
      go_wp2
      go_ret2
      rw [HE.out]
      exact ⟨none, 0, rfl, by simp, ⟨rfl, by simp, fun h => absurd h (by simp)⟩, HB1.out⟩
  · have HE : Aside0 (oneF l = (p, e)) := ⟨by rw [HO.out, if_neg (fun h => h0 h.1)]⟩
    have hnb : (e == 0) = false := by simpa using h0
    go_wp2
    go_ret2
    rw [HE.out]
    exact ⟨A1, c1, rfl, hc1, HC1.out, HB1.out⟩
end Go.Proofs.Ytdepjlnljkbfjaa.Hand
