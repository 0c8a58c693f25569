/- frame: the walks. -/
import Derived.Test.YtdepjlnljkbfjaaFrame
namespace Go.Proofs.Ytdepjlnljkbfjaa.Hand
open Go.RowKit Go.Proofs.Ytdepjlnljkbfjaa.PA Go.Proofs.Ytdepjlnljkbfjaa.MapP Go.Proofs.YtdepjlnljkbfjaaW.PrintWords Go.Proofs.YtdepjlnljkbfjaaW.PrintLast Go.Proofs.YtdepjlnljkbfjaaW.PrintMore
attribute [local go_sem] max2_int min2_int
set_option linter.unusedVariables false
set_option linter.unusedSimpArgs false
set_option linter.unusedSectionVars false
theorem rows_two {w : World} {A B : Option Addr} {c d : Nat} {xs ys : List Int} (hA : Kd.C (Kd.int .u8) w A xs.length xs) (hc : xs.length ≤ c) (hB : Kd.C (Kd.int .u8) w B ys.length ys) (hd : ys.length ≤ d) (t : TypeId) :
    Kd.C (Kd.slice 5 (Kd.int .u8)) (w.alloc (.cells #[.slice A xs.length c, .slice B ys.length d] t)) (some ⟨w.heap.size, 0, none⟩) 2 [xs, ys] := by
  have hb := heap_alloc_new w (.cells #[.slice A xs.length c, .slice B ys.length d] t)
  refine ⟨rfl, by omega, fun _ => ⟨_, rfl, fun j p hj => ?_⟩⟩
  match j with
  | 0 =>
    cases hj
    refine ⟨[.slice A xs.length c], rfl, ⟨A, c, rfl, hc, Kd.C_alloc hA _⟩, fun i u hu => ?_⟩
    match i with
    | 0 =>
      cases hu
      rw [Addr.add_lit, blk_cell hb]
      rfl
    | i + 1 => simp at hu
  | 1 =>
    cases hj
    refine ⟨[.slice B ys.length d], rfl, ⟨B, d, rfl, hd, Kd.C_alloc hB _⟩, fun i u hu => ?_⟩
    match i with
    | 0 =>
      cases hu
      rw [Addr.add_lit, blk_cell hb]
      rfl
    | i + 1 => simp at hu
  | j + 2 => simp at hj
theorem bytes_take {l : List Int} (h : Bytes l) (k : Nat) : Bytes (l.take k) := fun z hz => h z (List.mem_of_mem_take hz)
theorem bytes_drop {l : List Int} (h : Bytes l) (k : Nat) : Bytes (l.drop k) := fun z hz => h z (List.mem_of_mem_drop hz)
theorem four_at (v : Int) (w : World) : Calls Try.prog 69 #[.int .u32 v] w fun e w' => ∃ A c, e = .returned (.slice A 4 c) ∧ 4 ≤ c ∧ Kd.C (Kd.int .u8) w' A 4 (fourF v) ∧ Below w.heap.size w w' := by
  refine (frame_four.calls v (fourF v) w rfl).mono ?_
  rintro e w' ⟨v0, rfl, hR, hb⟩
  obtain ⟨A, c, rfl, hc, hC⟩ := Kd.R_reads hR
  exact ⟨A, c, rfl, hc, hC, hb⟩
theorem from_at (A : Option Addr) (c : Nat) (l : List Int) (w : World) (hC : Kd.C (Kd.int .u8) w A l.length l) (hc : l.length ≤ c) (hl : 4 ≤ l.length) :
    Calls Try.prog 86 #[.slice A l.length c] w fun e w' => e = .returned (.int .u32 (fromV l)) ∧ Below w.heap.size w w' := by
  have h : frame_fromFour.f l = some (fromV l) := by
    unfold frame_fromFour.f
    rw [if_pos (by omega), if_pos (by omega), if_pos (by omega), if_pos (by omega)]
    rfl
  refine (frame_fromFour.calls A c l (fromV l) w hC hc h).mono ?_
  rintro e w' ⟨rfl, q, rfl⟩
  exact ⟨rfl, bdrewN (Below.refl _ _) q⟩
/-- The sum of one row, laid in a list of one. -/
theorem sum1 (A : Option Addr) (c : Nat) (l : List Int) (w : World) (hC : Kd.C (Kd.int .u8) w A l.length l) (hb : Bytes l) :
    Calls Try.prog 70 #[.slice (some ⟨w.heap.size, 0, none⟩) 1 1] (w.alloc (.cells #[.slice A l.length c] 23)) fun e w' => e = .returned (.int .u32 (sumL l)) ∧ w' = w.alloc (.cells #[.slice A l.length c] 23) :=
  sum_calls ⟨w.heap.size, 0, none⟩ A c l _ (by rw [blk_cell (heap_alloc_new w _)]; rfl) (Kd.C_alloc hC _) hb
theorem _root_.Go.Proofs.Ytdepjlnljkbfjaa.Hand.Fresh.older {w w1 w' : World} {A : Option Addr} {xs : List Int} (h : Fresh w1 w' A xs) (hs : w.heap.size ≤ w1.heap.size) : Fresh w w' A xs := fun W' hW => h W' (fun k hk => hW k (Nat.le_trans hs hk))
theorem join2 (A B : Option Addr) (c d : Nat) (xs ys : List Int) (w : World) (hA : Kd.C (Kd.int .u8) w A xs.length xs) (hc : xs.length ≤ c) (hB : Kd.C (Kd.int .u8) w B ys.length ys) (hd : ys.length ≤ d) (bx : Bytes xs) (by_ : Bytes ys) (ht : xs.length + ys.length ≤ 140737488355328) :
    Calls Try.prog 45 #[.slice (some ⟨w.heap.size, 0, none⟩) 2 2] (w.alloc (.cells #[.slice A xs.length c, .slice B ys.length d] 23)) fun e w' => ∃ A' c', e = .returned (.slice A' (xs.length + ys.length) c') ∧ xs.length + ys.length ≤ c' ∧ Kd.C (Kd.int .u8) w' A' (xs.length + ys.length) (xs ++ ys) ∧ Below w.heap.size w w' ∧ Fresh w w' A' (xs ++ ys) := by
  have h := join_calls2 (some ⟨w.heap.size, 0, none⟩) 2 [xs, ys] _ (rows_two hA hc hB hd 23) (by simp) (by intro l hl; simp at hl; rcases hl with rfl | rfl <;> assumption) (by simp) (by simpa using ht)
  have e2 : [xs, ys].flatten = xs ++ ys := by simp
  rw [e2, List.length_append] at h
  refine h.mono ?_
  rintro e w' ⟨A', c', rfl, hf, hb, hcl⟩
  have h2 := hf w' (fun _ _ _ => rfl)
  rw [List.length_append] at h2
  refine ⟨A', c', rfl, hcl, h2, ((Below.refl _ _).alloc (Nat.le_refl _) _).trans (hb.mono (by simp)), hf.older (by simp)⟩
theorem joinN (A : Option Addr) (c : Nat) (ls : List (List Int)) (w : World) (hC : Kd.C (Kd.slice 5 (Kd.int .u8)) w A ls.length ls) (hc : ls.length ≤ c) (hb : ∀ l ∈ ls, Bytes l) (hn : ls.length ≤ 140737488355328) (ht : ls.flatten.length ≤ 140737488355328) :
    Calls Try.prog 45 #[.slice A ls.length c] w fun e w' => ∃ A' c', e = .returned (.slice A' ls.flatten.length c') ∧ ls.flatten.length ≤ c' ∧ Kd.C (Kd.int .u8) w' A' ls.flatten.length ls.flatten ∧ Below w.heap.size w w' := by
  refine (join_calls2 A c ls w hC hc hb hn ht).mono ?_
  rintro e w' ⟨A', c', rfl, hf, hb, hcl⟩
  exact ⟨A', c', rfl, hcl, hf w' (fun _ _ _ => rfl), hb⟩
set_option maxRecDepth 100000 in
set_option maxHeartbeats 2000000 in
theorem head_calls (n : Int) (w : World) : Calls Try.prog 68 #[.int .u32 n] w fun e w' => ∃ A c, e = .returned (.slice A 8 c) ∧ 8 ≤ c ∧ Kd.C (Kd.int .u8) w' A 8 (headF n) ∧ Below w.heap.size w w' := by
  go_enter Try.func68, Try.ntmps68
  go_wp2_with fail
  refine (four_at n _).mono ?_
  rintro e w1 ⟨A1, c1, rfl, hc1, hC1, hb1⟩
  have HC1 := Aside0.mk hC1
  have HB1 := Aside0.mk hb1
  clear hC1 hb1
  go_wp2_with fail
  refine (four_at n _).mono ?_
  rintro e w2 ⟨A2, c2, rfl, hc2, hC2, hb2⟩
  have k3 := sum1 A2 c2 (fourF n) w2 hC2 (fourF_bytes n)
  have K3 := Aside0.mk k3
  have HC1 := Aside0.mk (Kd.C_below HC1.out hb2)
  have HB2 := Aside0.mk (HB1.out.trans (hb2.mono HB1.out.size))
  clear hC2 hb2 k3
  obtain ⟨sm, hsm⟩ : ∃ sm, sm = sumL (fourF n) := ⟨_, rfl⟩
  rw [← hsm] at K3
  have HSM := Aside0.mk hsm
  clear hsm
  go_wp2_with fail
  refine K3.out.mono ?_
  rintro e w3 ⟨rfl, rfl⟩
  have HB3 := Aside0.mk (HB2.out.alloc HB2.out.size (.cells #[.slice A2 4 c2] 23))
  go_wp2_with fail
  refine (four_at sm _).mono ?_
  rintro e w4 ⟨A4, c4, rfl, hc4, hC4, hb4⟩
  have hb4' : Below w2.heap.size w2 w4 := ((Below.refl _ _).alloc (Nat.le_refl _) _).trans (hb4.mono (by simp))
  have k5 := join2 A1 A4 c1 c4 (fourF n) (fourF sm) w4 (Kd.C_below HC1.out hb4') hc1 hC4 hc4 (fourF_bytes _) (fourF_bytes _) (by simp [fourF])
  have K5 := Aside0.mk k5
  have HB4 := Aside0.mk (HB2.out.trans (hb4'.mono HB2.out.size))
  clear k5 hb4 hb4' hC4
  go_wp2_with fail
  refine K5.out.mono ?_
  rintro e w5 ⟨A5, c5, rfl, hc5, hC5, hb5, _⟩
  go_wp2
  go_ret
  refine ⟨A5, c5, rfl, hc5, ?_, HB4.out.trans (hb5.mono HB4.out.size)⟩
  rw [HSM.out] at hC5
  exact hC5
theorem flat_le (ls : List (List Int)) (i : Nat) : (ls.take i).flatten.length ≤ ls.flatten.length := by
  have h : ls.flatten = (ls.take i).flatten ++ (ls.drop i).flatten := by rw [← List.flatten_append, List.take_append_drop]
  have h2 := congrArg List.length h
  rw [List.length_append] at h2
  omega
set_option maxRecDepth 100000 in
set_option maxHeartbeats 2000000 in
theorem enc_calls (A : Option Addr) (c : Nat) (ls : List (List Int)) (w : World) (hC : Kd.C (Kd.slice 5 (Kd.int .u8)) w A ls.length ls) (hc : ls.length ≤ c) (hb : ∀ l ∈ ls, Bytes l) (hn : ls.length ≤ 140737488355328) (ht : ls.flatten.length ≤ 140737488355328) :
    Calls Try.prog 36 #[.slice A ls.length c] w fun e w' => ∃ A' c', e = .returned (.tuple #[.slice A' (encV ls.flatten).1.length c', .int .i64 (encV ls.flatten).2]) ∧ (encV ls.flatten).1.length ≤ c' ∧ Kd.C (Kd.int .u8) w' A' (encV ls.flatten).1.length (encV ls.flatten).1 ∧ Below w.heap.size w w' ∧ Fresh w w' A' (encV ls.flatten).1 := by
  have HC := Aside0.mk hC
  have HBY := Aside0.mk hb
  have HFB := Aside0.mk (flat_bytes hb)
  clear hC hb
  go_enter Try.func36, Try.ntmps36
  go_wp2
  go_loopw [4, 10] (fun s4 s10 wr => ∃ i : Nat, i ≤ ls.length ∧ s10 = .int .i64 i ∧ s4 = .int .i64 ((ls.take i).flatten.length : Nat) ∧ wr = w) (fun _ s10 _ => ls.length - (intOf s10).toNat)
  case atStart => exact ⟨0, Nat.zero_le _, rfl, rfl, rfl⟩
  case round =>
    obtain ⟨i, hi, rfl, rfl, rfl⟩ := hrel
    by_cases hlt : i < ls.length
    · obtain ⟨a, A', c', rfl, hrow, hrc, _⟩ := row_at HC.out i hlt
      have hfl := flat_succ ls i hlt
      have hle := flat_le ls (i + 1)
      rw [hfl, List.length_append] at hle
      obtain ⟨n, hn'⟩ : ∃ n, n = (ls.getD i []).length := ⟨_, rfl⟩
      obtain ⟨m, hm⟩ : ∃ m, m = (ls.take i).flatten.length := ⟨_, rfl⟩
      rw [← hn', ← hm] at hle
      rw [← hn'] at hrow hrc
      rw [← hm]
      have hsum : (ls.take (i + 1)).flatten.length = m + n := by rw [hfl, List.length_append, ← hm, ← hn']
      have HSUM := Aside0.mk hsum
      clear hn' hm hfl hsum
      go_wp2
      go_roundw
      case measure => simp [intOf]; omega
      case rel => exact ⟨i + 1, by omega, by go_num, by rw [HSUM.out]; go_num, by first | rfl | trivial⟩
    · obtain rfl : i = ls.length := by omega
      rw [List.take_length]
      have hjoin := joinN A c ls
      have HENC : ∀ xs, xs = ls.flatten → encV ls.flatten = encV xs := fun xs h => by rw [h]
      obtain ⟨xs, hxs⟩ : ∃ xs, xs = ls.flatten := ⟨_, rfl⟩
      have HJ : Aside0 (∀ W, Below wr.heap.size wr W → Calls Try.prog 45 #[.slice A ls.length c] W fun e w' => ∃ A' c', e = .returned (.slice A' xs.length c') ∧ xs.length ≤ c' ∧ Kd.C (Kd.int .u8) w' A' xs.length xs ∧ Below W.heap.size W w') := ⟨fun W hW => by
        subst hxs
        exact joinN A c ls W (Kd.C_below HC.out hW) hc HBY.out hn ht⟩
      rw [← hxs] at ht HFB ⊢
      have HXS := Aside0.mk hxs
      clear hjoin HENC hxs hlt hi
      by_cases hbig : 1048576 < xs.length
      · have e : encV xs = ([], 5) := by unfold encV; rw [if_pos hbig]
        rw [HXS.out] at e
        have HE := Aside0.mk e
        clear e
        go_wp2
        go_ret2
        rw [HE.out]
        exact ⟨none, 0, rfl, by simp, ⟨rfl, by simp, fun h => absurd h (by simp)⟩, Below.refl _ _, Fresh.nil _ _ _⟩
      · have e : encV xs = (encF xs, 0) := by unfold encV; rw [if_neg hbig]
        have HE : Aside0 (encV ls.flatten = (encF xs, 0)) := ⟨by rw [← HXS.out]; exact e⟩
        clear e
        go_wp2_with fail
        refine (head_calls xs.length _).mono ?_
        rintro e w1 ⟨A1, c1, rfl, hc1, hC1, hb1⟩
        have k2 := HJ.out w1 hb1
        have K2 := Aside0.mk k2
        have HC1 := Aside0.mk hC1
        have HB1 := Aside0.mk hb1
        clear k2 hC1 hb1
        go_wp2_with fail
        refine K2.out.mono ?_
        rintro e w2 ⟨A2, c2, rfl, hc2, hC2, hb2⟩
        have k3 := join2 A1 A2 c1 c2 (headF xs.length) xs w2 (Kd.C_below HC1.out hb2) hc1 hC2 hc2 (headF_bytes _) HFB.out (by simp [headF_len]; omega)
        obtain ⟨p, hp⟩ : ∃ p, p = headF xs.length ++ xs := ⟨_, rfl⟩
        have hpb : Bytes p := by rw [hp]; exact bytes_app (headF_bytes _) HFB.out
        have hpl : (headF xs.length).length + xs.length = p.length := by rw [hp, List.length_append]
        have hpl2 : p.length ≤ 1048600 := by rw [← hpl, headF_len]; omega
        rw [← hp, hpl] at k3
        have K3 := Aside0.mk k3
        have HP := Aside0.mk hp
        have HPB := Aside0.mk hpb
        have HB2 := Aside0.mk (HB1.out.trans (hb2.mono HB1.out.size))
        clear k3 hp hpb hpl hC2 hb2 K2
        go_wp2_with fail
        refine K3.out.mono ?_
        rintro e w3 ⟨A3, c3, rfl, hc3, hC3, hb3, _⟩
        have k4 := sum1 A3 c3 p w3 hC3 HPB.out
        obtain ⟨sm, hsm⟩ : ∃ sm, sm = sumL p := ⟨_, rfl⟩
        rw [← hsm] at k4
        have K4 := Aside0.mk k4
        have HSM := Aside0.mk hsm
        have HC3 := Aside0.mk hC3
        have HB3 := Aside0.mk (HB2.out.trans (hb3.mono HB2.out.size))
        clear k4 hsm hC3 hb3 K3
        go_wp2_with fail
        refine K4.out.mono ?_
        rintro e w4 ⟨rfl, rfl⟩
        go_wp2_with fail
        refine (four_at sm _).mono ?_
        rintro e w5 ⟨A5, c5, rfl, hc5, hC5, hb5⟩
        have hb5' : Below w3.heap.size w3 w5 := ((Below.refl _ _).alloc (Nat.le_refl _) _).trans (hb5.mono (by simp))
        have k6 := join2 A3 A5 c3 c5 p (fourF sm) w5 (Kd.C_below HC3.out hb5') hc3 hC5 hc5 HPB.out (fourF_bytes _) (by simp [fourF]; omega)
        have hel : p ++ fourF sm = encF xs := by rw [HSM.out, HP.out]; rfl
        have hell : p.length + (fourF sm).length = (encF xs).length := by rw [← List.length_append, hel]
        rw [hel, hell] at k6
        obtain ⟨y, hy⟩ : ∃ y, y = encF xs := ⟨_, rfl⟩
        rw [← hy] at k6 HE
        have K6 := Aside0.mk k6
        have HB5 := Aside0.mk (HB3.out.trans (hb5'.mono HB3.out.size))
        clear k6 hb5 hb5' hC5 hel hell hy
        go_wp2_with fail
        refine K6.out.mono ?_
        rintro e w6 ⟨A6, c6, rfl, hc6, hC6, hb6, hF6⟩
        go_wp2
        go_ret2
        rw [HE.out]
        exact ⟨A6, c6, rfl, hc6, hC6, HB5.out.trans (hb6.mono HB5.out.size), hF6.older HB5.out.size⟩
end Go.Proofs.Ytdepjlnljkbfjaa.Hand
