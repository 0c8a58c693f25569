/- NetPlays: the walk of a script of 200 steps and less. -/
import Derived.Test.YtmindpofjnicfaaPlaysC
namespace Go.Proofs.Ytmindpofjnicfaa.Hand
open Go.RowKit Go.Proofs.Ytmindpofjnicfaa.PA Go.Proofs.Ytmindpofjnicfaa.Opens Go.Proofs.YtmindpofjnicfaaW.PrintWords Go.Proofs.YtmindpofjnicfaaW.PrintLast Go.Proofs.YtmindpofjnicfaaW.PrintMore
attribute [local go_sem] max2_int min2_int
set_option linter.unusedVariables false
set_option linter.unusedSimpArgs false
set_option maxRecDepth 100000 in
set_option maxHeartbeats 40000000 in
theorem plays_walk_u (l : List S43) (A : Option Addr) (c : Nat) (w : World) (hK : Kd.C k43 w A l.length l) (hok : ∀ x ∈ l, stepOk x) (hM2 : l.length ≤ 200) :
    Calls Try.prog 5 #[.slice A l.length c] w fun e w' => e = .returned (.bool true) ∧ Below w.heap.size w w' := by
  have HK := Aside0.mk hK
  have HOK := Aside0.mk hok
  have hn63 := hK.2.1
  obtain ⟨M, hn⟩ : ∃ M, M = l.length := ⟨_, rfl⟩
  rw [← hn] at hM2 hn63 ⊢
  have HN := Aside0.mk hn
  clear hK hok hn
  go_enter Try.func5, Try.ntmps5
  go_wp2
  go_loopg [3, 4] M (fun gk s3 s4 wr => ∃ (i : Nat) (v : Int), i ≤ M ∧ M - i ≤ gk ∧ s3 = .int .i64 v ∧ s4 = .int .i64 i ∧ wr = w)
  case atStart => exact ⟨0, 0, Nat.zero_le _, by omega, rfl, rfl, rfl⟩
  case round =>
    obtain ⟨i, v, hi, hgk, rfl, rfl, hw⟩ := hrel
    replace hw := hw.symm
    subst hw
    by_cases hlt : i < M
    · obtain ⟨gO, rfl⟩ : ∃ q, gk = q + 1 := ⟨gk - 1, by omega⟩
      have hil : i < l.length := by have := HN.out; omega
      have hC := HK.out
      rw [← HN.out] at hC
      obtain ⟨ad, A2, c2, A3, c3, rfl, hx0, hx1, hx2, hx3, hc2, hr2, hc3, hr3⟩ := at_T43 hC (i : Int) (by omega) (by omega)
      simp only [Int.toNat_natCast] at hx0 hx1 hx2 hx3
      have HR2 := Aside0.mk hr2
      clear hC hr2 hr3 hx0 hx1
      generalize rd_T43 l (i : Int) = x at *
      obtain ⟨x0, x1, x2, x3⟩ := x
      simp only at hx2 hx3 hc2 HR2
      obtain ⟨nm, hnm⟩ : ∃ nm, nm = x2.length := ⟨_, rfl⟩
      rw [← hnm] at hx2 hc2
      have HNM := Aside0.mk hnm
      have hnm63 : nm ≤ 9223372036854775807 := by rw [hnm]; exact HR2.out.2.1
      clear hnm hc3
      have hi200 : (i : Int) < 200 := by omega
      go_wp2
      go_loopg [3, 5] nm (fun gj s3 s5 ws => ∃ (k : Nat) (v : Int), k ≤ nm ∧ nm - k ≤ gj ∧ s3 = .int .i64 v ∧ s5 = .int .i64 k ∧ ws = w)
      case atStart => exact ⟨0, v, Nat.zero_le _, by omega, rfl, rfl, rfl⟩
      case round =>
        obtain ⟨k, v2, hk, hgj, rfl, rfl, hw⟩ := hrel
        replace hw := hw.symm
        subst hw
        by_cases hkn : k < nm
        · obtain ⟨gk, rfl⟩ : ∃ q, gk = q + 1 := ⟨gk - 1, by omega⟩
          have hC := HR2.out
          rw [← HNM.out] at hC
          obtain ⟨am, B2, d2, rfl, hy0, hy1, hy2, _, _⟩ := at_T28 hC (k : Int) (by omega) (by omega)
          simp only [Int.toNat_natCast] at hy2
          obtain ⟨ny, hny⟩ : ∃ ny, ny = (rd_T28 x2 (k : Int)).f2.length := ⟨_, rfl⟩
          rw [← hny] at hy2
          obtain ⟨v3, hv3⟩ : ∃ v3, v3 = wrap64 (wrap64 (v2 + 5) + ny) := ⟨_, rfl⟩
          clear hy0 hy1 hC hny
          by_cases hbig : (8000 : Int) < v3
          · have hbb : decide ((8000 : Int) < wrap64 (wrap64 (v2 + 5) + ny)) = true := by rw [← hv3]; exact decide_eq_true hbig
            clear hv3
            go_wp2
            go_ret
            exact ⟨rfl, Below.refl _ _⟩
          · have hbb : decide ((8000 : Int) < wrap64 (wrap64 (v2 + 5) + ny)) = false := by rw [← hv3]; exact decide_eq_false hbig
            clear hv3
            go_wp2
            go_roundg gk
            case measure => omega
            case rel => exact ⟨k + 1, _, by omega, by omega, rfl, by go_num, rfl⟩
        · obtain rfl : k = nm := by omega
          go_wp2
          go_roundg gO
          case measure => omega
          case rel => exact ⟨i + 1, _, by omega, by omega, rfl, by go_num, rfl⟩
    · have hiM : M = i := by omega
      subst hiM
      by_cases hbig : (8000 : Int) < v
      · have hbb : decide ((8000 : Int) < v) = true := decide_eq_true hbig
        go_wp2
        go_ret
        exact ⟨rfl, Below.refl _ _⟩
      have hbb : decide ((8000 : Int) < v) = false := decide_eq_false hbig
      clear hbig hgk hi
      go_wp2_with fail
      refine (boxN _).mono ?_
      rintro e w1 ⟨rfl, hN, hB⟩
      have hg1 : w.heap.size < w1.heap.size := blk_lt hN.1.choose_spec.here
      obtain ⟨h, hh⟩ : ∃ h, h = w1.heap.size := ⟨_, rfl⟩
      have hP : Pair (w1.alloc (.cells #[.slice none 0 0] 46)) w (fun k => w.heap.size ≤ k) w.heap.size h [] [] := by
        refine ⟨⟨_, fun k => k = h, hN.bound.alloc _, ⟨⟨_, ⟨by rw [hh]; simpa using heap_alloc_new w1 (.cells #[.slice none 0 0] 46), rfl, by omega, Kd.R_nil _ _ _ _ _⟩⟩, hB.alloc hB.size _⟩, fun k h1 h2 => by have := h1.2.2; omega, fun k h1 => ⟨by have := h1.2.2; simp; omega, h1.2.1⟩, fun k h1 => ⟨by simp; omega, by omega⟩⟩, fun k hk => by have := hB.size; simp at hk; omega, fun k hk => hk⟩
      have HP := Aside0.mk hP
      have hhw : w.heap.size < h := by omega
      clear hN hB hP hg1
      go_wp2
      rw [← hh]
      clear hh
      go_loopg [8] M (fun gk s8 wr => ∃ (i : Nat) (L : List S28), i ≤ M ∧ M - i ≤ gk ∧ s8 = .int .i64 i ∧ L.length ≤ 1024 ∧ Aside0 (Pair wr w (fun k => w.heap.size ≤ k) w.heap.size h L L) ∧ Aside0 (Small L))
      case atStart => exact ⟨0, [], Nat.zero_le _, by omega, rfl, by simp, HP, ⟨fun x hx => by cases hx⟩⟩
      case round =>
        obtain ⟨i, L, hi, hgk, rfl, hLl, HP, HS⟩ := hrel
        by_cases hlt : i < M
        · obtain ⟨gO, rfl⟩ : ∃ q, gk = q + 1 := ⟨gk - 1, by omega⟩
          have hil : i < l.length := by have := HN.out; omega
          have hi200 : (i : Int) < 200 := by omega
          have hC := HK.out
          rw [← HN.out] at hC
          obtain ⟨ad, Am, cm, An, cn, rfl, hx0, hx1, hx2, hx3, hc2, hr2, hc3, hr3⟩ := at_T43 hC (i : Int) (by omega) (by omega)
          simp only [Int.toNat_natCast] at hx0 hx1 hx2 hx3
          have hmem : rd_T43 l (i : Int) ∈ l := by
            unfold rd_T43
            rw [Int.toNat_natCast, List.getD_eq_getElem?_getD, List.getElem?_eq_getElem hil]
            exact List.getElem_mem _
          have HX := Aside0.mk (HOK.out _ hmem).msgs
          have HR2 := Aside0.mk hr2
          have HR3 := Aside0.mk hr3
          clear hC hr2 hr3 hmem hil
          generalize rd_T43 l (i : Int) = x at *
          obtain ⟨x0, x1, xl, xn⟩ := x
          simp only at hx0 hx1 hx2 hx3 hc2 hc3 HR2 HR3 HX
          have hbw := HP.out.base
          have cx0 := cell_below hx0 hbw
          have cx1 := cell_below hx1 hbw
          have cx2 := cell_below hx2 hbw
          have cx3 := cell_below hx3 hbw
          clear hx0 hx1 hx2 hx3 hbw
          obtain ⟨nm, hnm⟩ : ∃ nm, nm = xl.length := ⟨_, rfl⟩
          obtain ⟨nn, hnn⟩ : ∃ nn, nn = xn.length := ⟨_, rfl⟩
          rw [← hnm] at cx2 hc2
          rw [← hnn] at cx3 hc3
          have hnm63 : nm ≤ 9223372036854775807 := by rw [hnm]; exact HR2.out.2.1
          have HNM := Aside0.mk hnm
          have HNN := Aside0.mk hnn
          obtain ⟨W9, hW9⟩ : ∃ W9, W9 = wr.alloc (.cells #[.int .i64 x0, .int .i64 x1, .slice Am nm cm, .slice An nn cn] 43) := ⟨_, rfl⟩
          have hb9 : Below wr.heap.size wr W9 := by rw [hW9]; exact (Below.refl _ _).alloc (Nat.le_refl _) _
          have hz9 : W9.heap.size = wr.heap.size + 1 := by rw [hW9]; simp
          have h9 : W9.heap[wr.heap.size]? = some (.cells #[.int .i64 x0, .int .i64 x1, .slice Am nm cm, .slice An nn cn] 43) := by rw [hW9]; exact heap_alloc_new wr _
          have HP9 := Aside0.mk (HP.out.mark hb9)
          have HW9 := Aside0.mk hW9
          have HB9 := Aside0.mk h9
          have HBB := Aside0.mk hb9
          obtain ⟨b9, hbb9⟩ : ∃ b9, b9 = wr.heap.size := ⟨_, rfl⟩
          rw [← hbb9] at HB9 hz9 HP9
          obtain ⟨Z9, hZ9⟩ : ∃ Z9 : Nat → Prop, Z9 = fun k => (w.heap.size ≤ k ∧ k < b9) ∨ W9.heap.size ≤ k := ⟨_, rfl⟩
          rw [← hZ9] at HP9
          have hnZ : ¬ Z9 b9 := by rw [hZ9]; omega
          have HNZ := Aside0.mk hnZ
          have HZ9 := Aside0.mk hZ9
          have HZS := Aside0.mk hz9
          have hww : w.heap.size ≤ b9 := by rw [hbb9]; exact HP.out.base.size
          have HWW := Aside0.mk hww
          have HBW9 : Aside0 (Below w.heap.size w W9) := ⟨HP9.out.base⟩
          have HSM := Aside0.mk HX.out.2
          have HXB := Aside0.mk HX.out.1
          have HBBE := Aside0.mk hbb9
          clear hnm hnn hW9 hb9 hz9 h9 hZ9 hnZ hww hbb9 HX
          by_cases h3 : x0 = 3
          · subst h3
            as_aux_lemma =>
            obtain ⟨LT, hLTe⟩ : ∃ LT, LT = twiceL x1 L := ⟨_, rfl⟩
            have hsm := twice_small HS.out hLl x1
            rw [← hLTe] at hsm
            have hLT := hsm.2
            have HST := Aside0.mk hsm.1
            have HLTE := Aside0.mk hLTe
            clear hsm hLTe
            have HS1 := Aside0.mk (p_twice1 HP9.out.drew x1 HS.out hLl)
            have HC3 : Aside0 (∀ w3, Kept W9.drew w3 Z9 → w3.cell? ⟨b9, 1, none⟩ = _) := ⟨fun w3 hk => (blk_cell ((hk.2 b9 (by have := HZS.out; simp; omega) HNZ.out).trans HB9.out) 1).trans rfl⟩
            have c91 : W9.drew.cell? ⟨b9, 1, none⟩ = _ := (blk_cell HB9.out 1).trans rfl
            have HS2 : Aside0 (∀ w3, Pair w3 w Z9 w.heap.size h (twiceL x1 L) L → Kept W9.drew w3 Z9 → _) := ⟨fun w3 hP3 hK3 => p_twice2 hP3 x1 HS.out hLl⟩
            go_wp2
            rw [← HW9.out, ← HBBE.out]
            refine start_ (n := 10) (S := fun w' => w'.cell? ⟨b9, 1, none⟩ = some (.int .i64 x1)) (ds := [7]) #[false, false, false, false, false, false, false, false, false, false] (by kernel_rfl) rfl rfl (c91) (fun hHeld => ?_)
            refine pure_ (i := 0) (N := some 181) (v := ?_) (a' := ?_) #[true, false, false, false, false, false, false, false, false, false] rfl rfl (by kernel_rfl) (fun _ _ _ h => h) (Or.inl ⟨by rfl, ?_⟩) ?_ ?_
            rotate_left
            · intro w'
              go_simp
              with_reducible rfl
            rotate_left
            · simp only [Act.put, List.setIfInBounds_toArray, List.set_cons_zero, List.set_cons_succ, i64_w, i32_w]
              rfl
            refine pure_ (i := 1) (N := some 182) (v := ?_) (a' := ?_) #[true, true, false, false, false, false, false, false, false, false] rfl rfl (by kernel_rfl) (fun _ _ _ h => h) (Or.inl ⟨by rfl, ?_⟩) ?_ ?_
            rotate_left
            · intro w'
              go_simp
              with_reducible rfl
            rotate_left
            · simp only [Act.put, List.setIfInBounds_toArray, List.set_cons_zero, List.set_cons_succ, i64_w, i32_w]
              rfl
            refine pure_ (i := 4) (N := some 185) (v := ?_) (a' := ?_) #[true, true, false, false, true, false, false, false, false, false] rfl rfl (by kernel_rfl) (fun _ _ _ h => h) (Or.inl ⟨by rfl, ?_⟩) ?_ ?_
            rotate_left
            · intro w'
              go_simp
              with_reducible rfl
            rotate_left
            · simp only [Act.put, List.setIfInBounds_toArray, List.set_cons_zero, List.set_cons_succ, i64_w, i32_w]
              rfl
            refine pure_ (i := 5) (N := some 186) (v := ?_) (a' := ?_) #[true, true, false, false, true, true, false, false, false, false] rfl rfl (by kernel_rfl) (fun _ _ _ h => h) (Or.inl ⟨by rfl, ?_⟩) ?_ ?_
            rotate_left
            · intro w'
              go_simp
              with_reducible rfl
            rotate_left
            · simp only [Act.put, List.setIfInBounds_toArray, List.set_cons_zero, List.set_cons_succ, i64_w, i32_w]
              rfl
            refine take_ (i := 2) (N := some 183) (v := ?_) (a' := ?_) #[true, true, true, false, true, true, false, false, false, false] rfl rfl (by kernel_rfl) (fun _ _ _ h => h) (Or.inl ⟨by rfl, ?_⟩) hHeld ?_ ?_
            rotate_left
            · intro w' s0
              go_simp
              with_reducible rfl
            rotate_left
            · simp only [Act.put, List.setIfInBounds_toArray, List.set_cons_zero, List.set_cons_succ, i64_w, i32_w]
              rfl
            refine take_ (i := 6) (N := some 187) (v := ?_) (a' := ?_) #[true, true, true, false, true, true, true, false, false, false] rfl rfl (by kernel_rfl) (fun _ _ _ h => h) (Or.inl ⟨by rfl, ?_⟩) hHeld ?_ ?_
            rotate_left
            · intro w' s0
              go_simp
              with_reducible rfl
            rotate_left
            · simp only [Act.put, List.setIfInBounds_toArray, List.set_cons_zero, List.set_cons_succ, i64_w, i32_w]
              rfl
            refine one_ (i := 3) (N := some 184) #[true, true, true, true, true, true, true, false, false, false] rfl rfl (by kernel_rfl) (by decide) (fun K hK => ?_)
            refine goes_ Try.func10 (by kernel_rfl) rfl #[.pointer (some ⟨w.heap.size, 0, none⟩), .int .i64 x1] (by rfl) rfl rfl (by simp only [List.map_toArray, List.map_cons, List.map_nil]; rfl) ?_
            with_reducible refine (HS1.out).mono ?_
            rintro e w3 ⟨rfl, hP3, hK3⟩
            refine ⟨_, rfl, ?_⟩
            refine hK.out _ _ (HC3.out w3 hK3) (fun hHeld => ?_)
            clear hK K
            refine norm_ (a' := ?_) ?_ ?_
            rotate_left
            · show Act.put _ (some 184) _ = _
              simp only [Act.put, List.setIfInBounds_toArray, List.set_cons_zero, List.set_cons_succ, i64_w, i32_w]
              rfl
            refine last_ (i := 7) (N := some 188) #[true, true, true, true, true, true, true, true, false, false] rfl rfl (by kernel_rfl) (by decide) (fun K hK => ?_)
            refine goes_ Try.func20 (by kernel_rfl) rfl #[.pointer (some ⟨h, 0, none⟩), .int .i64 x1] (by rfl) rfl rfl (by simp only [List.map_toArray, List.map_cons, List.map_nil]; rfl) ?_
            with_reducible refine (HS2.out w3 hP3 hK3).mono ?_
            rintro e w4 ⟨rfl, hP4, hK4⟩
            refine ⟨_, rfl, ?_⟩
            refine hK.out _ _ ?_
            clear hK K
            refine norm_ (a' := ?_) ?_ ?_
            rotate_left
            · show Act.put _ (some 188) _ = _
              simp only [Act.put, List.setIfInBounds_toArray, List.set_cons_zero, List.set_cons_succ, i64_w, i32_w]
              rfl
            refine pure_ (i := 8) (N := some 189) (v := ?_) (a' := ?_) #[true, true, true, true, true, true, true, true, true, false] rfl rfl (by kernel_rfl) (fun _ _ _ h => h) (Or.inl ⟨by rfl, ?_⟩) ?_ ?_
            rotate_left
            · intro w'
              go_simp
              with_reducible rfl
            rotate_left
            · simp only [Act.put, List.setIfInBounds_toArray, List.set_cons_zero, List.set_cons_succ, i64_w, i32_w]
              rfl
            refine pure_ (i := 9) (N := some 10) (v := ?_) (a' := ?_) #[true, true, true, true, true, true, true, true, true, true] rfl rfl (by kernel_rfl) (fun _ _ _ h => h) (Or.inl ⟨by rfl, ?_⟩) ?_ ?_
            rotate_left
            · intro w'
              go_simp
              with_reducible rfl
            rotate_left
            · simp only [Act.put, List.setIfInBounds_toArray, List.set_cons_zero, List.set_cons_succ, i64_w, i32_w]
              rfl
            refine done_ (by kernel_rfl) ?_
            clear hHeld
            have HPT : Aside0 (Pair w4 w (fun k => w.heap.size ≤ k) w.heap.size h LT LT) := ⟨by
              rw [HLTE.out]
              exact hP4.zone (fun k _ hk => hP4.old k hk) (fun k hk => Nat.le_trans hP4.base.size hk) (fun k hk => hk)⟩
            clear hP3 hK3 hP4 hK4 c91
            obtain ⟨nL, hnL⟩ : ∃ nL, nL = LT.length := ⟨_, rfl⟩
            obtain ⟨Ah, ch, chh⟩ := HPT.out.drew.cell
            have HLEN := Aside0.mk (p_len HPT.out.drew)
            rw [← hnL] at chh HLEN
            clear hnL
            go_wp2
            refine start_ (n := 12) (S := fun w' => w'.cell? ⟨h, 0, none⟩ = some (.slice Ah nL ch)) (ds := []) #[false, false, false, false, false, false, false, false, false, false, false, false] (by kernel_rfl) rfl rfl (chh) (fun hHeld => ?_)
            refine pure_ (i := 0) (N := some 212) (v := ?_) (a' := ?_) #[true, false, false, false, false, false, false, false, false, false, false, false] rfl rfl (by kernel_rfl) (fun _ _ _ h => h) (Or.inl ⟨by rfl, ?_⟩) ?_ ?_
            rotate_left
            · intro w'
              go_simp
              with_reducible rfl
            rotate_left
            · simp only [Act.put, List.setIfInBounds_toArray, List.set_cons_zero, List.set_cons_succ, i64_w, i32_w]
              rfl
            refine pure_ (i := 1) (N := some 213) (v := ?_) (a' := ?_) #[true, true, false, false, false, false, false, false, false, false, false, false] rfl rfl (by kernel_rfl) (fun _ _ _ h => h) (Or.inl ⟨by rfl, ?_⟩) ?_ ?_
            rotate_left
            · intro w'
              go_simp
              with_reducible rfl
            rotate_left
            · simp only [Act.put, List.setIfInBounds_toArray, List.set_cons_zero, List.set_cons_succ, i64_w, i32_w]
              rfl
            refine pure_ (i := 2) (N := some 214) (v := ?_) (a' := ?_) #[true, true, true, false, false, false, false, false, false, false, false, false] rfl rfl (by kernel_rfl) (fun _ _ _ h => h) (Or.inl ⟨by rfl, ?_⟩) ?_ ?_
            rotate_left
            · intro w'
              go_simp
              with_reducible rfl
            rotate_left
            · simp only [Act.put, List.setIfInBounds_toArray, List.set_cons_zero, List.set_cons_succ, i64_w, i32_w]
              rfl
            refine pure_ (i := 3) (N := some 215) (v := ?_) (a' := ?_) #[true, true, true, true, false, false, false, false, false, false, false, false] rfl rfl (by kernel_rfl) (fun _ _ _ h => h) (Or.inl ⟨by rfl, ?_⟩) ?_ ?_
            rotate_left
            · intro w'
              go_simp
              with_reducible rfl
            rotate_left
            · simp only [Act.put, List.setIfInBounds_toArray, List.set_cons_zero, List.set_cons_succ, i64_w, i32_w]
              rfl
            refine pure_ (i := 5) (N := some 217) (v := ?_) (a' := ?_) #[true, true, true, true, false, true, false, false, false, false, false, false] rfl rfl (by kernel_rfl) (fun _ _ _ h => h) (Or.inl ⟨by rfl, ?_⟩) ?_ ?_
            rotate_left
            · intro w'
              go_simp
              with_reducible rfl
            rotate_left
            · simp only [Act.put, List.setIfInBounds_toArray, List.set_cons_zero, List.set_cons_succ, i64_w, i32_w]
              rfl
            refine pure_ (i := 6) (N := some 218) (v := ?_) (a' := ?_) #[true, true, true, true, false, true, true, false, false, false, false, false] rfl rfl (by kernel_rfl) (fun _ _ _ h => h) (Or.inl ⟨by rfl, ?_⟩) ?_ ?_
            rotate_left
            · intro w'
              go_simp
              with_reducible rfl
            rotate_left
            · simp only [Act.put, List.setIfInBounds_toArray, List.set_cons_zero, List.set_cons_succ, i64_w, i32_w]
              rfl
            refine pure_ (i := 7) (N := some 219) (v := ?_) (a' := ?_) #[true, true, true, true, false, true, true, true, false, false, false, false] rfl rfl (by kernel_rfl) (fun _ _ _ h => h) (Or.inl ⟨by rfl, ?_⟩) ?_ ?_
            rotate_left
            · intro w'
              go_simp
              with_reducible rfl
            rotate_left
            · simp only [Act.put, List.setIfInBounds_toArray, List.set_cons_zero, List.set_cons_succ, i64_w, i32_w]
              rfl
            refine take_ (i := 8) (N := some 220) (v := ?_) (a' := ?_) #[true, true, true, true, false, true, true, true, true, false, false, false] rfl rfl (by kernel_rfl) (fun _ _ _ h => h) (Or.inl ⟨by rfl, ?_⟩) hHeld ?_ ?_
            rotate_left
            · intro w' s0
              go_simp
              with_reducible rfl
            rotate_left
            · simp only [Act.put, List.setIfInBounds_toArray, List.set_cons_zero, List.set_cons_succ, i64_w, i32_w]
              rfl
            refine pure_ (i := 9) (N := some 221) (v := ?_) (a' := ?_) #[true, true, true, true, false, true, true, true, true, true, false, false] rfl rfl (by kernel_rfl) (fun _ _ _ h => h) (Or.inl ⟨by rfl, ?_⟩) ?_ ?_
            rotate_left
            · intro w'
              go_simp
              with_reducible rfl
            rotate_left
            · simp only [Act.put, List.setIfInBounds_toArray, List.set_cons_zero, List.set_cons_succ, i64_w, i32_w]
              rfl
            refine one_ (i := 4) (N := some 216) #[true, true, true, true, true, true, true, true, true, true, false, false] rfl rfl (by kernel_rfl) (by decide) (fun K hK => ?_)
            refine goes_ Try.func13 (by kernel_rfl) rfl #[.pointer (some ⟨w.heap.size, 0, none⟩)] (by rfl) rfl rfl (by simp only [List.map_toArray, List.map_cons, List.map_nil]; rfl) ?_
            with_reducible refine (HLEN.out).mono ?_
            rintro e w3 ⟨rfl, rfl⟩
            refine ⟨_, rfl, ?_⟩
            refine hK.out _ _ (hHeld) (fun hHeld => ?_)
            clear hK K
            refine norm_ (a' := ?_) ?_ ?_
            rotate_left
            · show Act.put _ (some 216) _ = _
              simp only [Act.put, List.setIfInBounds_toArray, List.set_cons_zero, List.set_cons_succ, i64_w, i32_w]
              rfl
            refine pure_ (i := 10) (N := some 222) (v := ?_) (a' := ?_) #[true, true, true, true, true, true, true, true, true, true, true, false] rfl rfl (by kernel_rfl) (fun _ _ _ h => h) (Or.inl ⟨by rfl, ?_⟩) ?_ ?_
            rotate_left
            · intro w'
              go_simp
              with_reducible rfl
            rotate_left
            · simp only [Act.put, List.setIfInBounds_toArray, List.set_cons_zero, List.set_cons_succ, i64_w, i32_w]
              rfl
            refine pure_ (i := 11) (N := some 223) (v := ?_) (a' := ?_) #[true, true, true, true, true, true, true, true, true, true, true, true] rfl rfl (by kernel_rfl) (fun _ _ _ h => h) (Or.inl ⟨by rfl, ?_⟩) ?_ ?_
            rotate_left
            · intro w'
              go_simp
              with_reducible rfl
            rotate_left
            · simp only [Act.put, List.setIfInBounds_toArray, List.set_cons_zero, List.set_cons_succ, i64_w, i32_w]
              rfl
            refine done_ (by kernel_rfl) ?_
            clear hHeld chh
            go_wp2
            go_roundg gO
            case measure => omega
            case rel => exact ⟨i + 1, LT, by omega, by omega, by go_num, hLT, ⟨HPT.out.drew⟩, HST⟩
          by_cases h4 : x0 = 4
          · subst h4
            as_aux_lemma =>
            obtain ⟨LT, hLTe⟩ : ∃ LT, LT = lateL x1 L := ⟨_, rfl⟩
            have hsm := late_small HS.out hLl x1
            rw [← hLTe] at hsm
            have hLT := hsm.2
            have HST := Aside0.mk hsm.1
            have HLTE := Aside0.mk hLTe
            clear hsm hLTe
            have HS1 := Aside0.mk (p_late1 HP9.out.drew x1 HS.out hLl)
            have HC3 : Aside0 (∀ w3, Kept W9.drew w3 Z9 → w3.cell? ⟨b9, 1, none⟩ = _) := ⟨fun w3 hk => (blk_cell ((hk.2 b9 (by have := HZS.out; simp; omega) HNZ.out).trans HB9.out) 1).trans rfl⟩
            have c91 : W9.drew.cell? ⟨b9, 1, none⟩ = _ := (blk_cell HB9.out 1).trans rfl
            have HS2 : Aside0 (∀ w3, Pair w3 w Z9 w.heap.size h (lateL x1 L) L → Kept W9.drew w3 Z9 → _) := ⟨fun w3 hP3 hK3 => p_late2 hP3 x1 hLl⟩
            go_wp2
            rw [← HW9.out, ← HBBE.out]
            refine start_ (n := 10) (S := fun w' => w'.cell? ⟨b9, 1, none⟩ = some (.int .i64 x1)) (ds := [7]) #[false, false, false, false, false, false, false, false, false, false] (by kernel_rfl) rfl rfl (c91) (fun hHeld => ?_)
            refine pure_ (i := 0) (N := some 192) (v := ?_) (a' := ?_) #[true, false, false, false, false, false, false, false, false, false] rfl rfl (by kernel_rfl) (fun _ _ _ h => h) (Or.inl ⟨by rfl, ?_⟩) ?_ ?_
            rotate_left
            · intro w'
              go_simp
              with_reducible rfl
            rotate_left
            · simp only [Act.put, List.setIfInBounds_toArray, List.set_cons_zero, List.set_cons_succ, i64_w, i32_w]
              rfl
            refine pure_ (i := 1) (N := some 193) (v := ?_) (a' := ?_) #[true, true, false, false, false, false, false, false, false, false] rfl rfl (by kernel_rfl) (fun _ _ _ h => h) (Or.inl ⟨by rfl, ?_⟩) ?_ ?_
            rotate_left
            · intro w'
              go_simp
              with_reducible rfl
            rotate_left
            · simp only [Act.put, List.setIfInBounds_toArray, List.set_cons_zero, List.set_cons_succ, i64_w, i32_w]
              rfl
            refine pure_ (i := 4) (N := some 196) (v := ?_) (a' := ?_) #[true, true, false, false, true, false, false, false, false, false] rfl rfl (by kernel_rfl) (fun _ _ _ h => h) (Or.inl ⟨by rfl, ?_⟩) ?_ ?_
            rotate_left
            · intro w'
              go_simp
              with_reducible rfl
            rotate_left
            · simp only [Act.put, List.setIfInBounds_toArray, List.set_cons_zero, List.set_cons_succ, i64_w, i32_w]
              rfl
            refine pure_ (i := 5) (N := some 197) (v := ?_) (a' := ?_) #[true, true, false, false, true, true, false, false, false, false] rfl rfl (by kernel_rfl) (fun _ _ _ h => h) (Or.inl ⟨by rfl, ?_⟩) ?_ ?_
            rotate_left
            · intro w'
              go_simp
              with_reducible rfl
            rotate_left
            · simp only [Act.put, List.setIfInBounds_toArray, List.set_cons_zero, List.set_cons_succ, i64_w, i32_w]
              rfl
            refine take_ (i := 2) (N := some 194) (v := ?_) (a' := ?_) #[true, true, true, false, true, true, false, false, false, false] rfl rfl (by kernel_rfl) (fun _ _ _ h => h) (Or.inl ⟨by rfl, ?_⟩) hHeld ?_ ?_
            rotate_left
            · intro w' s0
              go_simp
              with_reducible rfl
            rotate_left
            · simp only [Act.put, List.setIfInBounds_toArray, List.set_cons_zero, List.set_cons_succ, i64_w, i32_w]
              rfl
            refine take_ (i := 6) (N := some 198) (v := ?_) (a' := ?_) #[true, true, true, false, true, true, true, false, false, false] rfl rfl (by kernel_rfl) (fun _ _ _ h => h) (Or.inl ⟨by rfl, ?_⟩) hHeld ?_ ?_
            rotate_left
            · intro w' s0
              go_simp
              with_reducible rfl
            rotate_left
            · simp only [Act.put, List.setIfInBounds_toArray, List.set_cons_zero, List.set_cons_succ, i64_w, i32_w]
              rfl
            refine one_ (i := 3) (N := some 195) #[true, true, true, true, true, true, true, false, false, false] rfl rfl (by kernel_rfl) (by decide) (fun K hK => ?_)
            refine goes_ Try.func21 (by kernel_rfl) rfl #[.pointer (some ⟨w.heap.size, 0, none⟩), .int .i64 x1] (by rfl) rfl rfl (by simp only [List.map_toArray, List.map_cons, List.map_nil]; rfl) ?_
            with_reducible refine (HS1.out).mono ?_
            rintro e w3 ⟨rfl, hP3, hK3⟩
            refine ⟨_, rfl, ?_⟩
            refine hK.out _ _ (HC3.out w3 hK3) (fun hHeld => ?_)
            clear hK K
            refine norm_ (a' := ?_) ?_ ?_
            rotate_left
            · show Act.put _ (some 195) _ = _
              simp only [Act.put, List.setIfInBounds_toArray, List.set_cons_zero, List.set_cons_succ, i64_w, i32_w]
              rfl
            refine last_ (i := 7) (N := some 199) #[true, true, true, true, true, true, true, true, false, false] rfl rfl (by kernel_rfl) (by decide) (fun K hK => ?_)
            refine goes_ Try.func22 (by kernel_rfl) rfl #[.pointer (some ⟨h, 0, none⟩), .int .i64 x1] (by rfl) rfl rfl (by simp only [List.map_toArray, List.map_cons, List.map_nil]; rfl) ?_
            with_reducible refine (HS2.out w3 hP3 hK3).mono ?_
            rintro e w4 ⟨rfl, hP4, hK4⟩
            refine ⟨_, rfl, ?_⟩
            refine hK.out _ _ ?_
            clear hK K
            refine norm_ (a' := ?_) ?_ ?_
            rotate_left
            · show Act.put _ (some 199) _ = _
              simp only [Act.put, List.setIfInBounds_toArray, List.set_cons_zero, List.set_cons_succ, i64_w, i32_w]
              rfl
            refine pure_ (i := 8) (N := some 200) (v := ?_) (a' := ?_) #[true, true, true, true, true, true, true, true, true, false] rfl rfl (by kernel_rfl) (fun _ _ _ h => h) (Or.inl ⟨by rfl, ?_⟩) ?_ ?_
            rotate_left
            · intro w'
              go_simp
              with_reducible rfl
            rotate_left
            · simp only [Act.put, List.setIfInBounds_toArray, List.set_cons_zero, List.set_cons_succ, i64_w, i32_w]
              rfl
            refine pure_ (i := 9) (N := some 10) (v := ?_) (a' := ?_) #[true, true, true, true, true, true, true, true, true, true] rfl rfl (by kernel_rfl) (fun _ _ _ h => h) (Or.inl ⟨by rfl, ?_⟩) ?_ ?_
            rotate_left
            · intro w'
              go_simp
              with_reducible rfl
            rotate_left
            · simp only [Act.put, List.setIfInBounds_toArray, List.set_cons_zero, List.set_cons_succ, i64_w, i32_w]
              rfl
            refine done_ (by kernel_rfl) ?_
            clear hHeld
            have HPT : Aside0 (Pair w4 w (fun k => w.heap.size ≤ k) w.heap.size h LT LT) := ⟨by
              rw [HLTE.out]
              exact hP4.zone (fun k _ hk => hP4.old k hk) (fun k hk => Nat.le_trans hP4.base.size hk) (fun k hk => hk)⟩
            clear hP3 hK3 hP4 hK4 c91
            obtain ⟨nL, hnL⟩ : ∃ nL, nL = LT.length := ⟨_, rfl⟩
            obtain ⟨Ah, ch, chh⟩ := HPT.out.drew.cell
            have HLEN := Aside0.mk (p_len HPT.out.drew)
            rw [← hnL] at chh HLEN
            clear hnL
            go_wp2
            refine start_ (n := 12) (S := fun w' => w'.cell? ⟨h, 0, none⟩ = some (.slice Ah nL ch)) (ds := []) #[false, false, false, false, false, false, false, false, false, false, false, false] (by kernel_rfl) rfl rfl (chh) (fun hHeld => ?_)
            refine pure_ (i := 0) (N := some 212) (v := ?_) (a' := ?_) #[true, false, false, false, false, false, false, false, false, false, false, false] rfl rfl (by kernel_rfl) (fun _ _ _ h => h) (Or.inl ⟨by rfl, ?_⟩) ?_ ?_
            rotate_left
            · intro w'
              go_simp
              with_reducible rfl
            rotate_left
            · simp only [Act.put, List.setIfInBounds_toArray, List.set_cons_zero, List.set_cons_succ, i64_w, i32_w]
              rfl
            refine pure_ (i := 1) (N := some 213) (v := ?_) (a' := ?_) #[true, true, false, false, false, false, false, false, false, false, false, false] rfl rfl (by kernel_rfl) (fun _ _ _ h => h) (Or.inl ⟨by rfl, ?_⟩) ?_ ?_
            rotate_left
            · intro w'
              go_simp
              with_reducible rfl
            rotate_left
            · simp only [Act.put, List.setIfInBounds_toArray, List.set_cons_zero, List.set_cons_succ, i64_w, i32_w]
              rfl
            refine pure_ (i := 2) (N := some 214) (v := ?_) (a' := ?_) #[true, true, true, false, false, false, false, false, false, false, false, false] rfl rfl (by kernel_rfl) (fun _ _ _ h => h) (Or.inl ⟨by rfl, ?_⟩) ?_ ?_
            rotate_left
            · intro w'
              go_simp
              with_reducible rfl
            rotate_left
            · simp only [Act.put, List.setIfInBounds_toArray, List.set_cons_zero, List.set_cons_succ, i64_w, i32_w]
              rfl
            refine pure_ (i := 3) (N := some 215) (v := ?_) (a' := ?_) #[true, true, true, true, false, false, false, false, false, false, false, false] rfl rfl (by kernel_rfl) (fun _ _ _ h => h) (Or.inl ⟨by rfl, ?_⟩) ?_ ?_
            rotate_left
            · intro w'
              go_simp
              with_reducible rfl
            rotate_left
            · simp only [Act.put, List.setIfInBounds_toArray, List.set_cons_zero, List.set_cons_succ, i64_w, i32_w]
              rfl
            refine pure_ (i := 5) (N := some 217) (v := ?_) (a' := ?_) #[true, true, true, true, false, true, false, false, false, false, false, false] rfl rfl (by kernel_rfl) (fun _ _ _ h => h) (Or.inl ⟨by rfl, ?_⟩) ?_ ?_
            rotate_left
            · intro w'
              go_simp
              with_reducible rfl
            rotate_left
            · simp only [Act.put, List.setIfInBounds_toArray, List.set_cons_zero, List.set_cons_succ, i64_w, i32_w]
              rfl
            refine pure_ (i := 6) (N := some 218) (v := ?_) (a' := ?_) #[true, true, true, true, false, true, true, false, false, false, false, false] rfl rfl (by kernel_rfl) (fun _ _ _ h => h) (Or.inl ⟨by rfl, ?_⟩) ?_ ?_
            rotate_left
            · intro w'
              go_simp
              with_reducible rfl
            rotate_left
            · simp only [Act.put, List.setIfInBounds_toArray, List.set_cons_zero, List.set_cons_succ, i64_w, i32_w]
              rfl
            refine pure_ (i := 7) (N := some 219) (v := ?_) (a' := ?_) #[true, true, true, true, false, true, true, true, false, false, false, false] rfl rfl (by kernel_rfl) (fun _ _ _ h => h) (Or.inl ⟨by rfl, ?_⟩) ?_ ?_
            rotate_left
            · intro w'
              go_simp
              with_reducible rfl
            rotate_left
            · simp only [Act.put, List.setIfInBounds_toArray, List.set_cons_zero, List.set_cons_succ, i64_w, i32_w]
              rfl
            refine take_ (i := 8) (N := some 220) (v := ?_) (a' := ?_) #[true, true, true, true, false, true, true, true, true, false, false, false] rfl rfl (by kernel_rfl) (fun _ _ _ h => h) (Or.inl ⟨by rfl, ?_⟩) hHeld ?_ ?_
            rotate_left
            · intro w' s0
              go_simp
              with_reducible rfl
            rotate_left
            · simp only [Act.put, List.setIfInBounds_toArray, List.set_cons_zero, List.set_cons_succ, i64_w, i32_w]
              rfl
            refine pure_ (i := 9) (N := some 221) (v := ?_) (a' := ?_) #[true, true, true, true, false, true, true, true, true, true, false, false] rfl rfl (by kernel_rfl) (fun _ _ _ h => h) (Or.inl ⟨by rfl, ?_⟩) ?_ ?_
            rotate_left
            · intro w'
              go_simp
              with_reducible rfl
            rotate_left
            · simp only [Act.put, List.setIfInBounds_toArray, List.set_cons_zero, List.set_cons_succ, i64_w, i32_w]
              rfl
            refine one_ (i := 4) (N := some 216) #[true, true, true, true, true, true, true, true, true, true, false, false] rfl rfl (by kernel_rfl) (by decide) (fun K hK => ?_)
            refine goes_ Try.func13 (by kernel_rfl) rfl #[.pointer (some ⟨w.heap.size, 0, none⟩)] (by rfl) rfl rfl (by simp only [List.map_toArray, List.map_cons, List.map_nil]; rfl) ?_
            with_reducible refine (HLEN.out).mono ?_
            rintro e w3 ⟨rfl, rfl⟩
            refine ⟨_, rfl, ?_⟩
            refine hK.out _ _ (hHeld) (fun hHeld => ?_)
            clear hK K
            refine norm_ (a' := ?_) ?_ ?_
            rotate_left
            · show Act.put _ (some 216) _ = _
              simp only [Act.put, List.setIfInBounds_toArray, List.set_cons_zero, List.set_cons_succ, i64_w, i32_w]
              rfl
            refine pure_ (i := 10) (N := some 222) (v := ?_) (a' := ?_) #[true, true, true, true, true, true, true, true, true, true, true, false] rfl rfl (by kernel_rfl) (fun _ _ _ h => h) (Or.inl ⟨by rfl, ?_⟩) ?_ ?_
            rotate_left
            · intro w'
              go_simp
              with_reducible rfl
            rotate_left
            · simp only [Act.put, List.setIfInBounds_toArray, List.set_cons_zero, List.set_cons_succ, i64_w, i32_w]
              rfl
            refine pure_ (i := 11) (N := some 223) (v := ?_) (a' := ?_) #[true, true, true, true, true, true, true, true, true, true, true, true] rfl rfl (by kernel_rfl) (fun _ _ _ h => h) (Or.inl ⟨by rfl, ?_⟩) ?_ ?_
            rotate_left
            · intro w'
              go_simp
              with_reducible rfl
            rotate_left
            · simp only [Act.put, List.setIfInBounds_toArray, List.set_cons_zero, List.set_cons_succ, i64_w, i32_w]
              rfl
            refine done_ (by kernel_rfl) ?_
            clear hHeld chh
            go_wp2
            go_roundg gO
            case measure => omega
            case rel => exact ⟨i + 1, LT, by omega, by omega, by go_num, hLT, ⟨HPT.out.drew⟩, HST⟩
          by_cases h5 : x0 = 5
          · subst h5
            as_aux_lemma =>
            obtain ⟨LT, hLTe⟩ : ∃ LT, LT = dropL xn L := ⟨_, rfl⟩
            have hsm := drop_small HS.out hLl xn
            rw [← hLTe] at hsm
            have hLT := hsm.2
            have HST := Aside0.mk hsm.1
            have HLTE := Aside0.mk hLTe
            clear hsm hLTe
            have HS1 := Aside0.mk (p_drop1 HP9.out.drew An nn cn xn HNN.out (Kd.C_kept_came (Kd.heap_int _) HR3.out (bdrew HBW9.out) HP9.out.old))
            have HC3 : Aside0 (∀ w3, Kept W9.drew w3 Z9 → w3.cell? ⟨b9, 3, none⟩ = _) := ⟨fun w3 hk => (blk_cell ((hk.2 b9 (by have := HZS.out; simp; omega) HNZ.out).trans HB9.out) 3).trans rfl⟩
            have c93 : W9.drew.cell? ⟨b9, 3, none⟩ = _ := (blk_cell HB9.out 3).trans rfl
            have HS2 : Aside0 (∀ w3, Pair w3 w Z9 w.heap.size h (dropL xn L) L → Kept W9.drew w3 Z9 → _) := ⟨fun w3 hP3 hK3 => p_drop2 hP3 An nn cn xn HNN.out (Kd.Heap.C (Kd.heap_int _) (fun k hk => hP3.base.block k hk) HR3.out) hLl⟩
            go_wp2
            rw [← HW9.out, ← HBBE.out]
            refine start_ (n := 10) (S := fun w' => w'.cell? ⟨b9, 3, none⟩ = some (.slice An nn cn)) (ds := [7]) #[false, false, false, false, false, false, false, false, false, false] (by kernel_rfl) rfl rfl (c93) (fun hHeld => ?_)
            refine pure_ (i := 0) (N := some 203) (v := ?_) (a' := ?_) #[true, false, false, false, false, false, false, false, false, false] rfl rfl (by kernel_rfl) (fun _ _ _ h => h) (Or.inl ⟨by rfl, ?_⟩) ?_ ?_
            rotate_left
            · intro w'
              go_simp
              with_reducible rfl
            rotate_left
            · simp only [Act.put, List.setIfInBounds_toArray, List.set_cons_zero, List.set_cons_succ, i64_w, i32_w]
              rfl
            refine pure_ (i := 1) (N := some 204) (v := ?_) (a' := ?_) #[true, true, false, false, false, false, false, false, false, false] rfl rfl (by kernel_rfl) (fun _ _ _ h => h) (Or.inl ⟨by rfl, ?_⟩) ?_ ?_
            rotate_left
            · intro w'
              go_simp
              with_reducible rfl
            rotate_left
            · simp only [Act.put, List.setIfInBounds_toArray, List.set_cons_zero, List.set_cons_succ, i64_w, i32_w]
              rfl
            refine pure_ (i := 4) (N := some 207) (v := ?_) (a' := ?_) #[true, true, false, false, true, false, false, false, false, false] rfl rfl (by kernel_rfl) (fun _ _ _ h => h) (Or.inl ⟨by rfl, ?_⟩) ?_ ?_
            rotate_left
            · intro w'
              go_simp
              with_reducible rfl
            rotate_left
            · simp only [Act.put, List.setIfInBounds_toArray, List.set_cons_zero, List.set_cons_succ, i64_w, i32_w]
              rfl
            refine pure_ (i := 5) (N := some 208) (v := ?_) (a' := ?_) #[true, true, false, false, true, true, false, false, false, false] rfl rfl (by kernel_rfl) (fun _ _ _ h => h) (Or.inl ⟨by rfl, ?_⟩) ?_ ?_
            rotate_left
            · intro w'
              go_simp
              with_reducible rfl
            rotate_left
            · simp only [Act.put, List.setIfInBounds_toArray, List.set_cons_zero, List.set_cons_succ, i64_w, i32_w]
              rfl
            refine take_ (i := 2) (N := some 205) (v := ?_) (a' := ?_) #[true, true, true, false, true, true, false, false, false, false] rfl rfl (by kernel_rfl) (fun _ _ _ h => h) (Or.inl ⟨by rfl, ?_⟩) hHeld ?_ ?_
            rotate_left
            · intro w' s0
              go_simp
              with_reducible rfl
            rotate_left
            · simp only [Act.put, List.setIfInBounds_toArray, List.set_cons_zero, List.set_cons_succ, i64_w, i32_w]
              rfl
            refine take_ (i := 6) (N := some 209) (v := ?_) (a' := ?_) #[true, true, true, false, true, true, true, false, false, false] rfl rfl (by kernel_rfl) (fun _ _ _ h => h) (Or.inl ⟨by rfl, ?_⟩) hHeld ?_ ?_
            rotate_left
            · intro w' s0
              go_simp
              with_reducible rfl
            rotate_left
            · simp only [Act.put, List.setIfInBounds_toArray, List.set_cons_zero, List.set_cons_succ, i64_w, i32_w]
              rfl
            refine one_ (i := 3) (N := some 206) #[true, true, true, true, true, true, true, false, false, false] rfl rfl (by kernel_rfl) (by decide) (fun K hK => ?_)
            refine goes_ Try.func15 (by kernel_rfl) rfl #[.pointer (some ⟨w.heap.size, 0, none⟩), .slice An nn cn] (by rfl) rfl rfl (by simp only [List.map_toArray, List.map_cons, List.map_nil]; rfl) ?_
            with_reducible refine (HS1.out).mono ?_
            rintro e w3 ⟨rfl, hP3, hK3⟩
            refine ⟨_, rfl, ?_⟩
            refine hK.out _ _ (HC3.out w3 hK3) (fun hHeld => ?_)
            clear hK K
            refine norm_ (a' := ?_) ?_ ?_
            rotate_left
            · show Act.put _ (some 206) _ = _
              simp only [Act.put, List.setIfInBounds_toArray, List.set_cons_zero, List.set_cons_succ, i64_w, i32_w]
              rfl
            refine last_ (i := 7) (N := some 210) #[true, true, true, true, true, true, true, true, false, false] rfl rfl (by kernel_rfl) (by decide) (fun K hK => ?_)
            refine goes_ Try.func23 (by kernel_rfl) rfl #[.pointer (some ⟨h, 0, none⟩), .slice An nn cn] (by rfl) rfl rfl (by simp only [List.map_toArray, List.map_cons, List.map_nil]; rfl) ?_
            with_reducible refine (HS2.out w3 hP3 hK3).mono ?_
            rintro e w4 ⟨rfl, hP4, hK4⟩
            refine ⟨_, rfl, ?_⟩
            refine hK.out _ _ ?_
            clear hK K
            refine norm_ (a' := ?_) ?_ ?_
            rotate_left
            · show Act.put _ (some 210) _ = _
              simp only [Act.put, List.setIfInBounds_toArray, List.set_cons_zero, List.set_cons_succ, i64_w, i32_w]
              rfl
            refine pure_ (i := 8) (N := some 211) (v := ?_) (a' := ?_) #[true, true, true, true, true, true, true, true, true, false] rfl rfl (by kernel_rfl) (fun _ _ _ h => h) (Or.inl ⟨by rfl, ?_⟩) ?_ ?_
            rotate_left
            · intro w'
              go_simp
              with_reducible rfl
            rotate_left
            · simp only [Act.put, List.setIfInBounds_toArray, List.set_cons_zero, List.set_cons_succ, i64_w, i32_w]
              rfl
            refine pure_ (i := 9) (N := some 10) (v := ?_) (a' := ?_) #[true, true, true, true, true, true, true, true, true, true] rfl rfl (by kernel_rfl) (fun _ _ _ h => h) (Or.inl ⟨by rfl, ?_⟩) ?_ ?_
            rotate_left
            · intro w'
              go_simp
              with_reducible rfl
            rotate_left
            · simp only [Act.put, List.setIfInBounds_toArray, List.set_cons_zero, List.set_cons_succ, i64_w, i32_w]
              rfl
            refine done_ (by kernel_rfl) ?_
            clear hHeld
            have HPT : Aside0 (Pair w4 w (fun k => w.heap.size ≤ k) w.heap.size h LT LT) := ⟨by
              rw [HLTE.out]
              exact hP4.zone (fun k _ hk => hP4.old k hk) (fun k hk => Nat.le_trans hP4.base.size hk) (fun k hk => hk)⟩
            clear hP3 hK3 hP4 hK4 c93
            obtain ⟨nL, hnL⟩ : ∃ nL, nL = LT.length := ⟨_, rfl⟩
            obtain ⟨Ah, ch, chh⟩ := HPT.out.drew.cell
            have HLEN := Aside0.mk (p_len HPT.out.drew)
            rw [← hnL] at chh HLEN
            clear hnL
            go_wp2
            refine start_ (n := 12) (S := fun w' => w'.cell? ⟨h, 0, none⟩ = some (.slice Ah nL ch)) (ds := []) #[false, false, false, false, false, false, false, false, false, false, false, false] (by kernel_rfl) rfl rfl (chh) (fun hHeld => ?_)
            refine pure_ (i := 0) (N := some 212) (v := ?_) (a' := ?_) #[true, false, false, false, false, false, false, false, false, false, false, false] rfl rfl (by kernel_rfl) (fun _ _ _ h => h) (Or.inl ⟨by rfl, ?_⟩) ?_ ?_
            rotate_left
            · intro w'
              go_simp
              with_reducible rfl
            rotate_left
            · simp only [Act.put, List.setIfInBounds_toArray, List.set_cons_zero, List.set_cons_succ, i64_w, i32_w]
              rfl
            refine pure_ (i := 1) (N := some 213) (v := ?_) (a' := ?_) #[true, true, false, false, false, false, false, false, false, false, false, false] rfl rfl (by kernel_rfl) (fun _ _ _ h => h) (Or.inl ⟨by rfl, ?_⟩) ?_ ?_
            rotate_left
            · intro w'
              go_simp
              with_reducible rfl
            rotate_left
            · simp only [Act.put, List.setIfInBounds_toArray, List.set_cons_zero, List.set_cons_succ, i64_w, i32_w]
              rfl
            refine pure_ (i := 2) (N := some 214) (v := ?_) (a' := ?_) #[true, true, true, false, false, false, false, false, false, false, false, false] rfl rfl (by kernel_rfl) (fun _ _ _ h => h) (Or.inl ⟨by rfl, ?_⟩) ?_ ?_
            rotate_left
            · intro w'
              go_simp
              with_reducible rfl
            rotate_left
            · simp only [Act.put, List.setIfInBounds_toArray, List.set_cons_zero, List.set_cons_succ, i64_w, i32_w]
              rfl
            refine pure_ (i := 3) (N := some 215) (v := ?_) (a' := ?_) #[true, true, true, true, false, false, false, false, false, false, false, false] rfl rfl (by kernel_rfl) (fun _ _ _ h => h) (Or.inl ⟨by rfl, ?_⟩) ?_ ?_
            rotate_left
            · intro w'
              go_simp
              with_reducible rfl
            rotate_left
            · simp only [Act.put, List.setIfInBounds_toArray, List.set_cons_zero, List.set_cons_succ, i64_w, i32_w]
              rfl
            refine pure_ (i := 5) (N := some 217) (v := ?_) (a' := ?_) #[true, true, true, true, false, true, false, false, false, false, false, false] rfl rfl (by kernel_rfl) (fun _ _ _ h => h) (Or.inl ⟨by rfl, ?_⟩) ?_ ?_
            rotate_left
            · intro w'
              go_simp
              with_reducible rfl
            rotate_left
            · simp only [Act.put, List.setIfInBounds_toArray, List.set_cons_zero, List.set_cons_succ, i64_w, i32_w]
              rfl
            refine pure_ (i := 6) (N := some 218) (v := ?_) (a' := ?_) #[true, true, true, true, false, true, true, false, false, false, false, false] rfl rfl (by kernel_rfl) (fun _ _ _ h => h) (Or.inl ⟨by rfl, ?_⟩) ?_ ?_
            rotate_left
            · intro w'
              go_simp
              with_reducible rfl
            rotate_left
            · simp only [Act.put, List.setIfInBounds_toArray, List.set_cons_zero, List.set_cons_succ, i64_w, i32_w]
              rfl
            refine pure_ (i := 7) (N := some 219) (v := ?_) (a' := ?_) #[true, true, true, true, false, true, true, true, false, false, false, false] rfl rfl (by kernel_rfl) (fun _ _ _ h => h) (Or.inl ⟨by rfl, ?_⟩) ?_ ?_
            rotate_left
            · intro w'
              go_simp
              with_reducible rfl
            rotate_left
            · simp only [Act.put, List.setIfInBounds_toArray, List.set_cons_zero, List.set_cons_succ, i64_w, i32_w]
              rfl
            refine take_ (i := 8) (N := some 220) (v := ?_) (a' := ?_) #[true, true, true, true, false, true, true, true, true, false, false, false] rfl rfl (by kernel_rfl) (fun _ _ _ h => h) (Or.inl ⟨by rfl, ?_⟩) hHeld ?_ ?_
            rotate_left
            · intro w' s0
              go_simp
              with_reducible rfl
            rotate_left
            · simp only [Act.put, List.setIfInBounds_toArray, List.set_cons_zero, List.set_cons_succ, i64_w, i32_w]
              rfl
            refine pure_ (i := 9) (N := some 221) (v := ?_) (a' := ?_) #[true, true, true, true, false, true, true, true, true, true, false, false] rfl rfl (by kernel_rfl) (fun _ _ _ h => h) (Or.inl ⟨by rfl, ?_⟩) ?_ ?_
            rotate_left
            · intro w'
              go_simp
              with_reducible rfl
            rotate_left
            · simp only [Act.put, List.setIfInBounds_toArray, List.set_cons_zero, List.set_cons_succ, i64_w, i32_w]
              rfl
            refine one_ (i := 4) (N := some 216) #[true, true, true, true, true, true, true, true, true, true, false, false] rfl rfl (by kernel_rfl) (by decide) (fun K hK => ?_)
            refine goes_ Try.func13 (by kernel_rfl) rfl #[.pointer (some ⟨w.heap.size, 0, none⟩)] (by rfl) rfl rfl (by simp only [List.map_toArray, List.map_cons, List.map_nil]; rfl) ?_
            with_reducible refine (HLEN.out).mono ?_
            rintro e w3 ⟨rfl, rfl⟩
            refine ⟨_, rfl, ?_⟩
            refine hK.out _ _ (hHeld) (fun hHeld => ?_)
            clear hK K
            refine norm_ (a' := ?_) ?_ ?_
            rotate_left
            · show Act.put _ (some 216) _ = _
              simp only [Act.put, List.setIfInBounds_toArray, List.set_cons_zero, List.set_cons_succ, i64_w, i32_w]
              rfl
            refine pure_ (i := 10) (N := some 222) (v := ?_) (a' := ?_) #[true, true, true, true, true, true, true, true, true, true, true, false] rfl rfl (by kernel_rfl) (fun _ _ _ h => h) (Or.inl ⟨by rfl, ?_⟩) ?_ ?_
            rotate_left
            · intro w'
              go_simp
              with_reducible rfl
            rotate_left
            · simp only [Act.put, List.setIfInBounds_toArray, List.set_cons_zero, List.set_cons_succ, i64_w, i32_w]
              rfl
            refine pure_ (i := 11) (N := some 223) (v := ?_) (a' := ?_) #[true, true, true, true, true, true, true, true, true, true, true, true] rfl rfl (by kernel_rfl) (fun _ _ _ h => h) (Or.inl ⟨by rfl, ?_⟩) ?_ ?_
            rotate_left
            · intro w'
              go_simp
              with_reducible rfl
            rotate_left
            · simp only [Act.put, List.setIfInBounds_toArray, List.set_cons_zero, List.set_cons_succ, i64_w, i32_w]
              rfl
            refine done_ (by kernel_rfl) ?_
            clear hHeld chh
            go_wp2
            go_roundg gO
            case measure => omega
            case rel => exact ⟨i + 1, LT, by omega, by omega, by go_num, hLT, ⟨HPT.out.drew⟩, HST⟩
          by_cases h1 : x0 = 1
          · subst h1
            obtain ⟨LT, hLTe⟩ : ∃ LT, LT = L ++ xl.take (manyOf L.length xl.length) := ⟨_, rfl⟩
            have hsm := send_small HS.out HSM.out hLl
            rw [← hLTe] at hsm
            have hLT := hsm.2
            have HST := Aside0.mk hsm.1
            have HLTE := Aside0.mk hLTe
            clear hsm hLTe
            have c92 : W9.cell? ⟨b9, 2, none⟩ = _ := (blk_cell HB9.out 2).trans rfl
            go_wp2
            rw [← HW9.out, ← HBBE.out]
            go_loopg [11, 12] nm (fun gk s11 s12 wq => ∃ (k : Nat) (A11 : Option Addr) (c11 : Nat), k ≤ nm ∧ nm - k ≤ gk ∧ s11 = .slice A11 k c11 ∧ s12 = .int .i64 k ∧ Aside0 (Kd.S k28 28 wq w.heap.size (fun q => W9.heap.size ≤ q) (.slice A11 k c11) (xl.take k)) ∧ Aside0 (Below W9.heap.size W9 wq))
            case atStart => exact ⟨0, none, 0, Nat.zero_le _, by omega, rfl, rfl, ⟨Kd.S_nil _ _ _ _ _⟩, ⟨Below.refl _ _⟩⟩
            case round =>
              obtain ⟨k, A11, c11, hk, hgj, rfl, rfl, HM, HBQ⟩ := hrel
              obtain ⟨wq, rfl⟩ : ∃ wq, wq = wr := ⟨_, rfl⟩
              have hbq := bdrew HBQ.out
              have hbase : w.heap.size ≤ W9.heap.size := HBW9.out.size
              have hq9 : W9.heap.size ≤ wq.heap.size := HBQ.out.size
              by_cases hkn : k < nm
              · obtain ⟨gk, rfl⟩ : ∃ q, gk = q + 1 := ⟨gk - 1, by omega⟩
                as_aux_lemma =>
                have hkl : k < xl.length := by have := HNM.out; omega
                have hC := HR2.out
                rw [← HNM.out] at hC
                obtain ⟨am, B2, d2, rfl, hy0, hy1, hy2, hd2, hrd⟩ := at_T28 hC (k : Int) (by omega) (by omega)
                simp only [Int.toNat_natCast] at hy0 hy1 hy2
                have hxe : xl.take (k + 1) = xl.take k ++ [rd_T28 xl (k : Int)] := by
                  rw [List.take_succ_eq_append_getElem hkl]
                  unfold rd_T28
                  rw [Int.toNat_natCast, List.getD_eq_getElem?_getD, List.getElem?_eq_getElem hkl]
                  rfl
                have hyl : (rd_T28 xl (k : Int)).f2.length ≤ 140737488351232 := HSM.out _ (rd_mem hkl)
                have HXE := Aside0.mk hxe
                clear hC hxe
                generalize rd_T28 xl (k : Int) = y at *
                obtain ⟨y0, y1, yd⟩ := y
                simp only at hy0 hy1 hy2 hd2 hrd hyl
                obtain ⟨ny, hny⟩ : ∃ ny, ny = yd.length := ⟨_, rfl⟩
                rw [← hny] at hy2 hd2
                have hbw : Below w.heap.size w wq.drew := HBW9.out.trans (hbq.mono hbase)
                have cy0 := cell_below hy0 hbw
                have cy1 := cell_below hy1 hbw
                have cy2 := cell_below hy2 hbw
                have c92 : wq.drew.cell? ⟨b9, 2, none⟩ = some (.slice (some am) nm cm) := cell_below c92 hbq
                obtain ⟨A6, c6, W6, hr6, hR6, hB6, hc6⟩ := fresh_bytes (W := wq.drew) (A := B2) (m := ny) (c := d2) (l := yd) (Kd.Heap.C (Kd.heap_int _) (fun q hq => hbw.block q hq) hrd) hny.symm (by omega)
                have hb6s : wq.heap.size ≤ W6.heap.size := hB6.size
                have hkle : (xl.take k).length = k := by rw [List.length_take]; omega
                have hS6 : Kd.S k28 28 W6 w.heap.size (fun q => W9.heap.size ≤ q ∧ ¬ wq.heap.size ≤ q) (.slice A11 (xl.take k).length c11) (xl.take k) := by
                  rw [hkle]
                  exact Kd.S_below (w := wq.drew) (Kd.S_drew (Kd.S_mono (Kd.S_bound HM.out) (fun q hq => ⟨hq.1, by have := hq.2.2.1; omega⟩))) hB6
                obtain ⟨A7, c7, W7, hr7, hS7, hG7, hat7⟩ := srow_run (W := W6) w.heap.size A11 c11 (xl.take k) ⟨y0, y1, yd⟩ (.slice A6 ny c6) (fun q => wq.heap.size ≤ q) (ok := fun q => W9.heap.size ≤ q) hS6 (Kd.R_lower hR6 (by have := hB6.size; simp; omega)) (fun q hq => ⟨by omega, fun e => by rw [hkle] at e; have := Kd.S_lt HM.out q e.symm; omega⟩) (fun q hq => by omega) (by omega) (by rw [hkle]; have := HXB.out; omega)
                rw [hkle] at hr7 hS7 hG7 hat7
                have hB7 : Below W9.heap.size W9 W7 := ((hbq.trans (hB6.mono hq9)).alloc (by omega) _).grown hG7 (by simp; omega) (fun q hq => by
                  obtain ⟨f, h0, _⟩ := HM.out
                  exact h0 q hq)
                have hc6w : W6.cell? ⟨b9, 2, none⟩ = _ := cell_below c92 hB6
                have h60 : W6.cell? _ = _ := cell_below cy0 hB6
                have h61 : W6.cell? _ = _ := cell_below cy1 hB6
                have h62 : W6.cell? _ = _ := cell_below cy2 hB6
                have c92q : wq.cell? ⟨b9, 2, none⟩ = some (.slice (some am) nm cm) := c92
                have HRUN6 := Aside0.mk hr6
                have HRUN7 := Aside0.mk hr7
                have HC6 := Aside0.mk hc6w
                have HX60 := Aside0.mk h60
                have HX61 := Aside0.mk h61
                have HX62 := Aside0.mk h62
                have HS7 := Aside0.mk hS7
                have HB7 := Aside0.mk hB7
                clear hr6 hr7 hR6 hB6 hS6 hS7 hG7 hat7 hB7 hc6w h60 h61 h62 hbw hrd hny hkle hbq hy0 hy1 hy2
                go_wp2
                refine start_ (n := 25) (S := fun w' => w'.cell? ⟨b9, 2, none⟩ = some (.slice (some am) nm cm) ∧ w'.cell? (am.add (k * 3)) = some (.int .i64 y0) ∧ w'.cell? ⟨(am.add (k * 3)).block, (am.add (k * 3)).off + 1, none⟩ = some (.int .i64 y1) ∧ w'.cell? ⟨(am.add (k * 3)).block, (am.add (k * 3)).off + 2, none⟩ = some (.slice B2 ny d2)) (ds := [23]) #[false, false, false, false, false, false, false, false, false, false, false, false, false, false, false, false, false, false, false, false, false, false, false, false, false] (by kernel_rfl) rfl rfl ⟨c92, cy0, cy1, cy2⟩ (fun hHeld => ?_)
                refine pure_ (i := 0) (N := some 97) (v := ?_) (a' := ?_) #[true, false, false, false, false, false, false, false, false, false, false, false, false, false, false, false, false, false, false, false, false, false, false, false, false] rfl rfl (by kernel_rfl) (fun _ _ _ h => h) (Or.inl ⟨by rfl, ?_⟩) ?_ ?_
                rotate_left
                · intro w'
                  go_simp
                  with_reducible rfl
                rotate_left
                · simp only [Act.put, List.setIfInBounds_toArray, List.set_cons_zero, List.set_cons_succ, i64_w, i32_w]
                  rfl
                refine pure_ (i := 1) (N := some 98) (v := ?_) (a' := ?_) #[true, true, false, false, false, false, false, false, false, false, false, false, false, false, false, false, false, false, false, false, false, false, false, false, false] rfl rfl (by kernel_rfl) (fun _ _ _ h => h) (Or.inl ⟨by rfl, ?_⟩) ?_ ?_
                rotate_left
                · intro w'
                  go_simp
                  with_reducible rfl
                rotate_left
                · simp only [Act.put, List.setIfInBounds_toArray, List.set_cons_zero, List.set_cons_succ, i64_w, i32_w]
                  rfl
                refine pure_ (i := 3) (N := some 100) (v := ?_) (a' := ?_) #[true, true, false, true, false, false, false, false, false, false, false, false, false, false, false, false, false, false, false, false, false, false, false, false, false] rfl rfl (by kernel_rfl) (fun _ _ _ h => h) (Or.inl ⟨by rfl, ?_⟩) ?_ ?_
                rotate_left
                · intro w'
                  go_simp
                  with_reducible rfl
                rotate_left
                · simp only [Act.put, List.setIfInBounds_toArray, List.set_cons_zero, List.set_cons_succ, i64_w, i32_w]
                  rfl
                refine pure_ (i := 7) (N := some 104) (v := ?_) (a' := ?_) #[true, true, false, true, false, false, false, true, false, false, false, false, false, false, false, false, false, false, false, false, false, false, false, false, false] rfl rfl (by kernel_rfl) (fun _ _ _ h => h) (Or.inl ⟨by rfl, ?_⟩) ?_ ?_
                rotate_left
                · intro w'
                  go_simp
                  with_reducible rfl
                rotate_left
                · simp only [Act.put, List.setIfInBounds_toArray, List.set_cons_zero, List.set_cons_succ, i64_w, i32_w]
                  rfl
                refine pure_ (i := 9) (N := some 106) (v := ?_) (a' := ?_) #[true, true, false, true, false, false, false, true, false, true, false, false, false, false, false, false, false, false, false, false, false, false, false, false, false] rfl rfl (by kernel_rfl) (fun _ _ _ h => h) (Or.inl ⟨by rfl, ?_⟩) ?_ ?_
                rotate_left
                · intro w'
                  go_simp
                  with_reducible rfl
                rotate_left
                · simp only [Act.put, List.setIfInBounds_toArray, List.set_cons_zero, List.set_cons_succ, i64_w, i32_w]
                  rfl
                refine pure_ (i := 14) (N := some 111) (v := ?_) (a' := ?_) #[true, true, false, true, false, false, false, true, false, true, false, false, false, false, true, false, false, false, false, false, false, false, false, false, false] rfl rfl (by kernel_rfl) (fun _ _ _ h => h) (Or.inl ⟨by rfl, ?_⟩) ?_ ?_
                rotate_left
                · intro w'
                  go_simp
                  with_reducible rfl
                rotate_left
                · simp only [Act.put, List.setIfInBounds_toArray, List.set_cons_zero, List.set_cons_succ, i64_w, i32_w]
                  rfl
                refine pure_ (i := 16) (N := some 113) (v := ?_) (a' := ?_) #[true, true, false, true, false, false, false, true, false, true, false, false, false, false, true, false, true, false, false, false, false, false, false, false, false] rfl rfl (by kernel_rfl) (fun _ _ _ h => h) (Or.inl ⟨by rfl, ?_⟩) ?_ ?_
                rotate_left
                · intro w'
                  go_simp
                  with_reducible rfl
                rotate_left
                · simp only [Act.put, List.setIfInBounds_toArray, List.set_cons_zero, List.set_cons_succ, i64_w, i32_w]
                  rfl
                refine take_ (i := 2) (N := some 99) (v := ?_) (a' := ?_) #[true, true, true, true, false, false, false, true, false, true, false, false, false, false, true, false, true, false, false, false, false, false, false, false, false] rfl rfl (by kernel_rfl) (fun _ _ _ h => h) (Or.inl ⟨by rfl, ?_⟩) hHeld ?_ ?_
                rotate_left
                · rintro w' ⟨s0, s1, s2, s3⟩
                  go_simp
                  with_reducible rfl
                rotate_left
                · simp only [Act.put, List.setIfInBounds_toArray, List.set_cons_zero, List.set_cons_succ, i64_w, i32_w]
                  rfl
                refine pure_ (i := 4) (N := some 101) (v := ?_) (a' := ?_) #[true, true, true, true, true, false, false, true, false, true, false, false, false, false, true, false, true, false, false, false, false, false, false, false, false] rfl rfl (by kernel_rfl) (fun _ _ _ h => h) (Or.inl ⟨by rfl, ?_⟩) ?_ ?_
                rotate_left
                · intro w'
                  go_simp
                  with_reducible rfl
                rotate_left
                · simp only [Act.put, List.setIfInBounds_toArray, List.set_cons_zero, List.set_cons_succ, i64_w, i32_w]
                  rfl
                refine pure_ (i := 5) (N := some 102) (v := ?_) (a' := ?_) #[true, true, true, true, true, true, false, true, false, true, false, false, false, false, true, false, true, false, false, false, false, false, false, false, false] rfl rfl (by kernel_rfl) (fun _ _ _ h => h) (Or.inl ⟨by rfl, ?_⟩) ?_ ?_
                rotate_left
                · intro w'
                  go_simp
                  with_reducible rfl
                rotate_left
                · simp only [Act.put, List.setIfInBounds_toArray, List.set_cons_zero, List.set_cons_succ, i64_w, i32_w]
                  rfl
                refine take_ (i := 6) (N := some 103) (v := ?_) (a' := ?_) #[true, true, true, true, true, true, true, true, false, true, false, false, false, false, true, false, true, false, false, false, false, false, false, false, false] rfl rfl (by kernel_rfl) (fun _ _ _ h => h) (Or.inl ⟨by rfl, ?_⟩) hHeld ?_ ?_
                rotate_left
                · rintro w' ⟨s0, s1, s2, s3⟩
                  go_simp
                  with_reducible rfl
                rotate_left
                · simp only [Act.put, List.setIfInBounds_toArray, List.set_cons_zero, List.set_cons_succ, i64_w, i32_w]
                  rfl
                refine take_ (i := 8) (N := some 105) (v := ?_) (a' := ?_) #[true, true, true, true, true, true, true, true, true, true, false, false, false, false, true, false, true, false, false, false, false, false, false, false, false] rfl rfl (by kernel_rfl) (fun _ _ _ h => h) (Or.inl ⟨by rfl, ?_⟩) hHeld ?_ ?_
                rotate_left
                · rintro w' ⟨s0, s1, s2, s3⟩
                  go_simp
                  with_reducible rfl
                rotate_left
                · simp only [Act.put, List.setIfInBounds_toArray, List.set_cons_zero, List.set_cons_succ, i64_w, i32_w]
                  rfl
                refine pure_ (i := 10) (N := some 107) (v := ?_) (a' := ?_) #[true, true, true, true, true, true, true, true, true, true, true, false, false, false, true, false, true, false, false, false, false, false, false, false, false] rfl rfl (by kernel_rfl) (fun _ _ _ h => h) (Or.inl ⟨by rfl, ?_⟩) ?_ ?_
                rotate_left
                · intro w'
                  go_simp
                  with_reducible rfl
                rotate_left
                · simp only [Act.put, List.setIfInBounds_toArray, List.set_cons_zero, List.set_cons_succ, i64_w, i32_w]
                  rfl
                refine pure_ (i := 11) (N := some 108) (v := ?_) (a' := ?_) #[true, true, true, true, true, true, true, true, true, true, true, true, false, false, true, false, true, false, false, false, false, false, false, false, false] rfl rfl (by kernel_rfl) (fun _ _ _ h => h) (Or.inl ⟨by rfl, ?_⟩) ?_ ?_
                rotate_left
                · intro w'
                  go_simp
                  with_reducible rfl
                rotate_left
                · simp only [Act.put, List.setIfInBounds_toArray, List.set_cons_zero, List.set_cons_succ, i64_w, i32_w]
                  rfl
                refine take_ (i := 12) (N := some 109) (v := ?_) (a' := ?_) #[true, true, true, true, true, true, true, true, true, true, true, true, true, false, true, false, true, false, false, false, false, false, false, false, false] rfl rfl (by kernel_rfl) (fun _ _ _ h => h) (Or.inl ⟨by rfl, ?_⟩) hHeld ?_ ?_
                rotate_left
                · rintro w' ⟨s0, s1, s2, s3⟩
                  go_simp
                  with_reducible rfl
                rotate_left
                · simp only [Act.put, List.setIfInBounds_toArray, List.set_cons_zero, List.set_cons_succ, i64_w, i32_w]
                  rfl
                refine take_ (i := 15) (N := some 112) (v := ?_) (a' := ?_) #[true, true, true, true, true, true, true, true, true, true, true, true, true, false, true, true, true, false, false, false, false, false, false, false, false] rfl rfl (by kernel_rfl) (fun _ _ _ h => h) (Or.inl ⟨by rfl, ?_⟩) hHeld ?_ ?_
                rotate_left
                · rintro w' ⟨s0, s1, s2, s3⟩
                  go_simp
                  with_reducible rfl
                rotate_left
                · simp only [Act.put, List.setIfInBounds_toArray, List.set_cons_zero, List.set_cons_succ, i64_w, i32_w]
                  rfl
                refine pure_ (i := 17) (N := some 114) (v := ?_) (a' := ?_) #[true, true, true, true, true, true, true, true, true, true, true, true, true, false, true, true, true, true, false, false, false, false, false, false, false] rfl rfl (by kernel_rfl) (fun _ _ _ h => h) (Or.inl ⟨by rfl, ?_⟩) ?_ ?_
                rotate_left
                · intro w'
                  go_simp
                  with_reducible rfl
                rotate_left
                · simp only [Act.put, List.setIfInBounds_toArray, List.set_cons_zero, List.set_cons_succ, i64_w, i32_w]
                  rfl
                refine pure_ (i := 18) (N := some 115) (v := ?_) (a' := ?_) #[true, true, true, true, true, true, true, true, true, true, true, true, true, false, true, true, true, true, true, false, false, false, false, false, false] rfl rfl (by kernel_rfl) (fun _ _ _ h => h) (Or.inl ⟨by rfl, ?_⟩) ?_ ?_
                rotate_left
                · intro w'
                  go_simp
                  with_reducible rfl
                rotate_left
                · simp only [Act.put, List.setIfInBounds_toArray, List.set_cons_zero, List.set_cons_succ, i64_w, i32_w]
                  rfl
                refine take_ (i := 19) (N := some 116) (v := ?_) (a' := ?_) #[true, true, true, true, true, true, true, true, true, true, true, true, true, false, true, true, true, true, true, true, false, false, false, false, false] rfl rfl (by kernel_rfl) (fun _ _ _ h => h) (Or.inl ⟨by rfl, ?_⟩) hHeld ?_ ?_
                rotate_left
                · rintro w' ⟨s0, s1, s2, s3⟩
                  go_simp
                  with_reducible rfl
                rotate_left
                · simp only [Act.put, List.setIfInBounds_toArray, List.set_cons_zero, List.set_cons_succ, i64_w, i32_w]
                  rfl
                refine one_ (i := 13) (N := some 110) #[true, true, true, true, true, true, true, true, true, true, true, true, true, true, true, true, true, true, true, true, false, false, false, false, false] rfl rfl (by kernel_rfl) (by decide) (fun K hK => ?_)
                refine value_ (w1 := ?_) (v := ?_) (by rfl) rfl ?_ ?_
                rotate_left 2
                · go_simp
                  constructor
                  · rfl
                  · rfl
                refine hK.out _ _ ⟨(Go.Lib.cell?_alloc_some _ hHeld.1), (Go.Lib.cell?_alloc_some _ hHeld.2.1), (Go.Lib.cell?_alloc_some _ hHeld.2.2.1), (Go.Lib.cell?_alloc_some _ hHeld.2.2.2)⟩ (fun hHeld => ?_)
                clear hK K
                refine norm_ (a' := ?_) ?_ ?_
                rotate_left
                · show Act.put _ (some 110) _ = _
                  simp only [Act.put, List.setIfInBounds_toArray, List.set_cons_zero, List.set_cons_succ, i64_w, i32_w]
                  rfl
                refine one_ (i := 20) (N := some 117) #[true, true, true, true, true, true, true, true, true, true, true, true, true, true, true, true, true, true, true, true, true, false, false, false, false] rfl rfl (by kernel_rfl) (by decide) (fun K hK => ?_)
                refine append_step (by rfl) (.tmp 110) (.tmp 116) 23 rfl _ _ rfl rfl _ HRUN6.out rfl ?_
                refine hK.out _ _ ⟨HC6.out, HX60.out, HX61.out, HX62.out⟩ (fun hHeld => ?_)
                clear hK K
                refine norm_ (a' := ?_) ?_ ?_
                rotate_left
                · show Act.put _ (some 117) _ = _
                  simp only [Act.put, List.setIfInBounds_toArray, List.set_cons_zero, List.set_cons_succ, i64_w, i32_w]
                  rfl
                refine pure_ (i := 21) (N := some 118) (v := ?_) (a' := ?_) #[true, true, true, true, true, true, true, true, true, true, true, true, true, true, true, true, true, true, true, true, true, true, false, false, false] rfl rfl (by kernel_rfl) (fun _ _ _ h => h) (Or.inl ⟨by rfl, ?_⟩) ?_ ?_
                rotate_left
                · intro w'
                  go_simp
                  with_reducible rfl
                rotate_left
                · simp only [Act.put, List.setIfInBounds_toArray, List.set_cons_zero, List.set_cons_succ, i64_w, i32_w]
                  rfl
                refine one_ (i := 22) (N := some 119) #[true, true, true, true, true, true, true, true, true, true, true, true, true, true, true, true, true, true, true, true, true, true, true, false, false] rfl rfl (by kernel_rfl) (by decide) (fun K hK => ?_)
                refine value_ (w1 := ?_) (v := ?_) (by rfl) rfl ?_ ?_
                rotate_left 2
                · go_simp
                  constructor
                  · rfl
                  · rfl
                refine hK.out _ _ ⟨(Go.Lib.cell?_alloc_some _ hHeld.1), (Go.Lib.cell?_alloc_some _ hHeld.2.1), (Go.Lib.cell?_alloc_some _ hHeld.2.2.1), (Go.Lib.cell?_alloc_some _ hHeld.2.2.2)⟩ (fun hHeld => ?_)
                clear hK K
                refine norm_ (a' := ?_) ?_ ?_
                rotate_left
                · show Act.put _ (some 119) _ = _
                  simp only [Act.put, List.setIfInBounds_toArray, List.set_cons_zero, List.set_cons_succ, i64_w, i32_w]
                  rfl
                refine last_ (i := 23) (N := some 120) #[true, true, true, true, true, true, true, true, true, true, true, true, true, true, true, true, true, true, true, true, true, true, true, true, false] rfl rfl (by kernel_rfl) (by decide) (fun K hK => ?_)
                refine append_step (by rfl) (.tmp 97) (.tmp 119) 41 rfl _ _ rfl rfl _ HRUN7.out rfl ?_
                refine hK.out _ _ ?_
                clear hK K
                refine norm_ (a' := ?_) ?_ ?_
                rotate_left
                · show Act.put _ (some 120) _ = _
                  simp only [Act.put, List.setIfInBounds_toArray, List.set_cons_zero, List.set_cons_succ, i64_w, i32_w]
                  rfl
                refine pure_ (i := 24) (N := some 11) (v := ?_) (a' := ?_) #[true, true, true, true, true, true, true, true, true, true, true, true, true, true, true, true, true, true, true, true, true, true, true, true, true] rfl rfl (by kernel_rfl) (fun _ _ _ h => h) (Or.inl ⟨by rfl, ?_⟩) ?_ ?_
                rotate_left
                · intro w'
                  go_simp
                  with_reducible rfl
                rotate_left
                · simp only [Act.put, List.setIfInBounds_toArray, List.set_cons_zero, List.set_cons_succ, i64_w, i32_w]
                  rfl
                refine done_ (by kernel_rfl) ?_
                clear hHeld
                go_wp2
                go_roundg gk
                case measure => omega
                case rel => exact ⟨k + 1, A7, c7, by omega, by omega, rfl, by go_num, ⟨by rw [HXE.out]; exact HS7.out⟩, HB7⟩
              · have hkm : nm = k := by omega
                as_aux_lemma =>
                subst hkm
                have hall : xl.take nm = xl := List.take_of_length_le (by have := HNM.out; omega)
                rw [hall] at HM
                have hPA := HP9.out.mark HBQ.out
                obtain ⟨ZA, hZA⟩ : ∃ ZA : Nat → Prop, ZA = fun q => (Z9 q ∧ q < W9.heap.size) ∨ wq.heap.size ≤ q := ⟨_, rfl⟩
                rw [← hZA] at hPA
                have hb9A : ¬ ZA b9 := by
                  rw [hZA]
                  rintro (e | e)
                  · exact HNZ.out e.1
                  · have := HZS.out; omega
                have hmA : ∀ q, W9.heap.size ≤ q → q < wq.heap.size → ¬ ZA q := by
                  intro q h1 h2
                  rw [hZA]
                  rintro (e | e)
                  · omega
                  · omega
                have hB9q : wq.heap[b9]? = _ := (HBQ.out.block b9 (by have := HZS.out; omega)).trans HB9.out
                have HB9Q := Aside0.mk hB9q
                have HMA := Aside0.mk hmA
                have HZA := Aside0.mk hZA
                have HS1 := Aside0.mk (p_send1 hPA.drew A11 nm c11 xl HNM.out (fun W' hk => by
                  have := (Kd.S_reads' (Kd.S_step (w1 := W') HM.out (fun q ho hlt => hk.2 q hlt (hmA q ho hlt)))).2.2
                  exact this) (by have := (Kd.S_reads' HM.out).2.1; have := HNM.out; omega) HSM.out hLl)
                have HC3 : Aside0 (∀ w3, Kept wq.drew w3 ZA → w3.cell? ⟨b9, 2, none⟩ = _) := ⟨fun w3 hk => (blk_cell ((hk.2 b9 (by have := HZS.out; simp; omega) hb9A).trans HB9Q.out) 2).trans rfl⟩
                have c92 : wq.drew.cell? ⟨b9, 2, none⟩ = _ := (blk_cell HB9Q.out 2).trans rfl
                have c92q : wq.cell? ⟨b9, 2, none⟩ = _ := (blk_cell HB9Q.out 2).trans rfl
                have HS2 : Aside0 (∀ w3, Pair w3 w ZA w.heap.size h (L ++ xl.take (manyOf L.length xl.length)) L → Kept wq.drew w3 ZA → _) := ⟨fun w3 hP3 hK3 => p_send2 hP3 Am nm cm xl HNM.out (Kd.C_kept_came heap28 HR2.out hP3.base hP3.old) (by have := HNM.out; omega) HSM.out hLl⟩
                have HB9A := Aside0.mk hb9A
                clear hall hPA hZA hb9A hmA hB9q
                go_wp2
                refine start_ (n := 9) (S := fun w' => w'.cell? ⟨b9, 2, none⟩ = some (.slice Am nm cm)) (ds := [6]) #[false, false, false, false, false, false, false, false, false] (by kernel_rfl) rfl rfl (c92) (fun hHeld => ?_)
                refine pure_ (i := 0) (N := some 121) (v := ?_) (a' := ?_) #[true, false, false, false, false, false, false, false, false] rfl rfl (by kernel_rfl) (fun _ _ _ h => h) (Or.inl ⟨by rfl, ?_⟩) ?_ ?_
                rotate_left
                · intro w'
                  go_simp
                  with_reducible rfl
                rotate_left
                · simp only [Act.put, List.setIfInBounds_toArray, List.set_cons_zero, List.set_cons_succ, i64_w, i32_w]
                  rfl
                refine pure_ (i := 1) (N := some 122) (v := ?_) (a' := ?_) #[true, true, false, false, false, false, false, false, false] rfl rfl (by kernel_rfl) (fun _ _ _ h => h) (Or.inl ⟨by rfl, ?_⟩) ?_ ?_
                rotate_left
                · intro w'
                  go_simp
                  with_reducible rfl
                rotate_left
                · simp only [Act.put, List.setIfInBounds_toArray, List.set_cons_zero, List.set_cons_succ, i64_w, i32_w]
                  rfl
                refine pure_ (i := 3) (N := some 124) (v := ?_) (a' := ?_) #[true, true, false, true, false, false, false, false, false] rfl rfl (by kernel_rfl) (fun _ _ _ h => h) (Or.inl ⟨by rfl, ?_⟩) ?_ ?_
                rotate_left
                · intro w'
                  go_simp
                  with_reducible rfl
                rotate_left
                · simp only [Act.put, List.setIfInBounds_toArray, List.set_cons_zero, List.set_cons_succ, i64_w, i32_w]
                  rfl
                refine pure_ (i := 4) (N := some 125) (v := ?_) (a' := ?_) #[true, true, false, true, true, false, false, false, false] rfl rfl (by kernel_rfl) (fun _ _ _ h => h) (Or.inl ⟨by rfl, ?_⟩) ?_ ?_
                rotate_left
                · intro w'
                  go_simp
                  with_reducible rfl
                rotate_left
                · simp only [Act.put, List.setIfInBounds_toArray, List.set_cons_zero, List.set_cons_succ, i64_w, i32_w]
                  rfl
                refine take_ (i := 5) (N := some 126) (v := ?_) (a' := ?_) #[true, true, false, true, true, true, false, false, false] rfl rfl (by kernel_rfl) (fun _ _ _ h => h) (Or.inl ⟨by rfl, ?_⟩) hHeld ?_ ?_
                rotate_left
                · intro w' s0
                  go_simp
                  with_reducible rfl
                rotate_left
                · simp only [Act.put, List.setIfInBounds_toArray, List.set_cons_zero, List.set_cons_succ, i64_w, i32_w]
                  rfl
                refine one_ (i := 2) (N := some 123) #[true, true, true, true, true, true, false, false, false] rfl rfl (by kernel_rfl) (by decide) (fun K hK => ?_)
                refine goes_ Try.func9 (by kernel_rfl) rfl #[.pointer (some ⟨w.heap.size, 0, none⟩), .slice A11 nm c11] (by rfl) rfl rfl (by simp only [List.map_toArray, List.map_cons, List.map_nil]; rfl) ?_
                with_reducible refine (HS1.out).mono ?_
                rintro e w3 ⟨rfl, hP3, hK3⟩
                refine ⟨_, rfl, ?_⟩
                refine hK.out _ _ (HC3.out w3 hK3) (fun hHeld => ?_)
                clear hK K
                refine norm_ (a' := ?_) ?_ ?_
                rotate_left
                · show Act.put _ (some 123) _ = _
                  simp only [Act.put, List.setIfInBounds_toArray, List.set_cons_zero, List.set_cons_succ, i64_w, i32_w]
                  rfl
                refine last_ (i := 6) (N := some 127) #[true, true, true, true, true, true, true, false, false] rfl rfl (by kernel_rfl) (by decide) (fun K hK => ?_)
                refine goes_ Try.func16 (by kernel_rfl) rfl #[.pointer (some ⟨h, 0, none⟩), .slice Am nm cm] (by rfl) rfl rfl (by simp only [List.map_toArray, List.map_cons, List.map_nil]; rfl) ?_
                with_reducible refine (HS2.out w3 hP3 hK3).mono ?_
                rintro e w4 ⟨rfl, hP4, hK4⟩
                refine ⟨_, rfl, ?_⟩
                refine hK.out _ _ ?_
                clear hK K
                refine norm_ (a' := ?_) ?_ ?_
                rotate_left
                · show Act.put _ (some 127) _ = _
                  simp only [Act.put, List.setIfInBounds_toArray, List.set_cons_zero, List.set_cons_succ, i64_w, i32_w]
                  rfl
                refine pure_ (i := 7) (N := some 128) (v := ?_) (a' := ?_) #[true, true, true, true, true, true, true, true, false] rfl rfl (by kernel_rfl) (fun _ _ _ h => h) (Or.inl ⟨by rfl, ?_⟩) ?_ ?_
                rotate_left
                · intro w'
                  go_simp
                  with_reducible rfl
                rotate_left
                · simp only [Act.put, List.setIfInBounds_toArray, List.set_cons_zero, List.set_cons_succ, i64_w, i32_w]
                  rfl
                refine pure_ (i := 8) (N := some 10) (v := ?_) (a' := ?_) #[true, true, true, true, true, true, true, true, true] rfl rfl (by kernel_rfl) (fun _ _ _ h => h) (Or.inl ⟨by rfl, ?_⟩) ?_ ?_
                rotate_left
                · intro w'
                  go_simp
                  with_reducible rfl
                rotate_left
                · simp only [Act.put, List.setIfInBounds_toArray, List.set_cons_zero, List.set_cons_succ, i64_w, i32_w]
                  rfl
                refine done_ (by kernel_rfl) ?_
                clear hHeld
                have hKx : Kept wq w4 ZA := (Kept.refl wq ZA).drew.then_ (hK3.then_ hK4 (fun _ e => .inl e)) (fun _ e => .inl e)
                have hS4 : Kd.S k28 28 w4 w.heap.size (fun q => W9.heap.size ≤ q ∧ q < wq.heap.size) (.slice A11 nm c11) xl := Kd.S_step (Kd.S_mono (Kd.S_bound HM.out) (fun q hq => ⟨hq.1, hq.2.2.1⟩)) (fun q ho hlt => hKx.2 q hlt (HMA.out q ho.1 ho.2))
                have hB94 : w4.heap[b9]? = _ := (hKx.2 b9 (by have := HZS.out; omega) HB9A.out).trans HB9Q.out
                have HB94 := Aside0.mk hB94
                have HP4 := Aside0.mk hP4
                obtain ⟨f, hRf⟩ := hS4
                have HRF := Aside0.mk hRf
                have hw4s := hKx.1
                clear hP3 hK3 hP4 hK4 hKx hRf hB94
                go_wp2
                go_loopg [13] nm (fun gk s13 wz => ∃ (k : Nat), k ≤ nm ∧ nm - k ≤ gk ∧ s13 = .int .i64 k ∧ Aside0 (Kept w4 wz (fun q => ((W9.heap.size ≤ q ∧ q < wq.heap.size) ∧ some q ≠ (Value.slice A11 nm c11).ownBlock) ∧ f q < k)) ∧ Aside0 (Below w.heap.size w wz))
                case atStart => exact ⟨0, Nat.zero_le _, by omega, rfl, ⟨Kept.refl _ _⟩, ⟨HP4.out.base⟩⟩
                case round =>
                  obtain ⟨k, hk, hgj, rfl, HKZ, HBZ⟩ := hrel
                  obtain ⟨wz, rfl⟩ : ∃ wz, wz = wr := ⟨_, rfl⟩
                  by_cases hkn : k < nm
                  · obtain ⟨gk, rfl⟩ : ∃ q, gk = q + 1 := ⟨gk - 1, by omega⟩
                    have hkl : k < xl.length := by have := HNM.out; omega
                    have hC := HR2.out
                    rw [← HNM.out] at hC
                    obtain ⟨am, B2, d2, rfl, hy0, hy1, hy2, hd2, hrd⟩ := at_T28 hC (k : Int) (by omega) (by omega)
                    simp only [Int.toNat_natCast] at hy0 hy1 hy2
                    obtain ⟨g1, e1, hA1, _⟩ := Kd.R_form HRF.out (by rw [List.length_zipIdx]; omega)
                    injection hA1 with hA1 hAn hA2
                    subst hA1
                    subst hA2
                    clear hAn
                    obtain ⟨cs, hcs, hMM, hcell⟩ := Kd.R_getA HRF.out (z28, 0) (k : Int) (by omega) (by omega)
                    have hgd : xl.zipIdx.getD (k : Int).toNat (z28, 0) = (rd_T28 xl (k : Int), k) := by
                      unfold rd_T28
                      rw [Int.toNat_natCast, List.getD_eq_getElem?_getD, List.getElem?_zipIdx, List.getElem?_eq_getElem hkl, List.getD_eq_getElem?_getD, List.getElem?_eq_getElem hkl]
                      simp
                    rw [hgd] at hMM
                    have hyl : (rd_T28 xl (k : Int)).f2.length ≤ 140737488351232 := HSM.out _ (rd_mem hkl)
                    clear hC hgd
                    generalize rd_T28 xl (k : Int) = y at *
                    obtain ⟨y0, y1, yd⟩ := y
                    simp only at hy0 hy1 hy2 hd2 hrd hyl
                    obtain ⟨vD, rfl, hRD⟩ := k28_openM hMM
                    simp only at hRD
                    obtain ⟨D2, e2, rfl⟩ := Kd.R_slice hRD
                    have z0 := hcell 0 _ rfl
                    have z1 := hcell 1 _ rfl
                    have z2 := hcell 2 _ rfl
                    simp only [Addr.add_lit, Nat.add_zero, Nat.zero_add, show (Kd.tag f k28).sz = 3 from rfl, Int.toNat_natCast] at z0 z1 z2
                    have hRZ := R_reads_step hRD HKZ.out (fun q hq e => by have := hq.2; have := e.2; omega)
                    have hg1 : wz.heap[g1]? = w4.heap[g1]? := HKZ.out.2 g1 (Kd.R_lt HRF.out g1 rfl) (fun e => e.1.2 rfl)
                    have hb9z : wz.heap[b9]? = _ := (HKZ.out.2 b9 (by have := HZS.out; omega) (fun e => by have := e.1.1.1; have := HZS.out; omega)).trans HB94.out
                    obtain ⟨ny, hny⟩ : ∃ ny, ny = yd.length := ⟨_, rfl⟩
                    have HRZ := Aside0.mk hRZ
                    have hone := haystacklaw17_one.calls (yd.length + 1) y0 y1 D2 e2 yd y0 y1 B2 d2 yd true wz.drew (Kd.R_reads' (Kd.R_drew hRZ)).2.2 (Kd.R_reads' hRZ).2.1 (Kd.Heap.C (Kd.heap_int _) (fun q hq => HBZ.out.block q hq) hrd) hd2 (one_refl y0 y1 yd (by omega))
                    rw [← hny] at hone hy2 z2 HRZ
                    have HONE := Aside0.mk hone
                    have m0 : wz.drew.cell? ⟨g1, k * 3, none⟩ = some (.int .i64 y0) := (cell_same hg1 _).trans z0
                    have m1 : wz.drew.cell? ⟨g1, k * 3 + 1, none⟩ = some (.int .i64 y1) := (cell_same hg1 _).trans z1
                    have m2 : wz.drew.cell? ⟨g1, k * 3 + 2, none⟩ = some (.slice D2 ny e2) := (cell_same hg1 _).trans z2
                    have c92 : wz.drew.cell? ⟨b9, 2, none⟩ = some (.slice (some am) nm cm) := (blk_cell hb9z 2).trans rfl
                    have cy0 : wz.drew.cell? (am.add (k * 3)) = some (.int .i64 y0) := cell_below hy0 (bdrew HBZ.out)
                    have cy1 : wz.drew.cell? ⟨(am.add (k * 3)).block, (am.add (k * 3)).off + 1, none⟩ = some (.int .i64 y1) := cell_below hy1 (bdrew HBZ.out)
                    have cy2 : wz.drew.cell? ⟨(am.add (k * 3)).block, (am.add (k * 3)).off + 2, none⟩ = some (.slice B2 ny d2) := cell_below hy2 (bdrew HBZ.out)
                    have HNY := Aside0.mk hny
                    have HYL := Aside0.mk hyl
                    clear hone hRZ hg1 hb9z z0 z1 z2 hcell hMM hRD hrd hy0 hy1 hy2 hyl hny hcs
                    go_wp2
                    refine start_ (n := 11) (S := fun w' => w'.cell? ⟨g1, k * 3, none⟩ = some (.int .i64 y0) ∧ w'.cell? ⟨g1, k * 3 + 1, none⟩ = some (.int .i64 y1) ∧ w'.cell? ⟨g1, k * 3 + 2, none⟩ = some (.slice D2 ny e2) ∧ w'.cell? ⟨b9, 2, none⟩ = some (.slice (some am) nm cm) ∧ w'.cell? (am.add (k * 3)) = some (.int .i64 y0) ∧ w'.cell? ⟨(am.add (k * 3)).block, (am.add (k * 3)).off + 1, none⟩ = some (.int .i64 y1) ∧ w'.cell? ⟨(am.add (k * 3)).block, (am.add (k * 3)).off + 2, none⟩ = some (.slice B2 ny d2)) (ds := [9]) #[false, false, false, false, false, false, false, false, false, false, false] (by kernel_rfl) rfl rfl ⟨m0, m1, m2, c92, cy0, cy1, cy2⟩ (fun hHeld => ?_)
                    refine pure_ (i := 0) (N := some 135) (v := ?_) (a' := ?_) #[true, false, false, false, false, false, false, false, false, false, false] rfl rfl (by kernel_rfl) (fun _ _ _ h => h) (Or.inl ⟨by rfl, ?_⟩) ?_ ?_
                    rotate_left
                    · intro w'
                      go_simp
                      with_reducible rfl
                    rotate_left
                    · simp only [Act.put, List.setIfInBounds_toArray, List.set_cons_zero, List.set_cons_succ, i64_w, i32_w]
                      rfl
                    refine pure_ (i := 1) (N := some 136) (v := ?_) (a' := ?_) #[true, true, false, false, false, false, false, false, false, false, false] rfl rfl (by kernel_rfl) (fun _ _ _ h => h) (Or.inl ⟨by rfl, ?_⟩) ?_ ?_
                    rotate_left
                    · intro w'
                      go_simp
                      with_reducible rfl
                    rotate_left
                    · simp only [Act.put, List.setIfInBounds_toArray, List.set_cons_zero, List.set_cons_succ, i64_w, i32_w]
                      rfl
                    refine pure_ (i := 2) (N := some 137) (v := ?_) (a' := ?_) #[true, true, true, false, false, false, false, false, false, false, false] rfl rfl (by kernel_rfl) (fun _ _ _ h => h) (Or.inl ⟨by rfl, ?_⟩) ?_ ?_
                    rotate_left
                    · intro w'
                      go_simp
                      with_reducible rfl
                    rotate_left
                    · simp only [Act.put, List.setIfInBounds_toArray, List.set_cons_zero, List.set_cons_succ, i64_w, i32_w]
                      rfl
                    refine pure_ (i := 4) (N := some 139) (v := ?_) (a' := ?_) #[true, true, true, false, true, false, false, false, false, false, false] rfl rfl (by kernel_rfl) (fun _ _ _ h => h) (Or.inl ⟨by rfl, ?_⟩) ?_ ?_
                    rotate_left
                    · intro w'
                      go_simp
                      with_reducible rfl
                    rotate_left
                    · simp only [Act.put, List.setIfInBounds_toArray, List.set_cons_zero, List.set_cons_succ, i64_w, i32_w]
                      rfl
                    refine pure_ (i := 6) (N := some 141) (v := ?_) (a' := ?_) #[true, true, true, false, true, false, true, false, false, false, false] rfl rfl (by kernel_rfl) (fun _ _ _ h => h) (Or.inl ⟨by rfl, ?_⟩) ?_ ?_
                    rotate_left
                    · intro w'
                      go_simp
                      with_reducible rfl
                    rotate_left
                    · simp only [Act.put, List.setIfInBounds_toArray, List.set_cons_zero, List.set_cons_succ, i64_w, i32_w]
                      rfl
                    refine take_ (i := 3) (N := some 138) (v := ?_) (a' := ?_) #[true, true, true, true, true, false, true, false, false, false, false] rfl rfl (by kernel_rfl) (fun _ _ _ h => h) (Or.inl ⟨by rfl, ?_⟩) hHeld ?_ ?_
                    rotate_left
                    · rintro w' ⟨s0, s1, s2, s3, s4, s5, s6⟩
                      go_simp
                      with_reducible rfl
                    rotate_left
                    · simp only [Act.put, List.setIfInBounds_toArray, List.set_cons_zero, List.set_cons_succ, i64_w, i32_w]
                      rfl
                    refine take_ (i := 5) (N := some 140) (v := ?_) (a' := ?_) #[true, true, true, true, true, true, true, false, false, false, false] rfl rfl (by kernel_rfl) (fun _ _ _ h => h) (Or.inl ⟨by rfl, ?_⟩) hHeld ?_ ?_
                    rotate_left
                    · rintro w' ⟨s0, s1, s2, s3, s4, s5, s6⟩
                      go_simp
                      with_reducible rfl
                    rotate_left
                    · simp only [Act.put, List.setIfInBounds_toArray, List.set_cons_zero, List.set_cons_succ, i64_w, i32_w]
                      rfl
                    refine pure_ (i := 7) (N := some 142) (v := ?_) (a' := ?_) #[true, true, true, true, true, true, true, true, false, false, false] rfl rfl (by kernel_rfl) (fun _ _ _ h => h) (Or.inl ⟨by rfl, ?_⟩) ?_ ?_
                    rotate_left
                    · intro w'
                      go_simp
                      with_reducible rfl
                    rotate_left
                    · simp only [Act.put, List.setIfInBounds_toArray, List.set_cons_zero, List.set_cons_succ, i64_w, i32_w]
                      rfl
                    refine take_ (i := 8) (N := some 143) (v := ?_) (a' := ?_) #[true, true, true, true, true, true, true, true, true, false, false] rfl rfl (by kernel_rfl) (fun _ _ _ h => h) (Or.inl ⟨by rfl, ?_⟩) hHeld ?_ ?_
                    rotate_left
                    · rintro w' ⟨s0, s1, s2, s3, s4, s5, s6⟩
                      go_simp
                      with_reducible rfl
                    rotate_left
                    · simp only [Act.put, List.setIfInBounds_toArray, List.set_cons_zero, List.set_cons_succ, i64_w, i32_w]
                      rfl
                    refine last_ (i := 9) (N := some 144) #[true, true, true, true, true, true, true, true, true, true, false] rfl rfl (by kernel_rfl) (by decide) (fun K hK => ?_)
                    refine goes_ Try.func17 (by kernel_rfl) rfl #[.agg #[.int .i64 y0, .int .i64 y1, .slice D2 ny e2], .agg #[.int .i64 y0, .int .i64 y1, .slice B2 ny d2]] (by rfl) rfl rfl (by simp only [List.map_toArray, List.map_cons, List.map_nil]; rfl) ?_
                    with_reducible refine (HONE.out).mono ?_
                    rintro e w3 ⟨rfl, hb3⟩
                    refine ⟨_, rfl, ?_⟩
                    refine hK.out _ _ ?_
                    clear hK K
                    refine norm_ (a' := ?_) ?_ ?_
                    rotate_left
                    · show Act.put _ (some 144) _ = _
                      simp only [Act.put, List.setIfInBounds_toArray, List.set_cons_zero, List.set_cons_succ, i64_w, i32_w]
                      rfl
                    refine pure_ (i := 10) (N := some 145) (v := ?_) (a' := ?_) #[true, true, true, true, true, true, true, true, true, true, true] rfl rfl (by kernel_rfl) (fun _ _ _ h => h) (Or.inl ⟨by rfl, ?_⟩) ?_ ?_
                    rotate_left
                    · intro w'
                      go_simp
                      with_reducible rfl
                    rotate_left
                    · simp only [Act.put, List.setIfInBounds_toArray, List.set_cons_zero, List.set_cons_succ, i64_w, i32_w]
                      rfl
                    refine done_ (by kernel_rfl) ?_
                    clear hHeld
                    have n2 : w3.cell? ⟨g1, k * 3 + 2, none⟩ = some (.slice D2 ny e2) := cell_below m2 hb3
                    clear m0 m1 m2 c92 cy0 cy1 cy2
                    have hbz3 : Below wz.heap.size wz w3 := (bdrew (Below.refl _ _)).trans hb3
                    have HS3 := Aside0.mk (spoil_calls (w := w3) (w0 := w) (Kd.R_below HRZ.out hbz3) (HBZ.out.trans (hbz3.mono HBZ.out.size)) HYL.out)
                    have HBZ3 := Aside0.mk hbz3
                    clear hb3 hbz3
                    go_wp2_with fail
                    refine HS3.out.mono ?_
                    rintro e w5 ⟨rfl, hK5, hB5⟩
                    have hK6 : Kept w4 w5 (fun q => ((W9.heap.size ≤ q ∧ q < wq.heap.size) ∧ some q ≠ (Value.slice (some ⟨g1, 0, none⟩) nm c11).ownBlock) ∧ f q < k + 1) :=
                      ((kept_mono HKZ.out (fun q hq => ⟨hq.1, by have := hq.2; omega⟩)).below HBZ3.out).then_ hK5 (fun q hq => .inl (by have := HRZ.out.1 q hq.symm; exact ⟨this.1, by have := this.2; omega⟩))
                    have HK6 := Aside0.mk hK6
                    have HB5 := Aside0.mk hB5
                    clear hK5 hB5 hK6 n2
                    go_wp2
                    go_roundg gk
                    case measure => omega
                    case rel => exact ⟨k + 1, by omega, by omega, by go_num, HK6, HB5⟩
                  · have hkm2 : nm = k := by omega
                    subst hkm2
                    have hPZ := (HP4.out.kept HKZ.out (fun q hq => HMA.out q hq.1.1.1 hq.1.1.2) HBZ.out)
                    have HPT : Aside0 (Pair wz w (fun k => w.heap.size ≤ k) w.heap.size h LT LT) := ⟨by
                      rw [HLTE.out]
                      exact hPZ.zone (fun k _ hk => hPZ.old k hk) (fun k hk => Nat.le_trans hPZ.base.size hk) (fun k hk => hk)⟩
                    clear hPZ
                    obtain ⟨nL, hnL⟩ : ∃ nL, nL = LT.length := ⟨_, rfl⟩
                    obtain ⟨Ah, ch, chh⟩ := HPT.out.drew.cell
                    have HLEN := Aside0.mk (p_len HPT.out.drew)
                    rw [← hnL] at chh HLEN
                    clear hnL
                    go_wp2
                    refine start_ (n := 12) (S := fun w' => w'.cell? ⟨h, 0, none⟩ = some (.slice Ah nL ch)) (ds := []) #[false, false, false, false, false, false, false, false, false, false, false, false] (by kernel_rfl) rfl rfl (chh) (fun hHeld => ?_)
                    refine pure_ (i := 0) (N := some 212) (v := ?_) (a' := ?_) #[true, false, false, false, false, false, false, false, false, false, false, false] rfl rfl (by kernel_rfl) (fun _ _ _ h => h) (Or.inl ⟨by rfl, ?_⟩) ?_ ?_
                    rotate_left
                    · intro w'
                      go_simp
                      with_reducible rfl
                    rotate_left
                    · simp only [Act.put, List.setIfInBounds_toArray, List.set_cons_zero, List.set_cons_succ, i64_w, i32_w]
                      rfl
                    refine pure_ (i := 1) (N := some 213) (v := ?_) (a' := ?_) #[true, true, false, false, false, false, false, false, false, false, false, false] rfl rfl (by kernel_rfl) (fun _ _ _ h => h) (Or.inl ⟨by rfl, ?_⟩) ?_ ?_
                    rotate_left
                    · intro w'
                      go_simp
                      with_reducible rfl
                    rotate_left
                    · simp only [Act.put, List.setIfInBounds_toArray, List.set_cons_zero, List.set_cons_succ, i64_w, i32_w]
                      rfl
                    refine pure_ (i := 2) (N := some 214) (v := ?_) (a' := ?_) #[true, true, true, false, false, false, false, false, false, false, false, false] rfl rfl (by kernel_rfl) (fun _ _ _ h => h) (Or.inl ⟨by rfl, ?_⟩) ?_ ?_
                    rotate_left
                    · intro w'
                      go_simp
                      with_reducible rfl
                    rotate_left
                    · simp only [Act.put, List.setIfInBounds_toArray, List.set_cons_zero, List.set_cons_succ, i64_w, i32_w]
                      rfl
                    refine pure_ (i := 3) (N := some 215) (v := ?_) (a' := ?_) #[true, true, true, true, false, false, false, false, false, false, false, false] rfl rfl (by kernel_rfl) (fun _ _ _ h => h) (Or.inl ⟨by rfl, ?_⟩) ?_ ?_
                    rotate_left
                    · intro w'
                      go_simp
                      with_reducible rfl
                    rotate_left
                    · simp only [Act.put, List.setIfInBounds_toArray, List.set_cons_zero, List.set_cons_succ, i64_w, i32_w]
                      rfl
                    refine pure_ (i := 5) (N := some 217) (v := ?_) (a' := ?_) #[true, true, true, true, false, true, false, false, false, false, false, false] rfl rfl (by kernel_rfl) (fun _ _ _ h => h) (Or.inl ⟨by rfl, ?_⟩) ?_ ?_
                    rotate_left
                    · intro w'
                      go_simp
                      with_reducible rfl
                    rotate_left
                    · simp only [Act.put, List.setIfInBounds_toArray, List.set_cons_zero, List.set_cons_succ, i64_w, i32_w]
                      rfl
                    refine pure_ (i := 6) (N := some 218) (v := ?_) (a' := ?_) #[true, true, true, true, false, true, true, false, false, false, false, false] rfl rfl (by kernel_rfl) (fun _ _ _ h => h) (Or.inl ⟨by rfl, ?_⟩) ?_ ?_
                    rotate_left
                    · intro w'
                      go_simp
                      with_reducible rfl
                    rotate_left
                    · simp only [Act.put, List.setIfInBounds_toArray, List.set_cons_zero, List.set_cons_succ, i64_w, i32_w]
                      rfl
                    refine pure_ (i := 7) (N := some 219) (v := ?_) (a' := ?_) #[true, true, true, true, false, true, true, true, false, false, false, false] rfl rfl (by kernel_rfl) (fun _ _ _ h => h) (Or.inl ⟨by rfl, ?_⟩) ?_ ?_
                    rotate_left
                    · intro w'
                      go_simp
                      with_reducible rfl
                    rotate_left
                    · simp only [Act.put, List.setIfInBounds_toArray, List.set_cons_zero, List.set_cons_succ, i64_w, i32_w]
                      rfl
                    refine take_ (i := 8) (N := some 220) (v := ?_) (a' := ?_) #[true, true, true, true, false, true, true, true, true, false, false, false] rfl rfl (by kernel_rfl) (fun _ _ _ h => h) (Or.inl ⟨by rfl, ?_⟩) hHeld ?_ ?_
                    rotate_left
                    · intro w' s0
                      go_simp
                      with_reducible rfl
                    rotate_left
                    · simp only [Act.put, List.setIfInBounds_toArray, List.set_cons_zero, List.set_cons_succ, i64_w, i32_w]
                      rfl
                    refine pure_ (i := 9) (N := some 221) (v := ?_) (a' := ?_) #[true, true, true, true, false, true, true, true, true, true, false, false] rfl rfl (by kernel_rfl) (fun _ _ _ h => h) (Or.inl ⟨by rfl, ?_⟩) ?_ ?_
                    rotate_left
                    · intro w'
                      go_simp
                      with_reducible rfl
                    rotate_left
                    · simp only [Act.put, List.setIfInBounds_toArray, List.set_cons_zero, List.set_cons_succ, i64_w, i32_w]
                      rfl
                    refine one_ (i := 4) (N := some 216) #[true, true, true, true, true, true, true, true, true, true, false, false] rfl rfl (by kernel_rfl) (by decide) (fun K hK => ?_)
                    refine goes_ Try.func13 (by kernel_rfl) rfl #[.pointer (some ⟨w.heap.size, 0, none⟩)] (by rfl) rfl rfl (by simp only [List.map_toArray, List.map_cons, List.map_nil]; rfl) ?_
                    with_reducible refine (HLEN.out).mono ?_
                    rintro e w3 ⟨rfl, rfl⟩
                    refine ⟨_, rfl, ?_⟩
                    refine hK.out _ _ (hHeld) (fun hHeld => ?_)
                    clear hK K
                    refine norm_ (a' := ?_) ?_ ?_
                    rotate_left
                    · show Act.put _ (some 216) _ = _
                      simp only [Act.put, List.setIfInBounds_toArray, List.set_cons_zero, List.set_cons_succ, i64_w, i32_w]
                      rfl
                    refine pure_ (i := 10) (N := some 222) (v := ?_) (a' := ?_) #[true, true, true, true, true, true, true, true, true, true, true, false] rfl rfl (by kernel_rfl) (fun _ _ _ h => h) (Or.inl ⟨by rfl, ?_⟩) ?_ ?_
                    rotate_left
                    · intro w'
                      go_simp
                      with_reducible rfl
                    rotate_left
                    · simp only [Act.put, List.setIfInBounds_toArray, List.set_cons_zero, List.set_cons_succ, i64_w, i32_w]
                      rfl
                    refine pure_ (i := 11) (N := some 223) (v := ?_) (a' := ?_) #[true, true, true, true, true, true, true, true, true, true, true, true] rfl rfl (by kernel_rfl) (fun _ _ _ h => h) (Or.inl ⟨by rfl, ?_⟩) ?_ ?_
                    rotate_left
                    · intro w'
                      go_simp
                      with_reducible rfl
                    rotate_left
                    · simp only [Act.put, List.setIfInBounds_toArray, List.set_cons_zero, List.set_cons_succ, i64_w, i32_w]
                      rfl
                    refine done_ (by kernel_rfl) ?_
                    clear hHeld chh
                    go_wp2
                    go_roundg gO
                    case measure => omega
                    case rel => exact ⟨i + 1, LT, by omega, by omega, by go_num, hLT, ⟨HPT.out.drew⟩, HST⟩
          by_cases h2 : x0 = 2
          · subst h2
            as_aux_lemma =>
            obtain ⟨LT, hLTe⟩ : ∃ LT, LT = giveL x1 L := ⟨_, rfl⟩
            have hsm := give_small HS.out hLl x1
            have hq1 := p_give1 HP9.out x1
            have hq2 : ∀ W Z L1, Pair W w Z w.heap.size h L1 L → _ := fun W Z L1 hP => p_give2 hP x1 hLl
            rw [← hLTe] at hsm hq1
            simp only [← hLTe] at hq2
            generalize giveX x1 L = X at *
            obtain ⟨X0, X1, X2⟩ := X
            have hLT := hsm.2.1
            have HST := Aside0.mk hsm.1
            have hXl : X2.length ≤ 140737488351232 := hsm.2.2
            have HQ2 := Aside0.mk hq2
            have HQ1 := Aside0.mk hq1
            obtain ⟨nX, hnX⟩ : ∃ nX, nX = X2.length := ⟨_, rfl⟩
            obtain ⟨bL, hbL⟩ : ∃ bL, bL = decide (0 < L.length) := ⟨_, rfl⟩
            rw [← hnX] at hXl
            rw [← hbL] at HQ1
            simp only [← hbL] at HQ2
            have HNX := Aside0.mk hnX
            clear hsm hLTe hq1 hq2 hbL hnX
            go_wp2_with fail
            rw [← HW9.out, ← HBBE.out]
            refine HQ1.out.mono ?_
            rintro e w3 ⟨A3, c3, okm, rfl, hR3, hok3, hP3, hK3⟩
            rw [← HNX.out] at hR3 ⊢
            have hs3 := hK3.1
            have h93 : w3.heap[b9]? = _ := (hK3.2 b9 (by have := HZS.out; omega) HNZ.out).trans HB9.out
            obtain ⟨W4, hW4⟩ : ∃ W4, W4 = w3.alloc (.cells #[.int .i64 X0, .int .i64 X1, .slice A3 nX c3] 28) := ⟨_, rfl⟩
            have hb4 : Below w3.heap.size w3 W4 := by rw [hW4]; exact (Below.refl _ _).alloc (Nat.le_refl _) _
            have hm4 : W4.heap[w3.heap.size]? = some (.cells #[.int .i64 X0, .int .i64 X1, .slice A3 nX c3] 28) := by rw [hW4]; exact heap_alloc_new w3 _
            have hz4 : W4.heap.size = w3.heap.size + 1 := by rw [hW4]; simp
            have h94 : W4.heap[b9]? = _ := (hb4.block b9 (by have := HZS.out; omega)).trans h93
            have hP4 := hP3.mark hb4
            obtain ⟨Z4, hZ4⟩ : ∃ Z4 : Nat → Prop, Z4 = fun k => ((Z9 k ∧ ¬ okm k) ∧ k < w3.heap.size) ∨ W4.heap.size ≤ k := ⟨_, rfl⟩
            rw [← hZ4] at hP4
            have hokZ : ∀ k, okm k → ¬ Z4 k := by
              intro k hk
              rw [hZ4]
              rintro (e | e)
              · exact e.1.2 hk
              · have := (hok3 k hk).2; omega
            have hmZ : ¬ Z4 w3.heap.size := by
              rw [hZ4]
              rintro (e | e)
              · omega
              · omega
            have c91 : W4.cell? ⟨b9, 1, none⟩ = _ := (blk_cell h94 1).trans rfl
            have HR3 := Aside0.mk (Kd.R_below hR3 hb4)
            have HP4 := Aside0.mk hP4
            have HM4 := Aside0.mk hm4
            have HOZ := Aside0.mk hokZ
            have HMZ := Aside0.mk hmZ
            have HZ4 := Aside0.mk hz4
            have HW4 := Aside0.mk hW4
            have hc91 : (w3.alloc (.cells #[.int .i64 X0, .int .i64 X1, .slice A3 nX c3] 28)).cell? ⟨b9, 1, none⟩ = some (.int .i64 x1) := by rw [← hW4]; exact c91
            clear hR3 hok3 hP3 hK3 h93 hb4 hm4 hz4 h94 hP4 hZ4 hokZ hmZ hW4 c91
            go_wp2_with fail
            rw [← HW4.out]
            refine (HQ2.out _ _ _ HP4.out).mono ?_
            rintro e w5 ⟨A5, c5, rfl, hC5, hc5, hP5, hK5⟩
            rw [← HNX.out] at hC5 hc5 ⊢
            have hm5 : w5.heap[w3.heap.size]? = _ := (hK5.2 w3.heap.size (by have := HZ4.out; omega) HMZ.out).trans HM4.out
            have hR5 := R_reads_step HR3.out hK5 (fun k hk => HOZ.out k hk)
            have hP6 := hP5.alloc (.cells #[.int .i64 X0, .int .i64 X1, .slice A5 nX c5] 28)
            have hm6 := blk_alloc hm5 (.cells #[.int .i64 X0, .int .i64 X1, .slice A5 nX c5] 28)
            have hR6 := Kd.R_alloc hR5 (.cells #[.int .i64 X0, .int .i64 X1, .slice A5 nX c5] 28)
            have hC6 := Kd.C_alloc hC5 (.cells #[.int .i64 X0, .int .i64 X1, .slice A5 nX c5] 28)
            obtain ⟨w6, hw6⟩ : ∃ w6, w6 = w5.alloc (.cells #[.int .i64 X0, .int .i64 X1, .slice A5 nX c5] 28) := ⟨_, rfl⟩
            rw [← hw6] at hP6 hm6 hR6 hC6
            have hone := haystacklaw17_one.calls (X2.length + 1) X0 X1 A3 c3 X2 X0 X1 A5 c5 X2 true w6 (Kd.R_reads' (HNX.out ▸ hR6)).2.2 (Kd.R_reads' (HNX.out ▸ hR6)).2.1 (HNX.out ▸ hC6) (HNX.out ▸ hc5) (one_refl X0 X1 X2 (by have := HNX.out; omega))
            rw [← HNX.out] at hone
            have HONE := Aside0.mk hone
            have HP6 := Aside0.mk hP6
            have HR6 := Aside0.mk hR6
            have M0 := (blk_cell hm6 0).trans rfl
            have M1 := (blk_cell hm6 1).trans rfl
            have M2 := (blk_cell hm6 2).trans rfl
            rw [hw6] at M0 M1 M2
            clear hC5 hc5 hP5 hK5 hm5 hR5 hP6 hm6 hR6 hC6 hone hc91
            go_wp2_with fail
            rw [← hw6]
            rw [← hw6] at M0 M1 M2
            clear hw6
            refine HONE.out.mono ?_
            rintro e w7 ⟨rfl, hb7⟩
            have N2 := cell_below M2 hb7
            have HP7 := Aside0.mk (HP6.out.below hb7)
            have HS7 := Aside0.mk (spoil_calls (w := w7) (w0 := w) (Kd.R_below HR6.out hb7) HP7.out.base (by have := HNX.out; omega))
            have HR7 := Aside0.mk (Kd.R_below HR6.out hb7)
            clear M0 M1 M2 hb7
            go_wp2_with fail
            refine HS7.out.mono ?_
            rintro e w8 ⟨rfl, hK8, hB8⟩
            have hP8 := HP7.out.kept hK8 (fun q hq => HOZ.out q (HR7.out.1 q hq.symm)) hB8
            have HPT : Aside0 (Pair w8 w (fun k => w.heap.size ≤ k) w.heap.size h LT LT) := ⟨hP8.zone (fun k _ hk => hP8.old k hk) (fun k hk => Nat.le_trans hP8.base.size hk) (fun k hk => hk)⟩
            clear hK8 hB8 hP8 N2
            obtain ⟨nL, hnL⟩ : ∃ nL, nL = LT.length := ⟨_, rfl⟩
            obtain ⟨Ah, ch, chh⟩ := HPT.out.drew.cell
            have HLEN := Aside0.mk (p_len HPT.out.drew)
            rw [← hnL] at chh HLEN
            clear hnL
            go_wp2
            refine start_ (n := 12) (S := fun w' => w'.cell? ⟨h, 0, none⟩ = some (.slice Ah nL ch)) (ds := []) #[false, false, false, false, false, false, false, false, false, false, false, false] (by kernel_rfl) rfl rfl (chh) (fun hHeld => ?_)
            refine pure_ (i := 0) (N := some 212) (v := ?_) (a' := ?_) #[true, false, false, false, false, false, false, false, false, false, false, false] rfl rfl (by kernel_rfl) (fun _ _ _ h => h) (Or.inl ⟨by rfl, ?_⟩) ?_ ?_
            rotate_left
            · intro w'
              go_simp
              with_reducible rfl
            rotate_left
            · simp only [Act.put, List.setIfInBounds_toArray, List.set_cons_zero, List.set_cons_succ, i64_w, i32_w]
              rfl
            refine pure_ (i := 1) (N := some 213) (v := ?_) (a' := ?_) #[true, true, false, false, false, false, false, false, false, false, false, false] rfl rfl (by kernel_rfl) (fun _ _ _ h => h) (Or.inl ⟨by rfl, ?_⟩) ?_ ?_
            rotate_left
            · intro w'
              go_simp
              with_reducible rfl
            rotate_left
            · simp only [Act.put, List.setIfInBounds_toArray, List.set_cons_zero, List.set_cons_succ, i64_w, i32_w]
              rfl
            refine pure_ (i := 2) (N := some 214) (v := ?_) (a' := ?_) #[true, true, true, false, false, false, false, false, false, false, false, false] rfl rfl (by kernel_rfl) (fun _ _ _ h => h) (Or.inl ⟨by rfl, ?_⟩) ?_ ?_
            rotate_left
            · intro w'
              go_simp
              with_reducible rfl
            rotate_left
            · simp only [Act.put, List.setIfInBounds_toArray, List.set_cons_zero, List.set_cons_succ, i64_w, i32_w]
              rfl
            refine pure_ (i := 3) (N := some 215) (v := ?_) (a' := ?_) #[true, true, true, true, false, false, false, false, false, false, false, false] rfl rfl (by kernel_rfl) (fun _ _ _ h => h) (Or.inl ⟨by rfl, ?_⟩) ?_ ?_
            rotate_left
            · intro w'
              go_simp
              with_reducible rfl
            rotate_left
            · simp only [Act.put, List.setIfInBounds_toArray, List.set_cons_zero, List.set_cons_succ, i64_w, i32_w]
              rfl
            refine pure_ (i := 5) (N := some 217) (v := ?_) (a' := ?_) #[true, true, true, true, false, true, false, false, false, false, false, false] rfl rfl (by kernel_rfl) (fun _ _ _ h => h) (Or.inl ⟨by rfl, ?_⟩) ?_ ?_
            rotate_left
            · intro w'
              go_simp
              with_reducible rfl
            rotate_left
            · simp only [Act.put, List.setIfInBounds_toArray, List.set_cons_zero, List.set_cons_succ, i64_w, i32_w]
              rfl
            refine pure_ (i := 6) (N := some 218) (v := ?_) (a' := ?_) #[true, true, true, true, false, true, true, false, false, false, false, false] rfl rfl (by kernel_rfl) (fun _ _ _ h => h) (Or.inl ⟨by rfl, ?_⟩) ?_ ?_
            rotate_left
            · intro w'
              go_simp
              with_reducible rfl
            rotate_left
            · simp only [Act.put, List.setIfInBounds_toArray, List.set_cons_zero, List.set_cons_succ, i64_w, i32_w]
              rfl
            refine pure_ (i := 7) (N := some 219) (v := ?_) (a' := ?_) #[true, true, true, true, false, true, true, true, false, false, false, false] rfl rfl (by kernel_rfl) (fun _ _ _ h => h) (Or.inl ⟨by rfl, ?_⟩) ?_ ?_
            rotate_left
            · intro w'
              go_simp
              with_reducible rfl
            rotate_left
            · simp only [Act.put, List.setIfInBounds_toArray, List.set_cons_zero, List.set_cons_succ, i64_w, i32_w]
              rfl
            refine take_ (i := 8) (N := some 220) (v := ?_) (a' := ?_) #[true, true, true, true, false, true, true, true, true, false, false, false] rfl rfl (by kernel_rfl) (fun _ _ _ h => h) (Or.inl ⟨by rfl, ?_⟩) hHeld ?_ ?_
            rotate_left
            · intro w' s0
              go_simp
              with_reducible rfl
            rotate_left
            · simp only [Act.put, List.setIfInBounds_toArray, List.set_cons_zero, List.set_cons_succ, i64_w, i32_w]
              rfl
            refine pure_ (i := 9) (N := some 221) (v := ?_) (a' := ?_) #[true, true, true, true, false, true, true, true, true, true, false, false] rfl rfl (by kernel_rfl) (fun _ _ _ h => h) (Or.inl ⟨by rfl, ?_⟩) ?_ ?_
            rotate_left
            · intro w'
              go_simp
              with_reducible rfl
            rotate_left
            · simp only [Act.put, List.setIfInBounds_toArray, List.set_cons_zero, List.set_cons_succ, i64_w, i32_w]
              rfl
            refine one_ (i := 4) (N := some 216) #[true, true, true, true, true, true, true, true, true, true, false, false] rfl rfl (by kernel_rfl) (by decide) (fun K hK => ?_)
            refine goes_ Try.func13 (by kernel_rfl) rfl #[.pointer (some ⟨w.heap.size, 0, none⟩)] (by rfl) rfl rfl (by simp only [List.map_toArray, List.map_cons, List.map_nil]; rfl) ?_
            with_reducible refine (HLEN.out).mono ?_
            rintro e w3 ⟨rfl, rfl⟩
            refine ⟨_, rfl, ?_⟩
            refine hK.out _ _ (hHeld) (fun hHeld => ?_)
            clear hK K
            refine norm_ (a' := ?_) ?_ ?_
            rotate_left
            · show Act.put _ (some 216) _ = _
              simp only [Act.put, List.setIfInBounds_toArray, List.set_cons_zero, List.set_cons_succ, i64_w, i32_w]
              rfl
            refine pure_ (i := 10) (N := some 222) (v := ?_) (a' := ?_) #[true, true, true, true, true, true, true, true, true, true, true, false] rfl rfl (by kernel_rfl) (fun _ _ _ h => h) (Or.inl ⟨by rfl, ?_⟩) ?_ ?_
            rotate_left
            · intro w'
              go_simp
              with_reducible rfl
            rotate_left
            · simp only [Act.put, List.setIfInBounds_toArray, List.set_cons_zero, List.set_cons_succ, i64_w, i32_w]
              rfl
            refine pure_ (i := 11) (N := some 223) (v := ?_) (a' := ?_) #[true, true, true, true, true, true, true, true, true, true, true, true] rfl rfl (by kernel_rfl) (fun _ _ _ h => h) (Or.inl ⟨by rfl, ?_⟩) ?_ ?_
            rotate_left
            · intro w'
              go_simp
              with_reducible rfl
            rotate_left
            · simp only [Act.put, List.setIfInBounds_toArray, List.set_cons_zero, List.set_cons_succ, i64_w, i32_w]
              rfl
            refine done_ (by kernel_rfl) ?_
            clear hHeld chh
            go_wp2
            go_roundg gO
            case measure => omega
            case rel => exact ⟨i + 1, LT, by omega, by omega, by go_num, hLT, ⟨HPT.out.drew⟩, HST⟩
          · obtain ⟨LT, hLTe⟩ : ∃ LT, LT = L := ⟨_, rfl⟩
            as_aux_lemma =>
            subst hLTe
            have hLT := hLl
            have HST := HS
            have HPT : Aside0 (Pair W9 w (fun k => w.heap.size ≤ k) w.heap.size h LT LT) := ⟨HP.out.below HBB.out⟩
            go_wp2
            rw [← HW9.out, ← HBBE.out]
            obtain ⟨nL, hnL⟩ : ∃ nL, nL = LT.length := ⟨_, rfl⟩
            obtain ⟨Ah, ch, chh⟩ := HPT.out.drew.cell
            have HLEN := Aside0.mk (p_len HPT.out.drew)
            rw [← hnL] at chh HLEN
            clear hnL
            go_wp2
            refine start_ (n := 12) (S := fun w' => w'.cell? ⟨h, 0, none⟩ = some (.slice Ah nL ch)) (ds := []) #[false, false, false, false, false, false, false, false, false, false, false, false] (by kernel_rfl) rfl rfl (chh) (fun hHeld => ?_)
            refine pure_ (i := 0) (N := some 212) (v := ?_) (a' := ?_) #[true, false, false, false, false, false, false, false, false, false, false, false] rfl rfl (by kernel_rfl) (fun _ _ _ h => h) (Or.inl ⟨by rfl, ?_⟩) ?_ ?_
            rotate_left
            · intro w'
              go_simp
              with_reducible rfl
            rotate_left
            · simp only [Act.put, List.setIfInBounds_toArray, List.set_cons_zero, List.set_cons_succ, i64_w, i32_w]
              rfl
            refine pure_ (i := 1) (N := some 213) (v := ?_) (a' := ?_) #[true, true, false, false, false, false, false, false, false, false, false, false] rfl rfl (by kernel_rfl) (fun _ _ _ h => h) (Or.inl ⟨by rfl, ?_⟩) ?_ ?_
            rotate_left
            · intro w'
              go_simp
              with_reducible rfl
            rotate_left
            · simp only [Act.put, List.setIfInBounds_toArray, List.set_cons_zero, List.set_cons_succ, i64_w, i32_w]
              rfl
            refine pure_ (i := 2) (N := some 214) (v := ?_) (a' := ?_) #[true, true, true, false, false, false, false, false, false, false, false, false] rfl rfl (by kernel_rfl) (fun _ _ _ h => h) (Or.inl ⟨by rfl, ?_⟩) ?_ ?_
            rotate_left
            · intro w'
              go_simp
              with_reducible rfl
            rotate_left
            · simp only [Act.put, List.setIfInBounds_toArray, List.set_cons_zero, List.set_cons_succ, i64_w, i32_w]
              rfl
            refine pure_ (i := 3) (N := some 215) (v := ?_) (a' := ?_) #[true, true, true, true, false, false, false, false, false, false, false, false] rfl rfl (by kernel_rfl) (fun _ _ _ h => h) (Or.inl ⟨by rfl, ?_⟩) ?_ ?_
            rotate_left
            · intro w'
              go_simp
              with_reducible rfl
            rotate_left
            · simp only [Act.put, List.setIfInBounds_toArray, List.set_cons_zero, List.set_cons_succ, i64_w, i32_w]
              rfl
            refine pure_ (i := 5) (N := some 217) (v := ?_) (a' := ?_) #[true, true, true, true, false, true, false, false, false, false, false, false] rfl rfl (by kernel_rfl) (fun _ _ _ h => h) (Or.inl ⟨by rfl, ?_⟩) ?_ ?_
            rotate_left
            · intro w'
              go_simp
              with_reducible rfl
            rotate_left
            · simp only [Act.put, List.setIfInBounds_toArray, List.set_cons_zero, List.set_cons_succ, i64_w, i32_w]
              rfl
            refine pure_ (i := 6) (N := some 218) (v := ?_) (a' := ?_) #[true, true, true, true, false, true, true, false, false, false, false, false] rfl rfl (by kernel_rfl) (fun _ _ _ h => h) (Or.inl ⟨by rfl, ?_⟩) ?_ ?_
            rotate_left
            · intro w'
              go_simp
              with_reducible rfl
            rotate_left
            · simp only [Act.put, List.setIfInBounds_toArray, List.set_cons_zero, List.set_cons_succ, i64_w, i32_w]
              rfl
            refine pure_ (i := 7) (N := some 219) (v := ?_) (a' := ?_) #[true, true, true, true, false, true, true, true, false, false, false, false] rfl rfl (by kernel_rfl) (fun _ _ _ h => h) (Or.inl ⟨by rfl, ?_⟩) ?_ ?_
            rotate_left
            · intro w'
              go_simp
              with_reducible rfl
            rotate_left
            · simp only [Act.put, List.setIfInBounds_toArray, List.set_cons_zero, List.set_cons_succ, i64_w, i32_w]
              rfl
            refine take_ (i := 8) (N := some 220) (v := ?_) (a' := ?_) #[true, true, true, true, false, true, true, true, true, false, false, false] rfl rfl (by kernel_rfl) (fun _ _ _ h => h) (Or.inl ⟨by rfl, ?_⟩) hHeld ?_ ?_
            rotate_left
            · intro w' s0
              go_simp
              with_reducible rfl
            rotate_left
            · simp only [Act.put, List.setIfInBounds_toArray, List.set_cons_zero, List.set_cons_succ, i64_w, i32_w]
              rfl
            refine pure_ (i := 9) (N := some 221) (v := ?_) (a' := ?_) #[true, true, true, true, false, true, true, true, true, true, false, false] rfl rfl (by kernel_rfl) (fun _ _ _ h => h) (Or.inl ⟨by rfl, ?_⟩) ?_ ?_
            rotate_left
            · intro w'
              go_simp
              with_reducible rfl
            rotate_left
            · simp only [Act.put, List.setIfInBounds_toArray, List.set_cons_zero, List.set_cons_succ, i64_w, i32_w]
              rfl
            refine one_ (i := 4) (N := some 216) #[true, true, true, true, true, true, true, true, true, true, false, false] rfl rfl (by kernel_rfl) (by decide) (fun K hK => ?_)
            refine goes_ Try.func13 (by kernel_rfl) rfl #[.pointer (some ⟨w.heap.size, 0, none⟩)] (by rfl) rfl rfl (by simp only [List.map_toArray, List.map_cons, List.map_nil]; rfl) ?_
            with_reducible refine (HLEN.out).mono ?_
            rintro e w3 ⟨rfl, rfl⟩
            refine ⟨_, rfl, ?_⟩
            refine hK.out _ _ (hHeld) (fun hHeld => ?_)
            clear hK K
            refine norm_ (a' := ?_) ?_ ?_
            rotate_left
            · show Act.put _ (some 216) _ = _
              simp only [Act.put, List.setIfInBounds_toArray, List.set_cons_zero, List.set_cons_succ, i64_w, i32_w]
              rfl
            refine pure_ (i := 10) (N := some 222) (v := ?_) (a' := ?_) #[true, true, true, true, true, true, true, true, true, true, true, false] rfl rfl (by kernel_rfl) (fun _ _ _ h => h) (Or.inl ⟨by rfl, ?_⟩) ?_ ?_
            rotate_left
            · intro w'
              go_simp
              with_reducible rfl
            rotate_left
            · simp only [Act.put, List.setIfInBounds_toArray, List.set_cons_zero, List.set_cons_succ, i64_w, i32_w]
              rfl
            refine pure_ (i := 11) (N := some 223) (v := ?_) (a' := ?_) #[true, true, true, true, true, true, true, true, true, true, true, true] rfl rfl (by kernel_rfl) (fun _ _ _ h => h) (Or.inl ⟨by rfl, ?_⟩) ?_ ?_
            rotate_left
            · intro w'
              go_simp
              with_reducible rfl
            rotate_left
            · simp only [Act.put, List.setIfInBounds_toArray, List.set_cons_zero, List.set_cons_succ, i64_w, i32_w]
              rfl
            refine done_ (by kernel_rfl) ?_
            clear hHeld chh
            go_wp2
            go_roundg gO
            case measure => omega
            case rel => exact ⟨i + 1, LT, by omega, by omega, by go_num, hLT, ⟨HPT.out.drew⟩, HST⟩
        · have hiM2 : M = i := by omega
          subst hiM2
          clear hgk hi
          go_wp2
          go_loopg [21] (L.length + 1) (fun gk s21 wr => ∃ (L2 : List S28) (v : Value), L2.length + 1 ≤ gk ∧ s21 = v ∧ L2.length ≤ 1024 ∧ Aside0 (Pair wr w (fun k => w.heap.size ≤ k) w.heap.size h L2 L2) ∧ Aside0 (Small L2))
          case atStart => exact ⟨L, _, Nat.le_refl _, rfl, hLl, HP, HS⟩
          case round =>
            obtain ⟨L2, v21, hgk2, rfl, hL2, HP, HS⟩ := hrel
            obtain ⟨LT, hLTe⟩ : ∃ LT, LT = giveL 0 L2 := ⟨_, rfl⟩
            have hsm := give_small HS.out hL2 0
            have hq1 := p_give1 HP.out 0
            have hq2 : ∀ W Z L1, Pair W w Z w.heap.size h L1 L2 → _ := fun W Z L1 hP => p_give2 hP 0 hL2
            have hless : 0 < L2.length → LT.length + 1 ≤ L2.length := fun h0 => by
              rw [hLTe]
              obtain ⟨i, hi, hil⟩ := pick_lt 0 L2.length h0
              unfold giveL
              rw [if_neg (by omega), hi, Int.toNat_natCast, List.length_eraseIdx, if_pos hil]
              omega
            rw [← hLTe] at hsm hq1
            simp only [← hLTe] at hq2
            generalize giveX 0 L2 = X at *
            obtain ⟨X0, X1, X2⟩ := X
            have hLT := hsm.2.1
            have HST := Aside0.mk hsm.1
            have hXl : X2.length ≤ 140737488351232 := hsm.2.2
            have HQ2 := Aside0.mk hq2
            have HQ1 := Aside0.mk hq1
            obtain ⟨nX, hnX⟩ : ∃ nX, nX = X2.length := ⟨_, rfl⟩
            obtain ⟨bL, hbL⟩ : ∃ bL, bL = decide (0 < L2.length) := ⟨_, rfl⟩
            rw [← hnX] at hXl
            rw [← hbL] at HQ1
            simp only [← hbL] at HQ2
            have HNX := Aside0.mk hnX
            have HBL := Aside0.mk hbL
            have HLESS := Aside0.mk hless
            clear hsm hLTe hq1 hq2 hbL hnX hless
            go_wp2_with fail
            refine HQ1.out.mono ?_
            rintro e w3 ⟨A3, c3, okm, rfl, hR3, hok3, hP3, hK3⟩
            rw [← HNX.out] at hR3 ⊢
            have hs3 := hK3.1
            obtain ⟨W4, hW4⟩ : ∃ W4, W4 = w3.alloc (.cells #[.int .i64 X0, .int .i64 X1, .slice A3 nX c3] 28) := ⟨_, rfl⟩
            have hb4 : Below w3.heap.size w3 W4 := by rw [hW4]; exact (Below.refl _ _).alloc (Nat.le_refl _) _
            have hm4 : W4.heap[w3.heap.size]? = some (.cells #[.int .i64 X0, .int .i64 X1, .slice A3 nX c3] 28) := by rw [hW4]; exact heap_alloc_new w3 _
            have hz4 : W4.heap.size = w3.heap.size + 1 := by rw [hW4]; simp
            have hP4 := hP3.mark hb4
            obtain ⟨Z4, hZ4⟩ : ∃ Z4 : Nat → Prop, Z4 = fun k => ((w.heap.size ≤ k ∧ ¬ okm k) ∧ k < w3.heap.size) ∨ W4.heap.size ≤ k := ⟨_, rfl⟩
            rw [← hZ4] at hP4
            have hokZ : ∀ k, okm k → ¬ Z4 k := by
              intro k hk
              rw [hZ4]
              rintro (e | e)
              · exact e.1.2 hk
              · have := (hok3 k hk).2; omega
            have hmZ : ¬ Z4 w3.heap.size := by
              rw [hZ4]
              rintro (e | e)
              · omega
              · omega
            have HR3 := Aside0.mk (Kd.R_below hR3 hb4)
            have HP4 := Aside0.mk hP4
            have HM4 := Aside0.mk hm4
            have HOZ := Aside0.mk hokZ
            have HMZ := Aside0.mk hmZ
            have HZ4 := Aside0.mk hz4
            have HW4 := Aside0.mk hW4
            clear hR3 hok3 hP3 hK3 hb4 hm4 hz4 hP4 hZ4 hokZ hmZ hW4
            go_wp2_with fail
            rw [← HW4.out]
            refine (HQ2.out _ _ _ HP4.out).mono ?_
            rintro e w5 ⟨A5, c5, rfl, hC5, hc5, hP5, hK5⟩
            rw [← HNX.out] at hC5 hc5 ⊢
            have hm5 : w5.heap[w3.heap.size]? = _ := (hK5.2 w3.heap.size (by have := HZ4.out; omega) HMZ.out).trans HM4.out
            have hR5 := R_reads_step HR3.out hK5 (fun k hk => HOZ.out k hk)
            have hP6 := hP5.alloc (.cells #[.int .i64 X0, .int .i64 X1, .slice A5 nX c5] 28)
            have hm6 := blk_alloc hm5 (.cells #[.int .i64 X0, .int .i64 X1, .slice A5 nX c5] 28)
            have hR6 := Kd.R_alloc hR5 (.cells #[.int .i64 X0, .int .i64 X1, .slice A5 nX c5] 28)
            have hC6 := Kd.C_alloc hC5 (.cells #[.int .i64 X0, .int .i64 X1, .slice A5 nX c5] 28)
            obtain ⟨w6, hw6⟩ : ∃ w6, w6 = w5.alloc (.cells #[.int .i64 X0, .int .i64 X1, .slice A5 nX c5] 28) := ⟨_, rfl⟩
            rw [← hw6] at hP6 hm6 hR6 hC6
            have hone := haystacklaw17_one.calls (X2.length + 1) X0 X1 A3 c3 X2 X0 X1 A5 c5 X2 true w6 (Kd.R_reads' (HNX.out ▸ hR6)).2.2 (Kd.R_reads' (HNX.out ▸ hR6)).2.1 (HNX.out ▸ hC6) (HNX.out ▸ hc5) (one_refl X0 X1 X2 (by have := HNX.out; omega))
            rw [← HNX.out] at hone
            have HONE := Aside0.mk hone
            have HP6 := Aside0.mk hP6
            have M0 := (blk_cell hm6 0).trans rfl
            have M1 := (blk_cell hm6 1).trans rfl
            have M2 := (blk_cell hm6 2).trans rfl
            rw [hw6] at M0 M1 M2
            clear hC5 hc5 hP5 hK5 hm5 hR5 hP6 hm6 hR6 hC6 hone
            go_wp2_with fail
            rw [← hw6]
            clear M0 M1 M2 hw6
            refine HONE.out.mono ?_
            rintro e w7 ⟨rfl, hb7⟩
            have HP7 := Aside0.mk (HP6.out.below hb7)
            have HPT : Aside0 (Pair w7 w (fun k => w.heap.size ≤ k) w.heap.size h LT LT) := ⟨HP7.out.zone (fun k _ hk => HP7.out.old k hk) (fun k hk => Nat.le_trans HP7.out.base.size hk) (fun k hk => hk)⟩
            clear hb7
            as_aux_lemma =>
            by_cases h0 : 0 < L2.length
            · have hbt : bL = true := by rw [HBL.out]; exact decide_eq_true h0
              have hl := HLESS.out h0
              subst hbt
              obtain ⟨gk, rfl⟩ : ∃ q, gk = q + 1 := ⟨gk - 1, by omega⟩
              clear HBL
              go_wp2
              go_roundg gk
              case measure => omega
              case rel => exact ⟨LT, _, by omega, rfl, hLT, HPT, HST⟩
            · have hbt : bL = false := by rw [HBL.out]; exact decide_eq_false h0
              subst hbt
              clear HBL
              go_wp2_with fail
              refine (known_calls _).mono ?_
              rintro e w8 ⟨rfl, hb8⟩
              have HB8 := Aside0.mk (HPT.out.base.trans (hb8.mono HPT.out.base.size))
              clear hb8
              go_wp2
              go_ret
              exact ⟨rfl, HB8.out⟩
end Go.Proofs.Ytmindpofjnicfaa.Hand
