import Derived.Test.YtmindpofjnicfaaDrops
namespace Go.Proofs.Ytmindpofjnicfaa.Hand
open Go.RowKit Go.Proofs.Ytmindpofjnicfaa.PA Go.Proofs.YtmindpofjnicfaaW.PrintWords Go.Proofs.YtmindpofjnicfaaW.PrintLast Go.Proofs.YtmindpofjnicfaaW.PrintMore
attribute [local go_sem] max2_int min2_int
set_option linter.unusedVariables false
set_option linter.unusedSimpArgs false
theorem raw_own {e : Nat} {w : World} {base : Nat} {ok : Nat → Prop} {v : Value} {xs : List (List Value)} (h : Kd.R (Kd.raw 3) e w base ok v xs) : Kd.R (Kd.raw 3) e w base (fun q => some q = v.ownBlock) v xs := ⟨fun q hq => hq.symm, h.2⟩
theorem raw_C {w : World} {A : Option Addr} {n c : Nat} {A2 : Option Addr} {xs : List Int} (a b : Int) (h : Kd.C (Kd.raw 3) w A n (List.replicate n [.int .i64 a, .int .i64 b, .slice A2 xs.length c])) (hC : Kd.C (Kd.int .u8) w A2 xs.length xs) (hle : xs.length ≤ c) :
    Kd.C k28 w A n (List.replicate n (⟨a, b, xs⟩ : S28)) := by
  refine ⟨by simp, h.2.1, fun hp => ?_⟩
  obtain ⟨ad, hA, hc⟩ := h.2.2 hp
  refine ⟨ad, hA, fun j p hj => ?_⟩
  rw [List.getElem?_replicate] at hj
  split at hj
  · rename_i hjn
    cases hj
    obtain ⟨cs, h1, h2, h3⟩ := hc j [.int .i64 a, .int .i64 b, .slice A2 xs.length c] (by rw [List.getElem?_replicate, if_pos hjn])
    obtain rfl := h2.1
    exact ⟨_, rfl, k28_mk w ⟨a, b, xs⟩ hle hC, h3⟩
  · cases hj
/-- Rows of one message again and again. -/
theorem giveL_rep (p : Int) (n : Nat) (x : S28) : giveL p (List.replicate n x) = List.replicate (n - 1) x := by
  unfold giveL
  rw [List.length_replicate]
  split
  · rename_i h; subst h; rfl
  · rename_i h
    obtain ⟨i, hi, hl⟩ := pick_lt p n (by omega)
    rw [hi, Int.toNat_natCast, List.eraseIdx_replicate, if_pos hl]
theorem rd_rep (n : Nat) (x : S28) (p : Int) (hn : 0 < n) : rd_T28 (List.replicate n x) (pickOf p n) = x := by
  obtain ⟨i, hi, hl⟩ := pick_lt p n hn
  rw [hi]
  unfold rd_T28
  rw [Int.toNat_natCast, List.getD_eq_getElem?_getD, List.getElem?_replicate, if_pos hl]
  rfl
theorem lateL_rep (p : Int) (n : Nat) (x : S28) : lateL p (List.replicate n x) = List.replicate n x := by
  have h := giveL_rep p n x
  unfold giveL at h
  unfold lateL
  rw [List.length_replicate] at h ⊢
  split
  · rename_i h0; subst h0; rfl
  · rename_i h0
    rw [if_neg h0] at h
    rw [h, rd_rep n x p (by omega), ← List.replicate_succ']
    congr 1; omega
theorem twiceL_rep (p : Int) (n : Nat) (x : S28) (h0 : 0 < n) (h1 : n < 1024) : twiceB (List.replicate n x) = true ∧ twiceL p (List.replicate n x) = List.replicate (n + 1) x := by
  have hb : twiceB (List.replicate n x) = true := by simp [twiceB, h0, h1]
  refine ⟨hb, ?_⟩
  unfold twiceL
  rw [if_pos hb, List.length_replicate, rd_rep n x p h0, ← List.replicate_succ']
set_option maxRecDepth 100000 in
set_option maxHeartbeats 4000000 in
theorem full_walk (more : Int) (xs : List Int) (A : Option Addr) (c : Nat) (w : World) (hK : Kd.C (Kd.int .u8) w A xs.length xs) (hcc : xs.length ≤ c) :
    Calls Try.prog 6 #[.int .i64 more, .slice A xs.length c] w fun e w' => e = .returned (.bool true) ∧ Below w.heap.size w w' := by
  have HK := Aside0.mk hK
  clear hK
  by_cases hg : more < 0 ∨ 50 < more ∨ (20 : Int) < xs.length
  · rcases hg with h | h | h
    all_goals
      go_enter Try.func6, Try.ntmps6
      go_wp2_with (go_at_call 14; refine (known_calls _).mono ?_; rintro e w' ⟨rfl, hB⟩)
      all_goals go_ret
      all_goals exact ⟨rfl, hB⟩
  · have h0 : 0 ≤ more := by omega
    have h1 : more ≤ 50 := by omega
    have h2 : (xs.length : Int) ≤ 20 := by omega
    go_enter Try.func6, Try.ntmps6
    go_wp2_with fail
    refine (new_up _).mono ?_
    rintro e w1 ⟨rfl, hN, _⟩
    have HN := Aside0.mk hN
    clear hN
    go_wp2
    obtain ⟨N, hNN⟩ : ∃ N : Nat, (N : Int) = 1024 + more := ⟨(1024 + more).toNat, by omega⟩
    have hN2 : N ≤ 1074 := by omega
    go_loopg [6, 7] N (fun gk s6 s7 wr => ∃ (i : Nat) (vw : Value) (okn : Nat → Prop), i ≤ N ∧ N - i ≤ gk ∧ s7 = .int .i64 i ∧ s6 = vw ∧ Aside0 (NetUp wr w okn w.heap.size []) ∧ Aside0 (∀ k, some k = vw.ownBlock → ¬ okn k) ∧
      Aside0 (Kd.R (Kd.raw 3) 28 wr w.heap.size (fun _ => True) vw (List.replicate i [.int .i64 1, .int .i64 2, .slice A xs.length c])))
    case atStart => exact ⟨0, _, _, Nat.zero_le _, by omega, rfl, rfl, HN, ⟨fun k hk => by cases hk⟩, ⟨Kd.R_nil _ _ _ _ _⟩⟩
    case round =>
      obtain ⟨i, vw, okn, hi, hgk, rfl, rfl, HN, HO, HW⟩ := hrel
      obtain ⟨Aw, cw, rfl⟩ := Kd.R_slice HW.out
      by_cases hlt : i < N
      · obtain ⟨gk, rfl⟩ : ∃ q, gk = q + 1 := ⟨gk - 1, by omega⟩
        obtain ⟨li, hli⟩ : ∃ li, li = List.replicate i [Value.int .i64 1, .int .i64 2, .slice A xs.length c] := ⟨_, rfl⟩
        have hlil : li.length = i := by rw [hli]; simp
        rw [← hli] at HW HO ⊢
        have HLI := Aside0.mk hli
        clear hli
        go_wp2_with (first | ((with_reducible refine gate_builtin (b := .append) (xs := #[.tmp 31, .tmp 34]) rfl ?_); (try (refine gate_guard (by rfl) ?_; dsimp only)); at_builtin; refine Kd.R_append (Kd.raw 3) (w0 := w) w.heap.size rfl (.tmp 31) (.tmp 34) 41 28 (.agg #[.int .i64 0, .int .i64 0, .slice none 0 0]) 40 rfl Try.underlying41 info28 rfl (by decide) (by decide) (.slice Aw li.length cw) li [.int .i64 1, .int .i64 2, .slice A xs.length c] [.int .i64 1, .int .i64 2, .slice A xs.length c] (fun _ => True) (fun _ => False) rfl rfl ?aP (fun _ hk => hk.elim) ?aF ?aO ?aB ?aS ?aL ?_; (case aP => exact ⟨rfl, rfl, by simp [Value.oneCell']⟩); (case aF => exact (fun _ _ => trivial)); (case aO => exact HW.out); (case aB => exact HN.out.2); (case aS => exact HN.out.2.size); (case aL => omega); intro v1 w8 ho hb hg hat; obtain ⟨A8, c8, rfl⟩ := Kd.R_slice ho; have HR8 := Aside0.mk ho; have HG8 := Aside0.mk hg; have HB8 := Aside0.mk hb; have HA8 := Aside0.mk hat; clear ho hg hb hat))
        go_roundg gk
        case measure => omega
        case rel =>
          have hb7 := HN.out.bound
          refine ⟨i + 1, .slice A8 (li ++ [[Value.int .i64 1, .int .i64 2, .slice A xs.length c]]).length c8, _, by omega, by omega, by go_num, by simp [hlil], ⟨hb7.kept (Kept.of_grown HG8.out (Kept.refl _ (fun k => some k = (Value.slice Aw li.length cw).ownBlock)) (fun q hq => .inl hq.symm)) (fun k hk h => HO.out k h hk.1) HB8.out⟩, ⟨fun k hk h => ?_⟩, ⟨?_⟩⟩
          · rcases HA8.out with e | ⟨q, e, hq⟩
            · exact HO.out k (hk.trans e) h.1
            · rw [e] at hk
              injection hk with hk
              have := h.2.2
              omega
          · rw [List.replicate_succ', ← HLI.out]
            exact HR8.out
      · have hiN : i = N := by omega
        have HNb := HN.out.bound
        have HNB := Aside0.mk HNb
        have hKr : ∀ W', Kept wr W' (fun k => okn k ∧ w.heap.size ≤ k ∧ k < wr.heap.size) → Kd.C k28 W' Aw (List.replicate N (⟨1, 2, xs⟩ : S28)).length (List.replicate N ⟨1, 2, xs⟩) := fun W' hk => by
          rw [List.length_replicate]
          have hr := (Kd.R_reads' (R_reads_step (raw_own HW.out) hk (fun k hk h => HO.out k hk h.1))).2.2
          rw [List.length_replicate, hiN] at hr
          exact raw_C 1 2 hr (Kd.C_kept_came (Kd.heap_int .u8) HK.out HN.out.2 (fun k hk => hk.2.1) W' hk) hcc
        have HKR := Aside0.mk hKr
        have hcw : N ≤ cw := by have := (Kd.R_reads' HW.out).2.1; rw [List.length_replicate] at this; omega
        have hx20 : ∀ q ∈ List.replicate N (⟨1, 2, xs⟩ : S28), q.f2.length ≤ 140737488355328 := fun q hq => by rw [List.eq_of_mem_replicate hq]; simp only; omega
        have hs := send_up HNB.out Aw cw (List.replicate N ⟨1, 2, xs⟩) HKR.out (by rw [List.length_replicate]; exact hcw) hx20 (by simp)
        rw [List.length_replicate, show manyOf ([] : List S28).length N = 1024 from by unfold manyOf; simp; omega, List.nil_append, List.take_replicate, show min 1024 N = 1024 from by omega] at hs
        have HS := Aside0.mk hs
        clear hKr HNb hs
        go_wp2_with fail
        refine HS.out.mono ?_
        rintro e w2 ⟨rfl, hN2, hK2⟩
        have hs2 := send_up hN2 Aw cw (List.replicate N ⟨1, 2, xs⟩) (Kd.C_kept_call HKR.out hK2 (fun k hk => hk)) (by rw [List.length_replicate]; exact hcw) hx20 (by rw [List.length_replicate]; exact Nat.le_refl _)
        rw [List.length_replicate, List.length_replicate, show manyOf 1024 N = 0 from by unfold manyOf; omega, List.take_zero, List.append_nil] at hs2
        have HS2 := Aside0.mk hs2
        clear hs2 hN2 hK2
        go_wp2_with fail
        refine HS2.out.mono ?_
        rintro e w3 ⟨rfl, hN3, _⟩
        have hxd : ∀ n, ∀ q ∈ List.replicate n (⟨1, 2, xs⟩ : S28), q.f2.length ≤ 140737488355328 := fun n q hq => by rw [List.eq_of_mem_replicate hq]; simp only; omega
        have ht3 := twice_up hN3 more (by rw [List.length_replicate]; exact Nat.le_refl _) (hxd 1024)
        rw [show twiceB (List.replicate 1024 (⟨1, 2, xs⟩ : S28)) = false from by unfold twiceB; rw [List.length_replicate]; rfl, show twiceL more (List.replicate 1024 (⟨1, 2, xs⟩ : S28)) = List.replicate 1024 ⟨1, 2, xs⟩ from by unfold twiceL; rw [show twiceB (List.replicate 1024 (⟨1, 2, xs⟩ : S28)) = false from by unfold twiceB; rw [List.length_replicate]; rfl]; rfl] at ht3
        have HT3 := Aside0.mk ht3
        have HXD := Aside0.mk hxd
        clear hN3 ht3 hxd
        go_wp2_with fail
        refine HT3.out.mono ?_
        rintro e w4 ⟨rfl, hN4, _⟩
        have hl4 := len_up hN4
        have hs4 := late_up hN4 more (by rw [List.length_replicate]; exact Nat.le_refl _) (HXD.out 1024)
        rw [lateL_rep] at hs4
        rw [List.length_replicate] at hl4 hs4
        have HL4 := Aside0.mk hl4
        have HS4 := Aside0.mk hs4
        clear hN4 hl4 hs4
        go_wp2_with fail
        refine HL4.out.mono ?_
        rintro e w5 ⟨rfl, rfl⟩
        go_wp2_with fail
        refine HS4.out.mono ?_
        rintro e w6 ⟨rfl, hN6, _⟩
        have hg6 := give_up hN6 more
        rw [giveL_rep, List.length_replicate] at hg6
        have HG6 := Aside0.mk hg6
        clear hN6 hg6
        go_wp2_with fail
        refine HG6.out.mono ?_
        rintro e w7 ⟨A7, c7, okm, rfl, _, _, hN7, _⟩
        have HN7 := Aside0.mk hN7
        have ht7 := fun o => twice_up (hN7.alloc o) 0 (by rw [List.length_replicate]; decide) (HXD.out 1023)
        have ht7' := twice_up hN7 0 (by rw [List.length_replicate]; decide) (HXD.out 1023)
        obtain ⟨e1, e2⟩ := twiceL_rep 0 1023 (⟨1, 2, xs⟩ : S28) (by decide) (by decide)
        simp only [show 1024 - 1 = 1023 from rfl, e1, e2] at ht7 ht7'
        have HT7 := Aside0.mk ht7
        have HT7' := Aside0.mk ht7'
        clear hN7 ht7 ht7' e1 e2
        go_wp2_with fail
        refine (HT7.out _).mono ?_
        rintro e w8 ⟨rfl, hN8, _⟩
        have hl8 := len_up hN8
        rw [List.length_replicate] at hl8
        have HL8 := Aside0.mk hl8
        have HN8 := Aside0.mk hN8
        clear hl8 hN8
        go_wp2_with fail
        refine HL8.out.mono ?_
        rintro e w9 ⟨rfl, rfl⟩
        have hd9 : ∀ o, o = Obj.cells #[.int .i64 5, .int .i64 2] 3 → _ := fun o ho => drop_up (HN8.out.bound.alloc o) (some ⟨w9.heap.size, 0, none⟩) 2 [5, 2] (reads_ints 5 2 (by rw [ho]; exact heap_alloc_new w9 _) (fun h => by have := h.2.2; omega))
        go_wp2_with fail
        refine (hd9 _ rfl).mono ?_
        rintro e w10 ⟨rfl, hN10, _⟩
        rw [show dropL [5, 2] (List.replicate (1023 + 1) (⟨1, 2, xs⟩ : S28)) = [] from by unfold dropL; rw [List.filter_eq_nil_iff]; intro q hq; rw [List.eq_of_mem_replicate hq]; simp [hit]] at hN10 ⊢
        rw [List.length_replicate]
        have hl10 := len_up hN10
        have HL10 := Aside0.mk hl10
        have HB10 := Aside0.mk hN10.2
        clear hl10 hN10 hd9
        go_wp2_with fail
        refine HL10.out.mono ?_
        rintro e w11 ⟨rfl, rfl⟩
        go_wp2_with (go_at_call 14; refine (known_calls _).mono ?_; rintro e w12 ⟨rfl, hB12⟩)
        go_ret
        exact ⟨rfl, HB10.out.trans (hB12.mono HB10.out.size)⟩
end Go.Proofs.Ytmindpofjnicfaa.Hand
