import Derived.Test.YtakomlealclomaaKeeps
namespace Go.Proofs.Ytakomlealclomaa.Hand
open Go.RowKit Go.Proofs.Ytakomlealclomaa.PA Go.Proofs.Ytakomlealclomaa.MapP Go.Proofs.YtakomlealclomaaW.PrintWords Go.Proofs.YtakomlealclomaaW.PrintLast Go.Proofs.YtakomlealclomaaW.PrintMore
attribute [local go_sem] max2_int min2_int
set_option linter.unusedVariables false
set_option linter.unusedSimpArgs false
set_option linter.unusedSectionVars false
theorem own_new {g k n c : Nat} (h : (Value.slice (some ⟨g, 0, none⟩) n c).ownBlock = some k) : k = g := by
  have h : some g = some k := h
  injection h with h
  exact h.symm
theorem gate_op {P : Program} {ops : Array Oper} {rest : List Oper} {o : Oper} {a : Act} {w : World} {Q : Exit → Act → World → Prop} {op : Op} (_ho : o.op = op) (h : wpList P ops Q (o :: rest) a w) : wpList P ops Q (o :: rest) a w := h
theorem wpList_value_run {P : Program} {ops : Array Oper} {rest : List Oper} {o : Oper} {a : Act} {w w1 : World} {v : Value} {Q : Exit → Act → World → Prop} (hgd : o.guard = none) (hrun : (execOp a.eval o).run P w = .ok (.value v) w1)
    (h : wpList P ops Q rest (a.put o.dst v) w1) : wpList P ops Q (o :: rest) a w := by
  refine wpList_plain hgd fun K hK => ?_
  unfold Oper.wp
  rw [hrun]
  exact hK _ _ h
theorem cell_below {W W' : World} {p : Addr} {v : Value} (h : W.cell? p = some v) (hb : Below W.heap.size W W') : W'.cell? p = some v := by
  refine (hb.cell ?_).trans h
  rcases Nat.lt_or_ge p.block W.heap.size with h' | h'
  · exact h'
  · simp [World.cell?, Array.getElem?_eq_none h'] at h
set_option maxRecDepth 100000 in
set_option maxHeartbeats 8000000 in
theorem keeps_walk (zz : List (List Int)) (A : Option Addr) (c : Nat) (synced draw : Int) (w : World) (hK : Kd.C (Kd.slice 5 (Kd.int .u8)) w A zz.length zz) (hcc : zz.length ≤ c) (hB : ∀ x ∈ zz, x.length ≤ 140737488351232) (hb : ∀ x ∈ zz, Bytes x) (hlen : zz.length ≤ 4611686018427387904) :
    Calls Try.prog 3 #[.slice A zz.length c, .int .i64 synced, .int .i64 draw] w fun e w' => e = .returned (.bool true) ∧ Below w.heap.size w w' := by
  have HK := Aside0.mk hK
  have HBY : Aside0 (∀ i, Bytes (zz.getD i [])) := ⟨fun i => by
    rcases Nat.lt_or_ge i zz.length with h | h
    · have e : zz.getD i [] = zz[i] := by simp [h]
      rw [e]; exact hb _ (List.getElem_mem h)
    · have e : zz.getD i [] = [] := by simp [h]
      rw [e]; exact fun z hz => by cases hz⟩
  have HBi : Aside0 (∀ i, (zz.getD i []).length ≤ 140737488351232) := ⟨fun i => by
    rcases Nat.lt_or_ge i zz.length with h | h
    · have e : zz.getD i [] = zz[i] := by simp [h]
      rw [e]; exact hB _ (List.getElem_mem h)
    · have e : zz.getD i [] = [] := by simp [h]
      rw [e]; simp⟩
  clear hK hb hB
  go_enter Try.func3, Try.ntmps3
  go_wp2
  go_loopw [7, 8] (fun s7 s8 wr => ∃ i : Nat, i ≤ zz.length ∧ tot zz i ≤ 140737488360000 ∧ s8 = .int .i64 i ∧ s7 = .int .i64 (tot zz i) ∧ wr = w) (fun _ s8 _ => zz.length - (intOf s8).toNat)
  case atStart => exact ⟨0, Nat.zero_le _, by simp [tot], rfl, rfl, rfl⟩
  case round =>
    obtain ⟨i, hi, ht, rfl, rfl, rfl⟩ := hrel
    by_cases hlt : i < zz.length
    · by_cases ht8 : tot zz i ≤ 8000
      · obtain ⟨a, A', c', rfl, hrow, hrc, _⟩ := row_at HK.out i hlt
        have hbi := HBi.out i
        have htn : tot zz (i + 1) = tot zz i + 1 + (zz.getD i []).length := rfl
        obtain ⟨n, hn⟩ : ∃ n, n = (zz.getD i []).length := ⟨_, rfl⟩
        rw [← hn] at hrow hrc hbi htn
        have HTN := Aside0.mk htn
        have htb : tot zz (i + 1) ≤ 140737488360000 := by omega
        clear hn htn
        go_wp2
        go_roundw
        case measure => simp [intOf]; omega
        case rel => exact ⟨i + 1, by omega, htb, by go_num, by rw [HTN.out]; go_num, by first | rfl | trivial⟩
      · go_wp2_with (go_at_call 10; refine (known_calls _).mono ?_; rintro e w' ⟨rfl, hB⟩)
        go_ret
        exact ⟨rfl, hB⟩
    · obtain rfl : i = zz.length := by omega
      by_cases ht8 : tot zz zz.length ≤ 8000
      · have HT8 := Aside0.mk ht8
        clear ht hlt hi
        go_wp2_with fail
        refine (new_calls 1048576 _ (by decide) (by decide)).mono ?_
        rintro e w1 ⟨rfl, h1⟩
        obtain ⟨W0, hW0⟩ : ∃ W : World, W = wr := ⟨_, rfl⟩
        have HW0 := Aside0.mk hW0
        rw [← hW0] at h1 HK ⊢
        have HD := Aside0.mk h1
        obtain ⟨dd, hdd⟩ : ∃ dd, dd = W0.heap.size + 1 := ⟨_, rfl⟩
        rw [← hdd] at HD ⊢
        clear h1 hW0 hdd
        obtain ⟨sy, hsy⟩ : ∃ sy : Nat, ∀ i : Nat, ((i : Int) < synced) ↔ i < sy := ⟨synced.toNat, fun i => by omega⟩
        have HSY := Aside0.mk hsy
        clear hsy
        go_wp2
        go_loopw [11, 12, 13] (fun s11 s12 s13 wr => ∃ (i : Nat) (va vs : Value) (la ls : List Int) (okd : Nat → Prop), i ≤ zz.length ∧ s13 = .int .i64 i ∧ s11 = va ∧ s12 = vs ∧ Aside0 (la = (zz.take i).flatten) ∧ Aside0 (ls = (zz.take (min i sy)).flatten) ∧ Aside0 (DiskUp wr W0 okd dd (Sti zz sy i)) ∧ Aside0 (Dat wr va la) ∧ Aside0 (Dat wr vs ls) ∧
          Aside0 (∀ k, va.ownBlock = some k → ¬ okd k ∧ W0.heap.size ≤ k) ∧ Aside0 (∀ k, vs.ownBlock = some k → ¬ okd k ∧ W0.heap.size ≤ k ∧ va.ownBlock ≠ some k)) (fun _ _ s13 _ => zz.length - (intOf s13).toNat)
        case atStart =>
          exact ⟨0, _, _, [], [], _, Nat.zero_le _, rfl, rfl, rfl, ⟨rfl⟩, ⟨by rw [Nat.zero_min]; rfl⟩, HD, ⟨Dat.nil _⟩, ⟨Dat.nil _⟩, ⟨fun k hk => by cases hk⟩, ⟨fun k hk => by cases hk⟩⟩
        case round =>
          clear HD
          obtain ⟨i, va, vs, la, ls, okd, hi, rfl, rfl, rfl, HLA, HLS, HD, HA, HS, HOA, HOS⟩ := hrel
          obtain ⟨Aa, ca, rfl, hca⟩ := HA.out.slice
          obtain ⟨As, cs, rfl, hcs⟩ := HS.out.slice
          by_cases hlt : i < zz.length
          · obtain ⟨a, A', c', rfl, hrow0, hrc, hrC0⟩ := row_at HK.out i hlt
            have hrow := cell_below hrow0 HD.out.below
            obtain ⟨l, hl⟩ : ∃ l, l = zz.getD i [] := ⟨_, rfl⟩
            have hst := sti_app zz sy i hlt HT8.out
            have hfl := flat_succ zz i hlt
            have htf := tot_flat zz (i + 1) (by omega)
            have htm := tot_mono zz (i + 1) zz.length (by omega)
            have hbl := HBY.out i
            rw [← hl] at hrow hrow0 hrc hrC0 hst hfl hbl
            rw [← HLA.out] at hfl
            obtain ⟨l3, hl3⟩ : ∃ l3, l3 = la ++ l := ⟨_, rfl⟩
            rw [← hl3] at hfl
            have hl3l : l3.length = la.length + l.length := by rw [hl3, List.length_append]
            have hl38 : l3.length ≤ 8000 := by rw [← hfl]; have := HT8.out; omega
            have h12 := append1 HD.out nF (by unfold maxLen; decide) A' c' l (Kd.C_below hrC0 HD.out.below) hrc hbl (by omega)
            rw [hst] at h12
            have HAPP := Aside0.mk h12
            have HFL := Aside0.mk hfl
            have HL3 := Aside0.mk hl3
            have HRC := Aside0.mk hrC0
            have HROW := Aside0.mk hrow0
            have HL3L := Aside0.mk hl3l
            have hll : la.length + l.length ≤ 8000 := by omega
            clear h12 hfl hl3 hl hst htf htm hbl hrow0 hrC0 hl3l
            go_wp2_with fail
            refine HAPP.out.mono ?_
            rintro e w2 ⟨rfl, h2, hk2⟩
            have ha2 := HA.out.kept hk2 (fun k hk => (HOA.out k hk).1)
            obtain ⟨v3, w3, hrun3, hd3, hg3, ho3⟩ := ha2.append 23 A' l.length c' l (Kd.C_below HRC.out h2.below) rfl (by omega)
            have hlw : W0.heap.size ≤ w2.heap.size := h2.below.size
            have hrow2 := cell_below HROW.out h2.below
            have h3 := h2.bound.kept (W' := w3) (T := fun k => (Value.slice Aa la.length ca).ownBlock = some k) (Kept.of_grown hg3 (Kept.refl _ _) (fun k hk => .inl hk)) (fun k hk e => by
              have h5 := HOA.out k e
              have h6 := HA.out.lt e
              exact hk.1.elim h5.1 (fun h => by omega)) (h2.below.grown hg3 hlw (fun k hk => (HOA.out k hk).2))
            have hs3 := (HS.out.kept hk2 (fun k hk => (HOS.out k hk).1)).step (W' := w3) (fun k hk => hg3.block k (by have := HS.out.lt hk; have := hk2.1; omega) (fun e => (HOS.out k hk).2.2 e.symm))
            rw [← HL3.out] at hd3
            obtain ⟨A3, c3, hv3, hc3⟩ := hd3.slice
            subst hv3
            have hoa3 : ∀ k, (Value.slice A3 l3.length c3).ownBlock = some k → ¬ ((okd k ∨ wr.heap.size ≤ k) ∧ W0.heap.size ≤ k ∧ k < w2.heap.size) ∧ W0.heap.size ≤ k := fun k hk => by
              rcases ho3 with h | h
              · rw [h] at hk
                have h5 := HOA.out k hk
                have h6 := HA.out.lt hk
                exact ⟨fun h => h.1.elim h5.1 (fun h => by omega), h5.2⟩
              · have h5 := h k hk
                exact ⟨fun h => by omega, by omega⟩
            have hos3 : ∀ k, (Value.slice As ls.length cs).ownBlock = some k → ¬ ((okd k ∨ wr.heap.size ≤ k) ∧ W0.heap.size ≤ k ∧ k < w2.heap.size) ∧ W0.heap.size ≤ k ∧ (Value.slice A3 l3.length c3).ownBlock ≠ some k := fun k hk => by
              have h5 := HOS.out k hk
              have h6 := HS.out.lt hk
              have h7 := hk2.1
              refine ⟨fun h => h.1.elim h5.1 (fun h => by omega), h5.2.1, fun e => ?_⟩
              rcases ho3 with h | h
              · rw [h] at e; exact h5.2.2 e
              · have := h k e; omega
            have HOA3 := Aside0.mk hoa3
            have HOS3 := Aside0.mk hos3
            have HD3 := Aside0.mk h3
            have HA3 := Aside0.mk hd3
            have HS3 := Aside0.mk hs3
            clear hoa3 hos3 h3 hd3 hs3 hg3 ho3 ha2 h2 hk2
            by_cases hsyn : i < sy
            · have hns : (i : Int) < synced := (HSY.out i).2 hsyn
              have h13 := sync1 HD3.out nF (by unfold maxLen; decide)
              have e13 := sti_syn zz sy i hsyn
              rw [HFL.out] at e13 h13
              rw [e13] at h13
              have H13 := Aside0.mk h13
              clear h13 e13
              go_wp2_with (first | ((with_reducible refine gate_builtin (b := .append) (xs := #[.tmp 61, .tmp 65]) rfl ?_); at_builtin; refine wpList_append_run rfl (.tmp 61) (.tmp 65) 23 rfl _ _ _ _ rfl rfl hrun3 ?_) | fail)
              refine H13.out.mono ?_
              rintro e w4 ⟨rfl, h4, hk4⟩
              have ha4 := (HA3.out.kept hk4 (fun k hk => (HOA3.out k hk).1)).step (W' := w4.alloc (.cells #[] 5)) (fun k hk => Below.heap_alloc _ _ _ (by have := HA3.out.lt hk; have := hk4.1; omega))
              obtain ⟨v5, w5, hrun5, hd5, hg5, ho5⟩ := (Dat.new (w := w4) (0, 0)).append 23 A3 l3.length c3 l3 (ha4.C rfl) rfl (by simp; omega)
              simp only [List.nil_append] at hd5
              obtain ⟨A5, c5, hv5, hc5⟩ := hd5.slice
              subst hv5
              have hsz4 : (w4.alloc (.cells #[] 5)).heap.size = w4.heap.size + 1 := by simp
              have h5 := (h4.bound.alloc (.cells #[] 5)).kept (W' := w5) (T := fun k => k = w4.heap.size) (Kept.of_grown hg5 (Kept.refl _ _) (fun k hk => .inl (own_new hk))) (fun k hk e => by have := hk.2.2; omega) ((h4.below.alloc h4.below.size _).grown hg5 (by have := h4.below.size; omega) (fun k hk => by have := own_new hk; have := h4.below.size; omega))
              have ha5 := ha4.step (W' := w5) (fun k hk => hg5.block k (by have := HA3.out.lt hk; have := hk4.1; omega) (fun e => by have := own_new e.symm; have := HA3.out.lt hk; have := hk4.1; omega))
              have hoa5 : ∀ k, (Value.slice A3 l3.length c3).ownBlock = some k → ¬ ((((okd k ∨ wr.heap.size ≤ k) ∧ W0.heap.size ≤ k ∧ k < w2.heap.size) ∨ w3.heap.size ≤ k) ∧ W0.heap.size ≤ k ∧ k < w4.heap.size) ∧ W0.heap.size ≤ k := fun k hk => by
                have h6 := HOA3.out k hk
                have h7 := HA3.out.lt hk
                exact ⟨fun h => h.1.elim h6.1 (fun h => by omega), h6.2⟩
              have hos5 : ∀ k, (Value.slice A5 l3.length c5).ownBlock = some k → ¬ ((((okd k ∨ wr.heap.size ≤ k) ∧ W0.heap.size ≤ k ∧ k < w2.heap.size) ∨ w3.heap.size ≤ k) ∧ W0.heap.size ≤ k ∧ k < w4.heap.size) ∧ W0.heap.size ≤ k ∧ (Value.slice A3 l3.length c3).ownBlock ≠ some k := fun k hk => by
                have hge : w4.heap.size ≤ k := by
                  rcases ho5 with h | h
                  · rw [h] at hk; have := own_new hk; omega
                  · have := h k hk; omega
                have := h4.below.size
                refine ⟨fun h => by omega, by omega, fun e => ?_⟩
                have := HA3.out.lt e
                have := hk4.1
                omega
              have HD5 := Aside0.mk h5
              have HA5 := Aside0.mk ha5
              have HS5 := Aside0.mk hd5
              have HOA5 := Aside0.mk hoa5
              have HOS5 := Aside0.mk hos5
              clear h5 ha5 hd5 hoa5 hos5 ha4 hg5 ho5 h4 hk4 hsz4
              go_wp2_with (first | ((with_reducible refine gate_op (op := .buildSlice 23 0 #[]) rfl ?_); refine wpList_value_run (v := .slice (some ⟨w4.heap.size, 0, none⟩) 0 0) (w1 := w4.alloc (.cells #[] 5)) rfl (by go_simp) ?_) | ((with_reducible refine gate_builtin (b := .append) (xs := #[.tmp 74, .tmp 75]) rfl ?_); at_builtin; refine wpList_append_run rfl (.tmp 74) (.tmp 75) 23 rfl (.slice (some ⟨w4.heap.size, 0, none⟩) 0 0) (.slice A3 l3.length c3) _ _ rfl rfl hrun5 ?_))
              go_roundw
              case measure => simp [intOf]; omega
              case rel =>
                refine ⟨i + 1, _, _, l3, l3, _, by omega, by go_num, rfl, rfl, ⟨HFL.out.symm⟩, ⟨by rw [← HFL.out, show min (i + 1) sy = i + 1 from by omega]⟩, HD5, HA5, HS5, HOA5, HOS5⟩
            · have hns : ¬ ((i : Int) < synced) := fun h => hsyn ((HSY.out i).1 h)
              go_wp2_with ((with_reducible refine gate_builtin (b := .append) (xs := #[.tmp 61, .tmp 65]) rfl ?_); at_builtin; refine wpList_append_run rfl (.tmp 61) (.tmp 65) 23 rfl _ _ _ _ rfl rfl hrun3 ?_)
              go_roundw
              case measure => simp [intOf]; omega
              case rel =>
                refine ⟨i + 1, _, _, l3, ls, _, by omega, by go_num, rfl, rfl, ⟨HFL.out.symm⟩, ⟨by rw [HLS.out, show min (i + 1) sy = min i sy from by omega]⟩, ⟨?_⟩, HA3, HS3, HOA3, HOS3⟩
                rw [← sti_not zz sy i hsyn]
                exact HD3.out
          · obtain rfl : i = zz.length := by omega
            rw [List.take_length] at HLA
            have hll : la.length ≤ 8000 := by
              have h1 := tot_flat zz zz.length (Nat.le_refl _)
              rw [List.take_length, ← HLA.out] at h1
              have := HT8.out
              omega
            by_cases h0 : zz.length = 0
            · have hs0 : Sti zz sy zz.length = S00 := by unfold Sti; rw [if_pos h0]
              rw [hs0] at HD
              have hca := crash_up HD.out draw
              rw [cra0] at hca
              have HCA := Aside0.mk hca
              clear hca hlt hi
              have hz : ((zz.length : Int) == 0) = true := by rw [h0]; rfl
              go_wp2_with fail
              refine HCA.out.mono ?_
              rintro e w5 ⟨rfl, h5, _⟩
              have hre := read_up h5 nF (by unfold maxLen; decide)
              rw [rea0] at hre
              have HRE := Aside0.mk hre
              clear hre h5
              go_wp2_with fail
              refine HRE.out.mono ?_
              rintro e w6 ⟨A6, c6, rfl, _, h6, _⟩
              have HB6 := Aside0.mk h6.below
              clear h6
              go_wp2_with (go_at_call 10; refine (known_calls _).mono ?_; rintro e w7 ⟨rfl, h7⟩)
              go_ret
              have hfin := HB6.out.trans (h7.mono HB6.out.size)
              rw [HW0.out] at hfin
              exact ⟨rfl, hfin⟩
            · have hs0 : Sti zz sy zz.length = St la ls.length := by unfold Sti; rw [if_neg h0, List.take_length, ← HLA.out, ← HLS.out]
              rw [hs0] at HD
              have hsl : ls.length ≤ la.length := HD.out.fine.lasts ([102], (la, ls.length)) (by simp [St])
              have hca := crash_up HD.out draw
              rw [cra1] at hca
              obtain ⟨t1, t2⟩ := stays_le draw (la, ls.length) hsl
              obtain ⟨t, ht⟩ : ∃ t, t = stays draw (la, ls.length) := ⟨_, rfl⟩
              rw [← ht] at hca t1 t2
              simp only at t1 t2
              have htl : (la.take t).length = t := by rw [List.length_take]; omega
              have HTL := Aside0.mk htl
              have HCA := Aside0.mk hca
              clear hca hlt hi ht htl hs0
              have hz : ((zz.length : Int) == 0) = false := beq_eq_false_iff_ne.2 (by omega)
              go_wp2_with fail
              refine HCA.out.mono ?_
              rintro e w5 ⟨rfl, h5, hk5⟩
              have ha5 := HA.out.kept hk5 (fun k hk => (HOA.out k hk).1)
              have HA5 := Aside0.mk ha5
              have hre := read_up h5 nF (by unfold maxLen; decide)
              rw [rea1] at hre
              simp only [HTL.out] at hre
              have HRE := Aside0.mk hre
              clear hre h5 ha5 hk5
              go_wp2_with fail
              refine HRE.out.mono ?_
              rintro e w6 ⟨A6, c6, rfl, hR6, h6, hb6⟩
              have ha6 := HA5.out.step (W' := w6) (fun k hk => hb6.block k (HA5.out.lt hk))
              have hR : Kd.C (Kd.int .u8) w6 A6 (la.take t).length (la.take t) ∧ t ≤ c6 := by
                have h := hR6
                rw [← HTL.out] at h
                have h2 := Kd.R_reads' h
                rw [HTL.out] at h2 ⊢
                exact ⟨by have := h2.2.2; rwa [HTL.out] at this, h2.2.1⟩
              have hCa : Kd.C (Kd.int .u8) w6 Aa (la.take t).length (la.take t) := by
                have h := ha6.C rfl
                refine ⟨rfl, by rw [HTL.out]; omega, fun hp => ?_⟩
                obtain ⟨ad, e, hc⟩ := h.2.2 (by rw [HTL.out] at hp; omega)
                refine ⟨ad, e, fun j p hj => hc j p ?_⟩
                rw [List.getElem?_take] at hj
                split at hj
                · exact hj
                · cases hj
              have hS := haystacklaw10_same.calls ((la.take t).length + 1) A6 c6 (la.take t) Aa ca (la.take t) true w6 hR.1 (by rw [HTL.out]; exact hR.2) hCa (by rw [HTL.out]; omega) (same_refl _ (by rw [HTL.out]; omega))
              rw [HTL.out] at hS
              have HS16 := Aside0.mk hS
              have HB6 := Aside0.mk h6.below
              clear h6 hb6 ha6 hR hCa hS hR6
              go_wp2_with (first | (go_at_call 16; refine HS16.out.mono ?_; rintro e w7 ⟨rfl, q7, rfl⟩) | (go_at_call 10; refine (known_calls _).mono ?_; rintro e w8 ⟨rfl, h8⟩))
              go_ret
              have hfin := (bdrewN HB6.out q7).trans (h8.mono (bdrewN HB6.out q7).size)
              rw [HW0.out] at hfin
              exact ⟨rfl, hfin⟩
      · go_wp2_with (go_at_call 10; refine (known_calls _).mono ?_; rintro e w' ⟨rfl, hB⟩)
        go_ret
        exact ⟨rfl, hB⟩
end Go.Proofs.Ytakomlealclomaa.Hand
