/- disk.Copy. -/
import Derived.Test.YtdepjlnljkbfjaaTrunc
namespace Go.Proofs.Ytdepjlnljkbfjaa.Hand
open Go.RowKit Go.Proofs.Ytdepjlnljkbfjaa.PA Go.Proofs.Ytdepjlnljkbfjaa.MapP Go.Proofs.YtdepjlnljkbfjaaW.PrintWords Go.Proofs.YtdepjlnljkbfjaaW.PrintLast Go.Proofs.YtdepjlnljkbfjaaW.PrintMore
attribute [local go_sem] max2_int min2_int
set_option linter.unusedVariables false
set_option linter.unusedSimpArgs false
set_option linter.unusedSectionVars false
section
variable {w w0 W W' : World} {d m : Nat} {ok : Nat → Prop} {S S' : DV} {F : FL} {k : Key} {y : FV} {R : RV}
theorem IsDisk.addedX (h : IsDisk W d m S F) (hk : at_ F k = none) (hf : FileAt W' y) (hm : HasMap Try.prog 9 W' m (put (gm F) k y.g)) (hs : ∀ b ∈ foot d m F, b ≠ m → W'.heap[b]? = W.heap[b]?)
    (hg : ∀ b ∈ one y, b ∉ foot d m F) (hn : (one y).Nodup) (hL : S' = { S with L := put S.L k y.x }) :
    IsDisk W' d m S' (put F k y) ∧ foot d m (put F k y) = foot d m F ++ one y := by
  subst hL
  have hnd := h.nd
  have hput : put F k y = F ++ [(k, y)] := put_new hk
  have hfoot' : foot d m (put F k y) = foot d m F ++ one y := by rw [hput]; simp [foot, blocks]
  have hm1 : ∀ b ∈ blocks F, b ≠ m := by
    simp only [foot, List.nodup_cons] at hnd
    intro b hb e
    exact hnd.2.1 (e ▸ hb)
  refine ⟨⟨(hs d (by simp [foot]) h.ne).trans h.head, ?_, ?_, ?_, ?_⟩, hfoot'⟩
  · have := put_map (fun y : FV => y.g) F k y
    unfold gm at hm ⊢
    rw [← this]
    exact hm
  · intro p hp
    rw [hput] at hp
    rcases List.mem_append.1 hp with hp | hp
    · exact (h.file p hp).step (fun b hb => hs b (mem_foot_file hp hb) (hm1 b (List.mem_flatMap.2 ⟨p, hp, hb⟩)))
    · rw [List.mem_singleton.1 hp]
      exact hf
  · rw [hfoot', List.nodup_append]
    exact ⟨hnd, hn, fun b hb c hc e => hg c hc (e ▸ hb)⟩
  · show put S.L k y.x = _
    rw [h.val]
    exact put_map (fun y : FV => y.x) F k y
set_option maxRecDepth 100000 in
/-- A new file with bytes. -/
theorem copied_is (hi : IsDisk W d m S F) (s : ByteArray) (hk : at_ F s.data.toList = none) (hsz : s.size ≤ maxLen) (hl : F.length < 4096) (A5 : Option Addr) (c5 : Nat) (xs : List Int) (la n : Nat) (hn : n = xs.length) (hd : Dat W (.slice A5 n c5) xs) (hown : ∀ b, (Value.slice A5 n c5).ownBlock = some b → b ∉ foot d m F) :
    ∃ W1, (Instr.mapUpdate 66 (.map (some m)) (.string s) (.pointer (some ⟨W.heap.size, 0, none⟩))).run Try.prog (W.alloc (.cells #[.slice A5 n c5, .int .i64 la] 75)) = .ok () W1 ∧
      IsDisk W1 d m { S with L := put S.L s.data.toList (xs, la) } (put F s.data.toList ⟨W.heap.size, .slice A5 n c5, (xs, la)⟩) ∧
      foot d m (put F s.data.toList ⟨W.heap.size, .slice A5 n c5, (xs, la)⟩) = foot d m F ++ one ⟨W.heap.size, .slice A5 n c5, (xs, la)⟩ ∧ Kept W W1 (fun b => b = m) ∧ ∀ B, B ≤ W.heap.size → B ≤ m → Below B W W1 := by
  have hm := hi.map.step (W' := W.alloc (.cells #[.slice A5 n c5, .int .i64 la] 75)) (Below.heap_alloc _ _ _ hi.map.lt)
  obtain ⟨W1, hrun, hm1, ht⟩ := hm.store PT (by rw [gm, List.length_map]; unfold maxLen; omega) s hsz W.heap.size
  have hg := ht.grown
  have hlt := hi.map.lt
  have hne : W.heap.size ≠ m := by omega
  have hnb : W1.heap[W.heap.size]? = some (.cells #[.slice A5 n c5, .int .i64 la] 75 (0, 0)) := blk_grown (heap_alloc_new W _) hg (fun e => hne (by injection e))
  have hst : ∀ b, b < W.heap.size → b ≠ m → W1.heap[b]? = W.heap[b]? := fun b hb hbm => (hg.block b (by simp; omega) (fun e => hbm (by injection e))).trans (Below.heap_alloc _ _ _ hb)
  have hmf : m ∈ foot d m F := by simp [foot]
  have ha := hi.addedX (W' := W1) (S' := { S with L := put S.L s.data.toList (xs, la) }) (y := ⟨W.heap.size, .slice A5 n c5, (xs, la)⟩) hk ⟨hnb, hd.step (fun b hb => hst b (hd.lt hb) (fun e => hown b hb (by rw [e]; exact hmf)))⟩ hm1 (fun b hb hbm => hst b (hi.lt b hb) hbm) (fun b hb => by
      rcases List.mem_cons.1 hb with rfl | hb
      · exact fun h => by have := hi.lt _ h; simp at this
      · exact hown b (by simpa using hb)) (by
      unfold one
      rw [List.nodup_cons]
      refine ⟨fun h => ?_, by cases (Value.slice A5 n c5).ownBlock <;> simp⟩
      have := hd.lt (g := W.heap.size) (by simpa using h)
      omega) rfl
  exact ⟨W1, hrun, ha.1, ha.2, Kept.of_grown hg ((Kept.refl W _).alloc _) (fun b hb => .inl (by injection hb with hb; exact hb.symm)), fun B h1 h2 => ((Below.refl B W).alloc h1 _).grown hg (by simp; omega) (fun b hb => by injection hb with hb; omega)⟩
theorem dat_of_R {base : Nat} {okx : Nat → Prop} {v : Value} {xs : List Int} (h : (Kd.int .u8).R 5 W base okx v xs) : Dat W v xs := Dat.of_own (Kd.own_of_R h)
theorem copy_fine {L' : List (Key × (List Int × Nat))} (hf : S.Fine) (hp : L'.Perm S.L) : (⟨S.room, false, 0, L'⟩ : DV).Fine :=
  ⟨hf.r0, hf.r1, by simp, by simp, by show (total L' : Int) ≤ _; rw [perm_total hp]; exact hf.used, fun p h => hf.lasts p (hp.mem_iff.1 h), (hp.map _).nodup_iff.2 hf.once, by show L'.length ≤ _; rw [hp.length_eq]; exact hf.many⟩
set_option maxRecDepth 100000 in
set_option maxHeartbeats 8000000 in
theorem copy_up (h : DiskUp w w0 ok d S) :
    Calls Try.prog 18 #[.pointer (some ⟨d, 0, none⟩)] w fun e w' => ∃ L', e = .returned (.pointer (some ⟨w.heap.size + 1, 0, none⟩)) ∧ L'.Perm S.L ∧ DiskUp w' w0 (fun k => w.heap.size ≤ k) (w.heap.size + 1) ⟨S.room, false, 0, L'⟩ ∧ Below w.heap.size w w' := by
  have HD := Aside0.mk h
  obtain ⟨⟨m, F, hi, hft⟩, hB0, hf⟩ := h
  have hm1 := hi.head.c1
  obtain ⟨room, hroom⟩ : ∃ room, room = S.room := ⟨_, rfl⟩
  have hm0 : w.cell? ⟨d, 0, none⟩ = some (.int .i64 room) := by rw [hroom]; exact hi.head.c0
  obtain ⟨w1, hw1⟩ : ∃ w1, w1 = (w.alloc (.map #[] 0)).alloc (.cells #[.int .i64 room, .map (some w.heap.size), .bool false, .int .i64 0] 68) := ⟨_, rfl⟩
  have hb1 : Below w.heap.size w w1 := by rw [hw1]; exact ((Below.refl _ _).alloc (Nat.le_refl _) _).alloc (by simp) _
  have hz1 : w1.heap.size = w.heap.size + 2 := by rw [hw1]; simp
  have hi1 := hi.belowed hb1
  have hnew : IsDisk w1 (w.heap.size + 1) w.heap.size ⟨room, false, 0, []⟩ [] := by
    refine ⟨?_, ?_, fun p hp => (by cases hp), by simp [foot, blocks], rfl⟩
    · have := heap_alloc_new (w.alloc (.map #[] 0)) (.cells #[.int .i64 room, .map (some w.heap.size), .bool false, .int .i64 0] 68)
      have e : (w.alloc (.map #[] 0)).heap.size = w.heap.size + 1 := by simp
      rw [e] at this
      rw [hw1]
      exact this
    · rw [hw1]
      exact (HasMap.made Try.prog 9 w).step (Below.heap_alloc _ _ _ (by simp))
  obtain ⟨w2, hrun, hrg, hg1, hs1⟩ := hi1.map.range PT
  have hb2 : Below w.heap.size w w2 := hb1.grown hg1 hb1.size (fun k hk => by cases hk)
  have hnew2 := hnew.step (W' := w2) (fun b hb => hg1.block b (hnew.lt b hb) (by simp))
  have hi2 := hi.belowed hb2
  rw [hz1] at hrun hrg
  have HI := Aside0.mk hi
  have HNEW := Aside0.mk hnew2
  have HRG := Aside0.mk hrg
  have HB2 := Aside0.mk hb2
  have HS1 := Aside0.mk hs1
  have HZ1 := Aside0.mk hz1
  have HFI := Aside0.mk hf
  have HRM := Aside0.mk hroom
  have HW1 := Aside0.mk hw1
  have hmm := @run_makeMap Try.prog
  rw [hw1] at hrun
  have hm1a : ((w.alloc (.map #[] 0)).alloc (.cells #[.int .i64 room, .map (some w.heap.size), .bool false, .int .i64 0] 68)).cell? ⟨d, 1, none⟩ = some (.map (some m)) := Go.Lib.cell?_alloc_some _ (Go.Lib.cell?_alloc_some _ hm1)
  have hm0a := fun o => Go.Lib.cell?_alloc_some o hm0
  clear hi hf hrg hg1 hft hB0 hb1 hi1 hnew hnew2 hi2 hw1 hz1 hs1 hb2 hroom
  go_enter Try.func18, Try.ntmps18
  go_wp2
  go_loopg [4, 5] (gm F).length (fun gk s4 s5 wr => ∃ (todo : List (Key × Nat)) (cnt : Nat) (F' : FL), cnt ≤ gk ∧ Aside0 (Ranges Try.prog 9 wr m (w.heap.size + 2) (gm F) todo cnt) ∧ Aside0 (IsDisk wr (w.heap.size + 1) w.heap.size ⟨room, false, 0, xm F'⟩ F') ∧ Aside0 (∀ b ∈ foot (w.heap.size + 1) w.heap.size F', w.heap.size ≤ b ∧ b ≠ w.heap.size + 2) ∧
    Aside0 (∀ k, at_ (xm F') k = if (at_ todo k).isSome = true then none else at_ S.L k) ∧ Aside0 (F'.length + todo.length = F.length) ∧ Aside0 (Below w.heap.size w wr))
  case atStart =>
    refine ⟨gm F, _, [], Nat.le_refl _, HRG, HNEW, ⟨fun b hb => ?_⟩, ⟨fun k => ?_⟩, ⟨by simp [gm]⟩, HB2⟩
    · simp [foot, blocks] at hb
      omega
    · rw [HI.out.at, HI.out.atL]
      cases at_ F k <;> rfl
  case round =>
    clear HRG HNEW HB2
    obtain ⟨todo, cnt, F', hgk, HRG, HI', HF, HX, HLN, HB⟩ := hrel
    rcases HRG.out.next PT 0 with ⟨h0, hnil, hnext⟩ | ⟨s, g, todo', w2, cnt', hsz, hat, hperm, hr2, hlt, hg2, hs2, hnext, hent⟩
    · subst hnil
      go_wp2
      go_ret
      have hp : (xm F').Perm S.L := by
        refine once_perm ?_ HFI.out.once (fun k => by rw [HX.out]; rfl)
        have := HI'.out.once
        unfold Once xm at *
        rw [List.map_map]
        exact this
      refine ⟨xm F', rfl, hp, ⟨⟨w.heap.size, F', by rw [← HRM.out]; exact HI'.out, fun b hb => ⟨(HF.out b hb).1, Nat.le_trans HD.out.below.size (HF.out b hb).1⟩⟩, HD.out.below.trans (HB.out.mono HD.out.below.size), copy_fine HFI.out hp⟩, HB.out⟩
    · obtain ⟨gk, rfl⟩ : ∃ q, gk = q + 1 := ⟨gk - 1, by omega⟩
      have hgg : (at_ F s.data.toList).map (·.g) = some g := by rw [← HI.out.at]; exact hat
      obtain ⟨y, hy, rfl⟩ := Option.map_eq_some_iff.1 hgg
      have hb2 : Below w.heap.size w w2 := HB.out.grown hg2 HB.out.size (fun k hk => by injection hk with hk; omega)
      have hi2 := HI.out.belowed hb2
      have hi2' : IsDisk w2 (w.heap.size + 1) w.heap.size ⟨room, false, 0, xm F'⟩ F' := HI'.out.step (fun b hb => hg2.block b (HI'.out.lt b hb) (fun e => by injection e with e; exact (HF.out b hb).2 e))
      have hfile := hi2.file _ (at_mem hy)
      have hc0 := hfile.c0
      have hc1 := hfile.c1
      obtain ⟨A, c, hv, hcc⟩ := hfile.2.slice
      simp only at hv hc0 hc1
      obtain ⟨xs, hxs⟩ : ∃ xs, xs = y.x.1 := ⟨_, rfl⟩
      obtain ⟨n, hn⟩ : ∃ n, n = xs.length := ⟨_, rfl⟩
      obtain ⟨la, hla⟩ : ∃ la, la = y.x.2 := ⟨_, rfl⟩
      have hxlen : xs.length ≤ 140737488355328 := by
        have h1 := total_mem (L := S.L) (k := s.data.toList) (x := y.x) (by rw [HI.out.atL, hy]; rfl)
        have := HFI.out.used
        have := HFI.out.r1
        rw [hxs]
        omega
      have hcl := clone_calls A c y.x.1 w2.drew (hfile.2.C hv) (by rw [← hxs]; exact hxlen)
      rw [hv, ← hxs, ← hn] at hc0
      rw [← hla] at hc1
      rw [← hxs] at hcl
      have HCL := Aside0.mk hcl
      rw [← hn] at HCL
      have ho1 : w2.drew.cell? ⟨w.heap.size + 1, 1, none⟩ = some (.map (some w.heap.size)) := hi2'.head.c1
      have hkn : at_ F' s.data.toList = none := by
        have h1 := HX.out s.data.toList
        rw [if_pos (by rw [at_isSome_perm hperm, at_cons]; simp)] at h1
        have h2 := HI'.out.atL s.data.toList
        simp only at h2
        rw [h1] at h2
        cases hf : at_ F' s.data.toList with
        | none => rfl
        | some z => rw [hf] at h2; cases h2
      have hln : F'.length + (todo'.length + 1) = F.length := by
        have := HLN.out
        rw [hperm.length_eq] at this
        simpa using this
      have hF4 : F.length ≤ 4096 := by
        have h1 := HFI.out.many
        rw [HI.out.val, xm, List.length_map] at h1
        exact h1
      have HADD : Aside0 (∀ (w5 : World) (A5 : Option Addr) (c5 : Nat), (Kd.int .u8).R 5 w5 w2.drew.heap.size (fun k => w2.drew.heap.size ≤ k) (.slice A5 xs.length c5) xs → Below w2.drew.heap.size w2.drew w5 →
          ∃ W6, (Instr.mapUpdate 66 (.map (some w.heap.size)) (.string s) (.pointer (some ⟨w5.heap.size, 0, none⟩))).run Try.prog (w5.alloc (.cells #[.slice A5 xs.length c5, .int .i64 la] 75)) = .ok () W6 ∧
            Aside0 (IsDisk W6 (w.heap.size + 1) w.heap.size ⟨room, false, 0, xm (put F' s.data.toList ⟨w5.heap.size, .slice A5 xs.length c5, (xs, la)⟩)⟩ (put F' s.data.toList ⟨w5.heap.size, .slice A5 xs.length c5, (xs, la)⟩) ∧ (∀ b ∈ foot (w.heap.size + 1) w.heap.size (put F' s.data.toList ⟨w5.heap.size, .slice A5 xs.length c5, (xs, la)⟩), w.heap.size ≤ b ∧ b ≠ w.heap.size + 2) ∧ Below w.heap.size w W6 ∧ W6.heap[m]? = w2.heap[m]? ∧ W6.heap[w.heap.size + 2]? = w2.heap[w.heap.size + 2]?)) := ⟨fun w5 A5 c5 hR5 hB5 => by
        have hi5 := hi2'.belowed (W' := w5) ((bdrew (Below.refl _ _)).trans hB5)
        have hrl := HRG.out.lt
        have hs5 : w2.heap.size ≤ w5.heap.size := hB5.size
        obtain ⟨W6, h1, h2, h3, h4, h5⟩ := copied_is hi5 s hkn hsz (by omega) A5 c5 xs la xs.length rfl (dat_of_R hR5) (fun b hb hb2 => by
          have h6 := hR5.1 b hb
          have h7 := hi2'.lt b hb2
          simp at h6
          omega)
        have hval := h2.val
        simp only at hval
        have hml : m < w2.heap.size := hi2.lt m (by simp [foot])
        have hmw : m < w.heap.size := HI.out.lt m (by simp [foot])
        have hrl2 : w.heap.size + 2 < w2.heap.size := by rw [hs2]; exact hrl
        refine ⟨W6, h1, ⟨?_, fun b hb => ?_, ?_, ?_, ?_⟩⟩
        · rw [← hval]; exact h2
        · rw [h3] at hb
          rcases List.mem_append.1 hb with hb | hb
          · exact HF.out b hb
          · rcases List.mem_cons.1 hb with rfl | hb
            · simp only; omega
            · have h6 := hR5.1 b (by simpa using hb)
              simp at h6
              omega
        · exact (hb2.trans (((bdrew (Below.refl _ _)).trans hB5).mono hb2.size)).trans (h5 _ (Nat.le_trans hb2.size hs5) (Nat.le_refl _))
        · exact (h4.2 m (by omega) (by omega)).trans (hB5.block m hml)
        · exact (h4.2 (w.heap.size + 2) (by omega) (by omega)).trans (hB5.block (w.heap.size + 2) hrl2)⟩
      have HR2 := Aside0.mk hr2
      have HKN := Aside0.mk hkn
      have HPM := Aside0.mk hperm
      have HY := Aside0.mk hy
      have HXS := Aside0.mk hxs
      have HLA := Aside0.mk hla
      have HXL := Aside0.mk hn
      have HLN' := Aside0.mk hln
      clear hcl hb2 hi2 hi2' hfile hv hxs hn hla hxlen hkn hln hF4 hr2 hperm hy hg2 hs2 hgg hat
      go_wp2
      refine start_ (n := 17) (S := fun w' => w'.cell? ⟨w.heap.size + 1, 1, none⟩ = some (.map (some w.heap.size)) ∧ w'.cell? ⟨y.g, 0, none⟩ = some (.slice A n c) ∧ w'.cell? ⟨y.g, 1, none⟩ = some (.int .i64 (la : Nat))) (ds := [16]) #[false, false, false, false, false, false, false, false, false, false, false, false, false, false, false, false, false] (by kernel_rfl) rfl rfl ⟨ho1, hc0, hc1⟩ (fun hHeld => ?_)
      refine pure_ (i := 0) (N := some 25) (v := ?_) (a' := ?_) #[true, false, false, false, false, false, false, false, false, false, false, false, false, false, false, false, false] rfl rfl (by kernel_rfl) (fun _ _ _ h => h) (Or.inl ⟨by rfl, ?_⟩) ?_ ?_
      rotate_left
      · intro w'
        go_simp
        with_reducible rfl
      rotate_left
      · simp only [Act.put, List.setIfInBounds_toArray, List.set_cons_zero, List.set_cons_succ, i64_w, i32_w]
        rfl
      refine pure_ (i := 1) (N := some 26) (v := ?_) (a' := ?_) #[true, true, false, false, false, false, false, false, false, false, false, false, false, false, false, false, false] rfl rfl (by kernel_rfl) (fun _ _ _ h => h) (Or.inl ⟨by rfl, ?_⟩) ?_ ?_
      rotate_left
      · intro w'
        go_simp
        with_reducible rfl
      rotate_left
      · simp only [Act.put, List.setIfInBounds_toArray, List.set_cons_zero, List.set_cons_succ, i64_w, i32_w]
        rfl
      refine pure_ (i := 2) (N := some 27) (v := ?_) (a' := ?_) #[true, true, true, false, false, false, false, false, false, false, false, false, false, false, false, false, false] rfl rfl (by kernel_rfl) (fun _ _ _ h => h) (Or.inl ⟨by rfl, ?_⟩) ?_ ?_
      rotate_left
      · intro w'
        go_simp
        with_reducible rfl
      rotate_left
      · simp only [Act.put, List.setIfInBounds_toArray, List.set_cons_zero, List.set_cons_succ, i64_w, i32_w]
        rfl
      refine pure_ (i := 4) (N := some 29) (v := ?_) (a' := ?_) #[true, true, true, false, true, false, false, false, false, false, false, false, false, false, false, false, false] rfl rfl (by kernel_rfl) (fun _ _ _ h => h) (Or.inl ⟨by rfl, ?_⟩) ?_ ?_
      rotate_left
      · intro w'
        go_simp
        with_reducible rfl
      rotate_left
      · simp only [Act.put, List.setIfInBounds_toArray, List.set_cons_zero, List.set_cons_succ, i64_w, i32_w]
        rfl
      refine pure_ (i := 5) (N := some 30) (v := ?_) (a' := ?_) #[true, true, true, false, true, true, false, false, false, false, false, false, false, false, false, false, false] rfl rfl (by kernel_rfl) (fun _ _ _ h => h) (Or.inl ⟨by rfl, ?_⟩) ?_ ?_
      rotate_left
      · intro w'
        go_simp
        with_reducible rfl
      rotate_left
      · simp only [Act.put, List.setIfInBounds_toArray, List.set_cons_zero, List.set_cons_succ, i64_w, i32_w]
        rfl
      refine pure_ (i := 6) (N := some 31) (v := ?_) (a' := ?_) #[true, true, true, false, true, true, true, false, false, false, false, false, false, false, false, false, false] rfl rfl (by kernel_rfl) (fun _ _ _ h => h) (Or.inl ⟨by rfl, ?_⟩) ?_ ?_
      rotate_left
      · intro w'
        go_simp
        with_reducible rfl
      rotate_left
      · simp only [Act.put, List.setIfInBounds_toArray, List.set_cons_zero, List.set_cons_succ, i64_w, i32_w]
        rfl
      refine pure_ (i := 7) (N := some 32) (v := ?_) (a' := ?_) #[true, true, true, false, true, true, true, true, false, false, false, false, false, false, false, false, false] rfl rfl (by kernel_rfl) (fun _ _ _ h => h) (Or.inl ⟨by rfl, ?_⟩) ?_ ?_
      rotate_left
      · intro w'
        go_simp
        with_reducible rfl
      rotate_left
      · simp only [Act.put, List.setIfInBounds_toArray, List.set_cons_zero, List.set_cons_succ, i64_w, i32_w]
        rfl
      refine pure_ (i := 10) (N := some 35) (v := ?_) (a' := ?_) #[true, true, true, false, true, true, true, true, false, false, true, false, false, false, false, false, false] rfl rfl (by kernel_rfl) (fun _ _ _ h => h) (Or.inl ⟨by rfl, ?_⟩) ?_ ?_
      rotate_left
      · intro w'
        go_simp
        with_reducible rfl
      rotate_left
      · simp only [Act.put, List.setIfInBounds_toArray, List.set_cons_zero, List.set_cons_succ, i64_w, i32_w]
        rfl
      refine pure_ (i := 11) (N := some 36) (v := ?_) (a' := ?_) #[true, true, true, false, true, true, true, true, false, false, true, true, false, false, false, false, false] rfl rfl (by kernel_rfl) (fun _ _ _ h => h) (Or.inl ⟨by rfl, ?_⟩) ?_ ?_
      rotate_left
      · intro w'
        go_simp
        with_reducible rfl
      rotate_left
      · simp only [Act.put, List.setIfInBounds_toArray, List.set_cons_zero, List.set_cons_succ, i64_w, i32_w]
        rfl
      refine pure_ (i := 12) (N := some 37) (v := ?_) (a' := ?_) #[true, true, true, false, true, true, true, true, false, false, true, true, true, false, false, false, false] rfl rfl (by kernel_rfl) (fun _ _ _ h => h) (Or.inl ⟨by rfl, ?_⟩) ?_ ?_
      rotate_left
      · intro w'
        go_simp
        with_reducible rfl
      rotate_left
      · simp only [Act.put, List.setIfInBounds_toArray, List.set_cons_zero, List.set_cons_succ, i64_w, i32_w]
        rfl
      refine take_ (i := 3) (N := some 28) (v := ?_) (a' := ?_) #[true, true, true, true, true, true, true, true, false, false, true, true, true, false, false, false, false] rfl rfl (by kernel_rfl) (fun _ _ _ h => h) (Or.inl ⟨by rfl, ?_⟩) hHeld ?_ ?_
      rotate_left
      · rintro w' ⟨s0, s1, s2⟩
        go_simp
        with_reducible rfl
      rotate_left
      · simp only [Act.put, List.setIfInBounds_toArray, List.set_cons_zero, List.set_cons_succ, i64_w, i32_w]
        rfl
      refine take_ (i := 8) (N := some 33) (v := ?_) (a' := ?_) #[true, true, true, true, true, true, true, true, true, false, true, true, true, false, false, false, false] rfl rfl (by kernel_rfl) (fun _ _ _ h => h) (Or.inl ⟨by rfl, ?_⟩) hHeld ?_ ?_
      rotate_left
      · rintro w' ⟨s0, s1, s2⟩
        go_simp
        with_reducible rfl
      rotate_left
      · simp only [Act.put, List.setIfInBounds_toArray, List.set_cons_zero, List.set_cons_succ, i64_w, i32_w]
        rfl
      refine take_ (i := 13) (N := some 38) (v := ?_) (a' := ?_) #[true, true, true, true, true, true, true, true, true, false, true, true, true, true, false, false, false] rfl rfl (by kernel_rfl) (fun _ _ _ h => h) (Or.inl ⟨by rfl, ?_⟩) hHeld ?_ ?_
      rotate_left
      · rintro w' ⟨s0, s1, s2⟩
        go_simp
        with_reducible rfl
      rotate_left
      · simp only [Act.put, List.setIfInBounds_toArray, List.set_cons_zero, List.set_cons_succ, i64_w, i32_w]
        rfl
      refine one_ (i := 9) (N := some 34) #[true, true, true, true, true, true, true, true, true, true, true, true, true, true, false, false, false] rfl rfl (by kernel_rfl) (by decide) (fun K hK => ?_)
      refine goes_ Try.func43 (by kernel_rfl) rfl #[.slice A n c] (by rfl) rfl rfl (by simp only [List.map_toArray, List.map_cons, List.map_nil]; rfl) ?_
      with_reducible refine (HCL.out).mono ?_
      rintro e5 w5 ⟨v5, rfl, hR5, hB5⟩
      obtain ⟨A5, c5, rfl⟩ := Kd.R_slice hR5
      obtain ⟨W6, hrun6, hX6⟩ := HADD.out w5 A5 c5 hR5 hB5
      rw [← HXL.out] at hrun6 hX6 ⊢
      refine ⟨_, rfl, ?_⟩
      refine hK.out _ _ ⟨(cell_below hHeld.1 hB5), (cell_below hHeld.2.1 hB5), (cell_below hHeld.2.2 hB5)⟩ (fun hHeld => ?_)
      clear hK K
      refine norm_ (a' := ?_) ?_ ?_
      rotate_left
      · show Act.put _ (some 34) _ = _
        simp only [Act.put, List.setIfInBounds_toArray, List.set_cons_zero, List.set_cons_succ, i64_w, i32_w]
        rfl
      refine pure_ (i := 14) (N := some 39) (v := ?_) (a' := ?_) #[true, true, true, true, true, true, true, true, true, true, true, true, true, true, true, false, false] rfl rfl (by kernel_rfl) (fun _ _ _ h => h) (Or.inl ⟨by rfl, ?_⟩) ?_ ?_
      rotate_left
      · intro w'
        go_simp
        with_reducible rfl
      rotate_left
      · simp only [Act.put, List.setIfInBounds_toArray, List.set_cons_zero, List.set_cons_succ, i64_w, i32_w]
        rfl
      refine one_ (i := 15) (N := some 40) #[true, true, true, true, true, true, true, true, true, true, true, true, true, true, true, true, false] rfl rfl (by kernel_rfl) (by decide) (fun K hK => ?_)
      refine value_ (w1 := ?_) (v := ?_) (by rfl) rfl ?_ ?_
      rotate_left 2
      · go_simp
        constructor
        · rfl
        · rfl
      refine hK.out _ _ ⟨(Go.Lib.cell?_alloc_some _ hHeld.1), (Go.Lib.cell?_alloc_some _ hHeld.2.1), (Go.Lib.cell?_alloc_some _ hHeld.2.2)⟩ (fun hHeld => ?_)
      clear hK K
      refine norm_ (a' := ?_) ?_ ?_
      rotate_left
      · show Act.put _ (some 40) _ = _
        simp only [Act.put, List.setIfInBounds_toArray, List.set_cons_zero, List.set_cons_succ, i64_w, i32_w]
        rfl
      refine last_ (i := 16) (N := none) #[true, true, true, true, true, true, true, true, true, true, true, true, true, true, true, true, true] rfl rfl (by kernel_rfl) (by decide) (fun K hK => ?_)
      refine skip_ (w1 := ?_) (by rfl) rfl ?_ ?_
      rotate_left
      · go_simp
        rfl
      refine hK.out _ _ ?_
      clear hK K
      refine done_ (by kernel_rfl) ?_
      clear hHeld
      go_wp2
      go_roundg gk
      case measure => omega
      case rel =>
        obtain ⟨h1, h2, h3, h4, h5⟩ := hX6.out
        refine ⟨todo', cnt', _, by omega, ⟨HR2.out.step h4 h5⟩, ⟨h1⟩, ⟨h2⟩, ⟨fun k => ?_⟩, ⟨?_⟩, ⟨h3⟩⟩
        · have hpx : ∀ (g5 : Nat) (v5 : Value), xm (put F' s.data.toList ⟨g5, v5, (xs, la)⟩) = put (xm F') s.data.toList (xs, la) := fun g5 v5 => (put_map (fun y : FV => y.x) F' s.data.toList ⟨g5, v5, (xs, la)⟩).symm
          rw [hpx]
          have hkn : (at_ todo' s.data.toList).isSome = false := by
            have h1 : Once ((s.data.toList, y.g) :: todo') := (HPM.out.map (fun p : Key × Nat => p.1)).nodup_iff.1 (Ranges.todo_once HRG.out)
            cases h : (at_ todo' s.data.toList).isSome with
            | false => rfl
            | true =>
              obtain ⟨q, hq, e⟩ := at_isSome.1 h
              exact absurd (List.mem_map.2 ⟨q, hq, e⟩) (List.nodup_cons.1 h1).1
          rw [put_at]
          by_cases hk : k = s.data.toList
          · subst hk
            rw [if_pos rfl, hkn, HI.out.atL, HY.out, HXS.out, HLA.out]
            rfl
          · have hb : (s.data.toList == k) = false := beq_eq_false_iff_ne.2 (fun e => hk e.symm)
            rw [if_neg hk, HX.out k, at_isSome_perm HPM.out, at_cons, hb]
            rfl
        · have hn : at_ F' s.data.toList = none := HKN.out
          rw [put_new hn, List.length_append]
          have := HLN'.out
          simp only [List.length_cons, List.length_nil]
          omega
end
end Go.Proofs.Ytdepjlnljkbfjaa.Hand
