/- MemLast: the walk. -/
import Derived.Test.YtaghcepochjoeaaLast
import Derived.Test.YtaghcepochjoeaaHeavy
namespace Go.Proofs.Ytaghcepochjoeaa.Hand
open Go.RowKit Go.Proofs.Ytaghcepochjoeaa.PA Go.Proofs.Ytaghcepochjoeaa.MapV Go.Proofs.YtaghcepochjoeaaW.PrintWords Go.Proofs.YtaghcepochjoeaaW.PrintLast Go.Proofs.YtaghcepochjoeaaW.PrintMore
attribute [local go_sem] max2_int min2_int
set_option linter.unusedVariables false
set_option linter.unusedSimpArgs false
theorem infoS : (Try.prog.info? 9).map (fun i => (i.zero, i.size, i.bytes)) = some (some (.string ByteArray.empty), 1, 16) := by kernel_rfl
theorem tdel_good {S : TS} {s : ByteArray} (h : ¬ s.size < 1) (h2 : ¬ 64 < s.size) : tdel S s = (0, put S s.data.toList ([], false)) := by
  have hg : goodK s = true := by unfold goodK; simp; omega
  unfold tdel
  rw [hg]
  rfl
theorem tput_good {S : TS} {s : ByteArray} {xs : List Int} (h : ¬ s.size < 1) (h2 : ¬ 64 < s.size) (h3 : ¬ 4096 < xs.length) : tput S s xs = (0, put S s.data.toList (xs, true)) := by
  have hg : goodK s = true := by unfold goodK; simp; omega
  unfold tput
  rw [hg, if_neg (by simp), if_neg h3]
theorem len_put {β : Type} (S : List (Key × β)) (k : Key) (x : β) : (put S k x).length ≤ S.length + 1 := by
  rw [length_put]
  split <;> omega
theorem val_SE (o : Option ByteArray) : MapV.valOf SE o = Value.string (o.getD ByteArray.empty) := by cases o <;> rfl
set_option maxRecDepth 100000 in
set_option maxHeartbeats 40000000 in
theorem last_walk (l : List S32) (A : Option Addr) (c : Nat) (w : World) (hK : Kd.C k32 w A l.length l) (hlc : l.length ≤ c) (hll : l.length ≤ 140737488351232) (hok : ∀ x ∈ l, stepOk x) :
    Calls Try.prog 5 #[.slice A l.length c] w fun e w' => e = .returned (.bool true) ∧ Below w.heap.size w w' := by
  have HK := Aside0.mk hK
  have hn63 := hK.2.1
  have HFIT : Aside0 (∀ i : Nat, i < l.length → stepOk (rd_T32 l i)) := ⟨fun i hi => hok _ (by
    unfold rd_T32
    rw [Int.toNat_natCast, List.getD_eq_getElem?_getD, List.getElem?_eq_getElem hi]
    exact List.getElem_mem hi)⟩
  obtain ⟨k, hv, hf, hlight⟩ := heavy_is l (by omega) (fun i hi => (HFIT.out i hi).fits)
  have HH := Aside0.mk (haystacklaw12_heavy.calls k A c l hv w hK hlc hf)
  clear hlight hf hlc
  obtain ⟨L, hn⟩ : ∃ L, L = l.length := ⟨_, rfl⟩
  rw [← hn] at hn63 HH ⊢
  have HN := Aside0.mk hn
  have hl47 : L ≤ 140737488351232 := by omega
  clear hK hok hn hll
  have hmm := @run_makeMap Try.prog
  go_enter Try.func5, Try.ntmps5
  go_wp2_with fail
  refine (HH.out).mono ?_
  rintro e w1 ⟨rfl, hd1⟩
  have HB1 := Aside0.mk hd1.below
  clear hd1 HH
  cases hv
  case true =>
    go_wp2_with fail
    refine (known_calls _).mono ?_
    rintro e w2 ⟨rfl, hB2⟩
    go_wp2
    go_ret
    exact ⟨rfl, HB1.out.trans (hB2.mono HB1.out.size)⟩
  case false =>
    have HC1 : Aside0 (Kd.C k32 w1 A L l) := ⟨by rw [HN.out]; exact Kd.C_below HK.out HB1.out⟩
    have K1 := Aside0.mk (new_up none 0 0 [] w1 ⟨rfl, by simp, fun h => absurd h (by simp)⟩ (fun i hi => by simp at hi) (by simp))
    go_wp2_with fail
    refine K1.out.mono ?_
    rintro e w2 ⟨g, rfl, h2⟩
    have HL0 := Aside0.mk (LastUp.start h2)
    obtain ⟨m, hm⟩ : ∃ m, m = w2.heap.size := ⟨_, rfl⟩
    rw [← hm] at HL0
    have HM := Aside0.mk hm.symm
    clear h2 K1 hm
    obtain ⟨M, hM⟩ : ∃ M, M = min L 120 := ⟨_, rfl⟩
    have hM1 : M ≤ L := by omega
    have hM2 : M ≤ 120 := by omega
    have hM3 : M = L ∨ M = 120 := by omega
    clear hM
    go_wp2
    rw [HM.out]
    go_loopg [5, 6, 7] M (fun gk s5 s6 s7 wr => ∃ (i : Nat) (S : TS) (F : FS) (ks : List ByteArray), i ≤ M ∧ M - i ≤ gk ∧ s6 = .int .i64 i ∧ Aside0 (LastUp wr w1 (fun _ => False) g m s5 S F ks) ∧ Aside0 (LRel S F ks) ∧ Aside0 (S.length ≤ i ∧ ks.length ≤ i))
    case atStart => exact ⟨0, [], [], [], Nat.zero_le _, by omega, rfl, HL0, ⟨LRel.start⟩, ⟨by simp⟩⟩
    case round =>
      clear HL0
      obtain ⟨i, S, F, ks, hi, hgk, rfl, HU, HR, HL⟩ := hrel
      by_cases hlt : i < M
      · obtain ⟨gk, rfl⟩ : ∃ q, gk = q + 1 := ⟨gk - 1, by omega⟩
        have hil : i < l.length := by have := HN.out; omega
        have hi120 : (i : Int) < 120 := by omega
        have hiL : (i : Int) < L := by omega
        have hok := HFIT.out i hil
        obtain ⟨ad, A2, c2, rfl, hy0, hy1, hy2, hc2, hC2⟩ := at_T32 HC1.out (i : Int) (by omega) (by omega)
        simp only [Int.toNat_natCast] at hy0 hy1 hy2
        have hx0 := cell_below hy0 HU.out.below
        have hx1 := cell_below hy1 HU.out.below
        have hx2 := cell_below hy2 HU.out.below
        clear hy0 hy1 hy2
        generalize rd_T32 l (i : Int) = x at *
        obtain ⟨x0, s, xs⟩ := x
        simp only at hx0 hx1 hx2 hc2 hC2
        obtain ⟨hw0, hs0, hb0, hb1⟩ := hok
        simp only at hs0 hb1 hw0 hb0
        unfold reachBytes at hs0 hb0
        rw [bytes5, Nat.mul_one] at hb0
        have hBW : Below wr.heap.size wr (wr.alloc (.cells #[.int .i64 x0, .string s, .slice A2 xs.length c2] 32)) := (Below.refl _ _).alloc (Nat.le_refl _) _
        have HU9 := Aside0.mk (HU.out.mark hBW (by simp))
        have h9 := heap_alloc_new wr (.cells #[.int .i64 x0, .string s, .slice A2 xs.length c2] 32)
        have c90 : (wr.alloc (.cells #[.int .i64 x0, .string s, .slice A2 xs.length c2] 32)).cell? ⟨wr.heap.size, 0, none⟩ = some (.int .i64 x0) := (blk_cell h9 0).trans rfl
        have c91 : (wr.alloc (.cells #[.int .i64 x0, .string s, .slice A2 xs.length c2] 32)).cell? ⟨wr.heap.size, 1, none⟩ = some (.string s) := (blk_cell h9 1).trans rfl
        have c92 : (wr.alloc (.cells #[.int .i64 x0, .string s, .slice A2 xs.length c2] 32)).cell? ⟨wr.heap.size, 2, none⟩ = some (.slice A2 xs.length c2) := (blk_cell h9 2).trans rfl
        have HC92 := Aside0.mk hC2
        have HB1X := Aside0.mk hb1
        have HS0 := Aside0.mk hs0
        clear hBW h9 hC2 hb1 hs0 hw0
        rcases (show s.size < 1 ∨ (¬ s.size < 1 ∧ 64 < s.size) ∨ (¬ s.size < 1 ∧ ¬ 64 < s.size ∧ 4096 < xs.length) ∨ (¬ s.size < 1 ∧ ¬ 64 < s.size ∧ ¬ 4096 < xs.length) from by omega) with hq | ⟨hq1, hq2⟩ | ⟨hq1, hq2, hq3⟩ | ⟨hq1, hq2, hq3⟩
        · go_wp2
          go_roundg gk
          case measure => omega
          case rel => exact ⟨i + 1, S, F, ks, by omega, by omega, by go_num, ⟨HU9.out.less (fun _ h => h.elim)⟩, HR, ⟨by have := HL.out; omega⟩⟩
        · go_wp2
          go_roundg gk
          case measure => omega
          case rel => exact ⟨i + 1, S, F, ks, by omega, by omega, by go_num, ⟨HU9.out.less (fun _ h => h.elim)⟩, HR, ⟨by have := HL.out; omega⟩⟩
        · go_wp2
          go_roundg gk
          case measure => omega
          case rel => exact ⟨i + 1, S, F, ks, by omega, by omega, by go_num, ⟨HU9.out.less (fun _ h => h.elim)⟩, HR, ⟨by have := HL.out; omega⟩⟩
        · have hAdd := HU9.out.add
          obtain ⟨K, hR9, hNext⟩ := hAdd
          have HR9 := Aside0.mk hR9
          have HNEXT := Aside0.mk hNext
          clear hR9 hNext
          by_cases h2 : x0 = 2
          · have HX2 := Aside0.mk h2
            clear h2
            go_wp2_with ((with_reducible refine gate_builtin (b := .append) (xs := #[.tmp 51, .tmp 54]) rfl ?_); at_builtin; refine Kd.R_append Kd.string (w0 := w1) w1.heap.size rfl (.tmp 51) (.tmp 54) 27 9 (.string ByteArray.empty) 16 rfl Try.underlying27 infoS rfl (by decide) (by decide) _ ks s [.string s] (fun k => K k ∨ (wr.alloc (.cells #[.int .i64 x0, .string s, .slice A2 xs.length c2] 32)).heap.size ≤ k) (fun _ => False) rfl ?aX ?aP (fun _ hk => hk.elim) (fun k hk => .inr hk) ?aO ?aB ?aS ?aL ?_; (case aX => first | (go_simp; done) | (go_simp; rfl)); (case aP => rfl); (case aO => exact Kd.R_mono HR9.out (fun k hk => .inl hk)); (case aB => exact HU9.out.below); (case aS => exact HU9.out.below.size); (case aL => have := HL.out; omega); intro v9 w9 ho9 hb9 hg9 hat9; have HNX := Aside0.mk (HNEXT.out w9 v9 _ ho9 hb9 hg9); clear ho9 hb9 hg9 hat9; have d90 := HNX.out.2 _ _ rfl c90; have d91 := HNX.out.2 _ _ rfl c91; have d92 := HNX.out.2 _ _ rfl c92; have h2 := HX2.out)
            obtain ⟨T, hT, hN⟩ := HNX.out.1.tab
            have kd := del_up hT (by have := HL.out; omega) s (by unfold maxLen; omega)
            rw [tdel_good hq1 hq2] at kd
            have KD := Aside0.mk kd
            have HN2 := Aside0.mk hN
            clear kd hT hN
            refine KD.out.mono ?_
            rintro e w10 ⟨rfl, h10, hk10⟩
            have hX := HN2.out w10 _ h10 hk10
            have e91 := hX.2 _ _ rfl d91
            obtain ⟨w11, hrun, hm11, ht11⟩ := hX.1.map.1.drop PS s (by unfold maxLen; omega) 0
            have HY := Aside0.mk ((hX.1.map.2 w11 _ hm11 ht11).1)
            clear h10 hk10 hX hm11 ht11 KD HN2
            go_wp2
            go_roundg gk
            case measure => omega
            case rel => exact ⟨i + 1, _, _, ks ++ [s], by omega, by omega, by go_num, ⟨HY.out.less (fun _ h => h.elim)⟩, ⟨HR.out.del s (by unfold maxLen; omega)⟩, ⟨by
              have := HL.out
              have h3 := len_put S s.data.toList ([], false)
              rw [List.length_append, List.length_singleton]
              omega⟩⟩
          · have HX2 := Aside0.mk h2
            clear h2
            go_wp2_with ((with_reducible refine gate_builtin (b := .append) (xs := #[.tmp 51, .tmp 54]) rfl ?_); at_builtin; refine Kd.R_append Kd.string (w0 := w1) w1.heap.size rfl (.tmp 51) (.tmp 54) 27 9 (.string ByteArray.empty) 16 rfl Try.underlying27 infoS rfl (by decide) (by decide) _ ks s [.string s] (fun k => K k ∨ (wr.alloc (.cells #[.int .i64 x0, .string s, .slice A2 xs.length c2] 32)).heap.size ≤ k) (fun _ => False) rfl ?aX ?aP (fun _ hk => hk.elim) (fun k hk => .inr hk) ?aO ?aB ?aS ?aL ?_; (case aX => first | (go_simp; done) | (go_simp; rfl)); (case aP => rfl); (case aO => exact Kd.R_mono HR9.out (fun k hk => .inl hk)); (case aB => exact HU9.out.below); (case aS => exact HU9.out.below.size); (case aL => have := HL.out; omega); intro v9 w9 ho9 hb9 hg9 hat9; have HNX := Aside0.mk (HNEXT.out w9 v9 _ ho9 hb9 hg9); clear ho9 hb9 hg9 hat9; have d90 := HNX.out.2 _ _ rfl c90; have d91 := HNX.out.2 _ _ rfl c91; have d92 := HNX.out.2 _ _ rfl c92; have h2 := HX2.out)
            obtain ⟨T, hT, hN⟩ := HNX.out.1.tab
            have hB9 := HNX.out.1.below
            have kd := put_up hT (by have := HL.out; omega) s (by unfold maxLen; omega) A2 xs.length c2 xs rfl (Kd.C_below HC92.out hB9) (by omega)
            rw [tput_good hq1 hq2 hq3] at kd
            have KD := Aside0.mk kd
            have HN2 := Aside0.mk hN
            clear kd hT hN hB9
            refine KD.out.mono ?_
            rintro e w10 ⟨rfl, h10, hk10⟩
            have hX := HN2.out w10 _ h10 hk10
            have e91 := hX.2 _ _ rfl d91
            have e92 := hX.2 _ _ rfl d92
            have hcv := Kd.C_string (P := Try.prog) (dst := 9) (c := c2) Try.underlying30 Try.underlying5 Try.underlying9 (Kd.C_below HC92.out hX.1.below)
            have hfl : F.length < maxLen := by
              have h1 := HR.out.count
              have h2 : (docsT S).length ≤ S.length := by unfold docsT; rw [List.length_map]; exact keysT_len S true
              have := HL.out
              unfold maxLen
              omega
            obtain ⟨w11, hrun, hm11, ht11⟩ := hX.1.map.1.store PS hfl s (by unfold maxLen; omega) (strOfNums xs)
            rw [show SE.enc (strOfNums xs) = .string (strOfNums xs) from rfl] at hrun
            have HY := Aside0.mk ((hX.1.map.2 w11 _ hm11 ht11).1)
            clear h10 hk10 hX hm11 ht11 KD HN2 hfl
            go_wp2
            go_roundg gk
            case measure => omega
            case rel => exact ⟨i + 1, _, _, ks ++ [s], by omega, by omega, by go_num, ⟨HY.out.less (fun _ h => h.elim)⟩, ⟨HR.out.put s (by unfold maxLen; omega) xs (by omega)⟩, ⟨by
              have := HL.out
              have h3 := len_put S s.data.toList (xs, true)
              rw [List.length_append, List.length_singleton]
              omega⟩⟩
      · obtain rfl : i = M := by omega
        obtain ⟨K, hR, _⟩ := HU.out.add
        obtain ⟨A5, c5, rfl⟩ := Kd.R_slice hR
        have hCk := (Kd.R_reads' hR).2.2
        have HCK := Aside0.mk hCk
        have hkl : ks.length ≤ 120 := by have := HL.out; omega
        have HBX := Aside0.mk HU.out.below
        clear hR hCk
        have hend : ¬ ((i : Int) < L) ∨ ((i : Int) < L ∧ ¬ ((i : Int) < 120)) := by omega
        rcases hend with hend | ⟨hendL, hend⟩
        all_goals
          go_wp2
          go_loopg [8, 9, 10, 11, 12, 13] ks.length (fun gk s8 s9 s10 s11 s12 s13 wx => ∃ j : Nat, j ≤ ks.length ∧ ks.length - j ≤ gk ∧ s8 = .int .i64 j ∧ Aside0 (Below wr.heap.size wr wx))
          case atStart => exact ⟨0, Nat.zero_le _, by omega, rfl, ⟨Below.refl _ _⟩⟩
          case round =>
            obtain ⟨j, hj, hjk, rfl, HB⟩ := hrel
            by_cases hlt2 : j < ks.length
            · obtain ⟨gk, rfl⟩ : ∃ q, gk = q + 1 := ⟨gk - 1, by omega⟩
              have hCw := Kd.C_below HCK.out HB.out
              have hA1 : ∃ ad, A5 = some ad := by obtain ⟨ad, e, _⟩ := hCw.2.2 (by omega); exact ⟨ad, e⟩
              obtain ⟨ad, rfl⟩ := hA1
              obtain ⟨gs, o, rfl, hcells⟩ := plain_str hCw (by omega)
              have hcell := hcells j hlt2
              have hmem : ks.getD j ByteArray.empty ∈ ks := by
                rw [List.getD_eq_getElem?_getD, List.getElem?_eq_getElem hlt2]
                exact List.getElem_mem hlt2
              generalize ks.getD j ByteArray.empty = s at hcell hmem
              have hsz := (HR.out.all s hmem).2
              obtain ⟨q1, q2, q3⟩ := HR.out.get s hmem
              have hLU := HU.out.quiet HB.out
              have hlook := hLU.map.1.look_ok PS s hsz
              rw [val_SE, ← q2, ← q3] at hlook
              obtain ⟨T, hT, _⟩ := hLU.tab
              have kg := get_up hT s hsz (by have := tget_len HR.out.txt s; omega)
              rw [q1] at kg
              generalize (tget S s).2.1 = has at hlook kg
              generalize (tget S s).1 = ps at hlook kg
              have KG := Aside0.mk kg
              clear kg hT hLU q1 q2 q3 hcells hCw hmem
              go_wp2_with fail
              refine KG.out.mono ?_
              rintro e w12 ⟨A12, c12, rfl, hc12, hC12, hb12⟩
              have hcv := Kd.C_string (P := Try.prog) (dst := 9) (c := c12) Try.underlying30 Try.underlying5 Try.underlying9 hC12
              have HB12 := Aside0.mk (HB.out.trans (hb12.mono HB.out.size))
              clear hC12 hb12 KG
              cases has <;> (go_wp2; go_roundg gk; (case measure => omega); (case rel => exact ⟨j + 1, by omega, by omega, by go_num, HB12⟩))
            · obtain rfl : j = ks.length := by omega
              have hLU := HU.out.quiet HB.out
              obtain ⟨T, hT, _⟩ := hLU.tab
              have HT := Aside0.mk hT
              have few : S.length ≤ 1000000 := by have := HL.out; omega
              have hcnt := HR.out.count
              have htot := HR.out.total
              have KD := Aside0.mk (docs_up hT few HR.out.txt)
              have hlen := hLU.map.1.len PS 3
              obtain ⟨dl, hdl⟩ : ∃ dl, dl = (docsT S).length := ⟨_, rfl⟩
              obtain ⟨el, hel⟩ : ∃ el, el = (keysT S false).length := ⟨_, rfl⟩
              rw [← hdl] at KD hcnt htot
              rw [← hel] at htot
              have HEL := Aside0.mk hel
              have HDL := Aside0.mk hdl
              have hsl : S.length ≤ 120 := by have := HL.out; omega
              clear hT hLU hdl hel
              have HBW := Aside0.mk HB.out
              go_wp2_with fail
              refine KD.out.mono ?_
              rintro e w13 ⟨A13, c13, rfl, hc13, _, hb13⟩
              have HB13 := Aside0.mk hb13
              have hlen2 := ((HU.out.quiet HB.out).quiet hb13).map.1.len PS 3
              rw [← hcnt] at hlen2
              have KD2 := Aside0.mk (docs_up (HT.out.quiet hb13) few HR.out.txt)
              rw [← HDL.out] at KD2
              clear hb13 KD hlen
              go_wp2_with fail
              refine KD2.out.mono ?_
              rintro e w14 ⟨A14, c14, rfl, hc14, _, hb14⟩
              have HB14 := Aside0.mk (HB13.out.trans (hb14.mono HB13.out.size))
              have KG2 := Aside0.mk (gone_up (HT.out.quiet HB14.out) few)
              rw [← HEL.out] at KG2
              clear hb14 KD2 hlen2
              go_wp2_with fail
              refine KG2.out.mono ?_
              rintro e w15 ⟨A15, c15, rfl, hc15, _, hb15⟩
              have HB15 := Aside0.mk (HB14.out.trans (hb15.mono HB14.out.size))
              have KL := Aside0.mk (len_up (HT.out.quiet HB15.out))
              rw [← htot] at KL
              clear hb15 KG2
              go_wp2_with fail
              refine KL.out.mono ?_
              rintro e w16 ⟨rfl, rfl⟩
              go_wp2_with fail
              refine (known_calls _).mono ?_
              rintro e w17 ⟨rfl, hb17⟩
              go_wp2
              go_ret
              have hB2 := HB15.out.trans (hb17.mono HB15.out.size)
              have hB3 := HB.out.trans (hB2.mono HB.out.size)
              have hB4 := HBX.out.trans (hB3.mono HBX.out.size)
              exact ⟨rfl, HB1.out.trans (hB4.mono HB1.out.size)⟩
end Go.Proofs.Ytaghcepochjoeaa.Hand
