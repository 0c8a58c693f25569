/- DiskMany: the walk. -/
import Derived.Test.YtakomlealclomaaTwo
import Derived.Test.YtakomlealclomaaKeepsw
namespace Go.Proofs.Ytakomlealclomaa.Hand
open Go.RowKit Go.Proofs.Ytakomlealclomaa.PA Go.Proofs.Ytakomlealclomaa.MapP Go.Proofs.YtakomlealclomaaW.PrintWords Go.Proofs.YtakomlealclomaaW.PrintLast Go.Proofs.YtakomlealclomaaW.PrintMore
attribute [local go_sem] max2_int min2_int
set_option linter.unusedVariables false
set_option linter.unusedSimpArgs false
set_option linter.unusedSectionVars false
theorem m10 (draw : Int) (u c : List Int) (n k : Nat) : crashV draw (V [([120], (u, n)), ([121], (c, k))]) = V [([120], crashX draw (u, n)), ([121], crashX draw (c, k))] := rfl
theorem m11 (u c : List Int) (n k : Nat) : readV (V [([120], (u, n)), ([121], (c, k))]) nX = (u, 0) := by
  unfold readV
  rw [show at_ (V [(([120] : Key), (u, n)), ([121], (c, k))]).L nX.data.toList = some (u, n) from by simp [V, at_cons]]
theorem m12 (u c : List Int) (n k : Nat) : readV (V [([120], (u, n)), ([121], (c, k))]) nY = (c, 0) := by
  unfold readV
  rw [show at_ (V [(([120] : Key), (u, n)), ([121], (c, k))]).L nY.data.toList = some (c, k) from by simp [V, at_cons]]
theorem crash_len (draw : Int) (x : List Int × Nat) : (crashX draw x).1.length ≤ x.1.length := by
  unfold crashX
  simp only [List.length_take]
  omega
set_option maxRecDepth 100000 in
set_option maxHeartbeats 4000000 in
theorem many_walk (zz : List (List Int)) (A : Option Addr) (c : Nat) (twice : Bool) (draw : Int) (w : World) (hK : Kd.C (Kd.slice 5 (Kd.int .u8)) w A zz.length zz) (hcc : zz.length ≤ c) (hlen : zz.length ≤ 4611686018427387904) (hb : ∀ x ∈ zz, Bytes x) :
    Calls Try.prog 6 #[.slice A zz.length c, .bool twice, .int .i64 draw] w fun e w' => e = .returned (.bool true) ∧ Below w.heap.size w w' := by
  have HK := Aside0.mk hK
  have HBA := Aside0.mk hb
  clear hK hb
  have kc := fun (w : World) (C : Array Value) (n c : Nat) => Lib.run_convert_bytes_const (P := Try.prog) w 23 5 C n c Try.underlying23 Try.underlying5
  go_enter Try.func6, Try.ntmps6
  go_wp2
  go_loopw [7, 8] (fun s7 s8 wr => ∃ i : Nat, i ≤ zz.length ∧ tot zz i ≤ 8000 ∧ s8 = .int .i64 i ∧ s7 = .int .i64 (tot zz i) ∧ wr = w) (fun _ s8 _ => zz.length - (intOf s8).toNat)
  case atStart => exact ⟨0, Nat.zero_le _, by simp [tot], rfl, rfl, rfl⟩
  case round =>
    obtain ⟨i, hi, ht, rfl, rfl, rfl⟩ := hrel
    by_cases hlt : i < zz.length
    · obtain ⟨a, A', c', rfl, hrow, hrc, _⟩ := row_at HK.out i hlt
      have htn : tot zz (i + 1) = tot zz i + 1 + (zz.getD i []).length := rfl
      obtain ⟨n, hn⟩ : ∃ n, n = (zz.getD i []).length := ⟨_, rfl⟩
      rw [← hn] at hrow hrc htn
      have HTN := Aside0.mk htn
      clear hn htn
      by_cases hbig : (8000 : Int) < (n : Int)
      · go_wp2
        go_ret
        exact ⟨rfl, Below.refl _ _⟩
      · by_cases hsum : (8000 : Int) < (tot zz i : Int) + 1 + (n : Int)
        · go_wp2
          go_ret
          exact ⟨rfl, Below.refl _ _⟩
        · have htb : tot zz (i + 1) ≤ 8000 := by rw [HTN.out]; omega
          go_wp2
          go_roundw
          case measure => simp [intOf]; omega
          case rel => exact ⟨i + 1, by omega, htb, by go_num, by rw [HTN.out]; go_num, by first | rfl | trivial⟩
    · obtain rfl : i = zz.length := by omega
      have hflen : zz.flatten.length ≤ 8000 := by
        have h1 := tot_flat zz zz.length (Nat.le_refl _)
        rw [List.take_length] at h1
        omega
      have hzl : zz.length ≤ 8000 := by
        have h1 := tot_flat zz zz.length (Nat.le_refl _)
        omega
      have HT8 := Aside0.mk ht
      clear ht hlt hi
      obtain ⟨W0, hW0⟩ : ∃ W : World, W = wr := ⟨_, rfl⟩
      have HW0 := Aside0.mk hW0
      rw [← hW0] at HK ⊢
      clear hW0
      go_wp2_with fail
      refine (new_calls 1048576 _ (by decide) (by decide)).mono ?_
      rintro e w1 ⟨rfl, h1⟩
      obtain ⟨aa, haa⟩ : ∃ aa, aa = W0.heap.size + 1 := ⟨_, rfl⟩
      rw [← haa] at h1 ⊢
      have H1 := Aside0.mk h1
      clear h1 haa
      go_wp2_with fail
      refine (new_calls 1048576 _ (by decide) (by decide)).mono ?_
      rintro e w2 ⟨rfl, h2⟩
      obtain ⟨bb, hbb⟩ : ∃ bb, bb = w1.heap.size + 1 := ⟨_, rfl⟩
      rw [← hbb] at h2 ⊢
      have T2 : Aside0 (Two w2 W0 aa bb (V []) (V [])) := ⟨Two.start H1.out h2⟩
      clear h2 hbb H1
      have k3 := two_append T2.out nX (by unfold maxLen; decide) A c zz (Kd.C_below HK.out T2.out.below) hcc HBA.out (by omega) (by omega)
      rw [n1 zz.flatten (by omega)] at k3
      have K3 := Aside0.mk k3
      clear k3
      go_wp2_with fail
      refine K3.out.mono ?_
      rintro e w3 ⟨rfl, t3⟩
      have k4 : Calls Try.prog 12 #[.pointer (some ⟨bb, 0, none⟩), .string nX, .slice none 0 0] w3 _ := two_append t3.swap nX (by unfold maxLen; decide) none 0 [] ⟨rfl, by simp, fun h => absurd h (by simp)⟩ (by simp) (fun l hl => by cases hl) (by simp) (by simp)
      rw [show ([] : List (List Int)).flatten = [] from rfl, n1 [] (by simp)] at k4
      have K4 := Aside0.mk k4
      clear k4 t3 K3
      go_wp2_with fail
      refine K4.out.mono ?_
      rintro e w4 ⟨rfl, t4⟩
      have T4 : Aside0 (Two w4 W0 bb aa (V [([120], ((zz.take 0).flatten, 0))]) (V [([120], (zz.flatten, 0))])) := ⟨t4⟩
      clear t4 K4
      go_wp2
      go_loopw [13] (fun s13 wr => ∃ i : Nat, i ≤ zz.length ∧ s13 = .int .i64 i ∧ Aside0 (Two wr W0 bb aa (V [([120], ((zz.take i).flatten, 0))]) (V [([120], (zz.flatten, 0))]))) (fun s _ => zz.length - (intOf s).toNat)
      case atStart => exact ⟨0, Nat.zero_le _, rfl, T4⟩
      case round =>
        clear T4 T2
        obtain ⟨i, hi, rfl, T5⟩ := hrel
        by_cases hlt : i < zz.length
        · obtain ⟨a, A', c', rfl, hrow0, hrc, hrC0⟩ := row_at HK.out i hlt
          have hrow := cell_below hrow0 T5.out.below
          obtain ⟨l, hl⟩ : ∃ l, l = zz.getD i [] := ⟨_, rfl⟩
          have hfl := flat_succ zz i hlt
          have htf := tot_flat zz (i + 1) (by omega)
          have htm := tot_mono zz (i + 1) zz.length (by omega)
          have ht8 := HT8.out
          rw [hfl, List.length_append] at htf
          have hbl : Bytes l := by rw [hl, show zz.getD i [] = zz[i] from by simp [hlt]]; exact HBA.out _ (List.getElem_mem hlt)
          rw [← hl] at hrow hrow0 hrc hrC0 hfl htf
          have k6 := two_append1 T5.out nX (by unfold maxLen; decide) A' c' l (Kd.C_below hrC0 T5.out.below) hrc hbl (by omega)
          rw [m1 _ l 0 (by omega), ← hfl] at k6
          have K6 := Aside0.mk k6
          have HROW := Aside0.mk hrow0
          clear k6 hfl htf htm ht8 hbl hrC0 hrow0 hl
          go_wp2_with fail
          refine K6.out.mono ?_
          rintro e w6 ⟨rfl, t6⟩
          have T6 := Aside0.mk t6
          clear t6
          go_wp2
          go_roundw
          case measure => simp [intOf]; omega
          case rel => exact ⟨i + 1, by omega, by go_num, T6⟩
        · obtain rfl : i = zz.length := by omega
          rw [List.take_length] at T5
          obtain ⟨u, hu⟩ : ∃ u, u = zz.flatten := ⟨_, rfl⟩
          rw [← hu] at T5 hflen
          clear hu hlt hi HT8
          have k7 := two_append1 (T5.out.swap.alloc (.cells (bts [49, 50]).toArray 5 (2, 3))) nY (by unfold maxLen; decide) (some ⟨wr.heap.size, 0, none⟩) 2 [49, 50] (bytes_new wr _ (by simp) _) (by simp) (by intro z hz; simp at hz; omega) (by simp)
          rw [show (wr.alloc (.cells (bts [49, 50]).toArray 5 (2, 3))).heap.size = wr.heap.size + 1 from by simp, m2 u [49, 50] 0 (by simp; omega)] at k7
          have K7 := Aside0.mk k7
          clear k7 T5
          go_wp2_with fail
          refine K7.out.mono ?_
          rintro e w7 ⟨rfl, t7⟩
          have k8 := two_append1 (t7.swap.alloc (.cells (bts [49, 50]).toArray 5 (2, 3))) nY (by unfold maxLen; decide) (some ⟨w7.heap.size, 0, none⟩) 2 [49, 50] (bytes_new w7 _ (by simp) _) (by simp) (by intro z hz; simp at hz; omega) (by simp)
          rw [show (w7.alloc (.cells (bts [49, 50]).toArray 5 (2, 3))).heap.size = w7.heap.size + 1 from by simp, m2 u [49, 50] 0 (by simp; omega)] at k8
          have K8 := Aside0.mk k8
          clear k8 t7 K7
          go_wp2_with fail
          refine K8.out.mono ?_
          rintro e w8 ⟨rfl, t8⟩
          have T8 := Aside0.mk t8.swap
          clear t8 K8
          cases twice
          case' true =>
            have k9 : Calls Try.prog 13 #[.pointer (some ⟨aa, 0, none⟩), .slice (some ⟨w8.heap.size, 0, none⟩) 2 2] (w8.alloc (.cells #[.string nX, .string nY] 9)) _ := two_sync T8.out [nX, nY] (by simp) (by intro s hs; simp at hs; rcases hs with rfl | rfl <;> (unfold maxLen; decide)) _ rfl 2
            rw [m6] at k9
            have K9 := Aside0.mk k9
            clear k9
            go_wp2_with fail
            refine K9.out.mono ?_
            rintro e w9 ⟨rfl, t9⟩
            have k10 := two_sync1 t9.swap nX (by unfold maxLen; decide)
            rw [m3] at k10
            have K10 := Aside0.mk k10
            clear k10 t9 K9
            go_wp2_with fail
            refine K10.out.mono ?_
            rintro e w10 ⟨rfl, t10⟩
            have k11 := two_sync1 t10 nY (by unfold maxLen; decide)
            rw [m4] at k11
            have K11 := Aside0.mk k11
            clear k11 t10 K10
            go_wp2_with fail
            refine K11.out.mono ?_
            rintro e w11 ⟨rfl, t11⟩
            have T12 : ∃ n k, Aside0 (Two w11 W0 aa bb (V [([120], (u, n)), ([121], ([49, 50], k))]) (V [([120], (u, n)), ([121], ([49, 50], k))])) := ⟨_, _, ⟨t11.swap⟩⟩
            clear t11 K11 T8
          case' false =>
            have T12 : ∃ n k, Aside0 (Two w8 W0 aa bb (V [([120], (u, n)), ([121], ([49, 50], k))]) (V [([120], (u, n)), ([121], ([49, 50], k))])) := ⟨_, _, T8⟩
            clear T8
          all_goals
            obtain ⟨n0, k0, T12⟩ := T12
            have k13 : Calls Try.prog 13 #[.pointer (some ⟨aa, 0, none⟩), .slice (some ⟨_, 0, none⟩) 3 3] (World.alloc _ (.cells #[.string nX, .string nZ2, .string nY] 9)) _ := two_sync T12.out [nX, nZ2, nY] (by simp) (by intro s hs; simp at hs; rcases hs with rfl | rfl | rfl <;> (unfold maxLen; decide)) _ rfl 3
            rw [m7] at k13
            have K13 := Aside0.mk k13
            clear k13
            go_wp2_with fail
            refine K13.out.mono ?_
            rintro e w13 ⟨rfl, t13⟩
            have k14 := two_sync1 t13.swap nX (by unfold maxLen; decide)
            rw [m3] at k14
            have K14 := Aside0.mk k14
            clear k14 t13 K13 T12
            go_wp2_with fail
            refine K14.out.mono ?_
            rintro e w14 ⟨rfl, t14⟩
            go_wp2_with fail
            refine (sync_none aa _ 0).mono ?_
            rintro e w15 ⟨rfl, rfl⟩
            have k16 := two_crash t14.swap draw
            obtain ⟨p, pn, hp⟩ : ∃ p pn, crashX draw (u, u.length) = (p, pn) := ⟨_, _, rfl⟩
            obtain ⟨q, qn, hq⟩ : ∃ q qn, crashX draw ([49, 50], k0) = (q, qn) := ⟨_, _, rfl⟩
            have hpl : p.length ≤ 8000 := by have := crash_len draw (u, u.length); rw [hp] at this; exact Nat.le_trans this hflen
            have hql : q.length ≤ 2 := by have := crash_len draw ([49, 50], k0); rw [hq] at this; exact this
            rw [m10, hp, hq] at k16
            have K16 := Aside0.mk k16
            have HP := Aside0.mk hp
            have HQ := Aside0.mk hq
            clear k16 t14 K14 hp hq
            go_wp2_with fail
            refine K16.out.mono ?_
            rintro e w16 ⟨rfl, t16⟩
            have k17 := two_crash t16.swap draw
            rw [m10, HP.out, HQ.out] at k17
            have K17 := Aside0.mk k17
            clear k17 t16 K16
            go_wp2_with fail
            refine K17.out.mono ?_
            rintro e w17 ⟨rfl, t17⟩
            have k18 := two_read t17.swap nX (by unfold maxLen; decide)
            simp only [m11] at k18
            have K18 := Aside0.mk k18
            clear k18 t17 K17
            go_wp2_with fail
            refine K18.out.mono ?_
            rintro e w18 ⟨A1, c1, rfl, hc1, R1, t18, b18⟩
            have HR1 := Aside0.mk R1
            have k19 := two_read t18.swap nX (by unfold maxLen; decide)
            simp only [m11] at k19
            have K19 := Aside0.mk k19
            clear k19 t18 K18 R1 b18
            go_wp2_with fail
            refine K19.out.mono ?_
            rintro e w19 ⟨A2, c2, rfl, hc2, R2, t19, b19⟩
            have HR1 := Aside0.mk (Kd.C_below HR1.out b19)
            have HR2 := Aside0.mk R2
            have k20 := two_read t19.swap nY (by unfold maxLen; decide)
            simp only [m12] at k20
            have K20 := Aside0.mk k20
            clear k20 t19 K19 R2 b19
            go_wp2_with fail
            refine K20.out.mono ?_
            rintro e w20 ⟨A3, c3, rfl, hc3, R3, t20, b20⟩
            have HR1 := Aside0.mk (Kd.C_below HR1.out b20)
            have HR2 := Aside0.mk (Kd.C_below HR2.out b20)
            have HR3 := Aside0.mk R3
            have k21 := two_read t20.swap nY (by unfold maxLen; decide)
            simp only [m12] at k21
            have K21 := Aside0.mk k21
            clear k21 t20 K20 R3 b20
            go_wp2_with fail
            refine K21.out.mono ?_
            rintro e w21 ⟨A4, c4, rfl, hc4, R4, t21, b21⟩
            have s1 := haystacklaw10_same.calls (p.length + 1) A1 c1 p A2 c2 p true w21 (Kd.C_below HR1.out b21) hc1 (Kd.C_below HR2.out b21) hc2 (same_refl p (by omega))
            have S1 := Aside0.mk s1
            have HR3 := Aside0.mk (Kd.C_below HR3.out b21)
            have HR4 := Aside0.mk R4
            have T21 := Aside0.mk t21.swap
            clear s1 t21 K21 R4 b21 HR1 HR2
            go_wp2_with fail
            refine S1.out.mono ?_
            rintro e w22 ⟨rfl, hd22⟩
            have b22 : Below w21.heap.size w21 w22 := by obtain ⟨n, rfl⟩ := hd22; exact bdrewN (Below.refl _ _) n
            have s2 := haystacklaw10_same.calls (q.length + 1) A3 c3 q A4 c4 q true w22 (Kd.C_below HR3.out b22) hc3 (Kd.C_below HR4.out b22) hc4 (same_refl q (by omega))
            have S2 := Aside0.mk s2
            have T22 := Aside0.mk (T21.out.quiet b22)
            clear s2 hd22 b22 T21 S1 HR3 HR4
            go_wp2_with fail
            refine S2.out.mono ?_
            rintro e w23 ⟨rfl, hd23⟩
            have b23 : Below w22.heap.size w22 w23 := by obtain ⟨n, rfl⟩ := hd23; exact bdrewN (Below.refl _ _) n
            have k24 : Calls Try.prog 19 #[.pointer (some ⟨aa, 0, none⟩), .slice (some ⟨w23.heap.size, 0, none⟩) 2 2] (w23.alloc (.cells #[.string nX, .string nY] 9)) _ := two_remove (T22.out.quiet b23) [nX, nY] (by simp) (by intro s hs; simp at hs; rcases hs with rfl | rfl <;> (unfold maxLen; decide)) _ rfl 2
            rw [m8] at k24
            have K24 := Aside0.mk k24
            clear k24 hd23 b23 T22 S2
            go_wp2_with fail
            refine K24.out.mono ?_
            rintro e w24 ⟨rfl, t24⟩
            have K25 := Aside0.mk (two_list t24 rfl)
            clear t24 K24
            go_wp2_with fail
            refine K25.out.mono ?_
            rintro e w25 ⟨A25, c25, rfl, t25⟩
            have k26 : Calls Try.prog 19 #[.pointer (some ⟨aa, 0, none⟩), .slice (some ⟨w25.heap.size, 0, none⟩) 1 1] (w25.alloc (.cells #[.string nX] 9)) _ := two_remove t25 [nX] (by simp) (by intro s hs; simp at hs; subst hs; unfold maxLen; decide) _ rfl 1
            rw [m9] at k26
            have K26 := Aside0.mk k26
            clear k26 t25 K25
            go_wp2_with fail
            refine K26.out.mono ?_
            rintro e w26 ⟨rfl, t26⟩
            have HB := Aside0.mk t26.below
            clear t26 K26
            go_wp2_with (go_at_call 10; refine (known_calls _).mono ?_; rintro e w27 ⟨rfl, h27⟩)
            go_ret
            have hfin := HB.out.trans (h27.mono HB.out.size)
            rw [HW0.out] at hfin
            exact ⟨rfl, hfin⟩
end Go.Proofs.Ytakomlealclomaa.Hand
