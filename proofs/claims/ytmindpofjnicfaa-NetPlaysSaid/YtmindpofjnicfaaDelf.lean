import Derived.Test.YtmindpofjnicfaaDrop
namespace Go.Proofs.Ytmindpofjnicfaa.Hand
open Go.RowKit Go.Proofs.Ytmindpofjnicfaa.PA Go.Proofs.YtmindpofjnicfaaW.PrintWords Go.Proofs.YtmindpofjnicfaaW.PrintLast Go.Proofs.YtmindpofjnicfaaW.PrintMore
attribute [local go_sem] max2_int min2_int
theorem C_untag {f : Nat → Nat} {W : World} {A : Option Addr} {n : Nat} {zs : List (S28 × Nat)} (h : Kd.C (Kd.tag f k28) W A n zs) : Kd.C k28 W A n (zs.map (·.1)) := by
  refine ⟨by rw [List.length_map]; exact h.1, h.2.1, fun hp => ?_⟩
  obtain ⟨ad, hA, hc⟩ := h.2.2 hp
  refine ⟨ad, hA, fun j p hj => ?_⟩
  rw [List.getElem?_map] at hj
  obtain ⟨z, hz, rfl⟩ := Option.map_eq_some_iff.1 hj
  exact hc j z hz
theorem put_row {d : Kd (S28 × Nat)} (hsz : d.sz = 3) {w0 W : World} {base : Nat} {ok okp : Nat → Prop} {g n c : Nat} {zs : List (S28 × Nat)} (h : d.R 28 W base ok (.slice (some ⟨g, 0, none⟩) n c) zs) (i : Nat) (hi : i < n) (z : S28 × Nat) (u0 u1 u2 : Value)
    (hM : d.M W base okp z [u0, u1, u2]) (hokp : ∀ k, okp k → ok k ∧ k ≠ g) (hB : Below base w0 W) (hg : base ≤ g) :
    d.R 28 (((W.setCell ⟨g, i * 3, none⟩ u0).setCell ⟨g, i * 3 + 1, none⟩ u1).setCell ⟨g, i * 3 + 2, none⟩ u2) base ok (.slice (some ⟨g, 0, none⟩) n c) (zs.set i z) ∧
      Below base w0 (((W.setCell ⟨g, i * 3, none⟩ u0).setCell ⟨g, i * 3 + 1, none⟩ u1).setCell ⟨g, i * 3 + 2, none⟩ u2) ∧
      Kept W (((W.setCell ⟨g, i * 3, none⟩ u0).setCell ⟨g, i * 3 + 1, none⟩ u1).setCell ⟨g, i * 3 + 2, none⟩ u2) (fun k => k = g) := by
  obtain ⟨c0, hcl, _, hcell⟩ := Kd.R_getA h z (i : Int) (by omega) (by omega)
  have hc3 : c0.drop 3 = [] := List.drop_eq_nil_of_le (by omega)
  obtain ⟨hrow, _⟩ := Kd.R_seg (x' := z) (i := (i : Int)) (j := 0) (seg := [u0, u1, u2]) (c := c0) h (by omega) (by omega) hcl (fun j u hj => by have := hcell j u hj; rwa [Addr.add_lit, Nat.zero_add] at this) (by rw [hsz]; simp) (by simpa [hc3] using hM) hokp
  rw [hsz, Int.toNat_natCast] at hrow
  exact ⟨hrow, ((hB.setCell hg _).setCell hg _).setCell hg _, Kept.setCell (p := ⟨g, i * 3 + 2, none⟩) (Kept.setCell (p := ⟨g, i * 3 + 1, none⟩) (Kept.setCell (p := ⟨g, i * 3, none⟩) (Kept.refl W (fun k => k = g)) (.inl rfl) _) (.inl rfl) _) (.inl rfl) _⟩
/-- What stays. -/
def keep (ns : List Int) (z : S28 × Nat) : Bool := !hit ns z.1
theorem inv_start {ns : List Int} {zs : List (S28 × Nat)} {i n : Nat} (hn : n = zs.length) (hi : i < n) (hm : ∀ j : Nat, j < n → hit ns (rd_T28 (zs.map (·.1)) (j : Int)) = !keep ns (zs.getD j (⟨0, 0, []⟩, 0))) (hlo : ∀ j : Nat, j < i → hit ns (rd_T28 (zs.map (·.1)) (j : Int)) = false)
    (hhi : hit ns (rd_T28 (zs.map (·.1)) (i : Int)) = true) : zs.length = n ∧ zs.take i = (zs.take (i + 1)).filter (keep ns) ∧ zs.drop (i + 1) = zs.drop (i + 1) := by
  subst hn
  refine ⟨rfl, ?_, rfl⟩
  have hi2 := hm i hi
  rw [hhi, List.getD_eq_getElem?_getD, List.getElem?_eq_getElem hi] at hi2
  rw [List.take_succ_eq_append_getElem hi, List.filter_append]
  have h1 : [zs[i]].filter (keep ns) = [] := by
    simp only [Option.getD_some] at hi2
    rw [List.filter_cons_of_neg (by simpa using hi2.symm)]
    rfl
  rw [h1, List.append_nil]
  symm
  rw [List.filter_eq_self]
  intro z hz
  obtain ⟨j, hj, rfl⟩ := List.mem_iff_getElem.1 hz
  rw [List.getElem_take]
  rw [List.length_take] at hj
  have := hm j (by omega)
  rw [hlo j (by omega), List.getD_eq_getElem?_getD, List.getElem?_eq_getElem (by omega)] at this
  simpa using this.symm
theorem inv_at {zs ys : List (S28 × Nat)} {j n : Nat} (hn : n = zs.length) (hj : j < n) (hyl : ys.length = n) (hd : ys.drop j = zs.drop j) {z : S28 × Nat} (hz : ys.getD j (⟨0, 0, []⟩, 0) = z) : zs[j]? = some z ∧ ys.drop (j + 1) = zs.drop (j + 1) := by
  have h1 : ys[j]? = zs[j]? := by
    have := congrArg (fun l => l[0]?) hd
    simpa using this
  refine ⟨?_, ?_⟩
  · rw [← h1, ← hz, List.getD_eq_getElem?_getD, List.getElem?_eq_getElem (by omega)]
    rfl
  · have := congrArg (fun l => l.drop 1) hd
    simpa [List.drop_drop] using this
theorem inv_skip {ns : List Int} {zs ys : List (S28 × Nat)} {ki j n : Nat} (hn : n = zs.length) (hj : j < n) (h : ys.length = n ∧ ys.take ki = (zs.take j).filter (keep ns) ∧ ys.drop j = zs.drop j) {z : S28 × Nat} (hz : ys.getD j (⟨0, 0, []⟩, 0) = z) (hh : hit ns z.1 = true) :
    ys.length = n ∧ ys.take ki = (zs.take (j + 1)).filter (keep ns) ∧ ys.drop (j + 1) = zs.drop (j + 1) := by
  obtain ⟨h1, h2, h3⟩ := h
  obtain ⟨ha, hb⟩ := inv_at hn hj h1 h3 hz
  refine ⟨h1, ?_, hb⟩
  have hjl : j < zs.length := by omega
  rw [List.getElem?_eq_getElem hjl] at ha
  injection ha with ha
  rw [List.take_succ_eq_append_getElem hjl, List.filter_append, ← h2, ha, List.filter_cons_of_neg (by simp [keep, hh])]
  simp
theorem inv_keep {ns : List Int} {zs ys : List (S28 × Nat)} {ki j n : Nat} (hn : n = zs.length) (hkj : ki < j) (hj : j < n) (h : ys.length = n ∧ ys.take ki = (zs.take j).filter (keep ns) ∧ ys.drop j = zs.drop j) {z : S28 × Nat} (hz : ys.getD j (⟨0, 0, []⟩, 0) = z) (hh : hit ns z.1 = false) :
    (ys.set ki z).length = n ∧ (ys.set ki z).take (ki + 1) = (zs.take (j + 1)).filter (keep ns) ∧ (ys.set ki z).drop (j + 1) = zs.drop (j + 1) := by
  obtain ⟨h1, h2, h3⟩ := h
  obtain ⟨ha, hb⟩ := inv_at hn hj h1 h3 hz
  have hjl : j < zs.length := by omega
  rw [List.getElem?_eq_getElem hjl] at ha
  injection ha with ha
  refine ⟨by rw [List.length_set]; exact h1, ?_, ?_⟩
  · rw [List.take_succ_eq_append_getElem (by rw [List.length_set]; omega), List.getElem_set_self, List.take_set_of_le (Nat.le_refl _), h2, List.take_succ_eq_append_getElem hjl, List.filter_append, ha, List.filter_cons_of_pos (by simp [keep, hh])]
    rfl
  · rw [List.drop_set_of_lt (by omega)]
    exact hb
set_option maxHeartbeats 4000000 in
theorem delfunc_calls (f : Nat → Nat) (w0 w : World) (ok : Nat → Prop) (r n c : Nat) (zs : List (S28 × Nat)) (hB : Below w0.heap.size w0 w) (hO : (Kd.tag f k28).R 28 w w0.heap.size ok (.slice (some ⟨r, 0, none⟩) n c) zs) (hn : n = zs.length)
    (A1 : Option Addr) (c1 : Nat) (ns : List Int) (b : Nat) (hC : ∀ W', Kept w W' (fun k => k = r) → Kd.C (Kd.int .i64) W' A1 ns.length ns) (hb : w.cell? ⟨b, 0, none⟩ = some (.slice A1 ns.length c1)) (hbr : b ≠ r) :
    Calls Try.prog 27 #[.slice (some ⟨r, 0, none⟩) n c, .func (.func 28) #[] #[.pointer (some ⟨b, 0, none⟩)]] w fun e w' => e = .returned (.slice (some ⟨r, 0, none⟩) (zs.filter (keep ns)).length c) ∧
      (Kd.tag f k28).R 28 w' w0.heap.size ok (.slice (some ⟨r, 0, none⟩) (zs.filter (keep ns)).length c) (zs.filter (keep ns)) ∧ Below w0.heap.size w0 w' ∧ Kept w w' (fun k => k = r) := by
  obtain ⟨hnc, hcm, hroom⟩ := R_room hO hn
  have hrs : r < w.heap.size := Kd.R_lt hO r rfl
  have hbase : w0.heap.size ≤ r := Kd.R_base hO r rfl
  have hI := index_calls (some ⟨r, 0, none⟩) c (zs.map (·.1)) A1 c1 ns b w (by rw [List.length_map]; exact C_untag (by first | exact (Kd.R_reads' hO).2.2 | (have h := (Kd.R_reads' hO).2.2; rwa [← hn] at h))) (hC w (Kept.refl _ _)) hb
  have hmap : ∀ i, i < zs.length → hit ns (rd_T28 (zs.map (·.1)) (i : Int)) = !keep ns (zs.getD i (⟨0, 0, []⟩, 0)) := fun i hi => by
    unfold rd_T28 keep
    rw [Int.toNat_natCast, List.getD_eq_getElem?_getD, List.getElem?_map, List.getD_eq_getElem?_getD, List.getElem?_eq_getElem hi]
    simp
  rw [List.length_map, ← hn] at hI
  have HI := Aside0.mk hI
  have HMAP := Aside0.mk hmap
  have HO := Aside0.mk hO
  have HB := Aside0.mk hB
  have HC := Aside0.mk hC
  have HN := Aside0.mk hn
  have Hb := Aside0.mk hb
  unfold maxLen at hcm
  clear hI hmap hO hB hC hroom hb hn
  go_enter Try.func27, Try.ntmps27
  go_wp2_with fail
  refine HI.out.mono ?_
  rintro e w1 ⟨hBI, hres⟩
  have HBI := Aside0.mk hBI
  rcases hres with ⟨rfl, hall⟩ | ⟨i, rfl, hil, hlo, hhi⟩
  · have hf : zs.filter (keep ns) = zs := by
      rw [List.filter_eq_self]
      intro z hz
      obtain ⟨i, hi, rfl⟩ := List.mem_iff_getElem.1 hz
      have := hall i (by have := HN.out; omega)
      rw [HMAP.out i hi, List.getD_eq_getElem?_getD, List.getElem?_eq_getElem hi] at this
      simpa using this
    have HF := Aside0.mk hf
    clear hall hf hBI
    go_wp2
    go_ret
    rw [HF.out, ← HN.out]
    exact ⟨rfl, Kd.R_below HO.out HBI.out, HB.out.trans (HBI.out.mono HB.out.size), Kept.of_below HBI.out _⟩
  · have HLO := Aside0.mk hlo
    have HHI := Aside0.mk hhi
    clear hlo hhi hBI
    have hi1 : ((i : Int) == -1) = false := beq_eq_false_iff_ne.2 (by omega)
    have HIN := Aside0.mk (inv_start (ns := ns) (zs := zs) (i := i) (n := n) HN.out hil (fun j hj => HMAP.out j (by have := HN.out; omega)) HLO.out HHI.out)
    have HR1 := Aside0.mk (Kd.R_below HO.out HBI.out)
    have HB1 := Aside0.mk (HB.out.trans (HBI.out.mono HB.out.size))
    have HK1 := Aside0.mk (Kept.of_below HBI.out (fun k => k = r))
    clear HLO HHI HI HMAP
    go_wp2
    go_loopg [5, 6] n (fun gk s5 s6 wr => ∃ (ki j : Nat) (ys : List (S28 × Nat)), s5 = .int .i64 ki ∧ s6 = .int .i64 j ∧ ki < j ∧ j ≤ n ∧ n - j ≤ gk ∧ Aside0 (ys.length = n ∧ ys.take ki = (zs.take j).filter (keep ns) ∧ ys.drop j = zs.drop j) ∧
      Aside0 ((Kd.tag f k28).R 28 wr w0.heap.size ok (.slice (some ⟨r, 0, none⟩) n c) ys) ∧ Aside0 (Below w0.heap.size w0 wr) ∧ Aside0 (Kept w wr (fun k => k = r)))
    case atStart => exact ⟨i, i + 1, zs, rfl, by go_num, by omega, by omega, by omega, ⟨HIN.out.1, HIN.out.2.1, rfl⟩, HR1, HB1, HK1⟩
    case round =>
      clear HIN HR1 HB1 HK1 HBI
      obtain ⟨ki, j, ys, rfl, rfl, hkj, hj, hgk, HI, HR, HBw, HKw⟩ := hrel
      by_cases hlt : j < n
      · obtain ⟨gk, rfl⟩ : ∃ q, gk = q + 1 := ⟨gk - 1, by omega⟩
        obtain ⟨cs, hcs, hM, hcell⟩ := Kd.R_getA HR.out ((⟨0, 0, []⟩ : S28), 0) (j : Int) (by omega) (by omega)
        rw [Int.toNat_natCast] at hM hcell
        obtain ⟨z, hz⟩ : ∃ z, ys.getD j ((⟨0, 0, []⟩ : S28), 0) = z := ⟨_, rfl⟩
        rw [hz] at hM
        have HZ := Aside0.mk hz
        have HM := Aside0.mk hM
        obtain ⟨v2, rfl, hR2⟩ := k28_openM hM
        obtain ⟨A2, c2, rfl⟩ := Kd.R_slice hR2
        have z0 := hcell 0 _ rfl
        have z1 := hcell 1 _ rfl
        have z2 := hcell 2 _ rfl
        simp only [Addr.add_lit, Nat.add_zero, Nat.zero_add, show (Kd.tag f k28).sz = 3 from rfl] at z0 z1 z2
        have hbw : wr.cell? ⟨b, 0, none⟩ = some (.slice A1 ns.length c1) := (World.cell?_of_block (w := w) (HKw.out.2 b (cell_lt Hb.out) hbr)).trans Hb.out
        have HD := fun o => del_calls A1 c1 ns z.1 A2 c2 b (wr.alloc o) (Kd.C_alloc (HC.out wr HKw.out) o) (Go.Lib.cell?_alloc_some o hbw)
        obtain ⟨h, hh⟩ : ∃ h, hit ns z.1 = h := ⟨_, rfl⟩
        simp only [hh] at HD
        have HH := Aside0.mk hh
        clear hR2 hM hcell hcs hz hbw hh
        go_wp2_with fail
        have hv := heap_alloc_new wr (Obj.cells #[Value.int IntKind.i64 z.1.f0, Value.int IntKind.i64 z.1.f1, Value.slice A2 z.1.f2.length c2] 28)
        have hB3 : Below wr.heap.size wr (wr.alloc (Obj.cells #[Value.int IntKind.i64 z.1.f0, Value.int IntKind.i64 z.1.f1, Value.slice A2 z.1.f2.length c2] 28)) := (Below.refl _ _).alloc (Nat.le_refl _) _
        refine (HD _).mono ?_
        clear HD
        generalize wr.alloc (Obj.cells #[Value.int IntKind.i64 z.1.f0, Value.int IntKind.i64 z.1.f1, Value.slice A2 z.1.f2.length c2] 28) = w2 at *
        rintro e w3 ⟨rfl, hB4⟩
        have hv3 := (hB4.block _ (blk_lt hv)).trans hv
        have hB5 : Below wr.heap.size wr w3 := hB3.trans (hB4.mono hB3.size)
        have HR3 := Aside0.mk (Kd.R_below HR.out hB5)
        have HB3 := Aside0.mk (HBw.out.trans (hB5.mono HBw.out.size))
        have HK3 := Aside0.mk (HKw.out.below hB5)
        have HM3 := Aside0.mk ((Kd.tag f k28).M_move (fun k hk => hB5.block k hk.2.2.1) ((Kd.tag f k28).M_bound HM.out))
        clear hv hB3 hB4 hB5
        cases h with
        | true =>
          clear hv3 z0 z1 z2
          go_wp2
          go_roundg gk
          case measure => omega
          case rel => exact ⟨ki, j + 1, ys, rfl, by go_num, by omega, by omega, by omega, ⟨inv_skip HN.out hlt HI.out HZ.out HH.out⟩, HR3, HB3, HK3⟩
        | false =>
          have v0 : w3.cell? ⟨wr.heap.size, 0, none⟩ = some (.int .i64 z.1.f0) := (blk_cell hv3 0).trans rfl
          have v1 : w3.cell? ⟨wr.heap.size, 1, none⟩ = some (.int .i64 z.1.f1) := (blk_cell hv3 1).trans rfl
          have v2 : w3.cell? ⟨wr.heap.size, 2, none⟩ = some (.slice A2 z.1.f2.length c2) := (blk_cell hv3 2).trans rfl
          clear hv3 z0 z1 z2
          obtain ⟨_, _, hrm⟩ := R_room HR3.out HI.out.1.symm
          obtain ⟨⟨u0, y0⟩, q0⟩ := hrm (ki * 3) (by rw [show (Kd.tag f k28).sz = 3 from rfl]; omega)
          obtain ⟨⟨u1, y1⟩, q1⟩ := hrm (ki * 3 + 1) (by rw [show (Kd.tag f k28).sz = 3 from rfl]; omega)
          obtain ⟨⟨u2, y2⟩, q2⟩ := hrm (ki * 3 + 2) (by rw [show (Kd.tag f k28).sz = 3 from rfl]; omega)
          clear hrm
          have hkn : ki < n := by omega
          go_wp2
          go_roundg gk
          case measure => omega
          case rel =>
            obtain ⟨h1, h2, h3⟩ := put_row rfl HR3.out ki hkn z _ _ _ HM3.out (fun k hk => ⟨hk.1.1, fun e => hk.1.2 (by rw [e]; rfl)⟩) HB3.out hbase
            exact ⟨ki + 1, j + 1, ys.set ki z, by go_num, by go_num, by omega, by omega, by omega, ⟨inv_keep HN.out hkj hlt HI.out HZ.out HH.out⟩, ⟨h1⟩, ⟨h2⟩, ⟨HK3.out.then_ h3 (fun _ h => .inl h)⟩⟩
      · have hjn : j = n := by omega
        have hkc : ki ≤ n := by omega
        have hck : c ≠ ki := by omega
        have hk2 : ki ≤ c := by omega
        have hL : ys.take ki = zs.filter (keep ns) := by
          rw [HI.out.2.1, hjn, HN.out, List.take_length]
        have hkl : ki = (zs.filter (keep ns)).length := by rw [← hL, List.length_take]; have := HI.out.1; omega
        have hRt := Kd.R_take HR.out (m := ki) (by rw [HI.out.1]; omega)
        rw [hL] at hRt
        obtain ⟨w2, hcl, h4, h5, h6⟩ := clear_row (d := Kd.tag f k28) rfl hRt hkl HBw.out (n - ki) (by omega) (some ⟨r, ki * 3, none⟩) (fun _ => rfl) (c - ki)
        have h7 := HKw.out.then_ h6 (fun _ h => .inl h)
        have HF : Aside0 ((Kd.tag f k28).R 28 w2 w0.heap.size ok (.slice (some ⟨r, 0, none⟩) ki c) (zs.filter (keep ns)) ∧ Below w0.heap.size w0 w2 ∧ Kept w w2 (fun k => k = r)) := ⟨h4, h5, h7⟩
        have HL := Aside0.mk hkl
        clear hL hRt h4 h5 h6 h7 hkl
        go_wp2
        all_goals go_ret
        all_goals
          rw [← HL.out]
          exact ⟨rfl, HF.out⟩
end Go.Proofs.Ytmindpofjnicfaa.Hand
