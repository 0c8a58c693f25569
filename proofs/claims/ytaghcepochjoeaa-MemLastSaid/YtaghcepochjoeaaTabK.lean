/- A Table's keys: what DeleteFunc leaves of a sorted row. -/
import Derived.Test.YtaghcepochjoeaaTabM
namespace Go.Proofs.Ytaghcepochjoeaa.Hand
open Go.RowKit Go.Proofs.Ytaghcepochjoeaa.PA Go.Proofs.Ytaghcepochjoeaa.MapV Go.Proofs.YtaghcepochjoeaaW.PrintWords Go.Proofs.YtaghcepochjoeaaW.PrintLast Go.Proofs.YtaghcepochjoeaaW.PrintMore
attribute [local go_sem] max2_int min2_int
set_option linter.unusedVariables false
set_option linter.unusedSimpArgs false
set_option linter.unusedSectionVars false
/-- A store behind a row's length: the row stands. -/
theorem own_spare {w : World} {base : Nat} {e : TypeId} {size n c g : Nat} {xs : List Value} (h : w.ownsRow base e size (.slice (some ⟨g, 0, none⟩) n c) n xs) (j : Nat) (hj : n * size ≤ j) (u : Value) :
    (w.setCell ⟨g, j, none⟩ u).ownsRow base e size (.slice (some ⟨g, 0, none⟩) n c) n xs := by
  obtain ⟨h1, h2⟩ := h
  refine ⟨h1, .inr ?_⟩
  rcases h2 with ⟨h2, _⟩ | ⟨g', cap, cur, he, hb, hh, h3, h4, h5, h6⟩
  · cases h2
  · cases he
    refine ⟨g, c, cur.setIfInBounds j u, rfl, hb, blk_set hh j u, h3, h4, by simpa using h5, ?_⟩
    rw [← h6]
    apply List.ext_getElem?
    intro q
    rw [List.getElem?_take, List.getElem?_take]
    split
    · rename_i hq
      rw [Array.toList_setIfInBounds, List.getElem?_set_ne (by omega)]
    · rfl
theorem R_spare {α : Type} {d : Kd α} {e : Nat} {w : World} {base : Nat} {ok : Nat → Prop} {g n c : Nat} {xs : List α} (h : d.R e w base ok (.slice (some ⟨g, 0, none⟩) n c) xs) (hn : n = xs.length) (j : Nat) (hj : n * d.sz ≤ j) (u : Value) :
    d.R e (w.setCell ⟨g, j, none⟩ u) base ok (.slice (some ⟨g, 0, none⟩) n c) xs := by
  subst hn
  obtain ⟨h0, inner, ho, hr⟩ := h
  exact ⟨h0, inner, own_spare ho j hj u, hr.imp_ (fun _ _ hp => Kd.M_far (p := ⟨g, j, none⟩) hp (fun k hk => fun e => hk.2 (by simp [Value.ownBlock, e])) u)⟩
theorem R_room {α : Type} {d : Kd α} {e : Nat} {w : World} {base : Nat} {ok : Nat → Prop} {g n c : Nat} {xs : List α} (h : d.R e w base ok (.slice (some ⟨g, 0, none⟩) n c) xs) (hn : n = xs.length) : n ≤ c ∧ c ≤ maxLen ∧ ∀ j, j < c * d.sz → (∃ u, w.cell? ⟨g, j, none⟩ = some u) ∧ w.frozen? ⟨g, j, none⟩ = false := by
  subst hn
  obtain ⟨h0, inner, ho, hr⟩ := h
  rcases ho.2 with ⟨h2, _⟩ | ⟨g', cap, cur, he, hb, hh, h3, h4, h5, h6⟩
  · cases h2
  · cases he
    refine ⟨h3, h4, fun j hj => ⟨⟨cur[j]'(by omega), ?_⟩, blk_frozen hh j⟩⟩
    rw [blk_cell hh j, Array.getElem?_eq_getElem]
theorem spare_all {α : Type} {d : Kd α} {e : Nat} {w0 : World} {base : Nat} {ok : Nat → Prop} {g n c : Nat} {xs : List α} (hn : n = xs.length) (hg : base ≤ g) : ∀ (vs : List Value) (j : Nat) (w : World), d.R e w base ok (.slice (some ⟨g, 0, none⟩) n c) xs → n * d.sz ≤ j → Below base w0 w →
    d.R e (w.setCells g j vs) base ok (.slice (some ⟨g, 0, none⟩) n c) xs ∧ Below base w0 (w.setCells g j vs) ∧ Kept w (w.setCells g j vs) (fun k => k = g)
  | [], j, w, h, hj, hB => ⟨h, hB, Kept.refl _ _⟩
  | v :: vs, j, w, h, hj, hB => by
    obtain ⟨h1, h2, h3⟩ := spare_all hn hg vs (j + 1) (w.setCell ⟨g, j, none⟩ v) (R_spare h hn j hj v) (by omega) (hB.setCell hg v)
    exact ⟨h1, h2, (Kept.setCell (p := ⟨g, j, none⟩) (Kept.refl w (fun k => k = g)) (.inl rfl) v).then_ h3 (fun k hk => .inl hk)⟩
theorem clear_row {w0 w : World} {base : Nat} {ok : Nat → Prop} {g n c : Nat} {xs : List ByteArray} (h : Kd.string.R 9 w base ok (.slice (some ⟨g, 0, none⟩) n c) xs) (hn : n = xs.length) (hB : Below base w0 w) (m : Nat) (hm : n + m ≤ c) (A : Option Addr) (hA : m ≠ 0 → A = some ⟨g, n, none⟩) (c2 : Nat) :
    ∃ w', (∀ ty, (Builtin.clear_ #[27] ty #[.slice A m c2]).run Try.prog w = .ok (.tuple #[]) w') ∧ Kd.string.R 9 w' base ok (.slice (some ⟨g, 0, none⟩) n c) xs ∧ Below base w0 w' ∧ Kept w w' (fun k => k = g) := by
  by_cases h0 : m = 0
  · subst h0
    refine ⟨w, fun ty => ?_, h, hB, Kept.refl _ _⟩
    cases A <;> simp [Builtin.clear_, run_underlying Try.underlying27]
  · rw [hA h0]
    obtain ⟨_, _, hroom⟩ := R_room h hn
    have hg : base ≤ g := Kd.R_base h _ (by simp [Value.ownBlock])
    obtain ⟨h1, h2, h3⟩ := spare_all (w0 := w0) hn hg (Builtin.zeroCells (Value.string ByteArray.empty).cells m).toList (n) w h (by rw [show Kd.string.sz = 1 from rfl]; omega) hB
    refine ⟨_, fun ty => ?_, h1, h2, h3⟩
    have hzl : (Builtin.zeroCells (Value.string ByteArray.empty).cells m).toList.length = m := by simp [Builtin.zeroCells, Value.cells]
    have hst := run_storeCells_cells (P := Try.prog) g (n) (Builtin.zeroCells (Value.string ByteArray.empty).cells m).toList 0 w
      (fun j hj => by rw [hzl] at hj; obtain ⟨⟨u, hu⟩, _⟩ := hroom (n + 0 + j) (by rw [show Kd.string.sz = 1 from rfl]; omega); rw [hu]; rfl)
      (fun j hj => by rw [hzl] at hj; exact (hroom (n + 0 + j) (by rw [show Kd.string.sz = 1 from rfl]; omega)).2)
      (fun v hv => by
        simp only [Builtin.zeroCells, Array.toList_map, List.mem_map, Value.cells] at hv
        obtain ⟨q, _, rfl⟩ := hv
        rw [show #[Value.string ByteArray.empty].size = 1 from rfl, Nat.mod_one]; rfl)
    simp only [Nat.add_zero] at hst
    obtain ⟨q, rfl⟩ : ∃ q, m = q + 1 := ⟨m - 1, by omega⟩
    have e0 : ByteArray.empty = (⟨#[]⟩ : ByteArray) := rfl
    rw [e0] at hst ⊢
    simp [Builtin.clear_, run_underlying Try.underlying27, hst]
section
variable {kp : ByteArray → Bool}
theorem kinv_start {zs : List ByteArray} {i : Nat} (hi : i < zs.length) (hlo : ∀ j : Nat, j < i → kp (zs.getD j ByteArray.empty) = true) (hhi : kp (zs.getD i ByteArray.empty) = false) : zs.take i = (zs.take (i + 1)).filter kp := by
  rw [List.getD_eq_getElem?_getD, List.getElem?_eq_getElem hi, Option.getD_some] at hhi
  rw [List.take_succ_eq_append_getElem hi, List.filter_append]
  have h1 : [zs[i]].filter kp = [] := by simp [hhi]
  rw [h1, List.append_nil]
  symm
  rw [List.filter_eq_self]
  intro z hz
  obtain ⟨j, hj, rfl⟩ := List.mem_iff_getElem.1 hz
  rw [List.getElem_take]
  rw [List.length_take] at hj
  have := hlo j (by omega)
  rwa [List.getD_eq_getElem?_getD, List.getElem?_eq_getElem (by omega), Option.getD_some] at this
theorem kinv_at {zs ys : List ByteArray} {j : Nat} (hj : j < zs.length) (hyl : ys.length = zs.length) (hd : ys.drop j = zs.drop j) : ys.getD j ByteArray.empty = zs[j] ∧ ys.drop (j + 1) = zs.drop (j + 1) := by
  have h1 : ys[j]? = zs[j]? := by
    have := congrArg (fun l => l[0]?) hd
    simpa using this
  refine ⟨?_, ?_⟩
  · rw [List.getD_eq_getElem?_getD, h1, List.getElem?_eq_getElem hj]
    rfl
  · have := congrArg (fun l => l.drop 1) hd
    simpa [List.drop_drop] using this
theorem kinv_skip {zs ys : List ByteArray} {ki j : Nat} (hj : j < zs.length) (h : ys.length = zs.length ∧ ys.take ki = (zs.take j).filter kp ∧ ys.drop j = zs.drop j) (hh : kp (ys.getD j ByteArray.empty) = false) :
    ys.length = zs.length ∧ ys.take ki = (zs.take (j + 1)).filter kp ∧ ys.drop (j + 1) = zs.drop (j + 1) := by
  obtain ⟨h1, h2, h3⟩ := h
  obtain ⟨ha, hb⟩ := kinv_at hj h1 h3
  rw [ha] at hh
  refine ⟨h1, ?_, hb⟩
  rw [List.take_succ_eq_append_getElem hj, List.filter_append, ← h2, List.filter_cons_of_neg (by simp [hh])]
  simp
theorem kinv_keep {zs ys : List ByteArray} {ki j : Nat} (hkj : ki < j) (hj : j < zs.length) (h : ys.length = zs.length ∧ ys.take ki = (zs.take j).filter kp ∧ ys.drop j = zs.drop j) (hh : kp (ys.getD j ByteArray.empty) = true) :
    (ys.set ki (ys.getD j ByteArray.empty)).length = zs.length ∧ (ys.set ki (ys.getD j ByteArray.empty)).take (ki + 1) = (zs.take (j + 1)).filter kp ∧ (ys.set ki (ys.getD j ByteArray.empty)).drop (j + 1) = zs.drop (j + 1) := by
  obtain ⟨h1, h2, h3⟩ := h
  obtain ⟨ha, hb⟩ := kinv_at hj h1 h3
  rw [ha] at hh ⊢
  refine ⟨by rw [List.length_set]; exact h1, ?_, ?_⟩
  · rw [List.take_succ_eq_append_getElem (by rw [List.length_set]; omega), List.getElem_set_self, List.take_set_of_le (Nat.le_refl _), h2, List.take_succ_eq_append_getElem hj, List.filter_append, List.filter_cons_of_pos hh]
    rfl
  · rw [List.drop_set_of_lt (by omega)]
    exact hb
set_option maxHeartbeats 4000000 in
theorem index_calls (A : Option Addr) (n c : Nat) (zs : List ByteArray) (b2 b3 : Nat) (w : World) (hK : Kd.C Kd.string w A n zs) (hs : ∀ z ∈ zs, z.size ≤ maxLen)
    (hdel : ∀ W, Below w.heap.size w W → ∀ x : ByteArray, x.size ≤ maxLen → Calls Try.prog 41 #[.string x, .pointer (some ⟨b2, 0, none⟩), .pointer (some ⟨b3, 0, none⟩)] W fun e w' => e = .returned (.bool (!kp x)) ∧ Below W.heap.size W w') :
    Calls Try.prog 42 #[.slice A n c, .func (.func 41) #[] #[.pointer (some ⟨b2, 0, none⟩), .pointer (some ⟨b3, 0, none⟩)]] w fun e w' => Below w.heap.size w w' ∧
      ((e = .returned (.int .i64 (-1)) ∧ ∀ i, i < zs.length → kp (zs.getD i ByteArray.empty) = true) ∨ ∃ i : Nat, e = .returned (.int .i64 i) ∧ i < zs.length ∧ (∀ j : Nat, j < i → kp (zs.getD j ByteArray.empty) = true) ∧ kp (zs.getD i ByteArray.empty) = false) := by
  have HK := Aside0.mk hK
  have hll := hK.2.1
  have hn : zs.length = n := hK.1
  have HN := Aside0.mk hn
  have HS := Aside0.mk hs
  have HD := Aside0.mk hdel
  clear hK hs hdel hn
  go_enter Try.func42, Try.ntmps42
  go_wp2
  go_loopg [8] n (fun gk s8 wr => ∃ i : Nat, i ≤ n ∧ n - i ≤ gk ∧ s8 = .int .i64 i ∧ Aside0 (Below w.heap.size w wr) ∧ Aside0 (∀ j : Nat, j < i → kp (zs.getD j ByteArray.empty) = true))
  case atStart => exact ⟨0, Nat.zero_le _, by omega, rfl, ⟨Below.refl _ _⟩, ⟨fun j hj => by omega⟩⟩
  case round =>
    obtain ⟨i, hi, hgk, rfl, HW, HH⟩ := hrel
    by_cases hlt : i < n
    · obtain ⟨gk, rfl⟩ : ∃ q, gk = q + 1 := ⟨gk - 1, by omega⟩
      have hCw := Kd.C_below HK.out HW.out
      have hA1 : ∃ ad, A = some ad := by obtain ⟨ad, e, _⟩ := hCw.2.2 (by omega); exact ⟨ad, e⟩
      obtain ⟨ad, rfl⟩ := hA1
      rw [← HN.out] at hCw
      obtain ⟨g, o, rfl, hcells⟩ := plain_str hCw (by rw [HN.out]; omega)
      have hcell := hcells i (by rw [HN.out]; omega)
      have hmem : zs.getD i ByteArray.empty ∈ zs := by
        rw [List.getD_eq_getElem?_getD, List.getElem?_eq_getElem (by rw [HN.out]; omega)]
        exact List.getElem_mem _
      have hsz := HS.out _ hmem
      obtain ⟨z, hz⟩ : ∃ z, z = zs.getD i ByteArray.empty := ⟨_, rfl⟩
      rw [← hz] at hcell hsz
      have HZ := Aside0.mk hz
      have hd := HD.out wr HW.out z hsz
      obtain ⟨h, hh⟩ : ∃ h, kp z = h := ⟨_, rfl⟩
      rw [hh] at hd
      have HHH := Aside0.mk hh
      have HDD := Aside0.mk hd
      clear hh hd hz hmem hsz hcells hCw
      go_wp2_with fail
      refine HDD.out.mono ?_
      rintro e w2 ⟨rfl, hB2⟩
      have HB2 := Aside0.mk (HW.out.trans (hB2.mono HW.out.size))
      clear hB2 HDD
      cases h with
      | true =>
        go_wp2
        go_roundg gk
        case measure => omega
        case rel =>
          refine ⟨i + 1, by omega, by omega, by go_num, HB2, ⟨fun j hj => ?_⟩⟩
          rcases Nat.lt_or_ge j i with h | h
          · exact HH.out j h
          · obtain rfl : j = i := by omega
            rw [← HZ.out]; exact HHH.out
      | false =>
        go_wp2
        go_ret
        exact ⟨HB2.out, .inr ⟨i, rfl, by rw [HN.out]; exact hlt, HH.out, by rw [← HZ.out]; exact HHH.out⟩⟩
    · obtain rfl : i = n := by omega
      go_wp2
      go_ret
      exact ⟨HW.out, .inl ⟨rfl, fun j hj => HH.out j (by rw [← HN.out]; exact hj)⟩⟩
set_option maxHeartbeats 4000000 in
theorem delfunc_calls (w0 w : World) (ok : Nat → Prop) (r n c : Nat) (zs : List ByteArray) (b2 b3 : Nat) (hB : Below w0.heap.size w0 w) (hO : Kd.string.R 9 w w0.heap.size ok (.slice (some ⟨r, 0, none⟩) n c) zs) (hn : n = zs.length) (hs : ∀ z ∈ zs, z.size ≤ maxLen)
    (hdel : ∀ W, Below w0.heap.size w0 W → Kept w W (fun k => k = r) → ∀ x : ByteArray, x.size ≤ maxLen → Calls Try.prog 41 #[.string x, .pointer (some ⟨b2, 0, none⟩), .pointer (some ⟨b3, 0, none⟩)] W fun e w' => e = .returned (.bool (!kp x)) ∧ Below W.heap.size W w') :
    Calls Try.prog 38 #[.slice (some ⟨r, 0, none⟩) n c, .func (.func 41) #[] #[.pointer (some ⟨b2, 0, none⟩), .pointer (some ⟨b3, 0, none⟩)]] w fun e w' => e = .returned (.slice (some ⟨r, 0, none⟩) (zs.filter kp).length c) ∧
      Kd.string.R 9 w' w0.heap.size ok (.slice (some ⟨r, 0, none⟩) (zs.filter kp).length c) (zs.filter kp) ∧ Below w0.heap.size w0 w' ∧ Kept w w' (fun k => k = r) := by
  obtain ⟨hnc, hcm, hroom⟩ := R_room hO hn
  have hrs : r < w.heap.size := Kd.R_lt hO r rfl
  have hbase : w0.heap.size ≤ r := Kd.R_base hO r rfl
  have hI := index_calls (kp := kp) (some ⟨r, 0, none⟩) n c zs b2 b3 w (by have h := (Kd.R_reads' hO).2.2; rw [← hn] at h; exact h) hs (fun W hW => hdel W (hB.trans (hW.mono hB.size)) (Kept.of_below hW _))
  have HI := Aside0.mk hI
  have HO := Aside0.mk hO
  have HB := Aside0.mk hB
  have HN := Aside0.mk hn
  have HS := Aside0.mk hs
  have HD := Aside0.mk hdel
  unfold maxLen at hcm
  clear hI hO hB hroom hn hs hdel
  go_enter Try.func38, Try.ntmps38
  go_wp2_with fail
  refine HI.out.mono ?_
  rintro e w1 ⟨hBI, hres⟩
  have HBI := Aside0.mk hBI
  rcases hres with ⟨rfl, hall⟩ | ⟨i, rfl, hil, hlo, hhi⟩
  · have hf : zs.filter kp = zs := by
      rw [List.filter_eq_self]
      intro z hz
      obtain ⟨i, hi, rfl⟩ := List.mem_iff_getElem.1 hz
      have := hall i hi
      rwa [List.getD_eq_getElem?_getD, List.getElem?_eq_getElem hi, Option.getD_some] at this
    have HF := Aside0.mk hf
    clear hall hf hBI
    go_wp2
    go_ret
    rw [HF.out, ← HN.out]
    exact ⟨rfl, Kd.R_below HO.out HBI.out, HB.out.trans (HBI.out.mono HB.out.size), Kept.of_below HBI.out _⟩
  · have HIN := Aside0.mk (kinv_start hil hlo hhi)
    rw [← HN.out] at hil
    have hi1 : ((i : Int) == -1) = false := beq_eq_false_iff_ne.2 (by omega)
    have HR1 := Aside0.mk (Kd.R_below HO.out HBI.out)
    have HB1 := Aside0.mk (HB.out.trans (HBI.out.mono HB.out.size))
    have HK1 := Aside0.mk (Kept.of_below HBI.out (fun k => k = r))
    clear hlo hhi HI hBI
    go_wp2
    go_loopg [5, 6] n (fun gk s5 s6 wr => ∃ (ki j : Nat) (ys : List ByteArray), s5 = .int .i64 ki ∧ s6 = .int .i64 j ∧ ki < j ∧ j ≤ n ∧ n - j ≤ gk ∧ Aside0 (ys.length = zs.length ∧ ys.take ki = (zs.take j).filter kp ∧ ys.drop j = zs.drop j) ∧
      Aside0 (Kd.string.R 9 wr w0.heap.size ok (.slice (some ⟨r, 0, none⟩) n c) ys) ∧ Aside0 (Below w0.heap.size w0 wr) ∧ Aside0 (Kept w wr (fun k => k = r)))
    case atStart => exact ⟨i, i + 1, zs, rfl, by go_num, by omega, by omega, by omega, ⟨rfl, HIN.out, rfl⟩, HR1, HB1, HK1⟩
    case round =>
      clear HIN HR1 HB1 HK1 HBI
      obtain ⟨ki, j, ys, rfl, rfl, hkj, hj, hgk, HI, HR, HBw, HKw⟩ := hrel
      by_cases hlt : j < n
      · obtain ⟨gk, rfl⟩ : ∃ q, gk = q + 1 := ⟨gk - 1, by omega⟩
        have hjz : j < zs.length := by rw [← HN.out]; exact hlt
        have hat := kinv_at hjz HI.out.1 HI.out.2.2
        have hCw := (Kd.R_reads' HR.out).2.2
        obtain ⟨g2, o2, e2, hcells⟩ := plain_str hCw (by rw [HI.out.1]; omega)
        injection e2 with eg eo
        subst eg eo
        have hcell := hcells j (by rw [HI.out.1]; exact hjz)
        rw [Nat.zero_add] at hcell
        have hsz : (ys.getD j ByteArray.empty).size ≤ maxLen := by rw [hat.1]; exact HS.out _ (List.getElem_mem hjz)
        obtain ⟨z, hz⟩ : ∃ z, ys.getD j ByteArray.empty = z := ⟨_, rfl⟩
        rw [hz] at hcell hsz
        have HZ := Aside0.mk hz
        have hd := HD.out wr HBw.out HKw.out z hsz
        obtain ⟨h, hh⟩ : ∃ h, kp z = h := ⟨_, rfl⟩
        rw [hh] at hd
        have HH := Aside0.mk hh
        have HDD := Aside0.mk hd
        clear hat hCw hcells hsz hz hd hh
        go_wp2_with fail
        refine HDD.out.mono ?_
        rintro e w3 ⟨rfl, hB4⟩
        have HR3 := Aside0.mk (Kd.R_below HR.out hB4)
        have HB3 := Aside0.mk (HBw.out.trans (hB4.mono HBw.out.size))
        have HK3 := Aside0.mk (HKw.out.below hB4)
        clear hB4 HDD hcell
        cases h with
        | false =>
          go_wp2
          go_roundg gk
          case measure => omega
          case rel => exact ⟨ki, j + 1, ys, rfl, by go_num, by omega, by omega, by omega, ⟨kinv_skip hjz HI.out (by rw [HZ.out]; exact HH.out)⟩, HR3, HB3, HK3⟩
        | true =>
          obtain ⟨_, _, hrm⟩ := R_room HR3.out (by rw [HI.out.1]; exact HN.out)
          obtain ⟨⟨u0, y0⟩, q0⟩ := hrm ki (by rw [show Kd.string.sz = 1 from rfl]; omega)
          clear hrm
          have hkn : ki < n := by omega
          go_wp2
          go_roundg gk
          case measure => omega
          case rel =>
            have hput := Kd.R_putg HR3.out (ki : Int) z
            rw [Int.toNat_natCast] at hput
            refine ⟨ki + 1, j + 1, ys.set ki z, by go_num, by go_num, by omega, by omega, by omega, ⟨?_⟩, ⟨hput.1⟩, ⟨HB3.out.setCell hbase _⟩, ⟨Kept.setCell (p := ⟨r, ki, none⟩) HK3.out (.inl rfl) _⟩⟩
            have h := kinv_keep hkj hjz HI.out (by rw [HZ.out]; exact HH.out)
            rw [HZ.out] at h
            exact h
      · have hjn : j = n := by omega
        have hkc : ki ≤ n := by omega
        have hck : c ≠ ki := by omega
        have hk2 : ki ≤ c := by omega
        have hL : ys.take ki = zs.filter kp := by
          rw [HI.out.2.1, hjn, HN.out, List.take_length]
        have hkl : ki = (zs.filter kp).length := by rw [← hL, List.length_take]; have := HI.out.1; have := HN.out; omega
        have hRt := Kd.R_take HR.out (m := ki) (by rw [HI.out.1, ← HN.out]; omega)
        rw [hL] at hRt
        obtain ⟨w2, hcl, h4, h5, h6⟩ := clear_row hRt hkl HBw.out (n - ki) (by omega) (some ⟨r, ki, none⟩) (fun _ => rfl) (c - ki)
        have h7 := HKw.out.then_ h6 (fun _ h => .inl h)
        have HF : Aside0 (Kd.string.R 9 w2 w0.heap.size ok (.slice (some ⟨r, 0, none⟩) ki c) (zs.filter kp) ∧ Below w0.heap.size w0 w2 ∧ Kept w w2 (fun k => k = r)) := ⟨h4, h5, h7⟩
        have HL := Aside0.mk hkl
        clear hL hRt h4 h5 h6 h7 hkl
        go_wp2
        all_goals go_ret
        all_goals
          rw [← HL.out]
          exact ⟨rfl, HF.out⟩
theorem del_none (w : World) (b2 b3 : Nat) : Calls Try.prog 38 #[.slice none 0 0, .func (.func 41) #[] #[.pointer (some ⟨b2, 0, none⟩), .pointer (some ⟨b3, 0, none⟩)]] w fun e w' => e = .returned (.slice none 0 0) ∧ Below w.heap.size w w' := by
  have HI := Aside0.mk (fun hs hd => index_calls (kp := fun _ => true) none 0 0 [] b2 b3 w ⟨rfl, by simp, fun h => absurd h (by simp)⟩ hs hd)
  have HJ : Aside0 (Calls Try.prog 42 #[.slice none 0 0, .func (.func 41) #[] #[.pointer (some ⟨b2, 0, none⟩), .pointer (some ⟨b3, 0, none⟩)]] w fun e w' => e = .returned (.int .i64 (-1)) ∧ w' = w) := ⟨by
    clear HI
    go_enter Try.func42, Try.ntmps42
    go_wp2
    go_loopg [8] 0 (fun gk s8 wr => s8 = .int .i64 0 ∧ wr = w)
    case atStart => exact ⟨rfl, rfl⟩
    case round =>
      obtain ⟨rfl, rfl⟩ := hrel
      go_wp2
      go_ret
      exact ⟨rfl, rfl⟩⟩
  clear HI
  go_enter Try.func38, Try.ntmps38
  go_wp2_with fail
  refine HJ.out.mono ?_
  rintro e w1 ⟨rfl, rfl⟩
  go_wp2
  go_ret
  exact ⟨rfl, Below.refl _ _⟩
end
end Go.Proofs.Ytaghcepochjoeaa.Hand

