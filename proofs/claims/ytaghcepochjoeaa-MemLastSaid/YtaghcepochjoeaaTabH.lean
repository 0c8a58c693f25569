/- A Table: Find. -/
import Derived.Test.YtaghcepochjoeaaTabG
namespace Go.Proofs.Ytaghcepochjoeaa.Hand
open Go.RowKit Go.Proofs.Ytaghcepochjoeaa.PA Go.Proofs.Ytaghcepochjoeaa.MapV Go.Proofs.YtaghcepochjoeaaW.PrintWords Go.Proofs.YtaghcepochjoeaaW.PrintLast Go.Proofs.YtaghcepochjoeaaW.PrintMore
attribute [local go_sem] max2_int min2_int
set_option linter.unusedVariables false
set_option linter.unusedSimpArgs false
set_option linter.unusedSectionVars false
theorem hitsTo_succ (x p : List Int) (n : Nat) : hitsTo x p (n + 1) = hitsTo x p n ++ (if Lib.hasPrefix (Lib.bytesOf (x.drop n)) (Lib.bytesOf p) = true then [n] else []) := by
  unfold hitsTo
  rw [List.range_succ, List.filter_append]
  congr 1
  by_cases h : Lib.hasPrefix (Lib.bytesOf (x.drop n)) (Lib.bytesOf p) = true
  · rw [if_pos h]; simp [h]
  · rw [if_neg h]; simp [h]
theorem hitsTo_len (x p : List Int) (n : Nat) : (hitsTo x p n).length ≤ n := by
  unfold hitsTo
  refine Nat.le_trans (List.length_filter_le _ _) ?_
  simp
theorem findD_len (p : List Int) (d : S34) : (findD p d).length ≤ d.f1.length + 1 := by
  unfold findD hits
  rw [List.length_map]
  exact Nat.le_trans (hitsTo_len _ _ _) (by omega)
theorem flat_len (p : List Int) (B : Nat) : ∀ (l : List S34), (∀ d ∈ l, d.f1.length ≤ B) → (l.flatMap (findD p)).length ≤ l.length * (B + 1)
  | [], _ => by simp
  | d :: l, h => by
    rw [List.flatMap_cons, List.length_append, List.length_cons]
    have h1 := findD_len p d
    have h2 := h d (by simp)
    have h3 := flat_len p B l (fun d hd => h d (by simp [hd]))
    rw [Nat.succ_mul]
    omega
section
variable {W W' w w0 w1 : World} {ok ok' T : Nat → Prop} {t m : Nat} {S : TS} {x : TE} {es : List (Key × TE)}
theorem pref_calls (g o n c g2 o2 m d : Nat) (xs ys : List Int) (w : World) (hx : Kd.C (Kd.int .u8) w (some ⟨g, o, none⟩) n xs) (hy : Kd.C (Kd.int .u8) w (some ⟨g2, o2, none⟩) m ys) (hc : n ≤ c) :
    Calls Try.prog 33 #[.slice (some ⟨g, o, none⟩) n c, .slice (some ⟨g2, o2, none⟩) m d] w fun e w' => e = .returned (.bool (Lib.hasPrefix (Lib.bytesOf xs) (Lib.bytesOf ys))) ∧ w' = w :=
  Try.bytes_HasPrefix g o n c g2 o2 m d xs ys w (C_len hx) (C_len hy) hc (fun i hi => C_cell8 hx i hi) (fun i hi => C_cell8 hy i hi)
set_option maxRecDepth 100000 in
set_option maxHeartbeats 8000000 in
theorem find_up (h : TabUp w w0 ok t S) (few : S.length ≤ 1000000) (txt : ∀ p ∈ S, p.2.1.length ≤ 4096) (A : Option Addr) (n c : Nat) (p : List Int) (hC : Kd.C (Kd.int .u8) w A n p) (hc : n ≤ c) :
    Calls Try.prog 16 #[.pointer (some ⟨t, 0, none⟩), .slice A n c] w fun e w' => ∃ A' c', e = .returned (.slice A' (findT S p).length c') ∧ (findT S p).length ≤ c' ∧ Kd.R k61 61 w' w.heap.size (fun k => w.heap.size ≤ k) (.slice A' (findT S p).length c') (findT S p) ∧ Below w.heap.size w w' := by
  have hn : p.length = n := hC.1
  have hn63 := hC.2.1
  by_cases h0 : n = 0
  · subst h0
    have HE : Aside0 (findT S p = []) := ⟨by unfold findT; rw [if_pos hn]⟩
    clear h hC
    go_enter Try.func16, Try.ntmps16
    go_wp2
    go_ret
    rw [HE.out]
    exact ⟨none, 0, rfl, Nat.le_refl _, Kd.R_nil _ _ _ _ _, Below.refl _ _⟩
  · have HE : Aside0 (findT S p = (docsT S).flatMap (findD p)) := ⟨by unfold findT; rw [if_neg (by omega)]⟩
    have K1 := Aside0.mk (docs_up h few txt)
    obtain ⟨ds, hds⟩ : ∃ ds, ds = docsT S := ⟨_, rfl⟩
    have hdl : ds.length ≤ 1000000 := by rw [hds]; unfold docsT; rw [List.length_map]; exact Nat.le_trans (keysT_len S true) few
    have HDT : Aside0 (∀ d ∈ ds, d.f1.length ≤ 4096) := ⟨fun d hd => by
      rw [hds] at hd
      unfold docsT at hd
      obtain ⟨s, _, rfl⟩ := List.mem_map.1 hd
      exact tget_len txt s⟩
    rw [← hds] at K1 HE
    have HFL : Aside0 (∀ i, ((ds.take i).flatMap (findD p)).length ≤ 4097000000) := ⟨fun i => by
      have h1 := flat_len p 4096 (ds.take i) (fun d hd => HDT.out d (List.mem_of_mem_take hd))
      rw [List.length_take] at h1
      have h2 : min i ds.length ≤ 1000000 := by omega
      have h3 := Nat.mul_le_mul_right (4096 + 1) h2
      omega⟩
    obtain ⟨adp, eA, _⟩ := hC.2.2 (by omega)
    subst eA
    obtain ⟨gp, op, rfl⟩ := plain_at (l := p) (by rw [hn]; exact hC) (by omega)
    have HC := Aside0.mk hC
    have HN := Aside0.mk hn
    have hz : ((n : Int) == 0) = false := by rw [beq_eq_false_iff_ne]; omega
    have hn1 : 1 ≤ n := by omega
    clear h few txt hds hC hn h0
    go_enter Try.func16, Try.ntmps16
    go_wp2_with fail
    refine K1.out.mono ?_
    rintro e w1 ⟨A1, c1, rfl, hc1, hR1, hB1⟩
    have HR1 := Aside0.mk hR1
    have HB1 := Aside0.mk hB1
    clear hR1 hB1 K1
    go_wp2
    go_loopg [5, 15] ds.length (fun gk s5 s15 wr => ∃ (i : Nat) (v : Value), i ≤ ds.length ∧ ds.length - i ≤ gk ∧ s5 = v ∧ s15 = .int .i64 i ∧ Aside0 (Kd.R k61 61 wr w1.heap.size (fun k => w1.heap.size ≤ k) v ((ds.take i).flatMap (findD p))) ∧ Aside0 (Below w1.heap.size w1 wr))
    case atStart => exact ⟨0, .slice none 0 0, Nat.zero_le _, by omega, rfl, rfl, ⟨Kd.R_nil _ _ _ _ _⟩, ⟨Below.refl _ _⟩⟩
    case round =>
      obtain ⟨i, v, hi, hgk, hv5, rfl, HR, HB⟩ := hrel
      have hv6 := hv5.symm
      clear hv5
      subst hv6
      by_cases hlt : i < ds.length
      · obtain ⟨gO, rfl⟩ : ∃ q, gk = q + 1 := ⟨gk - 1, by omega⟩
        have hCw := (Kd.R_reads' (Kd.R_below HR1.out HB.out)).2.2
        obtain ⟨ad, Ax, cx, rfl, hx0, hx1, hcx, hCx⟩ := at_T34 hCw (i : Int) (by omega) (by omega)
        simp only [Int.toNat_natCast] at hx0 hx1
        have hdm : rd_T34 ds (i : Int) ∈ ds := by
          unfold rd_T34
          rw [Int.toNat_natCast, List.getD_eq_getElem?_getD, List.getElem?_eq_getElem hlt]
          exact List.getElem_mem hlt
        have hxl := HDT.out _ hdm
        have hnx : (ds.take (i + 1)).flatMap (findD p) = (ds.take i).flatMap (findD p) ++ findD p (rd_T34 ds i) := by
          unfold rd_T34
          rw [List.take_succ_eq_append_getElem hlt, List.flatMap_append, Int.toNat_natCast, List.getD_eq_getElem?_getD, List.getElem?_eq_getElem hlt]
          simp
        have hCx0 := (at_T34 ((Kd.R_reads' HR1.out).2.2) (i : Int) (by omega) (by omega))
        obtain ⟨ad', Ax', cx', e1, hx0', hx1', hcx', hCx'⟩ := hCx0
        injection e1 with e1
        subst e1
        simp only [Int.toNat_natCast] at hx1'
        have hsame : Ax = Ax' := by
          have h3 := cell_below hx1' HB.out
          rw [hx1] at h3
          injection h3 with h3
          injection h3
        subst hsame
        generalize rd_T34 ds (i : Int) = d at *
        obtain ⟨s, xs⟩ := d
        simp only at hx0 hx1 hcx hCx' hxl
        have HNX := Aside0.mk hnx
        have HCX := Aside0.mk hCx'
        obtain ⟨acc, hacc⟩ : ∃ acc, acc = (ds.take i).flatMap (findD p) := ⟨_, rfl⟩
        have hal : acc.length ≤ 4097000000 := by rw [hacc]; exact HFL.out i
        rw [← hacc] at HR HNX
        obtain ⟨nx, hnxl⟩ : ∃ nx, nx = xs.length := ⟨_, rfl⟩
        rw [← hnxl] at hx1 hcx hxl
        have HNL := Aside0.mk hnxl
        obtain ⟨b7, hb7⟩ : ∃ b, b = wr.heap.size := ⟨_, rfl⟩
        obtain ⟨w7, hw7⟩ : ∃ w7, w7 = wr.alloc (.cells #[.string s, .slice Ax nx cx] 34) := ⟨_, rfl⟩
        have HB9 := Aside0.mk hb7
        have HW9 := Aside0.mk hw7
        have h7 : w7.heap[b7]? = some (.cells #[.string s, .slice Ax nx cx] 34 (0, 0)) := by rw [hw7, hb7]; exact heap_alloc_new _ _
        have hB7 : Below wr.heap.size wr w7 := by rw [hw7]; exact (Below.refl _ _).alloc (Nat.le_refl _) _
        have HB7 := Aside0.mk (HB.out.trans (hB7.mono HB.out.size))
        have hs7 : w7.heap.size = wr.heap.size + 1 := by rw [hw7]; simp
        have HR7 : Aside0 (Kd.R k61 61 w7 w1.heap.size (fun k => w1.heap.size ≤ k ∧ k ≠ b7) v acc) := ⟨Kd.R_below (Kd.R_mono (Kd.R_bound HR.out) (fun k hk => ⟨hk.1, fun e => by have := hk.2.2; omega⟩)) hB7⟩
        have HH7 := Aside0.mk h7
        have hb7s : b7 < w7.heap.size := by omega
        clear hCw hdm hnx hCx hCx' hx0' hx1' hcx' hacc hnxl hb7 hw7 h7 hB7 hs7
        go_upto_block 2 with fail
        rw [← HB9.out, ← HW9.out]
        go_wp2
        go_loopg [5, 8] (nx + 1) (fun gk s5 s8 wq => ∃ (k : Nat) (v : Value), k ≤ nx + 1 - n ∧ nx + 1 - k ≤ gk ∧ s5 = v ∧ s8 = .int .i64 k ∧ Aside0 (Kd.R k61 61 wq w1.heap.size (fun k => w1.heap.size ≤ k ∧ k ≠ b7) v (acc ++ (hitsTo xs p k).map fun (j : Nat) => ⟨s, (j : Int)⟩)) ∧ Aside0 (Below w1.heap.size w1 wq) ∧ Aside0 (wq.heap[b7]? = some (.cells #[.string s, .slice Ax nx cx] 34 (0, 0))))
        case atStart => exact ⟨0, _, Nat.zero_le _, by omega, rfl, rfl, ⟨by simpa [hitsTo] using HR7.out⟩, HB7, HH7⟩
        case round =>
          clear HR7 HB7 HH7
          obtain ⟨k, v2, hk, hgq, rfl, rfl, HRq, HBq, HHq⟩ := hrel
          have h70 : wr.cell? ⟨b7, 0, none⟩ = some (.string s) := (blk_cell HHq.out 0).trans rfl
          have h71 : wr.cell? ⟨b7, 1, none⟩ = some (.slice Ax nx cx) := (blk_cell HHq.out 1).trans rfl
          by_cases hcond : k + n ≤ nx
          · obtain ⟨gQ, rfl⟩ : ∃ q, gk = q + 1 := ⟨gk - 1, by omega⟩
            obtain ⟨adx, ex, _⟩ := HCX.out.2.2 (by have := HNL.out; omega)
            subst ex
            obtain ⟨gx, ox, rfl⟩ := plain_at HCX.out (by have := HNL.out; omega)
            have hCd := C_drop' (Kd.C_below HCX.out HBq.out) (m := k) (by have := HNL.out; omega)
            rw [← HNL.out] at hCd
            have kk := pref_calls gx (ox + k) (nx - k) (cx - k) gp op n c (xs.drop k) p wr hCd (Kd.C_below HC.out (HB1.out.trans (HBq.out.mono HB1.out.size))) (by omega)
            obtain ⟨b, hb⟩ : ∃ b, b = Lib.hasPrefix (Lib.bytesOf (xs.drop k)) (Lib.bytesOf p) := ⟨_, rfl⟩
            have hsu := hitsTo_succ xs p k
            rw [← hb] at kk hsu
            have KK := Aside0.mk kk
            have HSU := Aside0.mk hsu
            have hacl : (acc ++ (hitsTo xs p k).map fun (j : Nat) => (⟨s, (j : Int)⟩ : S61)).length ≤ 4097005000 := by
              rw [List.length_append, List.length_map]
              have := hitsTo_len xs p k
              omega
            have HAL := Aside0.mk hacl
            have HLT := Aside0.mk (Array.getElem?_eq_some_iff.1 HHq.out).1
            have HOWN := Aside0.mk HRq.out.1
            have h01 : (0 : Int) ≤ (k : Int) := by omega
            have h02 : (k : Int) ≤ (nx : Int) := by omega
            clear hCd kk hb hsu hacl
            go_wp2_with fail
            refine KK.out.mono ?_
            rintro e w2 ⟨rfl, rfl⟩
            cases b with
            | true =>
              go_wp2_with ((with_reducible refine gate_builtin (b := .append) (xs := #[.tmp 35, .tmp 40]) rfl ?_); at_builtin; refine Kd.R_append k61 (w0 := w1) w1.heap.size rfl (.tmp 35) (.tmp 40) 45 61 (.agg #[.string ByteArray.empty, .int .i64 0]) 24 rfl Try.underlying45 infoM rfl (by decide) (by decide) _ (acc ++ (hitsTo xs p k).map fun (j : Nat) => (⟨s, (j : Int)⟩ : S61)) ⟨s, (k : Int)⟩ [.string s, .int .i64 k] (fun k => w1.heap.size ≤ k ∧ k ≠ b7) (fun _ => False) rfl rfl ?aP ?aK ?aF ?aO ?aB ?aS ?aL ?_; (case aP => exact k61_mkM _ _ _ ⟨s, (k : Int)⟩); (case aK => exact (fun _ hk => hk.elim)); (case aF => exact (fun k hk => ⟨Nat.le_trans HBq.out.size hk, fun e => by have := HLT.out; omega⟩)); (case aO => exact HRq.out); (case aB => exact HBq.out); (case aS => exact HBq.out.size); (case aL => have := HAL.out; omega); intro v9 w9 ho9 hb9 hg9 hat9; have HO9 := Aside0.mk ho9; have HB9 := Aside0.mk hb9; have HH9 := Aside0.mk ((hg9.block b7 HLT.out (fun e => (HOWN.out b7 e.symm).2 rfl)).trans HHq.out); clear ho9 hb9 hg9 hat9)
              go_roundg gQ
              case measure => omega
              case rel =>
                refine ⟨k + 1, v9, by omega, by omega, rfl, by go_num, ⟨?_⟩, HB9, HH9⟩
                rw [HSU.out, if_pos trivial, List.map_append, ← List.append_assoc]
                exact HO9.out
            | false =>
              go_wp2
              go_roundg gQ
              case measure => omega
              case rel =>
                refine ⟨k + 1, _, by omega, by omega, rfl, by go_num, ⟨?_⟩, HBq, HHq⟩
                rw [HSU.out, if_neg (by simp), List.append_nil]
                exact HRq.out
          · have hke : k = nx + 1 - n := by omega
            have hfin : (ds.take (i + 1)).flatMap (findD p) = acc ++ (hitsTo xs p k).map fun (j : Nat) => (⟨s, (j : Int)⟩ : S61) := by
              rw [HNX.out]
              unfold findD hits
              rw [hke, HNL.out, ← HN.out]
            have HF := Aside0.mk hfin
            have hnc : ¬ ((k : Int) + (n : Int) ≤ (nx : Int)) := by omega
            clear hfin hke
            go_wp2
            go_roundg gO
            case measure => omega
            case rel => exact ⟨i + 1, _, by omega, by omega, rfl, by go_num, ⟨by rw [HF.out]; exact Kd.R_mono HRq.out (fun k hk => hk.1)⟩, HBq⟩
      · obtain rfl : i = ds.length := by omega
        rw [List.take_length, ← HE.out] at HR
        obtain ⟨A9, c9, e9, hc9, _⟩ := Kd.R_reads HR.out
        subst e9
        go_wp2
        go_ret
        exact ⟨A9, c9, rfl, hc9, Kd.R_mono (Kd.R_lower HR.out HB1.out.size) (fun k hk => Nat.le_trans HB1.out.size hk), HB1.out.trans (HB.out.mono HB1.out.size)⟩
end
end Go.Proofs.Ytaghcepochjoeaa.Hand
