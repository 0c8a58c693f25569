/- KeepPlays: the walk. -/
import Derived.Test.YtdepjlnljkbfjaaKepG
namespace Go.Proofs.Ytdepjlnljkbfjaa.Hand
open Go.RowKit Go.Proofs.Ytdepjlnljkbfjaa.PA Go.Proofs.Ytdepjlnljkbfjaa.MapP Go.Proofs.YtdepjlnljkbfjaaW.PrintWords Go.Proofs.YtdepjlnljkbfjaaW.PrintLast Go.Proofs.YtdepjlnljkbfjaaW.PrintMore
attribute [local go_sem] max2_int min2_int
set_option linter.unusedVariables false
set_option linter.unusedSimpArgs false
set_option maxRecDepth 100000 in
set_option maxHeartbeats 40000000 in
theorem keep_walk (room : Int) (l : List S57) (A : Option Addr) (c : Nat) (w : World) (hK : Kd.C k57 w A l.length l) (hlc : l.length ≤ c) (hll : l.length ≤ 1048576) (hok : ∀ x ∈ l, stepOk7 x) :
    Calls Try.prog 7 #[.int .i64 room, .slice A l.length c] w fun e w' => e = .returned (.bool true) ∧ Below w.heap.size w w' := by
  have HK := Aside0.mk hK
  have HOK := Aside0.mk hok
  have hn63 := hK.2.1
  have HFIT : Aside0 (∀ i : Nat, i < l.length → stepOk7 (rd_T57 l i)) := ⟨fun i hi => hok _ (by
    unfold rd_T57
    rw [Int.toNat_natCast, List.getD_eq_getElem?_getD, List.getElem?_eq_getElem hi]
    exact List.getElem_mem hi)⟩
  obtain ⟨k, hv, hf⟩ := heavy11_is l (by omega) (fun i hi => Nat.le_trans (HFIT.out i hi).2.2.2.2.2.1 (by decide))
  have hh := haystacklaw11_heavy.calls k A c l hv w hK hlc hf
  have HH := Aside0.mk hh
  clear hh hf hlc hll
  obtain ⟨n, hn⟩ : ∃ n, n = l.length := ⟨_, rfl⟩
  rw [← hn] at hn63 HH ⊢
  have HN := Aside0.mk hn
  obtain ⟨M, hMn, hMb, hMx⟩ : ∃ M, M ≤ n ∧ M ≤ 80 ∧ (M = n ∨ (M = 80 ∧ M < n)) := by
    rcases Nat.lt_or_ge 80 n with h | h
    · exact ⟨80, by omega, by omega, .inr ⟨rfl, h⟩⟩
    · exact ⟨n, by omega, h, .inl rfl⟩
  have HMX := Aside0.mk hMx
  clear hMx
  clear hK hok hn
  go_enter Try.func7, Try.ntmps7
  go_wp2_with fail
  refine (HH.out).mono ?_
  rintro e w1 ⟨rfl, hd1⟩
  have HB1 := Aside0.mk hd1.below
  clear hd1 HH
  cases hv
  case true =>
    go_wp2_with fail
    refine (known11 _).mono ?_
    rintro e w2 ⟨rfl, hB2⟩
    go_wp2
    go_ret
    exact ⟨rfl, HB1.out.trans (hB2.mono HB1.out.size)⟩
  case false =>
    by_cases hroom : room < 0 ∨ 1048576 < room
    · rcases Classical.em (room < 0) with hr0 | hr0
      · go_wp2_with fail
        refine (known11 _).mono ?_
        rintro e w4 ⟨rfl, hB4⟩
        go_wp2
        go_ret
        exact ⟨rfl, HB1.out.trans (hB4.mono HB1.out.size)⟩
      · have hr1 : 1048576 < room := hroom.resolve_left hr0
        clear hroom
        go_wp2_with fail
        refine (known11 _).mono ?_
        rintro e w4 ⟨rfl, hB4⟩
        go_wp2
        go_ret
        exact ⟨rfl, HB1.out.trans (hB4.mono HB1.out.size)⟩
    · have hr0 : ¬ room < 0 := fun h => hroom (.inl h)
      have hr1 : ¬ 1048576 < room := fun h => hroom (.inr h)
      clear hroom
      go_wp2_with fail
      refine (new_calls room _ (by omega) (by omega)).mono ?_
      rintro e w2 ⟨rfl, h2⟩
      have H2 := Aside0.mk h2
      clear h2
      go_wp2_with fail
      refine (refNew_calls room _ (by omega) (by omega)).mono ?_
      rintro e w3 ⟨rfl, h3⟩
      have HP : Aside0 (Pair w3 w (fun k => w.heap.size ≤ k) (w1.heap.size + 1) w2.heap.size ⟨room, false, 0, []⟩ ⟨room, -1, []⟩) := ⟨pair_of7 (H2.out.rebase HB1.out) (h3.rebase7 (HB1.out.trans (H2.out.below.mono HB1.out.size))) h3.below (fun k hk => Nat.le_trans HB1.out.size hk) (Nat.le_refl _) (Nat.le_trans HB1.out.size H2.out.below.size)⟩
      have HR : Aside0 (Rel ⟨room, false, 0, []⟩ ⟨room, -1, []⟩) := ⟨rel_new7 room (by omega) (by omega)⟩
      have HAB : Aside0 (AllB (⟨room, false, 0, []⟩ : DV).L) := ⟨fun p hp => by cases hp⟩
      obtain ⟨dd, hdd⟩ : ∃ dd, dd = w1.heap.size + 1 := ⟨_, rfl⟩
      obtain ⟨rr, hrr⟩ : ∃ rr, rr = w2.heap.size := ⟨_, rfl⟩
      rw [← hdd, ← hrr] at HP
      rw [← hdd, ← hrr]
      clear hdd hrr h3 H2 hr0 hr1
      go_wp2
      go_loopg [9] M (fun gk s9 wr => ∃ (i : Nat) (S : DV) (R : RV), i ≤ M ∧ M - i ≤ gk ∧ s9 = .int .i64 i ∧ Aside0 (Pair wr w (fun k => w.heap.size ≤ k) dd rr S R) ∧ Aside0 (Rel S R) ∧ Aside0 (AllB S.L))
      case atStart => exact ⟨0, _, _, Nat.zero_le _, by omega, rfl, HP, HR, HAB⟩
      case round =>
        clear HP HR HAB
        obtain ⟨i, S, R, hi, hgk, rfl, HP, HR, HAB⟩ := hrel
        by_cases hlt : i < M
        · obtain ⟨gO, rfl⟩ : ∃ q, gk = q + 1 := ⟨gk - 1, by omega⟩
          have hin : i < n := by omega
          have hil : i < l.length := by have := HN.out; omega
          have hi80 : (i : Int) < 80 := by omega
          have hok := HFIT.out i hil
          have hC0 := HK.out
          rw [← HN.out] at hC0
          obtain ⟨ad, AA, ca, AB, cb, AT, ct, rfl, hy0, hy1, hy2, hy3, hy4, hy5, hca, hCA, hcb, hCB, hct, hCT⟩ := at_T57 hC0 (i : Int) (by omega) (by omega)
          simp only [Int.toNat_natCast] at hy0 hy1 hy2 hy3 hy4 hy5
          have hx0 := cell_below hy0 HP.out.base
          have hx1 := cell_below hy1 HP.out.base
          have hx2 := cell_below hy2 HP.out.base
          have hx3 := cell_below hy3 HP.out.base
          have hx4 := cell_below hy4 HP.out.base
          have hx5 := cell_below hy5 HP.out.base
          clear hy0 hy1 hy2 hy3 hy4 hy5 hC0
          generalize rd_T57 l (i : Int) = x at *
          obtain ⟨x0, x1, s, za, zb, zt⟩ := x
          simp only at hx0 hx1 hx2 hx3 hx4 hx5 hca hCA hcb hCB hct hCT
          obtain ⟨hw0, hw1, hs0, ⟨ha0, ha1⟩, ⟨hb0, hb1⟩, ht0, ht1⟩ := hok
          simp only at hs0 ha0 ha1 hb0 hb1 ht0 ht1 hw1
          have hx1m : x1 ≤ 9223372036854775807 := by simp [Lit.wf] at hw1; omega
          obtain ⟨na, hna⟩ : ∃ na, na = za.length := ⟨_, rfl⟩
          obtain ⟨nb, hnb⟩ : ∃ nb, nb = zb.length := ⟨_, rfl⟩
          obtain ⟨nt, hnt⟩ : ∃ nt, nt = zt.length := ⟨_, rfl⟩
          rw [← hna] at hx3
          rw [← hnb] at hx4
          rw [← hnt] at hx5
          obtain ⟨WB, hWB⟩ : ∃ WB, WB = wr.alloc (.cells #[.int .i64 x0, .int .i64 x1, .string s, .slice AA na ca, .slice AB nb cb, .slice AT nt ct] 57) := ⟨_, rfl⟩
          obtain ⟨b9, hb9⟩ : ∃ b, b = wr.heap.size := ⟨_, rfl⟩
          have hBW : Below wr.heap.size wr WB := by rw [hWB]; exact (Below.refl _ _).alloc (Nat.le_refl _) _
          have hsB : WB.heap.size = wr.heap.size + 1 := by rw [hWB]; simp
          have h9 : WB.heap[b9]? = some (.cells #[.int .i64 x0, .int .i64 x1, .string s, .slice AA na ca, .slice AB nb cb, .slice AT nt ct] 57 (0, 0)) := by rw [hWB, hb9]; exact heap_alloc_new _ _
          obtain ⟨Z9, hZ9⟩ : ∃ Z9 : Nat → Prop, Z9 = fun k => (w.heap.size ≤ k ∧ k < wr.heap.size) ∨ WB.heap.size ≤ k := ⟨_, rfl⟩
          have hP9 : Pair WB w Z9 dd rr S R := by rw [hZ9]; exact HP.out.mark hBW
          have hzz : ∀ k, Z9 k → w.heap.size ≤ k := hP9.old
          have hnz : ¬ Z9 b9 := by rw [hZ9, hb9]; rintro (h | h) <;> omega
          have hk9 : ∀ W', Kept WB W' Z9 → Kept wr W' (fun k => w.heap.size ≤ k) := fun W' hk => ((Kept.of_below hBW _).then_ hk (fun k hk => .inl (hzz k hk)))
          have HC1 : Aside0 (∀ w3, Kept WB w3 Z9 → w3.cell? ⟨b9, 1, none⟩ = some (.int .i64 x1)) := ⟨fun w3 hk => kept_cell7 hk h9 hnz ((blk_cell h9 1).trans rfl)⟩
          have HC2 : Aside0 (∀ w3, Kept WB w3 Z9 → w3.cell? ⟨b9, 2, none⟩ = some (.string s)) := ⟨fun w3 hk => kept_cell7 hk h9 hnz ((blk_cell h9 2).trans rfl)⟩
          have HC3 : Aside0 (∀ w3, Kept WB w3 Z9 → w3.cell? ⟨b9, 3, none⟩ = some (.slice AA na ca)) := ⟨fun w3 hk => kept_cell7 hk h9 hnz ((blk_cell h9 3).trans rfl)⟩
          have HC4 : Aside0 (∀ w3, Kept WB w3 Z9 → w3.cell? ⟨b9, 4, none⟩ = some (.slice AB nb cb)) := ⟨fun w3 hk => kept_cell7 hk h9 hnz ((blk_cell h9 4).trans rfl)⟩
          have HC5 : Aside0 (∀ w3, Kept WB w3 Z9 → w3.cell? ⟨b9, 5, none⟩ = some (.slice AT nt ct)) := ⟨fun w3 hk => kept_cell7 hk h9 hnz ((blk_cell h9 5).trans rfl)⟩
          have HKR := Aside0.mk (Kept.refl WB Z9)
          have c90 : WB.cell? ⟨b9, 0, none⟩ = some (.int .i64 x0) := (blk_cell h9 0).trans rfl
          have HCA : Aside0 (∀ W', Kept WB W' Z9 → Kd.C (Kd.int .u8) W' AA za.length za) := ⟨fun W' h => Kd.C_kept_came (Kd.heap_int _) hCA HP.out.base HP.out.old W' (hk9 W' h)⟩
          have HCB : Aside0 (∀ W', Kept WB W' Z9 → Kd.C (Kd.int .u8) W' AB zb.length zb) := ⟨fun W' h => Kd.C_kept_came (Kd.heap_int _) hCB HP.out.base HP.out.old W' (hk9 W' h)⟩
          have HCT : Aside0 (∀ W', Kept WB W' Z9 → Kd.C Kd.string W' AT zt.length zt) := ⟨fun W' h => Kd.C_kept_came Kd.heap_string hCT HP.out.base HP.out.old W' (hk9 W' h)⟩
          have HP9 := Aside0.mk hP9
          have HSZ : Aside0 (s.size ≤ maxLen) := ⟨by unfold maxLen; omega⟩
          have HNA := Aside0.mk hna
          have HNB := Aside0.mk hnb
          have HNT := Aside0.mk hnt
          have HXA := Aside0.mk ha0
          have HXB := Aside0.mk hb0
          have HYA := Aside0.mk (wf_bytes ha1)
          have HYB := Aside0.mk (wf_bytes hb1)
          have HCLA := Aside0.mk hca
          have HCLB := Aside0.mk hcb
          have HX1 := Aside0.mk hx1m
          have HWB := Aside0.mk hWB
          have HB9 := Aside0.mk hb9
          have c91 := HC1.out _ HKR.out
          have c92 := HC2.out _ HKR.out
          have c93 := HC3.out _ HKR.out
          have c94 := HC4.out _ HKR.out
          have c95 := HC5.out _ HKR.out
          clear hCA hCB hCT hBW hsB h9 hZ9 hP9 hzz hnz hk9 hna hnb hnt ha0 ha1 hb0 hb1 hca hcb hct hx1m hWB hb9 hw0 hw1 hs0 ht0 ht1 HP
          go_upto_block 2 with fail
          rw [← HB9.out, ← HWB.out]
          go_cut [11] (fun s11 wx => s11 = .bool true ∧ ∃ (S' : DV) (R' : RV), Aside0 (Pair wx w (fun k => w.heap.size ≤ k) dd rr S' R') ∧ Aside0 (Rel S' R') ∧ Aside0 (AllB S'.L))
          case first =>
            clear hx0 hx1 hx2 hx3 hx4 hx5
            by_cases h1 : x0 = 1
            · subst h1
              as_aux_lemma =>
              obtain ⟨q, hq⟩ : ∃ q, q = (saveV S s (za ++ zb)).1 := ⟨_, rfl⟩
              obtain ⟨SS, hSS⟩ : ∃ SS, SS = (saveV S s (za ++ zb)).2 := ⟨_, rfl⟩
              have HBA : Below WB.heap.size WB (WB.alloc (.cells #[.slice AA na ca, .slice AB nb cb] 23)).drew := bdrew ((Below.refl _ _).alloc (Nat.le_refl _) _)
              have HBB : Below WB.heap.size WB ((WB.alloc (.cells #[.slice AA na ca, .slice AB nb cb] 23)).alloc (.cells #[] 5)).drew := bdrew (((Below.refl _ _).alloc (Nat.le_refl _) _).alloc (by simp) _)
              have HBC : Below WB.heap.size WB ((WB.alloc (.cells #[] 5)).alloc (.cells #[.slice AA na ca, .slice AB nb cb] 23)).drew := bdrew (((Below.refl _ _).alloc (Nat.le_refl _) _).alloc (by simp) _)
              have hAl : na ≤ ca := by rw [HNA.out]; exact HCLA.out
              have hBl : nb ≤ cb := by rw [HNB.out]; exact HCLB.out
              have hrA : Kd.C (Kd.slice 5 (Kd.int .u8)) (WB.alloc (.cells #[.slice AA na ca, .slice AB nb cb] 23)) (some ⟨WB.heap.size, 0, none⟩) 2 [za, zb] := by
                have h := rows_two (HCA.out _ HKR.out) HCLA.out (HCB.out _ HKR.out) HCLB.out 23
                rw [← HNA.out, ← HNB.out] at h
                exact h
              have hse : (WB.alloc (.cells #[] 5)).heap.size = WB.heap.size + 1 := by simp
              have hsr : (WB.alloc (.cells #[.slice AA na ca, .slice AB nb cb] 23)).heap.size = WB.heap.size + 1 := by simp
              have hrC : Kd.C (Kd.slice 5 (Kd.int .u8)) ((WB.alloc (.cells #[] 5)).alloc (.cells #[.slice AA na ca, .slice AB nb cb] 23)) (some ⟨WB.heap.size + 1, 0, none⟩) 2 [za, zb] := by
                have h := rows_two (Kd.C_alloc (HCA.out _ HKR.out) (.cells #[] 5)) HCLA.out (Kd.C_alloc (HCB.out _ HKR.out) (.cells #[] 5)) HCLB.out 23
                rw [← HNA.out, ← HNB.out, hse] at h
                exact h
              have hsum : za.length + zb.length ≤ 2097152 := by have := HXA.out; have := HXB.out; omega
              have hsa := fork_save HP9.out HBA s HSZ.out (some ⟨WB.heap.size, 0, none⟩) za zb (Kd.C_drew hrA) HYA.out HYB.out hsum
              have hsb := fork_save HP9.out HBB s HSZ.out (some ⟨WB.heap.size, 0, none⟩) za zb (Kd.C_drew (Kd.C_alloc hrA _)) HYA.out HYB.out hsum
              have hsc := fork_save HP9.out HBC s HSZ.out (some ⟨WB.heap.size + 1, 0, none⟩) za zb (Kd.C_drew hrC) HYA.out HYB.out hsum
              rw [← hq, ← hSS] at hsa hsb hsc
              have HSA : Aside0 (Calls Try.prog 11 #[.pointer (some ⟨dd, 0, none⟩), .string s, .slice (some ⟨WB.heap.size, 0, none⟩) 2 2] (WB.alloc (.cells #[.slice AA na ca, .slice AB nb cb] 23)).drew fun e w3 => e = .returned (.int .i64 q) ∧ Pair w3 w Z9 dd rr SS R ∧ Kept WB w3 Z9) := ⟨hsa.mono (fun e w3 h => ⟨h.1, fork_first HP9.out HBA h.2.1 h.2.2⟩)⟩
              have HSB : Aside0 (Calls Try.prog 11 #[.pointer (some ⟨dd, 0, none⟩), .string s, .slice (some ⟨WB.heap.size, 0, none⟩) 2 2] ((WB.alloc (.cells #[.slice AA na ca, .slice AB nb cb] 23)).alloc (.cells #[] 5)).drew fun e w3 => e = .returned (.int .i64 q) ∧ Fork7 WB w3 w Z9 dd rr (WB.heap.size + 1) SS R) := ⟨hsb.mono (fun e w3 h => ⟨h.1, fork_mid HP9.out HBB h.2.1 h.2.2 (by have h2 := heap_alloc_new (WB.alloc (.cells #[.slice AA na ca, .slice AB nb cb] 23)) (.cells #[] 5); rw [hsr] at h2; exact h2) (by omega)⟩)⟩
              have HSC : Aside0 (Calls Try.prog 11 #[.pointer (some ⟨dd, 0, none⟩), .string s, .slice (some ⟨WB.heap.size + 1, 0, none⟩) 2 2] ((WB.alloc (.cells #[] 5)).alloc (.cells #[.slice AA na ca, .slice AB nb cb] 23)).drew fun e w3 => e = .returned (.int .i64 q) ∧ Fork7 WB w3 w Z9 dd rr WB.heap.size SS R) := ⟨hsc.mono (fun e w3 h => ⟨h.1, fork_mid HP9.out HBC h.2.1 h.2.2 (by
                have h2 := heap_alloc_new WB (.cells #[] 5)
                have h3 := ((Below.refl (WB.alloc (.cells #[] 5)).heap.size (WB.alloc (.cells #[] 5))).alloc (Nat.le_refl _) (.cells #[.slice AA na ca, .slice AB nb cb] 23)).block WB.heap.size (by simp)
                exact h3.trans h2) (Nat.le_refl _)⟩)⟩
              have HSD : Aside0 (∀ W18 Z8 A18 c18, Pair W18 w Z8 dd rr SS R → Kd.C (Kd.int .u8) W18 A18 (za ++ zb).length (za ++ zb) → (za ++ zb).length ≤ c18 → Calls Try.prog 27 #[.pointer (some ⟨rr, 0, none⟩), .string s, .slice A18 (na + nb) c18] W18 fun e w' => e = .returned (.int .i64 q) ∧ Pair w' w Z8 dd rr SS (saveR R s (za ++ zb)).2 ∧ Kept W18 w' Z8) := ⟨fun W18 Z8 A18 c18 h1 h2 h3 => by
                rw [hq, ← (rel_save HR.out s (za ++ zb)).1]
                exact p_save2 h1 s A18 (na + nb) c18 (za ++ zb) (by rw [List.length_append, HNA.out, HNB.out]) h2 h3 (bytes_app HYA.out HYB.out)⟩
              have HREL2 : Aside0 (Rel SS (saveR R s (za ++ zb)).2) := ⟨by rw [hSS]; exact (rel_save HR.out s (za ++ zb)).2⟩
              have HAB2 : Aside0 (AllB SS.L) := ⟨by rw [hSS]; exact HAB.out.save s (bytes_app HYA.out HYB.out)⟩
              clear hq hSS HBA HBB HBC hAl hBl hrA hrC hsum hsa hsb hsc hse hsr
              go_wp2
              refine start_ (n := 22) (S := fun w' => w'.cell? ⟨b9, 2, none⟩ = some (.string s) ∧ w'.cell? ⟨b9, 3, none⟩ = some (.slice AA na ca) ∧ w'.cell? ⟨b9, 4, none⟩ = some (.slice AB nb cb)) (ds := [19]) #[false, false, false, false, false, false, false, false, false, false, false, false, false, false, false, false, false, false, false, false, false, false] (by kernel_rfl) rfl rfl ⟨c92, c93, c94⟩ (fun hHeld => ?_)
              refine pure_ (i := 0) (N := some 67) (v := ?_) (a' := ?_) #[true, false, false, false, false, false, false, false, false, false, false, false, false, false, false, false, false, false, false, false, false, false] rfl rfl (by kernel_rfl) (fun _ _ _ h => h) (Or.inl ⟨by rfl, ?_⟩) ?_ ?_
              rotate_left
              · intro w'
                go_simp
                with_reducible rfl
              rotate_left
              · simp only [Act.put, List.setIfInBounds_toArray, List.set_cons_zero, List.set_cons_succ, i64_w, i32_w]
                rfl
              refine pure_ (i := 1) (N := some 68) (v := ?_) (a' := ?_) #[true, true, false, false, false, false, false, false, false, false, false, false, false, false, false, false, false, false, false, false, false, false] rfl rfl (by kernel_rfl) (fun _ _ _ h => h) (Or.inl ⟨by rfl, ?_⟩) ?_ ?_
              rotate_left
              · intro w'
                go_simp
                with_reducible rfl
              rotate_left
              · simp only [Act.put, List.setIfInBounds_toArray, List.set_cons_zero, List.set_cons_succ, i64_w, i32_w]
                rfl
              refine pure_ (i := 3) (N := some 70) (v := ?_) (a' := ?_) #[true, true, false, true, false, false, false, false, false, false, false, false, false, false, false, false, false, false, false, false, false, false] rfl rfl (by kernel_rfl) (fun _ _ _ h => h) (Or.inl ⟨by rfl, ?_⟩) ?_ ?_
              rotate_left
              · intro w'
                go_simp
                with_reducible rfl
              rotate_left
              · simp only [Act.put, List.setIfInBounds_toArray, List.set_cons_zero, List.set_cons_succ, i64_w, i32_w]
                rfl
              refine pure_ (i := 5) (N := some 72) (v := ?_) (a' := ?_) #[true, true, false, true, false, true, false, false, false, false, false, false, false, false, false, false, false, false, false, false, false, false] rfl rfl (by kernel_rfl) (fun _ _ _ h => h) (Or.inl ⟨by rfl, ?_⟩) ?_ ?_
              rotate_left
              · intro w'
                go_simp
                with_reducible rfl
              rotate_left
              · simp only [Act.put, List.setIfInBounds_toArray, List.set_cons_zero, List.set_cons_succ, i64_w, i32_w]
                rfl
              refine pure_ (i := 9) (N := some 76) (v := ?_) (a' := ?_) #[true, true, false, true, false, true, false, false, false, true, false, false, false, false, false, false, false, false, false, false, false, false] rfl rfl (by kernel_rfl) (fun _ _ _ h => h) (Or.inl ⟨by rfl, ?_⟩) ?_ ?_
              rotate_left
              · intro w'
                go_simp
                with_reducible rfl
              rotate_left
              · simp only [Act.put, List.setIfInBounds_toArray, List.set_cons_zero, List.set_cons_succ, i64_w, i32_w]
                rfl
              refine pure_ (i := 10) (N := some 77) (v := ?_) (a' := ?_) #[true, true, false, true, false, true, false, false, false, true, true, false, false, false, false, false, false, false, false, false, false, false] rfl rfl (by kernel_rfl) (fun _ _ _ h => h) (Or.inl ⟨by rfl, ?_⟩) ?_ ?_
              rotate_left
              · intro w'
                go_simp
                with_reducible rfl
              rotate_left
              · simp only [Act.put, List.setIfInBounds_toArray, List.set_cons_zero, List.set_cons_succ, i64_w, i32_w]
                rfl
              refine pure_ (i := 13) (N := some 80) (v := ?_) (a' := ?_) #[true, true, false, true, false, true, false, false, false, true, true, false, false, true, false, false, false, false, false, false, false, false] rfl rfl (by kernel_rfl) (fun _ _ _ h => h) (Or.inl ⟨by rfl, ?_⟩) ?_ ?_
              rotate_left
              · intro w'
                go_simp
                with_reducible rfl
              rotate_left
              · simp only [Act.put, List.setIfInBounds_toArray, List.set_cons_zero, List.set_cons_succ, i64_w, i32_w]
                rfl
              refine pure_ (i := 16) (N := some 83) (v := ?_) (a' := ?_) #[true, true, false, true, false, true, false, false, false, true, true, false, false, true, false, false, true, false, false, false, false, false] rfl rfl (by kernel_rfl) (fun _ _ _ h => h) (Or.inl ⟨by rfl, ?_⟩) ?_ ?_
              rotate_left
              · intro w'
                go_simp
                with_reducible rfl
              rotate_left
              · simp only [Act.put, List.setIfInBounds_toArray, List.set_cons_zero, List.set_cons_succ, i64_w, i32_w]
                rfl
              refine take_ (i := 2) (N := some 69) (v := ?_) (a' := ?_) #[true, true, true, true, false, true, false, false, false, true, true, false, false, true, false, false, true, false, false, false, false, false] rfl rfl (by kernel_rfl) (fun _ _ _ h => h) (Or.inl ⟨by rfl, ?_⟩) hHeld ?_ ?_
              rotate_left
              · rintro w' ⟨s0, s1, s2⟩
                go_simp
                with_reducible rfl
              rotate_left
              · simp only [Act.put, List.setIfInBounds_toArray, List.set_cons_zero, List.set_cons_succ, i64_w, i32_w]
                rfl
              refine take_ (i := 4) (N := some 71) (v := ?_) (a' := ?_) #[true, true, true, true, true, true, false, false, false, true, true, false, false, true, false, false, true, false, false, false, false, false] rfl rfl (by kernel_rfl) (fun _ _ _ h => h) (Or.inl ⟨by rfl, ?_⟩) hHeld ?_ ?_
              rotate_left
              · rintro w' ⟨s0, s1, s2⟩
                go_simp
                with_reducible rfl
              rotate_left
              · simp only [Act.put, List.setIfInBounds_toArray, List.set_cons_zero, List.set_cons_succ, i64_w, i32_w]
                rfl
              refine take_ (i := 6) (N := some 73) (v := ?_) (a' := ?_) #[true, true, true, true, true, true, true, false, false, true, true, false, false, true, false, false, true, false, false, false, false, false] rfl rfl (by kernel_rfl) (fun _ _ _ h => h) (Or.inl ⟨by rfl, ?_⟩) hHeld ?_ ?_
              rotate_left
              · rintro w' ⟨s0, s1, s2⟩
                go_simp
                with_reducible rfl
              rotate_left
              · simp only [Act.put, List.setIfInBounds_toArray, List.set_cons_zero, List.set_cons_succ, i64_w, i32_w]
                rfl
              refine take_ (i := 11) (N := some 78) (v := ?_) (a' := ?_) #[true, true, true, true, true, true, true, false, false, true, true, true, false, true, false, false, true, false, false, false, false, false] rfl rfl (by kernel_rfl) (fun _ _ _ h => h) (Or.inl ⟨by rfl, ?_⟩) hHeld ?_ ?_
              rotate_left
              · rintro w' ⟨s0, s1, s2⟩
                go_simp
                with_reducible rfl
              rotate_left
              · simp only [Act.put, List.setIfInBounds_toArray, List.set_cons_zero, List.set_cons_succ, i64_w, i32_w]
                rfl
              refine take_ (i := 14) (N := some 81) (v := ?_) (a' := ?_) #[true, true, true, true, true, true, true, false, false, true, true, true, false, true, true, false, true, false, false, false, false, false] rfl rfl (by kernel_rfl) (fun _ _ _ h => h) (Or.inl ⟨by rfl, ?_⟩) hHeld ?_ ?_
              rotate_left
              · rintro w' ⟨s0, s1, s2⟩
                go_simp
                with_reducible rfl
              rotate_left
              · simp only [Act.put, List.setIfInBounds_toArray, List.set_cons_zero, List.set_cons_succ, i64_w, i32_w]
                rfl
              refine take_ (i := 17) (N := some 84) (v := ?_) (a' := ?_) #[true, true, true, true, true, true, true, false, false, true, true, true, false, true, true, false, true, true, false, false, false, false] rfl rfl (by kernel_rfl) (fun _ _ _ h => h) (Or.inl ⟨by rfl, ?_⟩) hHeld ?_ ?_
              rotate_left
              · rintro w' ⟨s0, s1, s2⟩
                go_simp
                with_reducible rfl
              rotate_left
              · simp only [Act.put, List.setIfInBounds_toArray, List.set_cons_zero, List.set_cons_succ, i64_w, i32_w]
                rfl
              refine join_ (σ := Nat × Nat) 5 #[true, true, true, true, true, true, true, true, true, true, true, true, true, true, true, false, true, true, false, false, false, false] (fun s_ => [(74, .slice (some ⟨s_.1, 0, none⟩) 2 2), (75, .int .i64 q), (79, .slice (some ⟨s_.2, 0, none⟩) 0 0)]) (fun s_ w' => (w'.cell? ⟨b9, 2, none⟩ = some (.string s) ∧ w'.cell? ⟨b9, 3, none⟩ = some (.slice AA na ca) ∧ w'.cell? ⟨b9, 4, none⟩ = some (.slice AB nb cb)) ∧ Fork7 WB w' w Z9 dd rr s_.2 SS R) ?_ ?_
              rotate_left
              · intro hCont
                refine two_ (i := 7) (j := 12) (Ni := some 74) (Nj := some 79) #[true, true, true, true, true, true, true, true, false, true, true, true, false, true, true, false, true, true, false, false, false, false] #[true, true, true, true, true, true, true, false, false, true, true, true, true, true, true, false, true, true, false, false, false, false] rfl rfl rfl rfl (by kernel_rfl) (by decide) (by decide) (fun K hK => ?_) (fun K hK => ?_)
                · skip
                  refine value_ (w1 := ?_) (v := ?_) (by rfl) rfl ?_ ?_
                  rotate_left 2
                  · go_simp
                    constructor
                    · rfl
                    · rfl
                  refine hK.out _ _ ⟨(Go.Lib.cell?_alloc_some _ hHeld.1), (Go.Lib.cell?_alloc_some _ hHeld.2.1), (Go.Lib.cell?_alloc_some _ hHeld.2.2)⟩ (fun hHeld => ?_)
                  clear hK K
                  refine norm_ (a' := ?_) ?_ ?_
                  rotate_left
                  · show Act.put _ (some 74) _ = _
                    simp only [Act.put, List.setIfInBounds_toArray, List.set_cons_zero, List.set_cons_succ, i64_w, i32_w]
                    rfl
                  refine two_ (i := 8) (j := 12) (Ni := some 75) (Nj := some 79) #[true, true, true, true, true, true, true, true, true, true, true, true, false, true, true, false, true, true, false, false, false, false] #[true, true, true, true, true, true, true, true, false, true, true, true, true, true, true, false, true, true, false, false, false, false] rfl rfl rfl rfl (by kernel_rfl) (by decide) (by decide) (fun K hK => ?_) (fun K hK => ?_)
                  · skip
                    refine goes_ Try.func11 (by kernel_rfl) rfl #[.pointer (some ⟨dd, 0, none⟩), .string s, .slice (some ⟨WB.heap.size, 0, none⟩) 2 2] (by rfl) rfl rfl (by simp only [List.map_toArray, List.map_cons, List.map_nil]; rfl) ?_
                    with_reducible refine (HSA.out).mono ?_
                    rintro e w3 ⟨rfl, hP3, hK3⟩
                    refine ⟨_, rfl, ?_⟩
                    refine hK.out _ _ ⟨(HC2.out w3 hK3), (HC3.out w3 hK3), (HC4.out w3 hK3)⟩ (fun hHeld => ?_)
                    clear hK K
                    refine norm_ (a' := ?_) ?_ ?_
                    rotate_left
                    · show Act.put _ (some 75) _ = _
                      simp only [Act.put, List.setIfInBounds_toArray, List.set_cons_zero, List.set_cons_succ, i64_w, i32_w]
                      rfl
                    refine one_ (i := 12) (N := some 79) #[true, true, true, true, true, true, true, true, true, true, true, true, true, true, true, false, true, true, false, false, false, false] rfl rfl (by kernel_rfl) (by decide) (fun K hK => ?_)
                    refine value_ (w1 := ?_) (v := ?_) (by rfl) rfl ?_ ?_
                    rotate_left 2
                    · go_simp
                      constructor
                      · rfl
                      · rfl
                    refine hK.out _ _ ⟨(Go.Lib.cell?_alloc_some _ hHeld.1), (Go.Lib.cell?_alloc_some _ hHeld.2.1), (Go.Lib.cell?_alloc_some _ hHeld.2.2)⟩ (fun hHeld => ?_)
                    clear hK K
                    refine norm_ (a' := ?_) ?_ ?_
                    rotate_left
                    · show Act.put _ (some 79) _ = _
                      simp only [Act.put, List.setIfInBounds_toArray, List.set_cons_zero, List.set_cons_succ, i64_w, i32_w]
                      rfl
                    exact norm_ (by simp only [putAll, Act.put, List.setIfInBounds_toArray, List.set_cons_zero, List.set_cons_succ]) (hCont (WB.heap.size, w3.heap.size) _ ⟨hHeld, fork_last hP3 hK3⟩)
                  · skip
                    refine value_ (w1 := ?_) (v := ?_) (by rfl) rfl ?_ ?_
                    rotate_left 2
                    · go_simp
                      constructor
                      · rfl
                      · rfl
                    refine hK.out _ _ ⟨(Go.Lib.cell?_alloc_some _ hHeld.1), (Go.Lib.cell?_alloc_some _ hHeld.2.1), (Go.Lib.cell?_alloc_some _ hHeld.2.2)⟩ (fun hHeld => ?_)
                    clear hK K
                    refine norm_ (a' := ?_) ?_ ?_
                    rotate_left
                    · show Act.put _ (some 79) _ = _
                      simp only [Act.put, List.setIfInBounds_toArray, List.set_cons_zero, List.set_cons_succ, i64_w, i32_w]
                      rfl
                    refine one_ (i := 8) (N := some 75) #[true, true, true, true, true, true, true, true, true, true, true, true, true, true, true, false, true, true, false, false, false, false] rfl rfl (by kernel_rfl) (by decide) (fun K hK => ?_)
                    refine goes_ Try.func11 (by kernel_rfl) rfl #[.pointer (some ⟨dd, 0, none⟩), .string s, .slice (some ⟨WB.heap.size, 0, none⟩) 2 2] (by rfl) rfl rfl (by simp only [List.map_toArray, List.map_cons, List.map_nil]; rfl) ?_
                    with_reducible refine (HSB.out).mono ?_
                    rintro e w3 ⟨rfl, hF3⟩
                    refine ⟨_, rfl, ?_⟩
                    refine hK.out _ _ ⟨(HC2.out w3 hF3.kept), (HC3.out w3 hF3.kept), (HC4.out w3 hF3.kept)⟩ (fun hHeld => ?_)
                    clear hK K
                    refine norm_ (a' := ?_) ?_ ?_
                    rotate_left
                    · show Act.put _ (some 75) _ = _
                      simp only [Act.put, List.setIfInBounds_toArray, List.set_cons_zero, List.set_cons_succ, i64_w, i32_w]
                      rfl
                    exact norm_ (by simp only [putAll, Act.put, List.setIfInBounds_toArray, List.set_cons_zero, List.set_cons_succ]) (hCont (WB.heap.size, WB.heap.size + 1) _ ⟨hHeld, hF3⟩)
                · skip
                  refine value_ (w1 := ?_) (v := ?_) (by rfl) rfl ?_ ?_
                  rotate_left 2
                  · go_simp
                    constructor
                    · rfl
                    · rfl
                  refine hK.out _ _ ⟨(Go.Lib.cell?_alloc_some _ hHeld.1), (Go.Lib.cell?_alloc_some _ hHeld.2.1), (Go.Lib.cell?_alloc_some _ hHeld.2.2)⟩ (fun hHeld => ?_)
                  clear hK K
                  refine norm_ (a' := ?_) ?_ ?_
                  rotate_left
                  · show Act.put _ (some 79) _ = _
                    simp only [Act.put, List.setIfInBounds_toArray, List.set_cons_zero, List.set_cons_succ, i64_w, i32_w]
                    rfl
                  refine one_ (i := 7) (N := some 74) #[true, true, true, true, true, true, true, true, false, true, true, true, true, true, true, false, true, true, false, false, false, false] rfl rfl (by kernel_rfl) (by decide) (fun K hK => ?_)
                  refine value_ (w1 := ?_) (v := ?_) (by rfl) rfl ?_ ?_
                  rotate_left 2
                  · go_simp
                    constructor
                    · rfl
                    · rfl
                  refine hK.out _ _ ⟨(Go.Lib.cell?_alloc_some _ hHeld.1), (Go.Lib.cell?_alloc_some _ hHeld.2.1), (Go.Lib.cell?_alloc_some _ hHeld.2.2)⟩ (fun hHeld => ?_)
                  clear hK K
                  refine norm_ (a' := ?_) ?_ ?_
                  rotate_left
                  · show Act.put _ (some 74) _ = _
                    simp only [Act.put, List.setIfInBounds_toArray, List.set_cons_zero, List.set_cons_succ, i64_w, i32_w]
                    rfl
                  refine one_ (i := 8) (N := some 75) #[true, true, true, true, true, true, true, true, true, true, true, true, true, true, true, false, true, true, false, false, false, false] rfl rfl (by kernel_rfl) (by decide) (fun K hK => ?_)
                  refine goes_ Try.func11 (by kernel_rfl) rfl #[.pointer (some ⟨dd, 0, none⟩), .string s, .slice (some ⟨WB.heap.size + 1, 0, none⟩) 2 2] (by rfl) rfl rfl (by simp only [List.map_toArray, List.map_cons, List.map_nil]; rfl) ?_
                  with_reducible refine (HSC.out).mono ?_
                  rintro e w3 ⟨rfl, hF3⟩
                  refine ⟨_, rfl, ?_⟩
                  refine hK.out _ _ ⟨(HC2.out w3 hF3.kept), (HC3.out w3 hF3.kept), (HC4.out w3 hF3.kept)⟩ (fun hHeld => ?_)
                  clear hK K
                  refine norm_ (a' := ?_) ?_ ?_
                  rotate_left
                  · show Act.put _ (some 75) _ = _
                    simp only [Act.put, List.setIfInBounds_toArray, List.set_cons_zero, List.set_cons_succ, i64_w, i32_w]
                    rfl
                  exact norm_ (by simp only [putAll, Act.put, List.setIfInBounds_toArray, List.set_cons_zero, List.set_cons_succ]) (hCont (WB.heap.size + 1, WB.heap.size) _ ⟨hHeld, hF3⟩)
              rintro ⟨b7, b12⟩ w5 ⟨hS_, hFk⟩
              have hHeld : w5.cell? ⟨b9, 2, none⟩ = some (.string s) ∧ w5.cell? ⟨b9, 3, none⟩ = some (.slice AA na ca) ∧ w5.cell? ⟨b9, 4, none⟩ = some (.slice AB nb cb) := hS_
              obtain ⟨A15, c15, W15, A18, c18, W18, Z8, hr15, hr18, hk15, hk18, hP8, hz8, hC18, hc18⟩ := fork_join hFk HP9.out.base.size AA AB na ca nb cb za zb HNA.out HNB.out (HCA.out w5 hFk.kept) HCB.out HXA.out HXB.out
              have HR15 := Aside0.mk hr15
              have HR18 := Aside0.mk hr18
              have HP8 := Aside0.mk hP8
              have HK15 := Aside0.mk hk15
              have HK18 := Aside0.mk hk18
              have HS19 := Aside0.mk (HSD.out W18 Z8 A18 c18 hP8 hC18 hc18)
              clear hr15 hr18 hk15 hk18 hP8 hz8 hC18 hc18 hFk hS_
              refine norm_ (a' := ?_) ?_ ?_
              rotate_left
              · simp only [putAll, Act.put, List.setIfInBounds_toArray, List.set_cons_zero, List.set_cons_succ]
                rfl
              refine one_ (i := 15) (N := some 82) #[true, true, true, true, true, true, true, true, true, true, true, true, true, true, true, true, true, true, false, false, false, false] rfl rfl (by kernel_rfl) (by decide) (fun K hK => ?_)
              refine append_step (by rfl) (.tmp 79) (.tmp 81) 23 rfl _ _ rfl rfl _ HR15.out rfl ?_
              refine hK.out _ _ ⟨(HC2.out W15 HK15.out), (HC3.out W15 HK15.out), (HC4.out W15 HK15.out)⟩ (fun hHeld => ?_)
              clear hK K
              refine norm_ (a' := ?_) ?_ ?_
              rotate_left
              · show Act.put _ (some 82) _ = _
                simp only [Act.put, List.setIfInBounds_toArray, List.set_cons_zero, List.set_cons_succ, i64_w, i32_w]
                rfl
              refine one_ (i := 18) (N := some 85) #[true, true, true, true, true, true, true, true, true, true, true, true, true, true, true, true, true, true, true, false, false, false] rfl rfl (by kernel_rfl) (by decide) (fun K hK => ?_)
              refine append_step (by rfl) (.tmp 82) (.tmp 84) 23 rfl _ _ rfl rfl _ HR18.out rfl ?_
              refine hK.out _ _ ⟨(HC2.out W18 HK18.out), (HC3.out W18 HK18.out), (HC4.out W18 HK18.out)⟩ (fun hHeld => ?_)
              clear hK K
              refine norm_ (a' := ?_) ?_ ?_
              rotate_left
              · show Act.put _ (some 85) _ = _
                simp only [Act.put, List.setIfInBounds_toArray, List.set_cons_zero, List.set_cons_succ, i64_w, i32_w]
                rfl
              refine last_ (i := 19) (N := some 86) #[true, true, true, true, true, true, true, true, true, true, true, true, true, true, true, true, true, true, true, true, false, false] rfl rfl (by kernel_rfl) (by decide) (fun K hK => ?_)
              refine goes_ Try.func27 (by kernel_rfl) rfl #[.pointer (some ⟨rr, 0, none⟩), .string s, .slice A18 (na + nb) c18] (by rfl) rfl rfl (by simp only [List.map_toArray, List.map_cons, List.map_nil]; rfl) ?_
              with_reducible refine (HS19.out).mono ?_
              rintro e w6 ⟨rfl, hP6, hK6⟩
              refine ⟨_, rfl, ?_⟩
              refine hK.out _ _ ?_
              clear hK K
              refine norm_ (a' := ?_) ?_ ?_
              rotate_left
              · show Act.put _ (some 86) _ = _
                simp only [Act.put, List.setIfInBounds_toArray, List.set_cons_zero, List.set_cons_succ, i64_w, i32_w]
                rfl
              refine pure_ (i := 20) (N := some 87) (v := ?_) (a' := ?_) #[true, true, true, true, true, true, true, true, true, true, true, true, true, true, true, true, true, true, true, true, true, false] rfl rfl (by kernel_rfl) (fun _ _ _ h => h) (Or.inl ⟨by rfl, ?_⟩) ?_ ?_
              rotate_left
              · intro w'
                go_simp
                with_reducible rfl
              rotate_left
              · simp only [Act.put, List.setIfInBounds_toArray, List.set_cons_zero, List.set_cons_succ, i64_w, i32_w]
                rfl
              refine pure_ (i := 21) (N := some 11) (v := ?_) (a' := ?_) #[true, true, true, true, true, true, true, true, true, true, true, true, true, true, true, true, true, true, true, true, true, true] rfl rfl (by kernel_rfl) (fun _ _ _ h => h) (Or.inl ⟨by rfl, ?_⟩) ?_ ?_
              rotate_left
              · intro w'
                go_simp
                with_reducible rfl
              rotate_left
              · simp only [Act.put, List.setIfInBounds_toArray, List.set_cons_zero, List.set_cons_succ, i64_w, i32_w]
                rfl
              refine done_ (by kernel_rfl) ?_
              clear hHeld
              go_wp2
              go_meet
              case rel => exact ⟨by simp, SS, _, ⟨hP6.home⟩, HREL2, HAB2⟩
            by_cases h2 : x0 = 2
            · subst h2
              as_aux_lemma =>
              obtain ⟨v, hv⟩ : ∃ v, v = loadV S s := ⟨_, rfl⟩
              have k1 := p_load1 HP9.out s HSZ.out HAB.out
              have HS2 : Aside0 (∀ w3, Pair w3 w Z9 dd rr S R → Calls Try.prog 28 #[.pointer (some ⟨rr, 0, none⟩), .string s] w3 fun e w' => ∃ A c, e = .returned (.tuple #[.slice A v.1.length c, .int .i64 v.2]) ∧ v.1.length ≤ c ∧ Kd.C (Kd.int .u8) w' A v.1.length v.1 ∧ Below w3.heap.size w3 w') := ⟨fun w3 h => by rw [hv]; exact p_load2 h HR.out s HAB.out⟩
              have hvl : v.1.length ≤ 4611686018427387904 := by
                have h1 := HP9.out.fine.used
                have h2 := HP9.out.fine.r1
                rw [hv]
                unfold loadV
                split
                · simp
                · rename_i x hx
                  split
                  · simp
                  · have h3 := total_at hx
                    have h4 := oneF_len x.1
                    simp only
                    omega
              rw [← hv] at k1
              have HS1 := Aside0.mk k1
              obtain ⟨p, e0⟩ := v
              simp only at HS1 HS2 hvl
              clear k1 hv
              go_wp2_with fail
              refine (HS1.out).mono ?_
              rintro e w3 ⟨A3, c3, rfl, hc3, hC3, hB3⟩
              have HP3 := Aside0.mk (HP9.out.below hB3)
              have HC3' := Aside0.mk hC3
              have c92b := HC2.out w3 (Kept.of_below hB3 _)
              clear hC3 hB3 HS1
              go_wp2_with fail
              refine (HS2.out _ HP3.out).mono ?_
              rintro e w4 ⟨A4, c4, rfl, hc4, hC4, hB4⟩
              have HP4 := Aside0.mk (HP3.out.below hB4)
              have HS5 := Aside0.mk (same11 A3 A4 c3 c4 p w4 (Kd.C_below HC3'.out hB4) hc3 hC4 hc4 hvl)
              clear hC4 hB4 HS2
              go_wp2_with fail
              refine (HS5.out).mono ?_
              rintro e w5 ⟨rfl, hB5⟩
              have HP5 := Aside0.mk (HP4.out.below hB5)
              go_wp2
              go_meet
              case rel => exact ⟨by simp, S, R, ⟨HP5.out.home⟩, HR, HAB⟩
            by_cases h3 : x0 = 3
            · subst h3
              as_aux_lemma =>
              obtain ⟨q, hq⟩ : ∃ q, q = (clearV s.data.toList zt S (namesK S)).1 := ⟨_, rfl⟩
              have hs1 := p_clear1 HP9.out.drew s AT nt ct zt HNT.out (fun W' hk => HCT.out W' hk)
              rw [← hq] at hs1
              have HS1 := Aside0.mk hs1
              have HS2 : Aside0 (∀ w3, Pair w3 w Z9 dd rr (clearV s.data.toList zt S (namesK S)).2 R → Kept WB.drew w3 Z9 → Calls Try.prog 29 #[.pointer (some ⟨rr, 0, none⟩), .string s, .slice AT nt ct] w3 fun e W' => e = .returned (.int .i64 q) ∧ Pair W' w Z9 dd rr (clearV s.data.toList zt S (namesK S)).2 (clearR s.data.toList zt R (R.L.map (·.1))).2 ∧ Kept w3 W' Z9) := ⟨fun w3 h hk => by
                rw [hq, rel_keys HR.out, ← (rel_clear s.data.toList zt (R.L.map (·.1)) S R HR.out).1]
                rw [rel_keys HR.out] at h
                exact p_clear2 h (HR.out.short HP9.out.short) s AT nt ct zt HNT.out (fun W' hk2 => HCT.out W' (Kept.then_ (show Kept WB w3 Z9 from hk) hk2 (fun k hk => .inl hk)))⟩
              have HREL2 : Aside0 (Rel (clearV s.data.toList zt S (namesK S)).2 (clearR s.data.toList zt R (R.L.map (·.1))).2) := ⟨by rw [rel_keys HR.out]; exact (rel_clear s.data.toList zt (R.L.map (·.1)) S R HR.out).2⟩
              have HAB2 : Aside0 (AllB (clearV s.data.toList zt S (namesK S)).2.L) := ⟨AllB.clear _ _ _ _ HAB.out⟩
              clear hq hs1
              go_wp2
              refine start_ (n := 14) (S := fun w' => w'.cell? ⟨b9, 2, none⟩ = some (.string s) ∧ w'.cell? ⟨b9, 5, none⟩ = some (.slice AT nt ct)) (ds := [11]) #[false, false, false, false, false, false, false, false, false, false, false, false, false, false] (by kernel_rfl) rfl rfl ⟨c92, c95⟩ (fun hHeld => ?_)
              refine pure_ (i := 0) (N := some 114) (v := ?_) (a' := ?_) #[true, false, false, false, false, false, false, false, false, false, false, false, false, false] rfl rfl (by kernel_rfl) (fun _ _ _ h => h) (Or.inl ⟨by rfl, ?_⟩) ?_ ?_
              rotate_left
              · intro w'
                go_simp
                with_reducible rfl
              rotate_left
              · simp only [Act.put, List.setIfInBounds_toArray, List.set_cons_zero, List.set_cons_succ, i64_w, i32_w]
                rfl
              refine pure_ (i := 1) (N := some 115) (v := ?_) (a' := ?_) #[true, true, false, false, false, false, false, false, false, false, false, false, false, false] rfl rfl (by kernel_rfl) (fun _ _ _ h => h) (Or.inl ⟨by rfl, ?_⟩) ?_ ?_
              rotate_left
              · intro w'
                go_simp
                with_reducible rfl
              rotate_left
              · simp only [Act.put, List.setIfInBounds_toArray, List.set_cons_zero, List.set_cons_succ, i64_w, i32_w]
                rfl
              refine pure_ (i := 3) (N := some 117) (v := ?_) (a' := ?_) #[true, true, false, true, false, false, false, false, false, false, false, false, false, false] rfl rfl (by kernel_rfl) (fun _ _ _ h => h) (Or.inl ⟨by rfl, ?_⟩) ?_ ?_
              rotate_left
              · intro w'
                go_simp
                with_reducible rfl
              rotate_left
              · simp only [Act.put, List.setIfInBounds_toArray, List.set_cons_zero, List.set_cons_succ, i64_w, i32_w]
                rfl
              refine pure_ (i := 6) (N := some 120) (v := ?_) (a' := ?_) #[true, true, false, true, false, false, true, false, false, false, false, false, false, false] rfl rfl (by kernel_rfl) (fun _ _ _ h => h) (Or.inl ⟨by rfl, ?_⟩) ?_ ?_
              rotate_left
              · intro w'
                go_simp
                with_reducible rfl
              rotate_left
              · simp only [Act.put, List.setIfInBounds_toArray, List.set_cons_zero, List.set_cons_succ, i64_w, i32_w]
                rfl
              refine pure_ (i := 7) (N := some 121) (v := ?_) (a' := ?_) #[true, true, false, true, false, false, true, true, false, false, false, false, false, false] rfl rfl (by kernel_rfl) (fun _ _ _ h => h) (Or.inl ⟨by rfl, ?_⟩) ?_ ?_
              rotate_left
              · intro w'
                go_simp
                with_reducible rfl
              rotate_left
              · simp only [Act.put, List.setIfInBounds_toArray, List.set_cons_zero, List.set_cons_succ, i64_w, i32_w]
                rfl
              refine pure_ (i := 9) (N := some 123) (v := ?_) (a' := ?_) #[true, true, false, true, false, false, true, true, false, true, false, false, false, false] rfl rfl (by kernel_rfl) (fun _ _ _ h => h) (Or.inl ⟨by rfl, ?_⟩) ?_ ?_
              rotate_left
              · intro w'
                go_simp
                with_reducible rfl
              rotate_left
              · simp only [Act.put, List.setIfInBounds_toArray, List.set_cons_zero, List.set_cons_succ, i64_w, i32_w]
                rfl
              refine take_ (i := 2) (N := some 116) (v := ?_) (a' := ?_) #[true, true, true, true, false, false, true, true, false, true, false, false, false, false] rfl rfl (by kernel_rfl) (fun _ _ _ h => h) (Or.inl ⟨by rfl, ?_⟩) hHeld ?_ ?_
              rotate_left
              · rintro w' ⟨s0, s1⟩
                go_simp
                with_reducible rfl
              rotate_left
              · simp only [Act.put, List.setIfInBounds_toArray, List.set_cons_zero, List.set_cons_succ, i64_w, i32_w]
                rfl
              refine take_ (i := 4) (N := some 118) (v := ?_) (a' := ?_) #[true, true, true, true, true, false, true, true, false, true, false, false, false, false] rfl rfl (by kernel_rfl) (fun _ _ _ h => h) (Or.inl ⟨by rfl, ?_⟩) hHeld ?_ ?_
              rotate_left
              · rintro w' ⟨s0, s1⟩
                go_simp
                with_reducible rfl
              rotate_left
              · simp only [Act.put, List.setIfInBounds_toArray, List.set_cons_zero, List.set_cons_succ, i64_w, i32_w]
                rfl
              refine take_ (i := 8) (N := some 122) (v := ?_) (a' := ?_) #[true, true, true, true, true, false, true, true, true, true, false, false, false, false] rfl rfl (by kernel_rfl) (fun _ _ _ h => h) (Or.inl ⟨by rfl, ?_⟩) hHeld ?_ ?_
              rotate_left
              · rintro w' ⟨s0, s1⟩
                go_simp
                with_reducible rfl
              rotate_left
              · simp only [Act.put, List.setIfInBounds_toArray, List.set_cons_zero, List.set_cons_succ, i64_w, i32_w]
                rfl
              refine take_ (i := 10) (N := some 124) (v := ?_) (a' := ?_) #[true, true, true, true, true, false, true, true, true, true, true, false, false, false] rfl rfl (by kernel_rfl) (fun _ _ _ h => h) (Or.inl ⟨by rfl, ?_⟩) hHeld ?_ ?_
              rotate_left
              · rintro w' ⟨s0, s1⟩
                go_simp
                with_reducible rfl
              rotate_left
              · simp only [Act.put, List.setIfInBounds_toArray, List.set_cons_zero, List.set_cons_succ, i64_w, i32_w]
                rfl
              refine one_ (i := 5) (N := some 119) #[true, true, true, true, true, true, true, true, true, true, true, false, false, false] rfl rfl (by kernel_rfl) (by decide) (fun K hK => ?_)
              refine goes_ Try.func23 (by kernel_rfl) rfl #[.pointer (some ⟨dd, 0, none⟩), .string s, .slice AT nt ct] (by rfl) rfl rfl (by simp only [List.map_toArray, List.map_cons, List.map_nil]; rfl) ?_
              with_reducible refine (HS1.out).mono ?_
              rintro e w3 ⟨rfl, hP3, hK3⟩
              refine ⟨_, rfl, ?_⟩
              refine hK.out _ _ ⟨(HC2.out w3 hK3), (HC5.out w3 hK3)⟩ (fun hHeld => ?_)
              clear hK K
              refine norm_ (a' := ?_) ?_ ?_
              rotate_left
              · show Act.put _ (some 119) _ = _
                simp only [Act.put, List.setIfInBounds_toArray, List.set_cons_zero, List.set_cons_succ, i64_w, i32_w]
                rfl
              refine last_ (i := 11) (N := some 125) #[true, true, true, true, true, true, true, true, true, true, true, true, false, false] rfl rfl (by kernel_rfl) (by decide) (fun K hK => ?_)
              refine goes_ Try.func29 (by kernel_rfl) rfl #[.pointer (some ⟨rr, 0, none⟩), .string s, .slice AT nt ct] (by rfl) rfl rfl (by simp only [List.map_toArray, List.map_cons, List.map_nil]; rfl) ?_
              with_reducible refine (HS2.out w3 hP3 hK3).mono ?_
              rintro e w4 ⟨rfl, hP4, hK4⟩
              refine ⟨_, rfl, ?_⟩
              refine hK.out _ _ ?_
              clear hK K
              refine norm_ (a' := ?_) ?_ ?_
              rotate_left
              · show Act.put _ (some 125) _ = _
                simp only [Act.put, List.setIfInBounds_toArray, List.set_cons_zero, List.set_cons_succ, i64_w, i32_w]
                rfl
              refine pure_ (i := 12) (N := some 126) (v := ?_) (a' := ?_) #[true, true, true, true, true, true, true, true, true, true, true, true, true, false] rfl rfl (by kernel_rfl) (fun _ _ _ h => h) (Or.inl ⟨by rfl, ?_⟩) ?_ ?_
              rotate_left
              · intro w'
                go_simp
                with_reducible rfl
              rotate_left
              · simp only [Act.put, List.setIfInBounds_toArray, List.set_cons_zero, List.set_cons_succ, i64_w, i32_w]
                rfl
              refine pure_ (i := 13) (N := some 11) (v := ?_) (a' := ?_) #[true, true, true, true, true, true, true, true, true, true, true, true, true, true] rfl rfl (by kernel_rfl) (fun _ _ _ h => h) (Or.inl ⟨by rfl, ?_⟩) ?_ ?_
              rotate_left
              · intro w'
                go_simp
                with_reducible rfl
              rotate_left
              · simp only [Act.put, List.setIfInBounds_toArray, List.set_cons_zero, List.set_cons_succ, i64_w, i32_w]
                rfl
              refine done_ (by kernel_rfl) ?_
              clear hHeld
              go_wp2
              go_meet
              case rel => exact ⟨by simp, _, _, ⟨hP4.home⟩, HREL2, HAB2⟩
            by_cases h4 : x0 = 4
            · subst h4
              as_aux_lemma =>
              go_wp2_with fail
              refine (p_crash1 HP9.out x1).mono ?_
              rintro e w3 ⟨rfl, hP3, hK3⟩
              have HP3 := Aside0.mk hP3
              have c91b := HC1.out w3 hK3
              clear hP3 hK3
              go_wp2_with fail
              refine (p_crash2 HP3.out x1).mono ?_
              rintro e w4 ⟨rfl, hP4, hK4⟩
              have HP4 := Aside0.mk hP4
              clear hP4 hK4
              go_wp2
              go_meet
              case rel => exact ⟨by first | rfl | simp, _, _, ⟨HP4.out.home⟩, ⟨rel_crash HR.out x1⟩, ⟨HAB.out.crash x1⟩⟩
            by_cases h5 : x0 = 5
            · subst h5
              as_aux_lemma =>
              go_wp2_with fail
              refine (p_fuse1 HP9.out x1 HX1.out).mono ?_
              rintro e w3 ⟨rfl, hP3, hK3⟩
              have HP3 := Aside0.mk hP3
              have c91b := HC1.out w3 hK3
              clear hP3 hK3
              go_wp2_with fail
              refine (p_fuse2 HP3.out x1 HX1.out).mono ?_
              rintro e w4 ⟨rfl, hP4, hK4⟩
              have HP4 := Aside0.mk hP4
              clear hP4 hK4
              go_wp2
              go_meet
              case rel => exact ⟨by first | rfl | simp, _, _, ⟨HP4.out.home⟩, ⟨rel_fuse HR.out x1 HX1.out⟩, ⟨HAB.out⟩⟩
            by_cases h6 : x0 = 6
            · subst h6
              as_aux_lemma =>
              obtain ⟨q, hq⟩ : ∃ q, q = (appendV S s za).1 := ⟨_, rfl⟩
              have hs1 := p_append1 HP9.out.drew s HSZ.out AA ca na za HNA.out (HCA.out _ HKR.out) HCLA.out HYA.out (by have := HXA.out; omega)
              rw [← hq, drew_alloc7] at hs1
              have HS1 := Aside0.mk hs1
              have HS2 : Aside0 (∀ w3, Pair w3 w Z9 dd rr (appendV S s za).2 R → Kept WB.drew w3 Z9 → Calls Try.prog 32 #[.pointer (some ⟨rr, 0, none⟩), .string s, .slice AA na ca] w3 fun e W' => e = .returned (.int .i64 q) ∧ Pair W' w Z9 dd rr (appendV S s za).2 (appendR R s za).2 ∧ Kept w3 W' Z9) := ⟨fun w3 h hk => by
                rw [hq, ← (rel_append HR.out s za).1]
                exact p_append2 h s HSZ.out AA ca na za HNA.out (fun W' hk2 => HCA.out W' (Kept.then_ (show Kept WB w3 Z9 from hk) hk2 (fun k hk => .inl hk))) HCLA.out (by have := HXA.out; omega)⟩
              clear hq hs1
              go_wp2
              refine start_ (n := 15) (S := fun w' => w'.cell? ⟨b9, 2, none⟩ = some (.string s) ∧ w'.cell? ⟨b9, 3, none⟩ = some (.slice AA na ca)) (ds := [12]) #[false, false, false, false, false, false, false, false, false, false, false, false, false, false, false] (by kernel_rfl) rfl rfl ⟨c92, c93⟩ (fun hHeld => ?_)
              refine pure_ (i := 0) (N := some 149) (v := ?_) (a' := ?_) #[true, false, false, false, false, false, false, false, false, false, false, false, false, false, false] rfl rfl (by kernel_rfl) (fun _ _ _ h => h) (Or.inl ⟨by rfl, ?_⟩) ?_ ?_
              rotate_left
              · intro w'
                go_simp
                with_reducible rfl
              rotate_left
              · simp only [Act.put, List.setIfInBounds_toArray, List.set_cons_zero, List.set_cons_succ, i64_w, i32_w]
                rfl
              refine pure_ (i := 1) (N := some 150) (v := ?_) (a' := ?_) #[true, true, false, false, false, false, false, false, false, false, false, false, false, false, false] rfl rfl (by kernel_rfl) (fun _ _ _ h => h) (Or.inl ⟨by rfl, ?_⟩) ?_ ?_
              rotate_left
              · intro w'
                go_simp
                with_reducible rfl
              rotate_left
              · simp only [Act.put, List.setIfInBounds_toArray, List.set_cons_zero, List.set_cons_succ, i64_w, i32_w]
                rfl
              refine pure_ (i := 3) (N := some 152) (v := ?_) (a' := ?_) #[true, true, false, true, false, false, false, false, false, false, false, false, false, false, false] rfl rfl (by kernel_rfl) (fun _ _ _ h => h) (Or.inl ⟨by rfl, ?_⟩) ?_ ?_
              rotate_left
              · intro w'
                go_simp
                with_reducible rfl
              rotate_left
              · simp only [Act.put, List.setIfInBounds_toArray, List.set_cons_zero, List.set_cons_succ, i64_w, i32_w]
                rfl
              refine pure_ (i := 7) (N := some 156) (v := ?_) (a' := ?_) #[true, true, false, true, false, false, false, true, false, false, false, false, false, false, false] rfl rfl (by kernel_rfl) (fun _ _ _ h => h) (Or.inl ⟨by rfl, ?_⟩) ?_ ?_
              rotate_left
              · intro w'
                go_simp
                with_reducible rfl
              rotate_left
              · simp only [Act.put, List.setIfInBounds_toArray, List.set_cons_zero, List.set_cons_succ, i64_w, i32_w]
                rfl
              refine pure_ (i := 8) (N := some 157) (v := ?_) (a' := ?_) #[true, true, false, true, false, false, false, true, true, false, false, false, false, false, false] rfl rfl (by kernel_rfl) (fun _ _ _ h => h) (Or.inl ⟨by rfl, ?_⟩) ?_ ?_
              rotate_left
              · intro w'
                go_simp
                with_reducible rfl
              rotate_left
              · simp only [Act.put, List.setIfInBounds_toArray, List.set_cons_zero, List.set_cons_succ, i64_w, i32_w]
                rfl
              refine pure_ (i := 10) (N := some 159) (v := ?_) (a' := ?_) #[true, true, false, true, false, false, false, true, true, false, true, false, false, false, false] rfl rfl (by kernel_rfl) (fun _ _ _ h => h) (Or.inl ⟨by rfl, ?_⟩) ?_ ?_
              rotate_left
              · intro w'
                go_simp
                with_reducible rfl
              rotate_left
              · simp only [Act.put, List.setIfInBounds_toArray, List.set_cons_zero, List.set_cons_succ, i64_w, i32_w]
                rfl
              refine take_ (i := 2) (N := some 151) (v := ?_) (a' := ?_) #[true, true, true, true, false, false, false, true, true, false, true, false, false, false, false] rfl rfl (by kernel_rfl) (fun _ _ _ h => h) (Or.inl ⟨by rfl, ?_⟩) hHeld ?_ ?_
              rotate_left
              · rintro w' ⟨s0, s1⟩
                go_simp
                with_reducible rfl
              rotate_left
              · simp only [Act.put, List.setIfInBounds_toArray, List.set_cons_zero, List.set_cons_succ, i64_w, i32_w]
                rfl
              refine take_ (i := 4) (N := some 153) (v := ?_) (a' := ?_) #[true, true, true, true, true, false, false, true, true, false, true, false, false, false, false] rfl rfl (by kernel_rfl) (fun _ _ _ h => h) (Or.inl ⟨by rfl, ?_⟩) hHeld ?_ ?_
              rotate_left
              · rintro w' ⟨s0, s1⟩
                go_simp
                with_reducible rfl
              rotate_left
              · simp only [Act.put, List.setIfInBounds_toArray, List.set_cons_zero, List.set_cons_succ, i64_w, i32_w]
                rfl
              refine take_ (i := 9) (N := some 158) (v := ?_) (a' := ?_) #[true, true, true, true, true, false, false, true, true, true, true, false, false, false, false] rfl rfl (by kernel_rfl) (fun _ _ _ h => h) (Or.inl ⟨by rfl, ?_⟩) hHeld ?_ ?_
              rotate_left
              · rintro w' ⟨s0, s1⟩
                go_simp
                with_reducible rfl
              rotate_left
              · simp only [Act.put, List.setIfInBounds_toArray, List.set_cons_zero, List.set_cons_succ, i64_w, i32_w]
                rfl
              refine take_ (i := 11) (N := some 160) (v := ?_) (a' := ?_) #[true, true, true, true, true, false, false, true, true, true, true, true, false, false, false] rfl rfl (by kernel_rfl) (fun _ _ _ h => h) (Or.inl ⟨by rfl, ?_⟩) hHeld ?_ ?_
              rotate_left
              · rintro w' ⟨s0, s1⟩
                go_simp
                with_reducible rfl
              rotate_left
              · simp only [Act.put, List.setIfInBounds_toArray, List.set_cons_zero, List.set_cons_succ, i64_w, i32_w]
                rfl
              refine one_ (i := 5) (N := some 154) #[true, true, true, true, true, true, false, true, true, true, true, true, false, false, false] rfl rfl (by kernel_rfl) (by decide) (fun K hK => ?_)
              refine value_ (w1 := ?_) (v := ?_) (by rfl) rfl ?_ ?_
              rotate_left 2
              · go_simp
                constructor
                · rfl
                · rfl
              refine hK.out _ _ ⟨(Go.Lib.cell?_alloc_some _ hHeld.1), (Go.Lib.cell?_alloc_some _ hHeld.2)⟩ (fun hHeld => ?_)
              clear hK K
              refine norm_ (a' := ?_) ?_ ?_
              rotate_left
              · show Act.put _ (some 154) _ = _
                simp only [Act.put, List.setIfInBounds_toArray, List.set_cons_zero, List.set_cons_succ, i64_w, i32_w]
                rfl
              refine one_ (i := 6) (N := some 155) #[true, true, true, true, true, true, true, true, true, true, true, true, false, false, false] rfl rfl (by kernel_rfl) (by decide) (fun K hK => ?_)
              refine goes_ Try.func20 (by kernel_rfl) rfl #[.pointer (some ⟨dd, 0, none⟩), .string s, .slice (some ⟨WB.drew.heap.size, 0, none⟩) 1 1] (by rfl) rfl rfl (by simp only [List.map_toArray, List.map_cons, List.map_nil]; rfl) ?_
              with_reducible refine (HS1.out).mono ?_
              rintro e w3 ⟨rfl, hP3, hK3⟩
              refine ⟨_, rfl, ?_⟩
              refine hK.out _ _ ⟨(HC2.out w3 hK3), (HC3.out w3 hK3)⟩ (fun hHeld => ?_)
              clear hK K
              refine norm_ (a' := ?_) ?_ ?_
              rotate_left
              · show Act.put _ (some 155) _ = _
                simp only [Act.put, List.setIfInBounds_toArray, List.set_cons_zero, List.set_cons_succ, i64_w, i32_w]
                rfl
              refine last_ (i := 12) (N := some 161) #[true, true, true, true, true, true, true, true, true, true, true, true, true, false, false] rfl rfl (by kernel_rfl) (by decide) (fun K hK => ?_)
              refine goes_ Try.func32 (by kernel_rfl) rfl #[.pointer (some ⟨rr, 0, none⟩), .string s, .slice AA na ca] (by rfl) rfl rfl (by simp only [List.map_toArray, List.map_cons, List.map_nil]; rfl) ?_
              with_reducible refine (HS2.out w3 hP3 hK3).mono ?_
              rintro e w4 ⟨rfl, hP4, hK4⟩
              refine ⟨_, rfl, ?_⟩
              refine hK.out _ _ ?_
              clear hK K
              refine norm_ (a' := ?_) ?_ ?_
              rotate_left
              · show Act.put _ (some 161) _ = _
                simp only [Act.put, List.setIfInBounds_toArray, List.set_cons_zero, List.set_cons_succ, i64_w, i32_w]
                rfl
              refine pure_ (i := 13) (N := some 162) (v := ?_) (a' := ?_) #[true, true, true, true, true, true, true, true, true, true, true, true, true, true, false] rfl rfl (by kernel_rfl) (fun _ _ _ h => h) (Or.inl ⟨by rfl, ?_⟩) ?_ ?_
              rotate_left
              · intro w'
                go_simp
                with_reducible rfl
              rotate_left
              · simp only [Act.put, List.setIfInBounds_toArray, List.set_cons_zero, List.set_cons_succ, i64_w, i32_w]
                rfl
              refine pure_ (i := 14) (N := some 11) (v := ?_) (a' := ?_) #[true, true, true, true, true, true, true, true, true, true, true, true, true, true, true] rfl rfl (by kernel_rfl) (fun _ _ _ h => h) (Or.inl ⟨by rfl, ?_⟩) ?_ ?_
              rotate_left
              · intro w'
                go_simp
                with_reducible rfl
              rotate_left
              · simp only [Act.put, List.setIfInBounds_toArray, List.set_cons_zero, List.set_cons_succ, i64_w, i32_w]
                rfl
              refine done_ (by kernel_rfl) ?_
              clear hHeld
              go_wp2
              go_meet
              case rel => exact ⟨by simp, _, _, ⟨hP4.home⟩, ⟨(rel_append HR.out s za).2⟩, ⟨HAB.out.append s HYA.out⟩⟩
            as_aux_lemma =>
            have n1 : (x0 == 1) = false := by simpa using h1
            have n2 : (x0 == 2) = false := by simpa using h2
            have n3 : (x0 == 3) = false := by simpa using h3
            have n4 : (x0 == 4) = false := by simpa using h4
            have n5 : (x0 == 5) = false := by simpa using h5
            have n6 : (x0 == 6) = false := by simpa using h6
            clear h1 h2 h3 h4 h5 h6
            go_wp2
            go_meet
            case rel => exact ⟨by first | rfl | simp, S, R, ⟨HP9.out.home⟩, HR, HAB⟩
          case rest =>
            clear HC1 HC2 HC3 HC4 HC5 HCA HCB HCT c90 c91 c92 c93 c94 c95 hx0 hx1 hx2 hx3 hx4 hx5 HP9 HR HAB HKR HNA HNB HNT HXA HXB HYA HYB HCLA HCLB HX1 HWB HB9 HSZ
            obtain ⟨rfl, S', R', HP, HR, HAB⟩ := hcut
            as_aux_lemma =>
            obtain ⟨ns, hns⟩ : ∃ ns, ns = namesR R' := ⟨_, rfl⟩
            have hnl : ns.length ≤ 4096 := by rw [hns, ← rel_names HR.out, namesOf_len]; exact HP.out.fine.many
            have HL2 : Aside0 (Calls Try.prog 33 #[.pointer (some ⟨rr, 0, none⟩)] wc fun e w' => ∃ A c, e = .returned (.slice A ns.length c) ∧ ns.length ≤ c ∧ Kd.R Kd.string 9 w' wc.heap.size (fun k => wc.heap.size ≤ k) (.slice A ns.length c) ns ∧ Below wc.heap.size wc w') := ⟨by rw [hns]; exact p_list2 HP.out⟩
            have HL1 : Aside0 (∀ W1, Pair W1 w (fun k => w.heap.size ≤ k) dd rr S' R' → Calls Try.prog 25 #[.pointer (some ⟨dd, 0, none⟩)] W1 fun e w' => ∃ A c, e = .returned (.slice A ns.length c) ∧ ns.length ≤ c ∧ Kd.R Kd.string 9 w' W1.heap.size (fun k => W1.heap.size ≤ k) (.slice A ns.length c) ns ∧ Below W1.heap.size W1 w') := ⟨fun W1 h => by rw [hns, ← rel_names HR.out]; exact p_list1 h⟩
            have HNS : Aside0 (∀ s ∈ ns, s.size ≤ maxLen ∧ ∃ xs : List Int, readV S' s = (xs, 0) ∧ readRV R' s.data.toList = (xs, 0) ∧ xs.length ≤ 1073741824) := ⟨fun s hs => by
              rw [hns, ← rel_names HR.out] at hs
              unfold namesOf namesK at hs
              obtain ⟨k, hk, rfl⟩ := List.mem_map.1 hs
              rw [List.mem_mergeSort] at hk
              obtain ⟨q, hq, rfl⟩ := List.mem_map.1 hk
              have h1 := read_there HP.out.fine.once hq
              refine ⟨by have := HP.out.short q hq; simpa [byK, ByteArray.size] using this, q.2.1, h1, by rw [← rel_read HR.out]; exact h1, ?_⟩
              have h2 := total_mem (L := S'.L) (k := q.1) (x := q.2) (HP.out.fine.once.at_of_mem hq)
              have := HP.out.fine.used
              have := HP.out.fine.r1
              omega⟩
            clear hns
            go_wp2_with fail
            refine (HL2.out).mono ?_
            rintro e W1 ⟨A1, c1, rfl, hc1, hR1, hB1⟩
            have HP1 := Aside0.mk (HP.out.below hB1)
            have HR1 := Aside0.mk hR1
            clear hR1 hB1 HL2
            go_wp2_with fail
            refine (HL1.out _ HP1.out).mono ?_
            rintro e W2 ⟨A2, c2, rfl, hc2, hR2, hB2⟩
            have HR2 := Aside0.mk hR2
            have HB2 := Aside0.mk hB2
            have HC1 := Aside0.mk hc1
            have HC2 := Aside0.mk hc2
            have HN' := Aside0.mk hnl
            clear hR2 hB2 hc1 hc2
            go_wp2_with fail
            refine (haystacklaw11_texts.calls (ns.length + 1) A2 c2 ns A1 c1 ns true W2 (Kd.R_reads' HR2.out).2.2 HC2.out (Kd.R_reads' (Kd.R_below HR1.out HB2.out)).2.2 HC1.out (texts_refl11 ns (by have := HN'.out; omega))).mono ?_
            rintro e W3 ⟨rfl, hd3⟩
            have HP3 := Aside0.mk (HP1.out.below (HB2.out.trans (hd3.below.mono HB2.out.size)))
            have HB3 := Aside0.mk (HB2.out.trans (hd3.below.mono HB2.out.size))
            clear hd3
            go_wp2
            clear HL1 HP HP1 HR2 HC2
            go_loopg [17] ns.length (fun gk s17 wq => ∃ j : Nat, j ≤ ns.length ∧ ns.length - j ≤ gk ∧ s17 = .int .i64 j ∧ Aside0 (Below W1.heap.size W1 wq) ∧ Aside0 (Pair wq w (fun k => w.heap.size ≤ k) dd rr S' R'))
            case atStart => exact ⟨0, Nat.zero_le _, by omega, rfl, HB3, HP3⟩
            case round =>
              clear HB3 HP3
              obtain ⟨j, hj, hgj, rfl, HB, HPr⟩ := hrel
              by_cases hjl : j < ns.length
              · obtain ⟨gJ, rfl⟩ : ∃ q, gk = q + 1 := ⟨gk - 1, by omega⟩
                have hCw := (Kd.R_reads' (Kd.R_below HR1.out HB.out)).2.2
                have hA1 : ∃ ad, A1 = some ad := by obtain ⟨ad, e, _⟩ := hCw.2.2 (by omega); exact ⟨ad, e⟩
                obtain ⟨ad1, rfl⟩ := hA1
                obtain ⟨g, o, rfl, hcells⟩ := plain_str hCw (by omega)
                have hcell := hcells j hjl
                have hmem : ns.getD j ByteArray.empty ∈ ns := by
                  rw [List.getD_eq_getElem?_getD, List.getElem?_eq_getElem hjl]
                  exact List.getElem_mem hjl
                obtain ⟨hsz, xs, e1, e2, hxl⟩ := HNS.out _ hmem
                obtain ⟨s', hs⟩ : ∃ s', s' = ns.getD j ByteArray.empty := ⟨_, rfl⟩
                rw [← hs] at hcell hsz e1 e2
                have k1 := p_read1 HPr.out s' hsz
                rw [e1] at k1
                have K1 := Aside0.mk k1
                have K2 : Aside0 (∀ W1, Pair W1 w (fun k => w.heap.size ≤ k) dd rr S' R' → Calls Try.prog 35 #[.pointer (some ⟨rr, 0, none⟩), .string s'] W1 fun e w' => ∃ A c, e = .returned (.tuple #[.slice A xs.length c, .int .i64 0]) ∧ xs.length ≤ c ∧ Kd.C (Kd.int .u8) w' A xs.length xs ∧ Below W1.heap.size W1 w') := ⟨fun W1 h => by have := p_read2 h s'; rw [e2] at this; exact this⟩
                have HXL := Aside0.mk hxl
                have HCELL : Aside0 (∀ wq, Below W1.heap.size W1 wq → wq.cell? ⟨g, o + j, none⟩ = some (.string s')) := ⟨fun wq hq => by
                  have h1 := (Kd.R_reads' (Kd.R_below HR1.out hq)).2.2
                  obtain ⟨g2, o2, e, h2⟩ := plain_str h1 (by omega)
                  injection e with eg eo
                  rw [eg, eo, hs]
                  exact h2 j hjl⟩
                clear hCw hcells hmem hsz e1 e2 k1 hs hxl
                go_wp2_with fail
                refine (K1.out).mono ?_
                rintro e w3' ⟨A3, c3, rfl, hR3, hB3⟩
                have HR3 := Aside0.mk hR3
                have HP3 := Aside0.mk (HPr.out.below hB3)
                have HB3 := Aside0.mk (HB.out.trans (hB3.mono HB.out.size))
                have hcell3 := HCELL.out _ HB3.out
                clear hB3 hR3 K1
                go_wp2_with fail
                refine (K2.out _ HP3.out).mono ?_
                rintro e w4 ⟨A4, c4, rfl, hc4, hC4, hB4⟩
                have HP4 := Aside0.mk (HP3.out.below hB4)
                have HB4 := Aside0.mk (HB3.out.trans (hB4.mono HB3.out.size))
                have hRx := Kd.R_reads' (Kd.R_below HR3.out hB4)
                have HS5 := Aside0.mk (same11 A3 A4 c3 c4 xs w4 hRx.2.2 hRx.2.1 hC4 hc4 (by have := HXL.out; omega))
                clear hB4 hC4 hc4 K2 hRx
                go_wp2_with fail
                refine (HS5.out).mono ?_
                rintro e w5 ⟨rfl, hB5⟩
                have HP5 := Aside0.mk (HP4.out.below hB5)
                have HB5 := Aside0.mk (HB4.out.trans (hB5.mono HB4.out.size))
                clear hB5
                go_wp2
                go_roundg gJ
                case measure => omega
                case rel => exact ⟨j + 1, by omega, by omega, by go_num, HB5, HP5⟩
              · go_wp2
                go_roundg gO
                case measure => omega
                case rel => exact ⟨i + 1, S', R', by omega, by omega, by go_num, HPr, HR, HAB⟩
        · have hiM : M = i := by omega
          subst hiM
          rcases HMX.out with e | ⟨e, elt⟩
          · have hMa : ¬ ((M : Int) < n) := by omega
            clear e
            go_wp2_with fail
            refine (known11 _).mono ?_
            rintro e w5 ⟨rfl, hB5⟩
            go_wp2
            go_ret
            exact ⟨rfl, HP.out.base.trans (hB5.mono HP.out.base.size)⟩
          · have hMa : ¬ ((M : Int) < 80) := by omega
            have hMc : (M : Int) < n := by omega
            clear e elt
            go_wp2_with fail
            refine (known11 _).mono ?_
            rintro e w5 ⟨rfl, hB5⟩
            go_wp2
            go_ret
            exact ⟨rfl, HP.out.base.trans (hB5.mono HP.out.base.size)⟩
end Go.Proofs.Ytdepjlnljkbfjaa.Hand
