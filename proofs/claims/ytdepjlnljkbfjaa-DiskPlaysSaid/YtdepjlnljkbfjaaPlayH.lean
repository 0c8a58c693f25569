/- DiskPlays: the walk of a script of 120 steps and less. -/
import Derived.Test.YtdepjlnljkbfjaaPlayE
namespace Go.Proofs.Ytdepjlnljkbfjaa.Hand
open Go.RowKit Go.Proofs.Ytdepjlnljkbfjaa.PA Go.Proofs.Ytdepjlnljkbfjaa.MapP Go.Proofs.YtdepjlnljkbfjaaW.PrintWords Go.Proofs.YtdepjlnljkbfjaaW.PrintLast Go.Proofs.YtdepjlnljkbfjaaW.PrintMore
attribute [local go_sem] max2_int min2_int
set_option linter.unusedVariables false
set_option linter.unusedSimpArgs false
set_option maxRecDepth 100000 in
set_option maxHeartbeats 40000000 in
theorem disk_plays_u (room : Int) (l : List S41) (A : Option Addr) (c : Nat) (w : World) (hK : Kd.C k41 w A l.length l) (hlc : l.length ≤ c) (hll : l.length ≤ 140737488351232) (hok : ∀ x ∈ l, stepOk x) (hM2 : l.length ≤ 120) :
    Calls Try.prog 4 #[.int .i64 room, .slice A l.length c] w fun e w' => e = .returned (.bool true) ∧ Below w.heap.size w w' := by
  have HK := Aside0.mk hK
  have HOK := Aside0.mk hok
  have hn63 := hK.2.1
  have HFIT : Aside0 (∀ i : Nat, i < l.length → stepOk (rd_T41 l i)) := ⟨fun i hi => hok _ (by
    unfold rd_T41
    rw [Int.toNat_natCast, List.getD_eq_getElem?_getD, List.getElem?_eq_getElem hi]
    exact List.getElem_mem hi)⟩
  obtain ⟨k, hv, hf, hlight⟩ := heavy_is l (by omega) (fun i hi => (HFIT.out i hi).fits)
  have hh := haystacklaw10_heavy.calls k A c l hv w hK hlc hf
  have HH := Aside0.mk hh
  have HLIGHT := Aside0.mk hlight
  clear hh hlight hf hlc hll
  obtain ⟨M, hn⟩ : ∃ M, M = l.length := ⟨_, rfl⟩
  rw [← hn] at hM2 hn63 HH ⊢
  have HN := Aside0.mk hn
  clear hK hok hn
  have kc := fun (w : World) (C : Array Value) (n c : Nat) => Lib.run_convert_bytes_const (P := Try.prog) w 23 5 C n c Try.underlying23 Try.underlying5
  go_enter Try.func4, Try.ntmps4
  go_wp2_with fail
  refine (HH.out).mono ?_
  rintro e w1 ⟨rfl, hd1⟩
  have HB1 := Aside0.mk hd1.below
  clear hd1 HH
  cases hv
  case true =>
    go_wp2_with fail
    refine (known_calls _).mono ?_
    rintro e w2 ⟨rfl, hB2⟩
    go_wp2
    go_ret
    exact ⟨rfl, HB1.out.trans (hB2.mono HB1.out.size)⟩
  case false =>
    by_cases hroom : room < 0 ∨ 1073741824 < room
    · go_wp2_with fail
      refine (new_bad room _ hroom).mono ?_
      rintro e w2 ⟨rfl, rfl⟩
      go_wp2_with fail
      refine (refNew_bad room _ hroom).mono ?_
      rintro e w3 ⟨rfl, rfl⟩
      go_wp2_with fail
      refine (known_calls _).mono ?_
      rintro e w4 ⟨rfl, hB4⟩
      go_wp2
      go_ret
      exact ⟨rfl, HB1.out.trans (hB4.mono HB1.out.size)⟩
    · go_wp2_with fail
      refine (new_calls room _ (by omega) (by omega)).mono ?_
      rintro e w2 ⟨rfl, h2⟩
      have H2 := Aside0.mk h2
      clear h2
      go_wp2_with fail
      refine (refNew_calls room _ (by omega) (by omega)).mono ?_
      rintro e w3 ⟨rfl, h3⟩
      have HP : Aside0 (Pair w3 w (fun k => w.heap.size ≤ k) (w1.heap.size + 1) w2.heap.size ⟨room, false, 0, []⟩ ⟨room, -1, []⟩) := ⟨pair_of (H2.out.rebase HB1.out) (h3.rebase (HB1.out.trans (H2.out.below.mono HB1.out.size))) h3.below (fun k hk => Nat.le_trans HB1.out.size hk) (Nat.le_refl _) (Nat.le_trans HB1.out.size H2.out.below.size)⟩
      have HR : Aside0 (Rel ⟨room, false, 0, []⟩ ⟨room, -1, []⟩) := ⟨rel_new room (by omega) (by omega)⟩
      obtain ⟨dd, hdd⟩ : ∃ dd, dd = w1.heap.size + 1 := ⟨_, rfl⟩
      obtain ⟨rr, hrr⟩ : ∃ rr, rr = w2.heap.size := ⟨_, rfl⟩
      rw [← hdd, ← hrr] at HP
      rw [← hdd, ← hrr]
      clear hdd hrr h3 H2 hroom
      go_wp2
      go_loopg [5, 7, 9, 10] M (fun gk s5 s7 s9 s10 wr => ∃ (i d r : Nat) (S : DV) (R : RV), i ≤ M ∧ M - i ≤ gk ∧ s5 = .pointer (some ⟨d, 0, none⟩) ∧ s7 = .pointer (some ⟨r, 0, none⟩) ∧ s9 = .int .i64 i ∧ Aside0 (Pair wr w (fun k => w.heap.size ≤ k) d r S R) ∧ Aside0 (Rel S R))
      case atStart => exact ⟨0, dd, rr, _, _, Nat.zero_le _, by omega, rfl, rfl, rfl, HP, HR⟩
      case round =>
        clear HP HR
        obtain ⟨i, d, r, S, R, hi, hgk, rfl, rfl, rfl, HP, HR⟩ := hrel
        by_cases hlt : i < M
        · obtain ⟨gO, rfl⟩ : ∃ q, gk = q + 1 := ⟨gk - 1, by omega⟩
          have hil : i < l.length := by have := HN.out; omega
          have hi120 : (i : Int) < 120 := by omega
          have hok := HFIT.out i hil
          have hlt8 := HLIGHT.out trivial i hil (by omega)
          have hC0 := HK.out
          rw [← HN.out] at hC0
          obtain ⟨ad, A4, c4, rfl, hy0, hy1, hy2, hy3, hy4, hc4, hC4⟩ := at_T41 hC0 (i : Int) (by omega) (by omega)
          simp only [Int.toNat_natCast] at hy0 hy1 hy2 hy3 hy4
          have hx0 := cell_below hy0 HP.out.base
          have hx1 := cell_below hy1 HP.out.base
          have hx2 := cell_below hy2 HP.out.base
          have hx3 := cell_below hy3 HP.out.base
          have hx4 := cell_below hy4 HP.out.base
          clear hy0 hy1 hy2 hy3 hy4 hC0
          generalize rd_T41 l (i : Int) = x at *
          obtain ⟨x0, x1, s, t, xs⟩ := x
          simp only at hx0 hx1 hx2 hx3 hx4 hc4 hC4 hlt8
          obtain ⟨hw0, hw1, hs0, ht0, hb0, hb1⟩ := hok
          simp only at hs0 ht0 hb1 hw1
          unfold reachBytes at hs0 ht0
          have hd := fun (h8 : x0 ≠ 8) => does_calls HP.out HR.out x0 x1 s t (by unfold maxLen; omega) (by unfold maxLen; omega) (by simp [Lit.wf] at hw1; omega) A4 c4 xs.length xs rfl (Kd.C_kept_came (Kd.heap_int _) hC4 HP.out.base HP.out.old) hc4 (wf_bytes hb1) (by omega)
          have HD := Aside0.mk hd
          have HC4 := Aside0.mk hC4
          clear hd hC4 hb1 hb0 hw0 hw1 hs0 ht0 hlt8 hc4
          by_cases h8 : x0 = 8
          · subst h8
            have hP := HP.out
            obtain ⟨⟨o1, o2, h1, h2, _⟩, _, _⟩ := hP
            have H2 := Aside0.mk h2
            have HC := Aside0.mk (copy_up h1)
            clear h1 h2 HD
            go_wp2_with fail
            refine (HC.out).mono ?_
            rintro e w5 ⟨L', rfl, hp, hD, hB5⟩
            have HPM := Aside0.mk hp
            have HDU := Aside0.mk hD
            have HB5 := Aside0.mk hB5
            clear hp hD hB5 HC
            go_wp2_with fail
            refine (copyR_calls (H2.out.quiet HB5.out)).mono ?_
            rintro e w6 ⟨rfl, hR6, hB6⟩
            have HPN := Aside0.mk (pair_of (B := wr.heap.size) HDU.out hR6 hB6 (fun k hk => hk) HP.out.base.size HB5.out.size)
            have HRN := Aside0.mk (rel_copied HR.out HPM.out)
            have HPO := Aside0.mk (HP.out.mark (HB5.out.trans (hB6.mono HB5.out.size)))
            obtain ⟨d2, hd2⟩ : ∃ d2, d2 = wr.heap.size + 1 := ⟨_, rfl⟩
            obtain ⟨r2, hr2⟩ : ∃ r2, r2 = w5.heap.size := ⟨_, rfl⟩
            rw [← hd2, ← hr2] at HPN
            rw [← hd2, ← hr2]
            clear hR6 hB6 hd2 hr2
            have ha := p_append1 (HPO.out.alloc (.cells (bts [120]).toArray 5 (1, 2))) ⟨#[115, 112, 111, 105, 108, 116]⟩ (by unfold maxLen; decide) (some ⟨w6.heap.size, 0, none⟩) 1 1 [120] rfl (bytes_new w6 _ (by simp) _) (by simp) (by intro z hz; simp at hz; omega) (by simp)
            rw [show (w6.alloc (.cells (bts [120]).toArray 5 (1, 2))).heap.size = w6.heap.size + 1 from by simp] at ha
            have HA := Aside0.mk ha
            clear ha
            go_wp2_with fail
            refine HA.out.mono ?_
            rintro e w7 ⟨rfl, hP7, hK7⟩
            have HP7 := Aside0.mk hP7
            have HK7 := Aside0.mk ((Kept.of_below ((Below.refl w6.heap.size w6).alloc (Nat.le_refl _) (.cells (bts [120]).toArray 5 (1, 2))) _).then_ hK7 (fun k hk => .inl hk))
            clear hP7 hK7 HA
            go_wp2_with fail
            refine (p_crash1 HP7.out 0).mono ?_
            rintro e w8 ⟨rfl, hP8, hK8⟩
            have HP9 := Aside0.mk ((HPN.out.apart (HK7.out.then_ hK8 (fun k hk => .inl hk)) hP8.base).zone (Z' := fun k => w.heap.size ≤ k) (fun k _ h => Nat.le_trans HP.out.base.size h) (fun k h => Nat.le_trans hP8.base.size h) (fun k h => h))
            clear hP8 hK8
            go_wp2
            go_roundg gO
            case measure => omega
            case rel => exact ⟨i + 1, d2, r2, _, _, by omega, by omega, rfl, rfl, by go_num, HP9, HRN⟩
          · go_wp2_with fail
            refine (HD.out h8).mono ?_
            rintro e w5 ⟨rfl, S', R', h1, h2, h3⟩
            have HR5 := Aside0.mk h1
            have HP5 := Aside0.mk h2
            clear h1 h2 h3
            go_wp2_with fail
            refine (stood_calls HP5.out HR5.out).mono ?_
            rintro e w6 ⟨rfl, hB6⟩
            have HP6 := Aside0.mk (HP5.out.below hB6)
            clear hB6 HP5
            go_wp2
            go_roundg gO
            case measure => omega
            case rel => exact ⟨i + 1, d, r, S', R', by omega, by omega, rfl, rfl, by go_num, HP6, HR5⟩
        · have hiM : M = i := by omega
          subst hiM
          go_wp2_with fail
          refine (known_calls _).mono ?_
          rintro e w5 ⟨rfl, hB5⟩
          go_wp2
          go_ret
          exact ⟨rfl, HP.out.base.trans (hB5.mono HP.out.base.size)⟩
end Go.Proofs.Ytdepjlnljkbfjaa.Hand
