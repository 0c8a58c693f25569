/- KeepLast: the walk. -/
import Derived.Test.YtdepjlnljkbfjaaKept
namespace Go.Proofs.Ytdepjlnljkbfjaa.Hand
open Go.RowKit Go.Proofs.Ytdepjlnljkbfjaa.PA Go.Proofs.Ytdepjlnljkbfjaa.MapP Go.Proofs.YtdepjlnljkbfjaaW.PrintWords Go.Proofs.YtdepjlnljkbfjaaW.PrintLast Go.Proofs.YtdepjlnljkbfjaaW.PrintMore
attribute [local go_sem] max2_int min2_int
set_option linter.unusedVariables false
set_option linter.unusedSimpArgs false
set_option linter.unusedSectionVars false
abbrev nFK : ByteArray := ⟨#[102]⟩
def tot5 (zz : List (List Int)) : Nat → Nat
  | 0 => 0
  | i + 1 => tot5 zz i + 5 + (zz.getD i []).length
theorem tot5_mono (zz : List (List Int)) : ∀ i j, i ≤ j → tot5 zz i ≤ tot5 zz j := by
  intro i j h
  induction j with
  | zero => obtain rfl : i = 0 := by omega
            exact Nat.le_refl _
  | succ j ih =>
    rcases Nat.lt_or_ge j i with h2 | h2
    · obtain rfl : i = j + 1 := by omega
      exact Nat.le_refl _
    · have := ih h2
      simp only [tot5]
      omega
/-- What is under the name behind so many saves. -/
def LastAt (zz : List (List Int)) (k : Nat) (S : DV) : Prop := at_ S.L nFK.data.toList = if k = 0 then none else some (encF (zz.getD (k - 1) []), (encF (zz.getD (k - 1) [])).length)
theorem last_crash {zz : List (List Int)} {k : Nat} {S : DV} (draw : Int) (h : LastAt zz k S) : LastAt zz k (crashV draw S) := by
  unfold LastAt at *
  rw [crash_at, h]
  split
  · rfl
  · simp only [Option.map_some, crash_full]
set_option maxRecDepth 100000 in
set_option maxHeartbeats 8000000 in
theorem last_walk (zz : List (List Int)) (A : Option Addr) (c : Nat) (fuse draw : Int) (w : World) (hK : Kd.C (Kd.slice 5 (Kd.int .u8)) w A zz.length zz) (hcc : zz.length ≤ c) (hB : ∀ x ∈ zz, x.length ≤ 140737488351232) (hb : ∀ x ∈ zz, Bytes x) (hlen : zz.length ≤ 4611686018427387904) :
    Calls Try.prog 3 #[.slice A zz.length c, .int .i64 fuse, .int .i64 draw] w fun e w' => e = .returned (.bool true) ∧ Below w.heap.size w w' := by
  have HK := Aside0.mk hK
  have HBY : Aside0 (∀ i, Bytes (zz.getD i [])) := ⟨fun i => by
    rcases Nat.lt_or_ge i zz.length with h | h
    · have e : zz.getD i [] = zz[i] := by simp [h]
      rw [e]; exact hb _ (List.getElem_mem h)
    · have e : zz.getD i [] = [] := by simp [h]
      rw [e]; exact fun z hz => by cases hz⟩
  have HBi : Aside0 (∀ i, (zz.getD i []).length ≤ 140737488351232) := ⟨fun i => by
    rcases Nat.lt_or_ge i zz.length with h | h
    · have e : zz.getD i [] = zz[i] := by simp [h]
      rw [e]; exact hB _ (List.getElem_mem h)
    · have e : zz.getD i [] = [] := by simp [h]
      rw [e]; simp⟩
  clear hK hB hb
  go_enter Try.func3, Try.ntmps3
  go_wp2
  go_loopw [7, 8] (fun s7 s8 wr => ∃ i : Nat, i ≤ zz.length ∧ tot5 zz i ≤ 140737488360000 ∧ s8 = .int .i64 i ∧ s7 = .int .i64 (tot5 zz i) ∧ wr = w) (fun _ s8 _ => zz.length - (intOf s8).toNat)
  case atStart => exact ⟨0, Nat.zero_le _, by simp [tot5], rfl, rfl, rfl⟩
  case round =>
    obtain ⟨i, hi, ht, rfl, rfl, rfl⟩ := hrel
    by_cases hlt : i < zz.length
    · by_cases ht8 : tot5 zz i ≤ 5000
      · obtain ⟨a, A', c', rfl, hrow, hrc, _⟩ := row_at HK.out i hlt
        have hbi := HBi.out i
        have htn : tot5 zz (i + 1) = tot5 zz i + 5 + (zz.getD i []).length := rfl
        obtain ⟨n, hn⟩ : ∃ n, n = (zz.getD i []).length := ⟨_, rfl⟩
        rw [← hn] at hrow hrc hbi htn
        have HTN := Aside0.mk htn
        have htb : tot5 zz (i + 1) ≤ 140737488360000 := by omega
        clear hn htn
        go_wp2
        go_roundw
        case measure => simp [intOf]; omega
        case rel => exact ⟨i + 1, by omega, htb, by go_num, by rw [HTN.out]; go_num, by first | rfl | trivial⟩
      · by_cases hf0 : fuse < 0
        · go_wp2_with (go_at_call 8; refine (known11 _).mono ?_; rintro e w' ⟨rfl, hB⟩)
          go_ret
          exact ⟨rfl, hB⟩
        · go_wp2_with (go_at_call 8; refine (known11 _).mono ?_; rintro e w' ⟨rfl, hB⟩)
          go_ret
          exact ⟨rfl, hB⟩
    · obtain rfl : i = zz.length := by omega
      by_cases hg : tot5 zz zz.length ≤ 5000 ∧ 0 ≤ fuse ∧ fuse ≤ 1000
      · obtain ⟨ht8, hr0, hr1⟩ := hg
        have HT8 := Aside0.mk ht8
        obtain ⟨fn, rfl⟩ := Int.eq_ofNat_of_zero_le hr0
        clear ht hlt hi
        go_wp2_with fail
        refine (new_calls 1048576 _ (by omega) (by omega)).mono ?_
        rintro e w1 ⟨rfl, h1⟩
        obtain ⟨W0, hW0⟩ : ∃ W : World, W = wr := ⟨_, rfl⟩
        have HW0 := Aside0.mk hW0
        rw [← hW0] at h1 HK ⊢
        have h1 : DiskUp w1 W0 (fun k => W0.heap.size ≤ k) (W0.heap.size + 1) ⟨1048576, false, 0, []⟩ := h1
        obtain ⟨dd, hdd⟩ : ∃ dd, dd = W0.heap.size + 1 := ⟨_, rfl⟩
        rw [← hdd] at h1 ⊢
        have k2 := fuse_up h1 fn (by omega)
        have K2 := Aside0.mk k2
        clear k2 h1 hW0 hdd
        go_wp2_with fail
        refine K2.out.mono ?_
        rintro e w2 ⟨rfl, h2, _⟩
        have HD := Aside0.mk h2
        clear h2 K2
        go_wp2
        go_loopw [11, 12] (fun s11 s12 wr => ∃ (k : Nat) (lst : Int) (S : DV) (okd : Nat → Prop), k ≤ zz.length ∧ s12 = .int .i64 k ∧ s11 = .int .i64 lst ∧ Aside0 ((k = 0 ∧ lst = -1) ∨ ∃ j : Nat, k = j + 1 ∧ lst = j) ∧ Aside0 (DiskUp wr W0 okd dd S) ∧ Aside0 (LastAt zz k S)) (fun _ s12 _ => zz.length - (intOf s12).toNat)
        case atStart => exact ⟨0, -1, _, _, Nat.zero_le _, rfl, rfl, ⟨.inl ⟨rfl, rfl⟩⟩, HD, ⟨rfl⟩⟩
        case round =>
          clear HD
          obtain ⟨k, lst, S, okd, hk, rfl, rfl, HL, HD, HAT⟩ := hrel
          by_cases hlt : k < zz.length
          case' pos =>
            obtain ⟨a, A', c', rfl, hrow0, hrc, hrC0⟩ := row_at HK.out k hlt
            have hrow := cell_below hrow0 HD.out.below
            have htn : tot5 zz (k + 1) = tot5 zz k + 5 + (zz.getD k []).length := rfl
            have htm := tot5_mono zz (k + 1) zz.length (by omega)
            have ht8 := HT8.out
            have hby := HBY.out k
            have hsa := save_at S nFK (zz.getD k [])
            obtain ⟨row, hrw⟩ : ∃ l, l = zz.getD k [] := ⟨_, rfl⟩
            rw [← hrw] at hrow0 hrow hrc hrC0 htn hby hsa
            have hrl : row.length ≤ 5000 := by omega
            have k3 := save1 HD.out nFK (by unfold maxLen; decide) A' c' row (Kd.C_below hrC0 HD.out.below) hrc hby (by omega)
            obtain ⟨⟨e3, S3⟩, hr3⟩ : ∃ r, saveV S nFK row = r := ⟨_, rfl⟩
            rw [hr3] at k3 hsa
            have K3 := Aside0.mk k3
            have HSA := Aside0.mk hsa
            have HRW := Aside0.mk hrw
            clear k3 hr3 hsa hrw hby htn htm hrC0 hrow0 ht8
            go_wp2_with fail
            refine K3.out.mono ?_
            rintro e w3 ⟨rfl, h3, _⟩
            have H3 := Aside0.mk h3
            clear h3 K3 hrow
            by_cases he : e3 = 0
            case' pos =>
              subst he
              have HAT2 : Aside0 (LastAt zz (k + 1) S3) := ⟨by
                have := HSA.out.1 rfl
                unfold LastAt
                rw [if_neg (by omega), Nat.add_sub_cancel, ← HRW.out]
                exact this⟩
              go_wp2
              go_roundw
              case measure => simp [intOf]; omega
              case rel => exact ⟨k + 1, k, S3, _, by omega, by go_num, rfl, ⟨.inr ⟨k, rfl, rfl⟩⟩, H3, HAT2⟩
            case' neg =>
              have HAT2 : Aside0 (LastAt zz k S3) := ⟨by
                have := HSA.out.2 he
                unfold LastAt
                rw [← HAT.out]
                exact this⟩
              have hnb : (e3 == 0) = false := by simpa using he
              have TT : ∃ S okd, Aside0 (DiskUp w3 W0 okd dd S) ∧ Aside0 (LastAt zz k S) := ⟨_, _, H3, HAT2⟩
              clear H3 HAT2 HSA HAT HD he HRW
          case' neg =>
            obtain rfl : k = zz.length := by omega
            have TT : ∃ S okd, Aside0 (DiskUp wr W0 okd dd S) ∧ Aside0 (LastAt zz zz.length S) := ⟨_, _, HD, HAT⟩
            clear HD HAT
          all_goals
            obtain ⟨S4, ok4, HD4, HAT4⟩ := TT
            have k5 := crash_up HD4.out draw
            have HAT5 := Aside0.mk (last_crash draw HAT4.out)
            generalize crashV draw S4 = S5 at k5 HAT5
            have K5 := Aside0.mk k5
            clear k5
            go_wp2_with fail
            refine K5.out.mono ?_
            rintro e w5 ⟨rfl, h5, _⟩
            have H5 := Aside0.mk h5
            clear h5 K5 HD4 HAT4
            rcases HL.out with ⟨hk0, hl0⟩ | ⟨j, hk0, hl0⟩
            case' inl =>
              have hno : at_ S5.L nFK.data.toList = none := by have := HAT5.out; unfold LastAt at this; rw [if_pos hk0] at this; exact this
              have k6 := load_up H5.out nFK (by unfold maxLen; decide) (fun x hx => by rw [hno] at hx; cases hx)
              rw [load_none hno] at k6
              have K6 := Aside0.mk k6
              have HB5 := Aside0.mk H5.out.below
              clear k6 hno hk0
              subst hl0
              go_wp2_with fail
              refine K6.out.mono ?_
              rintro e w6 ⟨A6, c6, rfl, _, _, hb6⟩
              have HB6 := Aside0.mk (HB5.out.trans (hb6.mono HB5.out.size))
              clear hb6 K6
              go_wp2_with (go_at_call 8; refine (known11 _).mono ?_; rintro e w7 ⟨rfl, hb7⟩)
              go_ret
              have hfin := HB6.out.trans (hb7.mono HB6.out.size)
              rw [HW0.out] at hfin
              exact ⟨rfl, hfin⟩
            case' inr =>
              have hjn : j < zz.length := by omega
              obtain ⟨aj, Aj, cj, haj, hrow0, hrc, hrC0⟩ := row_at HK.out j hjn
              have hby := HBY.out j
              have htn : tot5 zz (j + 1) = tot5 zz j + 5 + (zz.getD j []).length := rfl
              have htm := tot5_mono zz (j + 1) zz.length (by omega)
              have ht8 := HT8.out
              have hso : at_ S5.L nFK.data.toList = some (encF (zz.getD j []), (encF (zz.getD j [])).length) := by have := HAT5.out; unfold LastAt at this; rw [if_neg (by omega), hk0, Nat.add_sub_cancel] at this; exact this
              obtain ⟨row, hrw⟩ : ∃ l, l = zz.getD j [] := ⟨_, rfl⟩
              rw [← hrw] at hrow0 hrc hrC0 hby htn hso
              have hrl : row.length ≤ 5000 := by omega
              have k6 := load_up H5.out nFK (by unfold maxLen; decide) (fun x hx => by rw [hso] at hx; injection hx with hx; rw [← hx]; exact encF_bytes hby)
              rw [load_of hso (by omega)] at k6
              have K6 := Aside0.mk k6
              have HB5 := Aside0.mk H5.out.below
              have HROW := Aside0.mk hrow0
              have HRC := Aside0.mk hrC0
              clear k6 hso hby htn htm ht8 hrw hrow0 hrC0 hk0
              subst hl0
              first | (injection haj with haj; subst haj) | subst haj
              go_wp2_with fail
              refine K6.out.mono ?_
              rintro e w6 ⟨A6, c6, rfl, hc6, hC6, hb6⟩
              have HB6 := Aside0.mk (HB5.out.trans (hb6.mono HB5.out.size))
              have hrow6 := cell_below HROW.out HB6.out
              have k7 := same11 A6 Aj c6 cj row w6 hC6 hc6 (Kd.C_below HRC.out HB6.out) hrc (by omega)
              have K7 := Aside0.mk k7
              clear hb6 K6 hC6 k7
              go_wp2_with fail
              refine K7.out.mono ?_
              rintro e w7 ⟨rfl, hb7⟩
              have HB7 := Aside0.mk (HB6.out.trans (hb7.mono HB6.out.size))
              clear hb7 hrow6
              go_wp2_with (go_at_call 8; refine (known11 _).mono ?_; rintro e w8 ⟨rfl, hb8⟩)
              go_ret
              have hfin := HB7.out.trans (hb8.mono HB7.out.size)
              rw [HW0.out] at hfin
              exact ⟨rfl, hfin⟩
      · by_cases ht8 : tot5 zz zz.length ≤ 5000
        · by_cases hr0 : fuse < 0
          · go_wp2_with (go_at_call 8; refine (known11 _).mono ?_; rintro e w' ⟨rfl, hB⟩)
            go_ret
            exact ⟨rfl, hB⟩
          · have hr1 : (1000 : Int) < fuse := by omega
            go_wp2_with (go_at_call 8; refine (known11 _).mono ?_; rintro e w' ⟨rfl, hB⟩)
            go_ret
            exact ⟨rfl, hB⟩
        · go_wp2_with (go_at_call 8; refine (known11 _).mono ?_; rintro e w' ⟨rfl, hB⟩)
          go_ret
          exact ⟨rfl, hB⟩
end Go.Proofs.Ytdepjlnljkbfjaa.Hand
