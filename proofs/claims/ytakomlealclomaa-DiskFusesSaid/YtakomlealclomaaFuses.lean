/- DiskFuses. -/
import Derived.Test.YtakomlealclomaaFuse
namespace Go.Proofs.Ytakomlealclomaa.Hand
open Go.RowKit Go.Proofs.Ytakomlealclomaa.PA Go.Proofs.Ytakomlealclomaa.MapP Go.Proofs.YtakomlealclomaaW.PrintWords Go.Proofs.YtakomlealclomaaW.PrintLast Go.Proofs.YtakomlealclomaaW.PrintMore
attribute [local go_sem] max2_int min2_int
set_option linter.unusedVariables false
set_option linter.unusedSimpArgs false
set_option linter.unusedSectionVars false
theorem cell_below2 {W W' : World} {p : Addr} {v : Value} (h : W.cell? p = some v) (hb : Below W.heap.size W W') : W'.cell? p = some v := by
  refine (hb.cell ?_).trans h
  rcases Nat.lt_or_ge p.block W.heap.size with h' | h'
  · exact h'
  · simp [World.cell?, Array.getElem?_eq_none h'] at h
/-- The disk behind so many rows, its fuse lit. -/
def Fu (zz : List (List Int)) (n i : Nat) : DV := ⟨1048576, true, ((n - min i n : Nat) : Int), if min i n = 0 then [] else [([102], ((zz.take (min i n)).flatten, 0))]⟩
theorem may_fu (zz : List (List Int)) (n i : Nat) (s : ByteArray) (hs : badName s = false) : mayV (Fu zz n i).fused (Fu zz n i).left [s] = if i < n then 0 else 9 := by
  unfold mayV Fu
  simp only [Bool.true_and, List.any_cons, hs, List.any_nil, Bool.or_false]
  by_cases h : i < n
  · rw [if_neg (by simp; omega), if_pos h]; rfl
  · rw [if_pos (by simp; omega), if_neg h]
theorem bad_f : badName nF = false := by decide
theorem fu_dead (zz : List (List Int)) (n i : Nat) (h : ¬ i < n) (xs : List Int) : appendV (Fu zz n i) nF xs = (9, Fu zz n (i + 1)) := by
  unfold appendV
  rw [may_fu zz n i nF bad_f, if_neg h, if_pos (by decide)]
  unfold Fu
  rw [show min (i + 1) n = min i n from by omega]
theorem fu_len (zz : List (List Int)) (n i : Nat) : (Fu zz n i).L.length ≤ 1 := by
  unfold Fu
  simp only
  split <;> simp
theorem fu_app (zz : List (List Int)) (n i : Nat) (h : i < n) (hi : i < zz.length) (ht : tot zz zz.length ≤ 8000) : appendV (Fu zz n i) nF (zz.getD i []) = (0, Fu zz n (i + 1)) := by
  have h1 := tot_mono zz (i + 1) zz.length (by omega)
  have h2 := tot_flat zz (i + 1) (by omega)
  have h3 := flat_succ zz i hi
  have h4 : (zz.take (i + 1)).flatten.length = (zz.take i).flatten.length + (zz.getD i []).length := by rw [h3, List.length_append]
  unfold appendV
  rw [may_fu zz n i nF bad_f, if_pos h, if_neg (by simp)]
  have e1 : min i n = i := by omega
  have e2 : min (i + 1) n = i + 1 := by omega
  have e3 : ((n - i : Nat) : Int) - 1 = ((n - (i + 1) : Nat) : Int) := by omega
  rw [if_neg ?_]
  · unfold Fu
    simp only [e1, e2, doneL, if_true, e3]
    by_cases h0 : i = 0
    · subst h0
      simp [at_nil, h3]
      rfl
    · rw [if_neg h0, if_neg (by omega)]
      have ha : at_ [(([102] : Key), ((zz.take i).flatten, 0))] nF.data.toList = some ((zz.take i).flatten, 0) := by simp [at_cons]
      rw [ha, put_old ha, h3]
      simp
  · have hT : total (Fu zz n i).L = (zz.take i).flatten.length := by
      unfold Fu
      simp only [e1]
      by_cases h0 : i = 0
      · subst h0
        simp [total]
      · rw [if_neg h0]
        simp only [total, Nat.add_zero]
    have hl1 := fu_len zz n i
    have hr : (Fu zz n i).room = 1048576 := rfl
    rintro (h | h)
    · rw [hT, hr] at h
      omega
    · omega
abbrev nNone : ByteArray := ⟨#[110, 111, 110, 101]⟩
abbrev nZ : ByteArray := ⟨#[122]⟩
theorem fu_none (zz : List (List Int)) (n i : Nat) : at_ (Fu zz n i).L nNone.data.toList = none := by
  unfold Fu
  split <;> simp [at_cons, at_nil]
theorem crash_app {S : DV} (hf : S.Fine) (hl : S.L.length ≤ 1) : (appendV (crashV 0 S) nZ []).1 = 0 := by
  have hf2 := crash_fine hf 0
  unfold appendV
  have hm : mayV false S.left [nZ] = 0 := by unfold mayV; rw [Bool.false_and, if_neg (by decide), if_neg (by decide)]
  rw [if_neg (by simp [crashV, hm]), if_neg ?_]
  have := hf2.used
  have h3 : (crashV 0 S).L.length ≤ 1 := by simpa [crashV] using hl
  intro h
  rcases h with h | h
  · simp at h; omega
  · omega
set_option maxRecDepth 100000 in
set_option maxHeartbeats 4000000 in
theorem fuses_walk (n0 : Int) (zz : List (List Int)) (A : Option Addr) (c : Nat) (w : World) (hK : Kd.C (Kd.slice 5 (Kd.int .u8)) w A zz.length zz) (hcc : zz.length ≤ c) (hB : ∀ x ∈ zz, x.length ≤ 140737488351232) (hb : ∀ x ∈ zz, Bytes x) (hlen : zz.length ≤ 4611686018427387904) :
    Calls Try.prog 5 #[.int .i64 n0, .slice A zz.length c] w fun e w' => e = .returned (.bool true) ∧ Below w.heap.size w w' := by
  have HK := Aside0.mk hK
  have HBY : Aside0 (∀ i, Bytes (zz.getD i [])) := ⟨fun i => by
    rcases Nat.lt_or_ge i zz.length with h | h
    · have e : zz.getD i [] = zz[i] := by simp [h]
      rw [e]; exact hb _ (List.getElem_mem h)
    · have e : zz.getD i [] = [] := by simp [h]
      rw [e]; exact fun z hz => by cases hz⟩
  have HBi : Aside0 (∀ i, (zz.getD i []).length ≤ 140737488351232) := ⟨fun i => by
    rcases Nat.lt_or_ge i zz.length with h | h
    · have e : zz.getD i [] = zz[i] := by simp [h]
      rw [e]; exact hB _ (List.getElem_mem h)
    · have e : zz.getD i [] = [] := by simp [h]
      rw [e]; simp⟩
  clear hK hb hB
  go_enter Try.func5, Try.ntmps5
  go_wp2
  go_loopw [5, 6] (fun s7 s8 wr => ∃ i : Nat, i ≤ zz.length ∧ tot zz i ≤ 140737488360000 ∧ s8 = .int .i64 i ∧ s7 = .int .i64 (tot zz i) ∧ wr = w) (fun _ s8 _ => zz.length - (intOf s8).toNat)
  case atStart => exact ⟨0, Nat.zero_le _, by simp [tot], rfl, rfl, rfl⟩
  case round =>
    obtain ⟨i, hi, ht, rfl, rfl, rfl⟩ := hrel
    by_cases hlt : i < zz.length
    · by_cases ht8 : tot zz i ≤ 8000
      · obtain ⟨a, A', c', rfl, hrow, hrc, _⟩ := row_at HK.out i hlt
        have hbi := HBi.out i
        have htn : tot zz (i + 1) = tot zz i + 1 + (zz.getD i []).length := rfl
        obtain ⟨n, hn⟩ : ∃ n, n = (zz.getD i []).length := ⟨_, rfl⟩
        rw [← hn] at hrow hrc hbi htn
        have HTN := Aside0.mk htn
        have htb : tot zz (i + 1) ≤ 140737488360000 := by omega
        clear hn htn
        go_wp2
        go_roundw
        case measure => simp [intOf]; omega
        case rel => exact ⟨i + 1, by omega, htb, by go_num, by rw [HTN.out]; go_num, by first | rfl | trivial⟩
      · go_wp2_with (go_at_call 10; refine (known_calls _).mono ?_; rintro e w' ⟨rfl, hB⟩)
        go_ret
        exact ⟨rfl, hB⟩
    · obtain rfl : i = zz.length := by omega
      by_cases hgo : tot zz zz.length ≤ 8000 ∧ 0 ≤ n0 ∧ n0 ≤ 1000
      · obtain ⟨ht8, hn0, hn1⟩ := hgo
        obtain ⟨n, rfl⟩ : ∃ n : Nat, n0 = n := ⟨n0.toNat, by omega⟩
        have HT8 := Aside0.mk ht8
        clear ht hlt hi
        go_wp2_with fail
        refine (new_calls 1048576 _ (by decide) (by decide)).mono ?_
        rintro e w1 ⟨rfl, h1⟩
        obtain ⟨W0, hW0⟩ : ∃ W : World, W = wr := ⟨_, rfl⟩
        have HW0 := Aside0.mk hW0
        rw [← hW0] at h1 HK ⊢
        have hfu := fuse_up h1 n (by omega)
        obtain ⟨dd, hdd⟩ : ∃ dd, dd = W0.heap.size + 1 := ⟨_, rfl⟩
        rw [← hdd] at hfu ⊢
        have HFU := Aside0.mk hfu
        clear h1 hW0 hdd hfu
        go_wp2_with fail
        refine HFU.out.mono ?_
        rintro e w1 ⟨rfl, h1, _⟩
        have HD := Aside0.mk h1
        clear h1
        go_wp2
        go_loopw [9] (fun s9 wr => ∃ (i : Nat) (okd : Nat → Prop), i ≤ zz.length ∧ s9 = .int .i64 i ∧ Aside0 (DiskUp wr W0 okd dd (Fu zz n i))) (fun s9 _ => zz.length - (intOf s9).toNat)
        case atStart => exact ⟨0, _, Nat.zero_le _, rfl, ⟨by have := HD.out; simpa [Fu] using this⟩⟩
        case round =>
          clear HD
          obtain ⟨i, okd, hi, rfl, HD⟩ := hrel
          by_cases hlt : i < zz.length
          · obtain ⟨a, A', c', rfl, hrow0, hrc, hrC0⟩ := row_at HK.out i hlt
            have hrow := cell_below2 hrow0 HD.out.below
            have hbi := HBi.out i
            have h12 := append1 HD.out nF (by unfold maxLen; decide) A' c' (zz.getD i []) (Kd.C_below hrC0 HD.out.below) hrc (HBY.out i) (by omega)
            by_cases hin : i < n
            · rw [fu_app zz n i hin hlt HT8.out] at h12
              have HAPP := Aside0.mk h12
              generalize (zz.getD i []).length = l at HAPP hrow hrc hbi
              clear h12 hrow0 hrC0
              go_wp2_with (go_at_call 12; refine HAPP.out.mono ?_; rintro e w2 ⟨rfl, h2, hk2⟩)
              go_roundw
              case measure => simp [intOf]; omega
              case rel => exact ⟨i + 1, _, by omega, by go_num, ⟨h2⟩⟩
            · rw [fu_dead zz n i hin] at h12
              have HAPP := Aside0.mk h12
              generalize (zz.getD i []).length = l at HAPP hrow hrc hbi
              clear h12 hrow0 hrC0
              go_wp2_with (go_at_call 12; refine HAPP.out.mono ?_; rintro e w2 ⟨rfl, h2, hk2⟩)
              go_roundw
              case measure => simp [intOf]; omega
              case rel => exact ⟨i + 1, _, by omega, by go_num, ⟨h2⟩⟩
          · obtain rfl : i = zz.length := by omega
            have hrm := remove_none HD.out nNone (by unfold maxLen; decide) (fu_none zz n zz.length)
            rw [may_fu zz n zz.length nNone (by decide)] at hrm
            have hca := fun (w2 : World) (hb : Below wr.heap.size wr w2) => crash_up (HD.out.kept (Kept.of_below hb (fun _ => False)) (fun _ _ h => h) (HD.out.below.trans (hb.mono HD.out.below.size))) 0
            have HCA := Aside0.mk hca
            have HFI := Aside0.mk HD.out.fine
            clear hca hi hlt
            by_cases hzn : zz.length < n
            · rw [if_pos hzn, if_pos rfl] at hrm
              have HRM := Aside0.mk hrm
              clear hrm
              go_wp2_with fail
              refine HRM.out.mono ?_
              rintro e w2 ⟨rfl, hb2⟩
              have HC2 := Aside0.mk (HCA.out w2 hb2)
              clear hb2
              go_wp2_with fail
              refine HC2.out.mono ?_
              rintro e w3 ⟨rfl, h3, _⟩
              have hz := append1 h3 nZ (by unfold maxLen; decide) none 0 [] ⟨rfl, by simp, fun h => absurd h (by simp)⟩ (by simp) (fun z hz => by cases hz) (by simp)
              rw [crash_app HFI.out (fu_len zz n zz.length)] at hz
              have HZ := Aside0.mk hz
              clear h3 hz
              go_wp2_with fail
              refine HZ.out.mono ?_
              rintro e w4 ⟨rfl, h4, _⟩
              have HB4 := Aside0.mk h4.below
              clear h4
              go_wp2_with (go_at_call 10; refine (known_calls _).mono ?_; rintro e w5 ⟨rfl, h5⟩)
              go_ret
              have hfin := HB4.out.trans (h5.mono HB4.out.size)
              rw [HW0.out] at hfin
              exact ⟨rfl, hfin⟩
            · rw [if_neg hzn, if_neg (by decide)] at hrm
              have HRM := Aside0.mk hrm
              clear hrm
              go_wp2_with fail
              refine HRM.out.mono ?_
              rintro e w2 ⟨rfl, hb2⟩
              have HC2 := Aside0.mk (HCA.out w2 hb2)
              clear hb2
              go_wp2_with fail
              refine HC2.out.mono ?_
              rintro e w3 ⟨rfl, h3, _⟩
              have hz := append1 h3 nZ (by unfold maxLen; decide) none 0 [] ⟨rfl, by simp, fun h => absurd h (by simp)⟩ (by simp) (fun z hz => by cases hz) (by simp)
              rw [crash_app HFI.out (fu_len zz n zz.length)] at hz
              have HZ := Aside0.mk hz
              clear h3 hz
              go_wp2_with fail
              refine HZ.out.mono ?_
              rintro e w4 ⟨rfl, h4, _⟩
              have HB4 := Aside0.mk h4.below
              clear h4
              go_wp2_with (go_at_call 10; refine (known_calls _).mono ?_; rintro e w5 ⟨rfl, h5⟩)
              go_ret
              have hfin := HB4.out.trans (h5.mono HB4.out.size)
              rw [HW0.out] at hfin
              exact ⟨rfl, hfin⟩
      · have hor : 8000 < tot zz zz.length ∨ n0 < 0 ∨ 1000 < n0 := by omega
        clear hgo
        rcases hor with h | h | h
        all_goals
          go_wp2_with (go_at_call 10; refine (known_calls _).mono ?_; rintro e w' ⟨rfl, hB⟩)
          all_goals go_ret
          all_goals exact ⟨rfl, hB⟩
end Go.Proofs.Ytakomlealclomaa.Hand
