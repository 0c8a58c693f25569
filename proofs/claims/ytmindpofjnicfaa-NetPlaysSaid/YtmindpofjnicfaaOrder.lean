import Derived.Test.YtmindpofjnicfaaKnown
import Derived.Deep.QuietTactic
import Derived.BigQuiet
namespace Go.Proofs.Ytmindpofjnicfaa.Hand
open Go.RowKit Go.Proofs.Ytmindpofjnicfaa.PA Go.Proofs.YtmindpofjnicfaaW.PrintWords Go.Proofs.YtmindpofjnicfaaW.PrintLast Go.Proofs.YtmindpofjnicfaaW.PrintMore
attribute [local go_sem] max2_int min2_int
theorem row_at {w : World} {A : Option Addr} {zz : List (List Int)} (h : Kd.C (Kd.slice 5 (Kd.int .u8)) w A zz.length zz) (i : Nat) (hi : i < zz.length) :
    ∃ ad A2 c2, A = some ad ∧ w.cell? (ad.add i) = some (.slice A2 (zz.getD i []).length c2) ∧ (zz.getD i []).length ≤ c2 ∧ Kd.C (Kd.int .u8) w A2 (zz.getD i []).length (zz.getD i []) := by
  obtain ⟨ad, cs, rfl, hl, hK, hcell⟩ := Kd.C_get h ([] : List Int) (i : Int) (by omega) (by omega)
  obtain ⟨A2, c2, rfl, hle, hC⟩ := hK
  simp only [Int.toNat_natCast] at hC hle hcell
  have := hcell 0 _ rfl
  simp only [show (Kd.slice 5 (Kd.int .u8)).sz = 1 from rfl, Nat.mul_one, Nat.add_zero] at this
  exact ⟨ad, A2, c2, rfl, this, hle, hC⟩
theorem reads_lit {W : World} {S : Nat → Prop} {q : Nat} {x : S28} {A2 : Option Addr} {c2 : Nat} (hC : ∀ W', Kept W W' S → Kd.C (Kd.int .u8) W' A2 x.f2.length x.f2) (hle : x.f2.length ≤ c2)
    (hq : W.heap[q]? = some (.cells #[.int .i64 x.f0, .int .i64 x.f1, .slice A2 x.f2.length c2] 28 (0, 0))) (hqS : ¬ S q) :
    ∀ W', Kept W W' S → Kd.C k28 W' (some ⟨q, 0, none⟩) [x].length [x] := by
  intro W' hK
  have hb := (hK.2 q (blk_lt hq) hqS).trans hq
  refine ⟨rfl, by simp, fun _ => ⟨_, rfl, fun j p hj => ?_⟩⟩
  cases j with
  | zero =>
    cases hj
    refine ⟨_, rfl, k28_mk W' x hle (hC W' hK), fun i u hu => ?_⟩
    have h := blk_cell hb i
    rw [show (⟨q, 0, none⟩ : Addr).add (0 * k28.sz + i) = ⟨q, i, none⟩ from by simp [Addr.add]; omega]
    rw [h]
    simpa using hu
  | succ j => simp at hj
theorem cell_lt {w : World} {p : Addr} {v : Value} (h : w.cell? p = some v) : p.block < w.heap.size := by
  rcases Nat.lt_or_ge p.block w.heap.size with h' | h'
  · exact h'
  · simp [World.cell?, Array.getElem?_eq_none h'] at h
theorem giveX_zero {l : List S28} (hl : 0 < l.length) : giveX 0 l = l.getD 0 ⟨0, 0, []⟩ := by
  have h : pickOf 0 l.length = 0 := by unfold pickOf; simp
  simp only [giveX, h, if_neg (Nat.ne_of_gt hl)]
  rfl
theorem giveL_zero (l : List S28) : giveL 0 l = l.drop 1 := by
  have h : pickOf 0 l.length = 0 := by unfold pickOf; simp
  cases l with
  | nil => rfl
  | cons x l =>
    have : (x :: l).length ≠ 0 := by simp
    simp only [giveL, h, if_neg this]
    rfl
theorem same_refl0 (l : List Int) (hl : l.length ≤ 4611686018427387904) : ∀ (d i : Nat), i + d = l.length → haystacklaw17_same.l0 (d + 1) l l i = some true
  | 0, i, h => by
    unfold haystacklaw17_same.l0
    rw [if_neg (by omega)]
  | d + 1, i, h => by
    unfold haystacklaw17_same.l0
    have e : wrap64 ((i : Int) + 1) = ((i + 1 : Nat) : Int) := by unfold wrap64; omega
    rw [if_pos (by omega), if_pos (by omega), if_pos (by omega), if_pos rfl, e]
    exact same_refl0 l hl d (i + 1) (by omega)
theorem same_refl (l : List Int) (hl : l.length ≤ 4611686018427387904) : haystacklaw17_same.f (l.length + 1) l l = some true := by
  unfold haystacklaw17_same.f
  rw [if_pos rfl]
  exact same_refl0 l hl l.length 0 (by omega)
/-- What is sent. -/
def msgs (zz : List (List Int)) (i : Nat) : List S28 := (List.range i).map fun (j : Nat) => ⟨(j : Int), 1, zz.getD j []⟩
theorem msgs_len (zz : List (List Int)) (i : Nat) : (msgs zz i).length = i := by simp [msgs]
theorem msgs_succ (zz : List (List Int)) (i : Nat) : msgs zz (i + 1) = msgs zz i ++ [⟨i, 1, zz.getD i []⟩] := by simp [msgs, List.range_succ]
theorem order_list (zz : List (List Int)) (a : Int) (hz : 0 < zz.length) (ha : 0 ≤ a) (L : List S28) (hL : twiceL a (msgs zz zz.length) = L) (htb : twiceB (msgs zz zz.length) = true) :
    L.length = zz.length + 1 ∧ ∀ i, i < zz.length + 1 → L.getD i ⟨0, 0, []⟩ = ⟨((if i = zz.length then (a % zz.length).toNat else i : Nat) : Int), 1, zz.getD (if i = zz.length then (a % zz.length).toNat else i) []⟩ := by
  subst hL
  have hmg : ∀ i, i < zz.length → (msgs zz zz.length)[i]? = some ⟨(i : Int), 1, zz.getD i []⟩ := fun i hi => by
    unfold msgs
    rw [List.getElem?_map, List.getElem?_range hi]
    rfl
  unfold twiceL
  rw [if_pos htb]
  refine ⟨by simp [msgs_len], fun i hi => ?_⟩
  rw [List.getD_eq_getElem?_getD]
  by_cases h : i = zz.length
  · subst h
    rw [List.getElem?_append_right (by simp [msgs_len])]
    have hp : pickOf a (msgs zz zz.length).length = a % zz.length := by rw [msgs_len]; unfold pickOf; rw [Int.max_eq_right ha]
    have h2 : (a % zz.length).toNat < zz.length := by
      have h3 : a % zz.length < zz.length := Int.emod_lt_of_pos _ (by omega)
      have h4 : 0 ≤ a % zz.length := Int.emod_nonneg _ (by omega)
      omega
    simp only [msgs_len, Nat.sub_self, List.getElem?_cons_zero, Option.getD_some, if_true]
    rw [show pickOf a zz.length = a % zz.length from by rw [msgs_len] at hp; exact hp]
    unfold rd_T28
    rw [List.getD_eq_getElem?_getD, hmg _ h2]
    rfl
  · rw [List.getElem?_append_left (by rw [msgs_len]; omega), hmg i (by omega)]
    simp only [h, if_false, Option.getD_some]
/-- What the guard counts. -/
def tot (zz : List (List Int)) : Nat → Nat
  | 0 => 0
  | i + 1 => tot zz i + 5 + (zz.getD i []).length
theorem tot_ge (zz : List (List Int)) : ∀ i, 5 * i ≤ tot zz i
  | 0 => Nat.le_refl _
  | i + 1 => by have := tot_ge zz i; simp only [tot]; omega
theorem tot_at (zz : List (List Int)) (i : Nat) : ∀ j, i < j → (zz.getD i []).length ≤ tot zz j
  | j + 1, h => by
    simp only [tot]
    rcases Nat.lt_or_ge i j with h2 | h2
    · have := tot_at zz i j h2; omega
    · obtain rfl : i = j := by omega
      omega
set_option maxHeartbeats 8000000 in
theorem order_walk (zz : List (List Int)) (a : Int) (A : Option Addr) (c : Nat) (w : World) (hK : Kd.C (Kd.slice 5 (Kd.int .u8)) w A zz.length zz) (hB : ∀ x ∈ zz, x.length ≤ 140737488351232) :
    Calls Try.prog 3 #[.slice A zz.length c, .int .i64 a] w fun e w' => e = .returned (.bool true) ∧ Below w.heap.size w w' := by
  have HK := Aside0.mk hK
  clear hK
  go_enter Try.func3, Try.ntmps3
  go_wp2
  have hBi : Aside0 (∀ i, (zz.getD i []).length ≤ 140737488351232) := ⟨fun i => by
    rw [List.getD_eq_getElem?_getD]
    rcases Nat.lt_or_ge i zz.length with h | h
    · rw [List.getElem?_eq_getElem h]; exact hB _ (List.getElem_mem h)
    · rw [List.getElem?_eq_none h]; simp⟩
  clear hB
  go_loopg [5, 6] zz.length (fun gk s5 s6 wr => ∃ i : Nat, i ≤ zz.length ∧ zz.length - i ≤ gk ∧ s5 = .int .i64 (tot zz i : Nat) ∧ s6 = .int .i64 i ∧ tot zz i ≤ 4000 ∧ w = wr)
  case atStart => exact ⟨0, Nat.zero_le _, by omega, rfl, rfl, by simp [tot], rfl⟩
  case round =>
    obtain ⟨i, hi, hgk, rfl, rfl, ht, rfl⟩ := hrel
    by_cases hlt : i < zz.length
    · obtain ⟨gk, rfl⟩ : ∃ q, gk = q + 1 := ⟨gk - 1, by omega⟩
      obtain ⟨ad, A2, c2, rfl, hx0, _, _⟩ := row_at HK.out i hlt
      have hb := hBi.out i
      have h800 : i ≤ 800 := by have := tot_ge zz i; omega
      have ht1 : tot zz (i + 1) = tot zz i + 5 + (zz.getD i []).length := rfl
      generalize zz.getD i [] = x at *
      by_cases hbig : tot zz i + 5 + x.length ≤ 4000
      · go_wp2
        go_roundg gk
        case measure => omega
        case rel => exact ⟨i + 1, by omega, by omega, by rw [ht1]; go_num, by go_num, by omega, rfl⟩
      · go_wp2
        go_ret
        exact ⟨rfl, Below.refl _ _⟩
    · obtain rfl : i = zz.length := by omega
      have h800 : zz.length ≤ 800 := by have := tot_ge zz zz.length; omega
      go_wp2_with fail
      refine (new_up _).mono ?_
      rintro e w1 ⟨rfl, hN, hB⟩
      have HN := Aside0.mk hN
      clear hN hB
      go_wp2
      go_loopg [8] zz.length (fun gk s8 wr => ∃ i : Nat, i ≤ zz.length ∧ zz.length - i ≤ gk ∧ s8 = .int .i64 i ∧ Aside0 (NetUp wr w (fun k => w.heap.size ≤ k) w.heap.size (msgs zz i)))
      case atStart => exact ⟨0, Nat.zero_le _, by omega, rfl, HN⟩
      case round =>
        obtain ⟨i, hi, hgk, rfl, HN⟩ := hrel
        by_cases hlt : i < zz.length
        · obtain ⟨gk, rfl⟩ : ∃ q, gk = q + 1 := ⟨gk - 1, by omega⟩
          obtain ⟨ad, A2, c2, rfl, hx0, hle, hC⟩ := row_at HK.out i hlt
          have hb := hBi.out i
          have HM := Aside0.mk (msgs_succ zz i)
          have hml : manyOf (msgs zz i).length 1 = 1 := by rw [msgs_len]; unfold manyOf; omega
          have hlen : (msgs zz i).length ≤ 1024 := by rw [msgs_len]; omega
          generalize zz.getD i [] = x at *
          have hx1 := (HN.out.2.cell (cell_lt hx0)).trans hx0
          have HX := Aside0.mk hC
          clear hC hx0
          go_wp2_with fail
          refine (send_up (HN.out.bound.alloc _) (some ⟨wr.heap.size, 0, none⟩) 1 [⟨i, 1, x⟩] (reads_lit (x := ⟨i, 1, x⟩) (Kd.C_kept_came (Kd.heap_int .u8) HX.out (HN.out.2.alloc HN.out.2.size _) (fun k hk => hk.1)) hle (heap_alloc_new wr _) (fun h => by have := h.2.2; omega)) (by simp) (by simp; omega) hlen).mono ?_
          rintro e w2 ⟨rfl, hN2, _⟩
          have HN2 := Aside0.mk hN2
          clear hN2
          go_wp2
          go_roundg gk
          case measure => omega
          case rel =>
            refine ⟨i + 1, by omega, by omega, by go_num, ⟨?_⟩⟩
            rw [HM.out]
            have h := HN2.out
            rw [show manyOf (msgs zz i).length [(⟨i, 1, x⟩ : S28)].length = 1 from hml] at h
            exact h.mono (fun k hk => hk.elim (fun h => h.1) (fun h => by have := HN.out.2.size; simp at h; omega))
        · obtain rfl : i = zz.length := by omega
          have hp : ∀ q, 0 < q → ((q : Int) == 0) = false := fun q hq => beq_eq_false_iff_ne.2 (by omega)
          by_cases hA : 0 < zz.length ∧ 0 ≤ a
          · obtain ⟨hA1, hA2⟩ := hA
            have hdm : ∀ x ∈ msgs zz zz.length, x.f2.length ≤ 140737488355328 := fun x hx => by
              obtain ⟨j, _, rfl⟩ := List.mem_map.1 hx
              have := hBi.out j
              simp only; omega
            have htw := twice_up HN.out a (by rw [msgs_len]; omega) hdm
            obtain ⟨L, hL⟩ : ∃ L, twiceL a (msgs zz zz.length) = L := ⟨_, rfl⟩
            have htb : twiceB (msgs zz zz.length) = true := by simp only [twiceB, msgs_len, Bool.and_eq_true, decide_eq_true_eq]; omega
            obtain ⟨hLn, hAt⟩ : L.length = zz.length + 1 ∧ ∀ i, i < zz.length + 1 → L.getD i ⟨0, 0, []⟩ = ⟨((if i = zz.length then (a % zz.length).toNat else i : Nat) : Int), 1, zz.getD (if i = zz.length then (a % zz.length).toNat else i) []⟩ := order_list zz a hA1 hA2 L hL htb
            rw [htb, hL] at htw
            have HTW := Aside0.mk htw
            have HLn := Aside0.mk hLn
            have HAt := Aside0.mk hAt
            clear hdm htw htb hLn hAt hL
            go_wp2_with fail
            refine HTW.out.mono ?_
            rintro e w2 ⟨rfl, hN2, _⟩
            have HN2 := Aside0.mk (hN2.mono (ok' := fun k => w.heap.size ≤ k) (fun k hk => hk.elim id (fun h => by have := HN.out.2.size; omega)))
            clear hN2
            go_wp2
            go_loopg [10] (zz.length + 1) (fun gk s10 wr => ∃ i : Nat, i ≤ (zz.length + 1) ∧ (zz.length + 1) - i ≤ gk ∧ s10 = .int .i64 i ∧ Aside0 (NetUp wr w (fun k => w.heap.size ≤ k) w.heap.size (L.drop i)))
            case atStart => exact ⟨0, Nat.zero_le _, by omega, rfl, HN2⟩
            case round =>
              obtain ⟨i, hi, hgk, rfl, HN3⟩ := hrel
              by_cases hlt : i < (zz.length + 1)
              · obtain ⟨gk, rfl⟩ : ∃ q, gk = q + 1 := ⟨gk - 1, by omega⟩
                have hd0 : 0 < (L.drop i).length := by rw [List.length_drop]; have := HLn.out; omega
                have hgx : giveX 0 (L.drop i) = L.getD i ⟨0, 0, []⟩ := by rw [giveX_zero hd0]; simp [List.getD_eq_getElem?_getD]
                have hgl : giveL 0 (L.drop i) = L.drop (i + 1) := by rw [giveL_zero, List.drop_drop]
                have hG := give_up HN3.out 0
                obtain ⟨kk, hkk⟩ : ∃ kk : Nat, kk = (if i = zz.length then (a % zz.length).toNat else i) := ⟨_, rfl⟩
                have hkl : kk < zz.length := by
                  have h3 : a % zz.length < zz.length := Int.emod_lt_of_pos _ (by omega)
                  have h4 : 0 ≤ a % zz.length := Int.emod_nonneg _ (by omega)
                  rw [hkk]; split <;> omega
                have hk1 : i = zz.length → a % (zz.length : Int) = kk := fun h => by
                  have h4 : 0 ≤ a % zz.length := Int.emod_nonneg _ (by omega)
                  rw [hkk, if_pos h]; omega
                have hk2 : i ≠ zz.length → kk = i := fun h => by rw [hkk, if_neg h]
                rw [hgl, hgx, HAt.out i hlt, ← hkk, show decide (0 < (L.drop i).length) = true from decide_eq_true hd0] at hG
                have HG := Aside0.mk hG
                clear hG hgx hgl hd0
                go_wp2_with fail
                refine HG.out.mono ?_
                rintro e w3 ⟨A4, c4, okm, rfl, hR4, hokm, hN4, _⟩
                have HR4 := Aside0.mk hR4
                have HN4 := Aside0.mk hN4
                clear hR4 hN4 hokm hkk
                have hb := hBi.out kk
                obtain ⟨ad, A2, c2, rfl, hx0, hle, hC⟩ := row_at HK.out kk hkl
                generalize zz.getD kk [] = x at *
                have HX := Aside0.mk hC
                have HX0 := Aside0.mk hx0
                clear hC hx0
                by_cases hil : i = zz.length
                · have hk3 := hk1 hil
                  subst hil
                  go_wp2
                  have hx1 : ∀ o, (w3.alloc o).cell? (ad.add kk) = some (.slice A2 x.length c2) := fun o => Go.Lib.cell?_alloc_some o ((HN4.out.2.cell (cell_lt HX0.out)).trans HX0.out)
                  have hcc := (Kd.R_reads' HR4.out).2.1
                  have HS : ∀ o n, Calls Try.prog 12 #[.slice A4 x.length c4, .slice A2 x.length c2] ((w3.alloc o).drewN n) fun e w' => e = .returned (.bool true) ∧ ∃ m, w' = ((w3.alloc o).drewN n).drewN m := fun o n =>
                    (haystacklaw17_same.calls (x.length + 1) A4 c4 x A2 c2 x true ((w3.alloc o).drewN n) (Kd.C_drewN (Kd.C_alloc (Kd.R_reads' HR4.out).2.2 o) n) hcc (Kd.C_below HX.out (((HN4.out.alloc o).below (pw_below_drewN (Below.refl _ _) n)).2)) hle (same_refl x (by omega))).mono (fun _ _ h => ⟨h.1, h.2.1⟩)
                  go_quiet (first | (go_at_call 12; refine Calls.quiet_of (HS _ _)))
                  go_wp2
                  go_roundg gk
                  case measure => omega
                  case rel =>
                    refine ⟨zz.length + 1, by omega, by omega, by go_num, ⟨?_⟩⟩
                    exact ((HN4.out.alloc _).below (pw_below_drewN (Below.refl _ _) _)).mono (fun k hk => hk.1)
                · have hbi : ((i : Int) == zz.length) = false := beq_eq_false_iff_ne.2 (by omega)
                  obtain rfl := hk2 hil
                  go_wp2
                  have hx1 : ∀ o, (w3.alloc o).cell? (ad.add kk) = some (.slice A2 x.length c2) := fun o => Go.Lib.cell?_alloc_some o ((HN4.out.2.cell (cell_lt HX0.out)).trans HX0.out)
                  have hcc := (Kd.R_reads' HR4.out).2.1
                  have HS : ∀ o n, Calls Try.prog 12 #[.slice A4 x.length c4, .slice A2 x.length c2] ((w3.alloc o).drewN n) fun e w' => e = .returned (.bool true) ∧ ∃ m, w' = ((w3.alloc o).drewN n).drewN m := fun o n =>
                    (haystacklaw17_same.calls (x.length + 1) A4 c4 x A2 c2 x true ((w3.alloc o).drewN n) (Kd.C_drewN (Kd.C_alloc (Kd.R_reads' HR4.out).2.2 o) n) hcc (Kd.C_below HX.out (((HN4.out.alloc o).below (pw_below_drewN (Below.refl _ _) n)).2)) hle (same_refl x (by omega))).mono (fun _ _ h => ⟨h.1, h.2.1⟩)
                  go_quiet (first | (go_at_call 12; refine Calls.quiet_of (HS _ _)))
                  go_wp2
                  go_roundg gk
                  case measure => omega
                  case rel =>
                    refine ⟨kk + 1, by omega, by omega, by go_num, ⟨?_⟩⟩
                    exact ((HN4.out.alloc _).below (pw_below_drewN (Below.refl _ _) _)).mono (fun k hk => hk.1)
              · obtain rfl : i = (zz.length + 1) := by omega
                have hdn : L.drop (zz.length + 1) = [] := List.drop_eq_nil_of_le (by rw [HLn.out]; exact Nat.le_refl _)
                rw [hdn] at HN3
                clear hdn
                go_wp2_with (first | (go_at_call 13; refine (len_up HN3.out).mono ?_; rintro e w5 ⟨rfl, rfl⟩) | (go_at_call 14; refine (known_calls _).mono ?_; rintro e w6 ⟨rfl, hB6⟩))
                go_ret
                exact ⟨rfl, HN3.out.2.trans (hB6.mono HN3.out.2.size)⟩
          · by_cases hA1 : 0 < zz.length
            · have hA2 : a < 0 := by omega
              go_wp2
              go_loopg [10] zz.length (fun gk s10 wr => ∃ i : Nat, i ≤ zz.length ∧ zz.length - i ≤ gk ∧ s10 = .int .i64 i ∧ Aside0 (NetUp wr w (fun k => w.heap.size ≤ k) w.heap.size ((msgs zz zz.length).drop i)))
              case atStart => exact ⟨0, Nat.zero_le _, by omega, rfl, HN⟩
              case round =>
                obtain ⟨i, hi, hgk, rfl, HN3⟩ := hrel
                by_cases hlt : i < zz.length
                · obtain ⟨gk, rfl⟩ : ∃ q, gk = q + 1 := ⟨gk - 1, by omega⟩
                  have hd0 : 0 < ((msgs zz zz.length).drop i).length := by rw [List.length_drop, msgs_len]; omega
                  have hgx : giveX 0 ((msgs zz zz.length).drop i) = ⟨(i : Int), 1, zz.getD i []⟩ := by
                    rw [giveX_zero hd0]
                    simp only [List.getD_eq_getElem?_getD, List.getElem?_drop, Nat.add_zero]
                    unfold msgs
                    rw [List.getElem?_map, List.getElem?_range hlt]
                    simp
                  have hgl : giveL 0 ((msgs zz zz.length).drop i) = (msgs zz zz.length).drop (i + 1) := by rw [giveL_zero, List.drop_drop]
                  have hG := give_up HN3.out 0
                  rw [hgl, hgx, show decide (0 < ((msgs zz zz.length).drop i).length) = true from decide_eq_true hd0] at hG
                  have HG := Aside0.mk hG
                  clear hG hgx hgl hd0
                  go_wp2_with fail
                  refine HG.out.mono ?_
                  rintro e w3 ⟨A4, c4, okm, rfl, hR4, hokm, hN4, _⟩
                  have HR4 := Aside0.mk hR4
                  have HN4 := Aside0.mk hN4
                  clear hR4 hN4 hokm
                  have hb := hBi.out i
                  obtain ⟨ad, A2, c2, rfl, hx0, hle, hC⟩ := row_at HK.out i hlt
                  generalize zz.getD i [] = x at *
                  have HX := Aside0.mk hC
                  have HX0 := Aside0.mk hx0
                  clear hC hx0
                  have hbi : ((i : Int) == zz.length) = false := beq_eq_false_iff_ne.2 (by omega)
                  go_wp2
                  have hx1 : ∀ o, (w3.alloc o).cell? (ad.add i) = some (.slice A2 x.length c2) := fun o => Go.Lib.cell?_alloc_some o ((HN4.out.2.cell (cell_lt HX0.out)).trans HX0.out)
                  have hcc := (Kd.R_reads' HR4.out).2.1
                  have HS : ∀ o n, Calls Try.prog 12 #[.slice A4 x.length c4, .slice A2 x.length c2] ((w3.alloc o).drewN n) fun e w' => e = .returned (.bool true) ∧ ∃ m, w' = ((w3.alloc o).drewN n).drewN m := fun o n =>
                    (haystacklaw17_same.calls (x.length + 1) A4 c4 x A2 c2 x true ((w3.alloc o).drewN n) (Kd.C_drewN (Kd.C_alloc (Kd.R_reads' HR4.out).2.2 o) n) hcc (Kd.C_below HX.out (((HN4.out.alloc o).below (pw_below_drewN (Below.refl _ _) n)).2)) hle (same_refl x (by omega))).mono (fun _ _ h => ⟨h.1, h.2.1⟩)
                  go_quiet (first | (go_at_call 12; refine Calls.quiet_of (HS _ _)))
                  go_wp2
                  go_roundg gk
                  case measure => omega
                  case rel =>
                    refine ⟨i + 1, by omega, by omega, by go_num, ⟨?_⟩⟩
                    exact ((HN4.out.alloc _).below (pw_below_drewN (Below.refl _ _) _)).mono (fun k hk => hk.1)
                · obtain rfl : i = zz.length := by omega
                  have hdn : (msgs zz zz.length).drop zz.length = [] := List.drop_eq_nil_of_le (by rw [msgs_len]; exact Nat.le_refl _)
                  rw [hdn] at HN3
                  clear hdn
                  go_wp2_with (first | (go_at_call 13; refine (len_up HN3.out).mono ?_; rintro e w5 ⟨rfl, rfl⟩) | (go_at_call 14; refine (known_calls _).mono ?_; rintro e w6 ⟨rfl, hB6⟩))
                  go_ret
                  exact ⟨rfl, HN3.out.2.trans (hB6.mono HN3.out.2.size)⟩
            · go_wp2
              go_loopg [10] zz.length (fun gk s10 wr => ∃ i : Nat, i ≤ zz.length ∧ zz.length - i ≤ gk ∧ s10 = .int .i64 i ∧ Aside0 (NetUp wr w (fun k => w.heap.size ≤ k) w.heap.size ((msgs zz zz.length).drop i)))
              case atStart => exact ⟨0, Nat.zero_le _, by omega, rfl, HN⟩
              case round =>
                obtain ⟨i, hi, hgk, rfl, HN3⟩ := hrel
                by_cases hlt : i < zz.length
                · exact absurd hlt (by omega)
                · obtain rfl : i = zz.length := by omega
                  have hdn : (msgs zz zz.length).drop zz.length = [] := List.drop_eq_nil_of_le (by rw [msgs_len]; exact Nat.le_refl _)
                  rw [hdn] at HN3
                  clear hdn
                  go_wp2_with (first | (go_at_call 13; refine (len_up HN3.out).mono ?_; rintro e w5 ⟨rfl, rfl⟩) | (go_at_call 14; refine (known_calls _).mono ?_; rintro e w6 ⟨rfl, hB6⟩))
                  go_ret
                  exact ⟨rfl, HN3.out.2.trans (hB6.mono HN3.out.2.size)⟩
end Go.Proofs.Ytmindpofjnicfaa.Hand
