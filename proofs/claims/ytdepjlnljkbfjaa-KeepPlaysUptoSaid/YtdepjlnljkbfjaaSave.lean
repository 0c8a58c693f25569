/- keep.Save, keep.Load: what they do to a disk. -/
import Derived.Test.YtdepjlnljkbfjaaFramew
import Derived.Test.YtdepjlnljkbfjaaNames
import Derived.Test.YtdepjlnljkbfjaaFuse
import Derived.Lib.SmallJoins
namespace Go.Proofs.Ytdepjlnljkbfjaa.Hand
open Go.RowKit Go.Proofs.Ytdepjlnljkbfjaa.PA Go.Proofs.Ytdepjlnljkbfjaa.MapP Go.Proofs.YtdepjlnljkbfjaaW.PrintWords Go.Proofs.YtdepjlnljkbfjaaW.PrintLast Go.Proofs.YtdepjlnljkbfjaaW.PrintMore
attribute [local go_sem] max2_int min2_int
set_option linter.unusedVariables false
set_option linter.unusedSimpArgs false
set_option linter.unusedSectionVars false
section
variable {w w0 w1 w2 : World} {d : Nat} {ok : Nat → Prop} {S S1 S2 : DV}
/-- What a call has made of a disk, as its caller sees it. -/
structure Went (w w1 w0 : World) (ok : Nat → Prop) (d : Nat) (S1 : DV) : Prop where
  up : DiskUp w1 w0 (fun k => ok k ∨ w.heap.size ≤ k) d S1
  kept : Kept w w1 ok
theorem Went.refl (h : DiskUp w w0 ok d S) : Went w w w0 ok d S := ⟨h.mono (fun _ h => .inl h), Kept.refl _ _⟩
theorem Went.step (g : Went w w1 w0 ok d S1) (hd : DiskUp w2 w0 (fun k => (ok k ∨ w.heap.size ≤ k) ∨ w1.heap.size ≤ k) d S2) (hk : Kept w1 w2 (fun k => ok k ∨ w.heap.size ≤ k)) : Went w w2 w0 ok d S2 :=
  ⟨hd.mono (fun k h => h.elim id (fun h => .inr (Nat.le_trans g.kept.1 h))), g.kept.then_ hk (fun _ h => h)⟩
theorem Went.quiet (g : Went w w1 w0 ok d S1) (hb : Below w1.heap.size w1 w2) : Went w w2 w0 ok d S1 := ⟨g.up.quiet hb, g.kept.below hb⟩
/-- The same, by what is new since some block on. -/
structure WentN (w w1 w0 : World) (ok : Nat → Prop) (N d : Nat) (S1 : DV) : Prop where
  up : DiskUp w1 w0 (fun k => ok k ∨ N ≤ k) d S1
  kept : Kept w w1 ok
  le : w.heap.size ≤ N
  lt : N ≤ w1.heap.size
theorem WentN.start (h : DiskUp w w0 ok d S) (hb : Below w.heap.size w w2) : WentN w w2 w0 ok w2.heap.size d S := ⟨(h.quiet hb).mono (fun _ h => .inl h), (Kept.refl _ _).below hb, hb.size, Nat.le_refl _⟩
theorem WentN.step {N : Nat} (g : WentN w w1 w0 ok N d S1) (hd : DiskUp w2 w0 (fun k => (ok k ∨ N ≤ k) ∨ w1.heap.size ≤ k) d S2) (hk : Kept w1 w2 (fun k => ok k ∨ N ≤ k)) : WentN w w2 w0 ok N d S2 :=
  ⟨hd.mono (fun k h => h.elim id (fun h => .inr (Nat.le_trans g.lt h))), g.kept.then_ hk (fun _ h => h.imp_right (Nat.le_trans g.le)), g.le, Nat.le_trans g.lt hk.1⟩
theorem WentN.quiet {N : Nat} (g : WentN w w1 w0 ok N d S1) (hb : Below w1.heap.size w1 w2) : WentN w w2 w0 ok N d S1 := ⟨g.up.quiet hb, g.kept.below hb, g.le, Nat.le_trans g.lt hb.size⟩
theorem WentN.fin {N : Nat} {ok0 : Nat → Prop} (g : WentN w w1 w0 ok N d S1) (h : ∀ k, ok k → ok0 k) : Went w w1 w0 ok0 d S1 := ⟨g.up.mono (fun k hk => hk.imp (h k) (Nat.le_trans g.le)), g.kept.mono h⟩
theorem Fresh.went {N : Nat} {A : Option Addr} {xs : List Int} (h : Fresh w w1 A xs) (hk : Kept w1 w2 (fun k => ok k ∨ N ≤ k)) (hok : ∀ k, ok k → k < w.heap.size) (hN : w1.heap.size ≤ N) : Kd.C (Kd.int .u8) w2 A xs.length xs :=
  h w2 (fun k h1 h2 => hk.2 k h2 (fun h3 => by rcases h3 with h3 | h3; exact absurd (hok k h3) (by omega); omega))
/-- Remove of one file. -/
theorem remove1 (h : DiskUp w w0 ok d S) (s : ByteArray) (hsz : s.size ≤ maxLen) :
    Calls Try.prog 38 #[.pointer (some ⟨d, 0, none⟩), .slice (some ⟨w.heap.size, 0, none⟩) 1 1] (w.alloc (.cells #[.string s] 9)) fun e w' => e = .returned (.int .i64 (oneV removeX S s).1) ∧ DiskUp w' w0 (fun k => ok k ∨ w.heap.size ≤ k) d (oneV removeX S s).2 ∧ Kept w w' ok := by
  have hb := h.bound.alloc (.cells #[.string s] 9)
  have h1 := remove_up hb (fun k hk => by simp; omega) ⟨w.heap.size, 0, none⟩ [s] 1 (by simp) (fun W' hK j s' hj => by
    match j with
    | 0 =>
      cases hj
      refine ⟨?_, hsz⟩
      have h2 := (hK.2 w.heap.size (by simp) (fun h => by have := h.2.2; omega)).trans (heap_alloc_new w (.cells #[.string s] 9))
      rw [Addr.add_lit]
      rw [blk_cell h2]; rfl
    | j + 1 => simp at hj)
  have e : eachV removeX S [s] = oneV removeX S s := by
    unfold eachV
    split
    · rename_i h0
      unfold eachV
      exact Prod.ext h0.symm rfl
    · rfl
  rw [e] at h1
  refine h1.mono ?_
  rintro e w' ⟨rfl, h2, h3⟩
  refine ⟨rfl, h2.mono (fun b hb => ?_), ((Kept.refl w ok).alloc _).then_ h3 (fun b hb => .inl hb.1)⟩
  rcases hb with h | h
  · exact .inl h.1
  · right; simp at h; omega
theorem there_up (h : DiskUp w w0 ok d S) (s : ByteArray) (hsz : s.size ≤ maxLen) :
    Calls Try.prog 37 #[.pointer (some ⟨d, 0, none⟩), .string s] w fun e w' => e = .returned (.bool (at_ S.L s.data.toList).isSome) ∧ Below w.heap.size w w' := by
  have k := read_up h s hsz
  have K := Aside0.mk k
  have HE : Aside0 ((at_ S.L s.data.toList).isSome = ((readV S s).2 == 0)) := ⟨by unfold readV; cases at_ S.L s.data.toList <;> rfl⟩
  generalize readV S s = r at K HE
  obtain ⟨p, e⟩ := r
  clear k h
  go_enter Try.func37, Try.ntmps37
  go_wp2_with fail
  refine K.out.mono ?_
  rintro e w1 ⟨A, c, rfl, _, _, hb⟩
  go_wp2
  go_ret
  rw [HE.out]
  exact ⟨rfl, hb⟩
end
/-- The name of a shadow. -/
def shK (s : ByteArray) : ByteArray := s ++ ⟨#[126]⟩
theorem shK_size (s : ByteArray) : (shK s).size = s.size + 1 := by unfold shK; simp [ByteArray.size_append]; rfl
def saveT (S : DV) (t s : ByteArray) (xs : List Int) : Int × DV :=
  if (appendV S t (encF xs)).1 ≠ 0 then appendV S t (encF xs)
  else if (oneV syncX (appendV S t (encF xs)).2 t).1 ≠ 0 then oneV syncX (appendV S t (encF xs)).2 t
  else renameV (oneV syncX (appendV S t (encF xs)).2 t).2 t s
def saveV (S : DV) (s : ByteArray) (xs : List Int) : Int × DV :=
  if s.size < 1 ∨ 60 < s.size then (1, S)
  else if 1048576 < xs.length then (5, S)
  else if (at_ S.L (shK s).data.toList).isSome = true then (if (oneV removeX S (shK s)).1 ≠ 0 then oneV removeX S (shK s) else saveT (oneV removeX S (shK s)).2 (shK s) s xs)
  else saveT S (shK s) s xs
section
variable {w w0 : World} {d : Nat} {ok : Nat → Prop} {S : DV}
set_option maxRecDepth 100000 in
set_option maxHeartbeats 4000000 in
theorem save_up (h : DiskUp w w0 ok d S) (s : ByteArray) (hsz : s.size ≤ maxLen) (A : Option Addr) (c : Nat) (ls : List (List Int)) (hC : Kd.C (Kd.slice 5 (Kd.int .u8)) w A ls.length ls) (hc : ls.length ≤ c) (hb : ∀ l ∈ ls, Bytes l) (hn : ls.length ≤ 140737488355328) (ht : ls.flatten.length ≤ 140737488355328) :
    Calls Try.prog 11 #[.pointer (some ⟨d, 0, none⟩), .string s, .slice A ls.length c] w fun e w' => e = .returned (.int .i64 (saveV S s ls.flatten).1) ∧ Went w w' w0 ok d (saveV S s ls.flatten).2 := by
  obtain ⟨res, hres⟩ : ∃ res, saveV S s ls.flatten = res := ⟨_, rfl⟩
  rw [hres]
  have HRES := Aside0.mk hres
  have HD := Aside0.mk h
  have k1 := enc_calls A c ls w hC hc hb hn ht
  have HFB := Aside0.mk (flat_bytes hb)
  generalize ls.flatten = xs at k1 HRES HFB hres ht
  have K1 := Aside0.mk k1
  clear k1 hres h hC hb
  by_cases hs1 : s.size < 1
  · have HE : Aside0 ((1, S) = res) := ⟨by rw [← HRES.out]; unfold saveV; rw [if_pos (.inl hs1)]⟩
    obtain rfl := HE.out
    go_enter Try.func11, Try.ntmps11
    go_wp2
    go_ret
    exact ⟨rfl, Went.refl HD.out⟩
  · by_cases hs2 : 60 < s.size
    · have HE : Aside0 ((1, S) = res) := ⟨by rw [← HRES.out]; unfold saveV; rw [if_pos (.inr hs2)]⟩
      obtain rfl := HE.out
      go_enter Try.func11, Try.ntmps11
      go_wp2
      go_ret
      exact ⟨rfl, Went.refl HD.out⟩
    · by_cases hbig : 1048576 < xs.length
      · have HE : Aside0 ((5, S) = res) := ⟨by rw [← HRES.out]; unfold saveV; rw [if_neg (by omega), if_pos hbig]⟩
        obtain rfl := HE.out
        have he : encV xs = ([], 5) := by unfold encV; rw [if_pos hbig]
        rw [he] at K1
        go_enter Try.func11, Try.ntmps11
        go_wp2_with fail
        refine K1.out.mono ?_
        rintro e w1 ⟨A1, c1, rfl, hc1, hC1, hb1, _⟩
        go_wp2
        go_ret
        exact ⟨rfl, (Went.refl HD.out).quiet hb1⟩
      · have he : encV xs = (encF xs, 0) := by unfold encV; rw [if_neg hbig]
        rw [he] at K1
        obtain ⟨t, htt⟩ : ∃ t, s ++ (⟨#[126]⟩ : ByteArray) = t := ⟨_, rfl⟩
        have HSH : Aside0 (shK s = t) := ⟨htt⟩
        have hts : t.size ≤ maxLen := by
          have := shK_size s
          rw [HSH.out] at this
          unfold maxLen
          omega
        have hel : (encF xs).length ≤ 1048588 := by rw [encF_len]; omega
        have HEB := Aside0.mk (encF_bytes HFB.out)
        have HR : Aside0 ((if (at_ S.L t.data.toList).isSome = true then (if (oneV removeX S t).1 ≠ 0 then oneV removeX S t else saveT (oneV removeX S t).2 t s xs) else saveT S t s xs) = res) := ⟨by
          rw [← HRES.out]
          unfold saveV
          rw [if_neg (show ¬ (s.size < 1 ∨ 60 < s.size) from by omega), if_neg hbig, HSH.out]⟩
        have HT : ∀ S1, saveT S1 t s xs = if (appendV S1 t (encF xs)).1 ≠ 0 then appendV S1 t (encF xs) else if (oneV syncX (appendV S1 t (encF xs)).2 t).1 ≠ 0 then oneV syncX (appendV S1 t (encF xs)).2 t else renameV (oneV syncX (appendV S1 t (encF xs)).2 t).2 t s := fun _ => rfl
        have HT := Aside0.mk HT
        have HDB := Aside0.mk HD.out.bound
        obtain ⟨okb, hokb⟩ : ∃ okb : Nat → Prop, okb = fun k => ok k ∧ w0.heap.size ≤ k ∧ k < w.heap.size := ⟨_, rfl⟩
        rw [← hokb] at HDB
        have HOK : Aside0 (∀ k, okb k → ok k) := ⟨by rw [hokb]; exact fun _ h => h.1⟩
        have HLT : Aside0 (∀ k, okb k → k < w.heap.size) := ⟨by rw [hokb]; exact fun _ h => h.2.2⟩
        clear hokb
        generalize encF xs = ys at K1 hel HEB HT
        clear he
        go_enter Try.func11, Try.ntmps11
        go_wp2_with fail
        refine K1.out.mono ?_
        rintro e w1 ⟨A1, c1, rfl, hc1, hC1, hb1, hF1⟩
        have HB1 := Aside0.mk hb1
        have HF1 := Aside0.mk hF1
        clear hC1 hF1 hb1 K1
        go_wp2_with fail
        refine (there_up (HDB.out.quiet HB1.out) t hts).mono ?_
        rintro e w2 ⟨rfl, hb2⟩
        have G2 := Aside0.mk (WentN.start HDB.out (HB1.out.trans (hb2.mono HB1.out.size)))
        have HF2 : Aside0 (Fresh w w2 A1 ys) := ⟨fun W' hW => HF1.out W' (fun k h1 h2 => (hW k h1 (Nat.lt_of_lt_of_le h2 hb2.size)).trans (hb2.block k h2))⟩
        clear hb2 HB1 HF1
        obtain ⟨q, hq⟩ : ∃ q, q = (at_ S.L t.data.toList).isSome := ⟨_, rfl⟩
        rw [← hq] at HR ⊢
        clear hq
        have HRM : ∃ r, r = oneV removeX S t := ⟨_, rfl⟩
        obtain ⟨⟨e3, S3⟩, hr3⟩ := HRM
        have k3 := remove1 G2.out.up t hts
        rw [← hr3] at k3 HR
        have K3 := Aside0.mk k3
        clear k3 hr3
        cases q
        case' true =>
          go_wp2_with fail
          refine K3.out.mono ?_
          rintro e w3 ⟨rfl, h3, hk3⟩
          have G3 := Aside0.mk (G2.out.step h3 hk3)
          by_cases he3 : e3 = 0
          case' neg =>
            have HE : Aside0 ((e3, S3) = res) := ⟨by rw [← HR.out, if_pos trivial, if_pos he3]⟩
            obtain rfl := HE.out
            have hnb : (e3 != 0) = true := by simpa using he3
            clear he3 h3 hk3
            go_wp2
            go_ret
            exact ⟨rfl, G3.out.fin HOK.out⟩
          case' pos =>
            subst he3
            have HR1 : Aside0 (saveT S3 t s xs = res) := ⟨by rw [← HR.out, if_pos trivial, if_neg (by simp)]⟩
            have TT : ∃ N S', Aside0 (WentN w w3 w0 okb N d S') ∧ Aside0 (saveT S' t s xs = res) ∧ Aside0 (Kd.C (Kd.int .u8) w3 A1 ys.length ys) := ⟨_, _, G3, HR1, ⟨HF2.out.went hk3 HLT.out (Nat.le_refl _)⟩⟩
            clear G3 HR1 h3 hk3 K3 HR G2 HF2 HRES
        case' false =>
          have HR1 : Aside0 (saveT S t s xs = res) := ⟨by rw [← HR.out, if_neg (by simp)]⟩
          have TT : ∃ N S', Aside0 (WentN w w2 w0 okb N d S') ∧ Aside0 (saveT S' t s xs = res) ∧ Aside0 (Kd.C (Kd.int .u8) w2 A1 ys.length ys) := ⟨_, _, G2, HR1, ⟨HF2.out w2 (fun _ _ _ => rfl)⟩⟩
          clear HR1 K3 HR G2 HF2 HRES
        all_goals
          obtain ⟨N, S4, G4, HR4, HC4⟩ := TT
          rw [HT.out] at HR4
          have k5 := append1 G4.out.up t hts A1 c1 ys HC4.out hc1 HEB.out (by omega)
          obtain ⟨⟨e5, S5⟩, hr5⟩ : ∃ r, appendV S4 t ys = r := ⟨_, rfl⟩
          rw [hr5] at k5 HR4
          have K5 := Aside0.mk k5
          clear k5 hr5
          go_wp2_with fail
          refine K5.out.mono ?_
          rintro e w5 ⟨rfl, h5, hk5⟩
          have G5 := Aside0.mk (G4.out.step h5 hk5)
          clear h5 hk5 K5 HC4 G4
          by_cases he5 : e5 = 0
          case' neg =>
            have HE : Aside0 ((e5, S5) = res) := ⟨by rw [← HR4.out, if_pos he5]⟩
            obtain rfl := HE.out
            have hnb : (e5 != 0) = true := by simpa using he5
            clear he5
            go_wp2
            go_ret
            exact ⟨rfl, G5.out.fin HOK.out⟩
          case' pos =>
            subst he5
            rw [if_neg (by simp)] at HR4
            have k6 := sync1 G5.out.up t hts
            obtain ⟨⟨e6, S6⟩, hr6⟩ : ∃ r, oneV syncX S5 t = r := ⟨_, rfl⟩
            rw [hr6] at k6 HR4
            have K6 := Aside0.mk k6
            clear k6 hr6
            go_wp2_with fail
            refine K6.out.mono ?_
            rintro e w6 ⟨rfl, h6, hk6⟩
            have G6 := Aside0.mk (G5.out.step h6 hk6)
            clear h6 hk6 K6 G5
            by_cases he6 : e6 = 0
            case' neg =>
              have HE : Aside0 ((e6, S6) = res) := ⟨by rw [← HR4.out, if_pos he6]⟩
              obtain rfl := HE.out
              have hnb : (e6 != 0) = true := by simpa using he6
              clear he6
              go_wp2
              go_ret
              exact ⟨rfl, G6.out.fin HOK.out⟩
            case' pos =>
              subst he6
              rw [if_neg (by simp)] at HR4
              have k7 := rename_up G6.out.up t s hts hsz
              rw [HR4.out] at k7
              have K7 := Aside0.mk k7
              clear k7
              go_wp2_with fail
              refine K7.out.mono ?_
              rintro e w7 ⟨rfl, h7, hk7⟩
              have G7 := Aside0.mk (G6.out.step h7 hk7)
              clear h7 hk7 K7 G6
              go_wp2
              go_ret
              exact ⟨rfl, G7.out.fin HOK.out⟩
theorem save_nil (s : ByteArray) (v : Value) (w : World) : Calls Try.prog 11 #[.pointer none, .string s, v] w fun e w' => e = .returned (.int .i64 1) ∧ w' = w := by
  go_enter Try.func11, Try.ntmps11
  go_wp2
  go_ret
  exact ⟨rfl, rfl⟩
theorem load_nil (s : ByteArray) (w : World) : Calls Try.prog 13 #[.pointer none, .string s] w fun e w' => e = .returned (.tuple #[.slice none 0 0, .int .i64 1]) ∧ w' = w := by
  go_enter Try.func13, Try.ntmps13
  go_wp2
  go_ret2
  exact ⟨rfl, rfl⟩
/-- What Load answers. -/
def loadV (S : DV) (s : ByteArray) : List Int × Int := match at_ S.L s.data.toList with
  | none => ([], 7)
  | some x => if (oneF x.1).2 ≠ 0 then ([], 3) else ((oneF x.1).1, 0)
set_option maxRecDepth 100000 in
set_option maxHeartbeats 4000000 in
theorem load_up (h : DiskUp w w0 ok d S) (s : ByteArray) (hsz : s.size ≤ maxLen) (hby : ∀ x, at_ S.L s.data.toList = some x → Bytes x.1) :
    Calls Try.prog 13 #[.pointer (some ⟨d, 0, none⟩), .string s] w fun e w' => ∃ A c, e = .returned (.tuple #[.slice A (loadV S s).1.length c, .int .i64 (loadV S s).2]) ∧ (loadV S s).1.length ≤ c ∧ Kd.C (Kd.int .u8) w' A (loadV S s).1.length (loadV S s).1 ∧ Below w.heap.size w w' := by
  have k1 := read_up h s hsz
  have hus := h.fine.used
  have hr1 := h.fine.r1
  have K1 := Aside0.mk k1
  cases hat : at_ S.L s.data.toList with
  | none =>
    have hr : readV S s = ([], 7) := by unfold readV; rw [hat]
    have hl : loadV S s = ([], 7) := by unfold loadV; rw [hat]
    rw [hr] at K1
    have HL := Aside0.mk hl
    clear hr hl k1 h hby hat
    go_enter Try.func13, Try.ntmps13
    go_wp2_with fail
    refine K1.out.mono ?_
    rintro e w1 ⟨A, c, rfl, hR, _, hb⟩
    go_wp2
    go_ret2
    rw [HL.out]
    exact ⟨none, 0, rfl, by simp, ⟨rfl, by simp, fun h => absurd h (by simp)⟩, hb⟩
  | some x =>
    have hr : readV S s = (x.1, 0) := by unfold readV; rw [hat]
    have hl : loadV S s = if (oneF x.1).2 ≠ 0 then ([], 3) else ((oneF x.1).1, 0) := by unfold loadV; rw [hat]
    have hbx := hby x hat
    have hxl : x.1.length ≤ 1073741824 := by have := total_at hat; omega
    obtain ⟨l, n⟩ := x
    rw [hr] at K1
    simp only at hl hbx hxl
    obtain ⟨⟨p, e1⟩, hp⟩ : ∃ r, oneF l = r := ⟨_, rfl⟩
    have HO : Aside0 (∀ A c W, Kd.C (Kd.int .u8) W A l.length l → l.length ≤ c → Calls Try.prog 41 #[.slice A l.length c] W fun e w' => ∃ A' c', e = .returned (.tuple #[.slice A' p.length c', .int .i64 e1]) ∧ p.length ≤ c' ∧ Kd.C (Kd.int .u8) w' A' p.length p ∧ Below W.heap.size W w') := ⟨fun A c W hC hc => by
      have := one_calls A c l W hC hc hbx (by omega)
      rw [hp] at this
      exact this⟩
    rw [hp] at hl
    have HL := Aside0.mk hl
    clear hr hl k1 h hby hat hp hbx
    go_enter Try.func13, Try.ntmps13
    go_wp2_with fail
    refine K1.out.mono ?_
    rintro e w1 ⟨A, c, rfl, hR, _, hb⟩
    have hr2 := Kd.R_reads' hR
    have K2 := Aside0.mk (HO.out A c w1 hr2.2.2 hr2.2.1)
    have HB := Aside0.mk hb
    clear hR hr2 hb K1
    go_wp2_with fail
    refine K2.out.mono ?_
    rintro e w2 ⟨A2, c2, rfl, hc2, hC2, hb2⟩
    by_cases he : e1 = 0
    · subst he
      rw [if_neg (by simp)] at HL
      go_wp2
      go_ret2
      rw [HL.out]
      exact ⟨A2, c2, rfl, hc2, hC2, HB.out.trans (hb2.mono HB.out.size)⟩
    · rw [if_pos he] at HL
      have hnb : (e1 != 0) = true := by simpa using he
      clear he
      go_wp2
      go_ret2
      rw [HL.out]
      exact ⟨none, 0, rfl, by simp, ⟨rfl, by simp, fun h => absurd h (by simp)⟩, HB.out.trans (hb2.mono HB.out.size)⟩
end
end Go.Proofs.Ytdepjlnljkbfjaa.Hand

/- What Save leaves: plain. -/
namespace Go.Proofs.Ytdepjlnljkbfjaa.Hand
open Go.RowKit Go.Proofs.Ytdepjlnljkbfjaa.PA Go.Proofs.Ytdepjlnljkbfjaa.MapP Go.Proofs.YtdepjlnljkbfjaaW.PrintWords Go.Proofs.YtdepjlnljkbfjaaW.PrintLast Go.Proofs.YtdepjlnljkbfjaaW.PrintMore
set_option linter.unusedVariables false
set_option linter.unusedSimpArgs false
set_option linter.unusedSectionVars false
theorem shK_key (s : ByteArray) : (shK s).data.toList = s.data.toList ++ [126] := by unfold shK; simp
theorem shK_ne (s : ByteArray) : s.data.toList ≠ (shK s).data.toList := by
  rw [shK_key]
  intro h
  have := congrArg List.length h
  simp at this
theorem good_of {s : ByteArray} (h1 : 1 ≤ s.size) (h2 : s.size ≤ 64) : badName s = false := by
  unfold badName
  rw [decide_eq_false (by omega), decide_eq_false (by omega)]
  rfl
theorem may_open {S : DV} (hf : S.fused = false) {l : List ByteArray} (h : l.any badName = false) : mayV S.fused S.left l = 0 := by
  unfold mayV
  rw [hf, h]
  rfl
theorem done_open (left : Int) : doneL false left = left := rfl
theorem del_none {β : Type} {L : List (Key × β)} {k : Key} (h : at_ L k = none) : del L k = L := by
  unfold del
  rw [List.filter_eq_self]
  intro p hp
  simpa using at_none h p hp
theorem del_snoc {β : Type} {L : List (Key × β)} {k : Key} {x : β} (h : at_ L k = none) : del (L ++ [(k, x)]) k = L := by
  have h1 := del_none h
  unfold del at h1 ⊢
  rw [List.filter_append, h1]
  simp
theorem at_snoc {β : Type} {L : List (Key × β)} {k : Key} {x : β} (h : at_ L k = none) : at_ (L ++ [(k, x)]) k = some x := by
  rw [at_append, h, at_cons]
  simp
theorem put_snoc {β : Type} {L : List (Key × β)} {k : Key} {x y : β} (h : at_ L k = none) : put (L ++ [(k, x)]) k y = L ++ [(k, y)] := by
  have h1 := at_snoc (x := x) h
  rw [put_old h1, List.map_append]
  congr 1
  · refine (List.map_congr_left fun p hp => ?_).trans (List.map_id' L)
    simp [at_none h p hp]
  · simp
/-- A Save that nothing hinders. -/
theorem save_good (room left : Int) (L : List (Key × (List Int × Nat))) (s : ByteArray) (xs : List Int) (h1 : 1 ≤ s.size) (h2 : s.size ≤ 60) (hx : xs.length ≤ 1048576) (hn : at_ L (shK s).data.toList = none) (ht : (total L : Int) + xs.length + 12 ≤ room) (hl : L.length < 4096) :
    saveV ⟨room, false, left, L⟩ s xs = (0, ⟨room, false, left, put L s.data.toList (encF xs, (encF xs).length)⟩) := by
  have hbs := good_of h1 (by omega)
  have hbt : badName (shK s) = false := good_of (by rw [shK_size]; omega) (by rw [shK_size]; omega)
  unfold saveV
  rw [if_neg (show ¬ (s.size < 1 ∨ 60 < s.size) from by omega), if_neg (by omega)]
  simp only [hn, Option.isSome_none, Bool.false_eq_true, if_false]
  have ha : appendV ⟨room, false, left, L⟩ (shK s) (encF xs) = (0, ⟨room, false, left, L ++ [((shK s).data.toList, (encF xs, 0))]⟩) := by
    unfold appendV
    rw [if_neg (by rw [may_open rfl (by simp [hbt])]; simp), if_neg ?_]
    · simp only [hn, Option.getD_none, List.nil_append, put_new hn, done_open]
    · simp only
      rw [encF_len]
      rintro (h | h) <;> omega
  have hs : oneV syncX ⟨room, false, left, L ++ [((shK s).data.toList, (encF xs, 0))]⟩ (shK s) = (0, ⟨room, false, left, L ++ [((shK s).data.toList, (encF xs, (encF xs).length))]⟩) := by
    unfold oneV
    rw [if_neg (by rw [may_open rfl (by simp [hbt])]; simp)]
    simp only [at_snoc hn, syncX, put_snoc hn, done_open]
  have hr : renameV ⟨room, false, left, L ++ [((shK s).data.toList, (encF xs, (encF xs).length))]⟩ (shK s) s = (0, ⟨room, false, left, put L s.data.toList (encF xs, (encF xs).length)⟩) := by
    unfold renameV
    rw [if_neg (by rw [may_open rfl (by simp [hbt, hbs])]; simp)]
    simp only [at_snoc hn, del_snoc hn, done_open]
  unfold saveT
  rw [ha]
  simp only [ne_eq, not_true_eq_false, if_false]
  rw [hs]
  simp only [not_true_eq_false, if_false]
  exact hr
/-- What any Save leaves under its name. -/
theorem save_at (S : DV) (s : ByteArray) (xs : List Int) : ((saveV S s xs).1 = 0 → at_ (saveV S s xs).2.L s.data.toList = some (encF xs, (encF xs).length)) ∧ ((saveV S s xs).1 ≠ 0 → at_ (saveV S s xs).2.L s.data.toList = at_ S.L s.data.toList) := by
  have hne := shK_ne s
  have hA : ∀ (S1 : DV) ys, at_ (appendV S1 (shK s) ys).2.L s.data.toList = at_ S1.L s.data.toList := fun S1 ys => by
    unfold appendV
    split
    · rfl
    · split
      · rfl
      · exact at_put_other hne
  have hS : ∀ (S1 : DV), at_ (oneV syncX S1 (shK s)).2.L s.data.toList = at_ S1.L s.data.toList := fun S1 => by
    unfold oneV
    split
    · rfl
    · split
      · rfl
      · exact at_put_other hne
  have hR : ∀ (S1 : DV), at_ (oneV removeX S1 (shK s)).2.L s.data.toList = at_ S1.L s.data.toList := fun S1 => by
    unfold oneV
    split
    · rfl
    · split
      · rfl
      · exact at_del_other hne
  have hT : ∀ S1 : DV, at_ S1.L (shK s).data.toList = none → ((saveT S1 (shK s) s xs).1 = 0 → at_ (saveT S1 (shK s) s xs).2.L s.data.toList = some (encF xs, (encF xs).length)) ∧ ((saveT S1 (shK s) s xs).1 ≠ 0 → at_ (saveT S1 (shK s) s xs).2.L s.data.toList = at_ S1.L s.data.toList) := by
    intro S1 hn
    unfold saveT
    by_cases h1 : (appendV S1 (shK s) (encF xs)).1 ≠ 0
    · rw [if_pos h1]
      exact ⟨fun h => absurd h h1, fun _ => hA _ _⟩
    · rw [if_neg h1]
      have hz : at_ (appendV S1 (shK s) (encF xs)).2.L (shK s).data.toList = some (encF xs, 0) := by
        unfold appendV at h1 ⊢
        split
        · rename_i h; rw [if_pos h] at h1; exact absurd h h1
        · split
          · rename_i h0 h; rw [if_neg h0, if_pos h] at h1; simp at h1
          · rw [at_put_same, hn]; rfl
      generalize hS2 : (appendV S1 (shK s) (encF xs)).2 = S2 at hz
      have hA2 : at_ S2.L s.data.toList = at_ S1.L s.data.toList := by rw [← hS2]; exact hA _ _
      by_cases h2 : (oneV syncX S2 (shK s)).1 ≠ 0
      · rw [if_pos h2]
        exact ⟨fun h => absurd h h2, fun _ => by rw [hS, hA2]⟩
      · rw [if_neg h2]
        have hz3 : at_ (oneV syncX S2 (shK s)).2.L (shK s).data.toList = some (encF xs, (encF xs).length) := by
          unfold oneV at h2 ⊢
          split
          · rename_i h; rw [if_pos h] at h2; exact absurd h h2
          · rw [hz]
            exact at_put_same
        have hS3 := hS S2
        generalize (oneV syncX S2 (shK s)).2 = S3 at hz3 hS3
        unfold renameV
        split
        · rename_i h
          exact ⟨fun h0 => absurd h0 h, fun _ => by rw [hS3, hA2]⟩
        · rw [hz3]
          refine ⟨fun _ => at_put_same, fun h => absurd rfl h⟩
  unfold saveV
  split
  · exact ⟨fun h => by simp at h, fun _ => rfl⟩
  · split
    · exact ⟨fun h => by simp at h, fun _ => rfl⟩
    · split
      · rename_i hs0
        split
        · rename_i h
          exact ⟨fun h0 => absurd h0 h, fun _ => hR S⟩
        · rename_i h
          have hn : at_ (oneV removeX S (shK s)).2.L (shK s).data.toList = none := by
            unfold oneV at h ⊢
            split
            · rename_i h1; rw [if_pos h1] at h; exact absurd h1 h
            · split
              · rename_i h2; exact h2
              · exact at_del_same
          have := hT _ hn
          rw [hR] at this
          exact this
      · rename_i hs0
        exact hT S (by cases h : at_ S.L (shK s).data.toList with | none => rfl | some x => rw [h] at hs0; simp at hs0)
/-- A crash leaves what lasts whole. -/
theorem crash_at (draw : Int) (S : DV) (k : Key) : at_ (crashV draw S).L k = (at_ S.L k).map (crashX draw) := at_map _ S.L k
theorem crash_full (draw : Int) (l : List Int) : crashX draw (l, l.length) = (l, l.length) := by
  have h : stays draw (l, l.length) = l.length := by unfold stays; simp [Int.emod_one]
  unfold crashX
  rw [h, List.take_length]
theorem load_of {S : DV} {s : ByteArray} {xs : List Int} {n : Nat} (h : at_ S.L s.data.toList = some (encF xs, n)) (hx : xs.length ≤ 1048576) : loadV S s = (xs, 0) := by
  unfold loadV
  rw [h]
  simp only [oneF_enc xs hx]
  rfl
theorem load_none {S : DV} {s : ByteArray} (h : at_ S.L s.data.toList = none) : loadV S s = ([], 7) := by
  unfold loadV
  rw [h]
end Go.Proofs.Ytdepjlnljkbfjaa.Hand

/- haystacklaw11.known; Save of one row. -/
namespace Go.Proofs.Ytdepjlnljkbfjaa.Hand
open Go.RowKit Go.Proofs.Ytdepjlnljkbfjaa.PA Go.Proofs.Ytdepjlnljkbfjaa.MapP Go.Proofs.YtdepjlnljkbfjaaW.PrintWords Go.Proofs.YtdepjlnljkbfjaaW.PrintLast Go.Proofs.YtdepjlnljkbfjaaW.PrintMore
attribute [local go_sem] max2_int min2_int
set_option linter.unusedVariables false
set_option linter.unusedSimpArgs false
set_option linter.unusedSectionVars false
theorem same_refl11_0 (l : List Int) (hl : l.length ≤ 4611686018427387904) : ∀ (d i : Nat), i + d = l.length → haystacklaw11_same.l0 (d + 1) l l i = some true
  | 0, i, h => by
    unfold haystacklaw11_same.l0
    rw [if_neg (by omega)]
  | d + 1, i, h => by
    unfold haystacklaw11_same.l0
    have e : wrap64 ((i : Int) + 1) = ((i + 1 : Nat) : Int) := by unfold wrap64; omega
    rw [if_pos (by omega), if_pos (by omega), if_pos (by omega), if_pos rfl, e]
    exact same_refl11_0 l hl d (i + 1) (by omega)
theorem same_refl11 (l : List Int) (hl : l.length ≤ 4611686018427387904) : haystacklaw11_same.f (l.length + 1) l l = some true := by
  unfold haystacklaw11_same.f
  rw [if_pos rfl]
  exact same_refl11_0 l hl l.length 0 (by omega)
theorem same11 (A B : Option Addr) (c d : Nat) (l : List Int) (w : World) (hA : Kd.C (Kd.int .u8) w A l.length l) (hc : l.length ≤ c) (hB : Kd.C (Kd.int .u8) w B l.length l) (hd : l.length ≤ d) (hl : l.length ≤ 4611686018427387904) :
    Calls Try.prog 14 #[.slice A l.length c, .slice B l.length d] w fun e w' => e = .returned (.bool true) ∧ Below w.heap.size w w' := by
  refine (haystacklaw11_same.calls (l.length + 1) A c l B d l true w hA hc hB hd (same_refl11 l hl)).mono ?_
  rintro e w' ⟨rfl, q, rfl⟩
  exact ⟨rfl, bdrewN (Below.refl _ _) q⟩
section
variable {w w0 : World} {d : Nat} {ok : Nat → Prop} {S : DV}
theorem save1 (h : DiskUp w w0 ok d S) (s : ByteArray) (hsz : s.size ≤ maxLen) (A : Option Addr) (c : Nat) (xs : List Int) (hC : Kd.C (Kd.int .u8) w A xs.length xs) (hc : xs.length ≤ c) (hb : Bytes xs) (ht : xs.length ≤ 140737488355328) :
    Calls Try.prog 11 #[.pointer (some ⟨d, 0, none⟩), .string s, .slice (some ⟨w.heap.size, 0, none⟩) 1 1] (w.alloc (.cells #[.slice A xs.length c] 23)) fun e w' => e = .returned (.int .i64 (saveV S s xs).1) ∧ DiskUp w' w0 (fun k => ok k ∨ w.heap.size ≤ k) d (saveV S s xs).2 ∧ Kept w w' ok := by
  have h1 := save_up (h.alloc (.cells #[.slice A xs.length c] 23)) s hsz (some ⟨w.heap.size, 0, none⟩) 1 [xs] (rows_one hC hc 23) (by simp) (fun l hl => by rw [List.mem_singleton.1 hl]; exact hb) (by simp) (by simpa using ht)
  have e : [xs].flatten = xs := by simp
  rw [e] at h1
  refine h1.mono ?_
  rintro e w' ⟨rfl, h2, h3⟩
  refine ⟨rfl, h2.mono (fun b hb => hb.imp_right (fun h => ?_)), ((Kept.refl w ok).alloc _).then_ h3 (fun b hb => .inl hb)⟩
  simp at h
  omega
end
def SK (xs : List Int) : DV := ⟨1000, false, 0, [([97], (encF xs, (encF xs).length))]⟩
theorem kk1 : saveV ⟨1000, false, 0, []⟩ nA [49, 50, 51] = (0, SK [49, 50, 51]) := by
  rw [save_good 1000 0 [] nA [49, 50, 51] (by decide) (by decide) (by simp) rfl (by simp [total]) (by simp)]
  rfl
theorem kk2 (xs : List Int) : crashV 0 (SK xs) = SK xs := by
  unfold crashV SK
  simp only [List.map_cons, List.map_nil, crash_full]
theorem kk3 : loadV (SK [49, 50, 51]) nA = ([49, 50, 51], 0) := load_of (n := (encF [49, 50, 51]).length) (by simp [SK, at_cons]) (by simp)
theorem kk4 : ∀ x, at_ (SK [49, 50, 51]).L nA.data.toList = some x → Bytes x.1 := by
  intro x hx
  simp only [SK, at_cons] at hx
  simp at hx
  subst hx
  exact encF_bytes (by intro z hz; simp at hz; omega)
set_option maxRecDepth 100000 in
set_option maxHeartbeats 4000000 in
theorem known11 (w : World) : Calls Try.prog 8 #[] w fun e w' => e = .returned (.bool true) ∧ Below w.heap.size w w' := by
  have kc := fun (w : World) (C : Array Value) (n c : Nat) => Lib.run_convert_bytes_const (P := Try.prog) w 23 5 C n c Try.underlying23 Try.underlying5
  have kc2 := fun (w : World) (o : Obj) (C : Array Value) (n c : Nat) => Go.Joins.run_convert_bytes_const_at (P := Try.prog) (w.alloc o) 23 5 C n c (w.heap.size + 1) (by simp) Try.underlying23 Try.underlying5
  go_enter Try.func8, Try.ntmps8
  go_wp2_with fail
  refine (new_calls 1000 w (by decide) (by decide)).mono ?_
  rintro e w1 ⟨rfl, h1⟩
  have hC1 := Kd.C_alloc (bytes_new w1 [49, 50] (by simp) (2, 3)) (.cells (bts [51]).toArray 5 (1, 2))
  have hC2 := bytes_new (w1.alloc (.cells (bts [49, 50]).toArray 5 (2, 3))) [51] (by simp) (1, 2)
  rw [show (w1.alloc (.cells (bts [49, 50]).toArray 5 (2, 3))).heap.size = w1.heap.size + 1 from by simp] at hC2
  have hR := rows_two (c := 2) (d := 1) hC1 (by simp) hC2 (by simp) 23
  rw [show ((w1.alloc (.cells (bts [49, 50]).toArray 5 (2, 3))).alloc (.cells (bts [51]).toArray 5 (1, 2))).heap.size = w1.heap.size + 2 from by simp] at hR
  have k2 := save_up (((h1.alloc (.cells (bts [49, 50]).toArray 5 (2, 3))).alloc (.cells (bts [51]).toArray 5 (1, 2))).alloc (.cells #[.slice (some ⟨w1.heap.size, 0, none⟩) [49, 50].length 2, .slice (some ⟨w1.heap.size + 1, 0, none⟩) [51].length 1] 23)) nA (by unfold maxLen; decide) (some ⟨w1.heap.size + 2, 0, none⟩) 2 [[49, 50], [51]] hR (by simp) (by intro l hl; simp at hl; rcases hl with rfl | rfl <;> (intro z hz; simp at hz; omega)) (by simp) (by simp)
  rw [show ([[49, 50], [51]] : List (List Int)).flatten = [49, 50, 51] from rfl, kk1] at k2
  have K2 := Aside0.mk k2
  clear k2 hC1 hC2 hR h1
  go_wp2_with fail
  refine K2.out.mono ?_
  rintro e w2 ⟨rfl, h2⟩
  have k3 := crash_up h2.up 0
  rw [kk2] at k3
  have K3 := Aside0.mk k3
  clear k3 h2 K2
  go_wp2_with fail
  refine K3.out.mono ?_
  rintro e w3 ⟨rfl, h3, _⟩
  have k4 := load_up h3 nA (by unfold maxLen; decide) kk4
  rw [kk3] at k4
  have K4 := Aside0.mk k4
  have HB3 := Aside0.mk h3.below
  clear k4 h3 K3
  go_wp2_with fail
  refine K4.out.mono ?_
  rintro e w4 ⟨A4, c4, rfl, hc4, hC4, hb4⟩
  have k5 := same11 A4 (some ⟨w4.heap.size, 0, none⟩) c4 3 [49, 50, 51] (w4.alloc (.cells (bts [49, 50, 51]).toArray 5 (3, 4))) (Kd.C_alloc hC4 _) hc4 (bytes_new w4 _ (by simp) _) (by simp) (by simp)
  have K5 := Aside0.mk k5
  have HB4 := Aside0.mk (HB3.out.trans (hb4.mono HB3.out.size))
  clear k5 hC4 hb4 K4
  go_wp2_with fail
  refine K5.out.mono ?_
  rintro e w5 ⟨rfl, hb5⟩
  go_wp2
  go_ret
  exact ⟨rfl, (HB4.out.alloc HB4.out.size _).trans (hb5.mono (by have := HB4.out.size; simp; omega))⟩
end Go.Proofs.Ytdepjlnljkbfjaa.Hand
