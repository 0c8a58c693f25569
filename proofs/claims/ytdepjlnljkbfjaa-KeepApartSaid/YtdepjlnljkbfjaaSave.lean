/- keep.Save, keep.Load: what they do to a disk. -/
import Derived.Test.YtdepjlnljkbfjaaDecode
import Derived.Test.YtdepjlnljkbfjaaNames
namespace Go.Proofs.Ytdepjlnljkbfjaa.Hand
open Go.RowKit Go.Proofs.Ytdepjlnljkbfjaa.PA Go.Proofs.Ytdepjlnljkbfjaa.MapP Go.Proofs.YtdepjlnljkbfjaaW.PrintWords Go.Proofs.YtdepjlnljkbfjaaW.PrintLast Go.Proofs.YtdepjlnljkbfjaaW.PrintMore
attribute [local go_sem] max2_int min2_int
set_option linter.unusedVariables false
set_option linter.unusedSimpArgs false
set_option linter.unusedSectionVars false
section
variable {w w0 w1 w2 : World} {d : Nat} {ok : Nat → Prop} {S S1 S2 : DV}
/-- What a call has made of a disk, as its caller sees it. -/
structure Went (w w1 w0 : World) (ok : Nat → Prop) (d : Nat) (S1 : DV) : Prop where
  up : DiskUp w1 w0 (fun k => ok k ∨ w.heap.size ≤ k) d S1
  kept : Kept w w1 ok
theorem Went.refl (h : DiskUp w w0 ok d S) : Went w w w0 ok d S := ⟨h.mono (fun _ h => .inl h), Kept.refl _ _⟩
theorem Went.step (g : Went w w1 w0 ok d S1) (hd : DiskUp w2 w0 (fun k => (ok k ∨ w.heap.size ≤ k) ∨ w1.heap.size ≤ k) d S2) (hk : Kept w1 w2 (fun k => ok k ∨ w.heap.size ≤ k)) : Went w w2 w0 ok d S2 :=
  ⟨hd.mono (fun k h => h.elim id (fun h => .inr (Nat.le_trans g.kept.1 h))), g.kept.then_ hk (fun _ h => h)⟩
theorem Went.quiet (g : Went w w1 w0 ok d S1) (hb : Below w1.heap.size w1 w2) : Went w w2 w0 ok d S1 := ⟨g.up.quiet hb, g.kept.below hb⟩
/-- The same, by what is new since some block on. -/
structure WentN (w w1 w0 : World) (ok : Nat → Prop) (N d : Nat) (S1 : DV) : Prop where
  up : DiskUp w1 w0 (fun k => ok k ∨ N ≤ k) d S1
  kept : Kept w w1 ok
  le : w.heap.size ≤ N
  lt : N ≤ w1.heap.size
theorem WentN.start (h : DiskUp w w0 ok d S) (hb : Below w.heap.size w w2) : WentN w w2 w0 ok w2.heap.size d S := ⟨(h.quiet hb).mono (fun _ h => .inl h), (Kept.refl _ _).below hb, hb.size, Nat.le_refl _⟩
theorem WentN.step {N : Nat} (g : WentN w w1 w0 ok N d S1) (hd : DiskUp w2 w0 (fun k => (ok k ∨ N ≤ k) ∨ w1.heap.size ≤ k) d S2) (hk : Kept w1 w2 (fun k => ok k ∨ N ≤ k)) : WentN w w2 w0 ok N d S2 :=
  ⟨hd.mono (fun k h => h.elim id (fun h => .inr (Nat.le_trans g.lt h))), g.kept.then_ hk (fun _ h => h.imp_right (Nat.le_trans g.le)), g.le, Nat.le_trans g.lt hk.1⟩
theorem WentN.quiet {N : Nat} (g : WentN w w1 w0 ok N d S1) (hb : Below w1.heap.size w1 w2) : WentN w w2 w0 ok N d S1 := ⟨g.up.quiet hb, g.kept.below hb, g.le, Nat.le_trans g.lt hb.size⟩
theorem WentN.fin {N : Nat} {ok0 : Nat → Prop} (g : WentN w w1 w0 ok N d S1) (h : ∀ k, ok k → ok0 k) : Went w w1 w0 ok0 d S1 := ⟨g.up.mono (fun k hk => hk.imp (h k) (Nat.le_trans g.le)), g.kept.mono h⟩
theorem Fresh.went {N : Nat} {A : Option Addr} {xs : List Int} (h : Fresh w w1 A xs) (hk : Kept w1 w2 (fun k => ok k ∨ N ≤ k)) (hok : ∀ k, ok k → k < w.heap.size) (hN : w1.heap.size ≤ N) : Kd.C (Kd.int .u8) w2 A xs.length xs :=
  h w2 (fun k h1 h2 => hk.2 k h2 (fun h3 => by rcases h3 with h3 | h3; exact absurd (hok k h3) (by omega); omega))
/-- Remove of one file. -/
theorem remove1 (h : DiskUp w w0 ok d S) (s : ByteArray) (hsz : s.size ≤ maxLen) :
    Calls Try.prog 38 #[.pointer (some ⟨d, 0, none⟩), .slice (some ⟨w.heap.size, 0, none⟩) 1 1] (w.alloc (.cells #[.string s] 9)) fun e w' => e = .returned (.int .i64 (oneV removeX S s).1) ∧ DiskUp w' w0 (fun k => ok k ∨ w.heap.size ≤ k) d (oneV removeX S s).2 ∧ Kept w w' ok := by
  have hb := h.bound.alloc (.cells #[.string s] 9)
  have h1 := remove_up hb (fun k hk => by simp; omega) ⟨w.heap.size, 0, none⟩ [s] 1 (by simp) (fun W' hK j s' hj => by
    match j with
    | 0 =>
      cases hj
      refine ⟨?_, hsz⟩
      have h2 := (hK.2 w.heap.size (by simp) (fun h => by have := h.2.2; omega)).trans (heap_alloc_new w (.cells #[.string s] 9))
      rw [Addr.add_lit]
      rw [blk_cell h2]; rfl
    | j + 1 => simp at hj)
  have e : eachV removeX S [s] = oneV removeX S s := by
    unfold eachV
    split
    · rename_i h0
      unfold eachV
      exact Prod.ext h0.symm rfl
    · rfl
  rw [e] at h1
  refine h1.mono ?_
  rintro e w' ⟨rfl, h2, h3⟩
  refine ⟨rfl, h2.mono (fun b hb => ?_), ((Kept.refl w ok).alloc _).then_ h3 (fun b hb => .inl hb.1)⟩
  rcases hb with h | h
  · exact .inl h.1
  · right; simp at h; omega
theorem there_up (h : DiskUp w w0 ok d S) (s : ByteArray) (hsz : s.size ≤ maxLen) :
    Calls Try.prog 37 #[.pointer (some ⟨d, 0, none⟩), .string s] w fun e w' => e = .returned (.bool (at_ S.L s.data.toList).isSome) ∧ Below w.heap.size w w' := by
  have k := read_up h s hsz
  have K := Aside0.mk k
  have HE : Aside0 ((at_ S.L s.data.toList).isSome = ((readV S s).2 == 0)) := ⟨by unfold readV; cases at_ S.L s.data.toList <;> rfl⟩
  generalize readV S s = r at K HE
  obtain ⟨p, e⟩ := r
  clear k h
  go_enter Try.func37, Try.ntmps37
  go_wp2_with fail
  refine K.out.mono ?_
  rintro e w1 ⟨A, c, rfl, _, _, hb⟩
  go_wp2
  go_ret
  rw [HE.out]
  exact ⟨rfl, hb⟩
end
/-- The name of a shadow. -/
def shK (s : ByteArray) : ByteArray := s ++ ⟨#[126]⟩
theorem shK_size (s : ByteArray) : (shK s).size = s.size + 1 := by unfold shK; simp [ByteArray.size_append]; rfl
def saveT (S : DV) (t s : ByteArray) (xs : List Int) : Int × DV :=
  if (appendV S t (encF xs)).1 ≠ 0 then appendV S t (encF xs)
  else if (oneV syncX (appendV S t (encF xs)).2 t).1 ≠ 0 then oneV syncX (appendV S t (encF xs)).2 t
  else renameV (oneV syncX (appendV S t (encF xs)).2 t).2 t s
def saveV (S : DV) (s : ByteArray) (xs : List Int) : Int × DV :=
  if s.size < 1 ∨ 60 < s.size then (1, S)
  else if 1048576 < xs.length then (5, S)
  else if (at_ S.L (shK s).data.toList).isSome = true then (if (oneV removeX S (shK s)).1 ≠ 0 then oneV removeX S (shK s) else saveT (oneV removeX S (shK s)).2 (shK s) s xs)
  else saveT S (shK s) s xs
section
variable {w w0 : World} {d : Nat} {ok : Nat → Prop} {S : DV}
set_option maxRecDepth 100000 in
set_option maxHeartbeats 4000000 in
theorem save_up (h : DiskUp w w0 ok d S) (s : ByteArray) (hsz : s.size ≤ maxLen) (A : Option Addr) (c : Nat) (ls : List (List Int)) (hC : Kd.C (Kd.slice 5 (Kd.int .u8)) w A ls.length ls) (hc : ls.length ≤ c) (hb : ∀ l ∈ ls, Bytes l) (hn : ls.length ≤ 140737488355328) (ht : ls.flatten.length ≤ 140737488355328) :
    Calls Try.prog 11 #[.pointer (some ⟨d, 0, none⟩), .string s, .slice A ls.length c] w fun e w' => e = .returned (.int .i64 (saveV S s ls.flatten).1) ∧ Went w w' w0 ok d (saveV S s ls.flatten).2 := by
  obtain ⟨res, hres⟩ : ∃ res, saveV S s ls.flatten = res := ⟨_, rfl⟩
  rw [hres]
  have HRES := Aside0.mk hres
  have HD := Aside0.mk h
  have k1 := enc_calls A c ls w hC hc hb hn ht
  have HFB := Aside0.mk (flat_bytes hb)
  generalize ls.flatten = xs at k1 HRES HFB hres ht
  have K1 := Aside0.mk k1
  clear k1 hres h hC hb
  by_cases hs1 : s.size < 1
  · have HE : Aside0 ((1, S) = res) := ⟨by rw [← HRES.out]; unfold saveV; rw [if_pos (.inl hs1)]⟩
    obtain rfl := HE.out
    go_enter Try.func11, Try.ntmps11
    go_wp2
    go_ret
    exact ⟨rfl, Went.refl HD.out⟩
  · by_cases hs2 : 60 < s.size
    · have HE : Aside0 ((1, S) = res) := ⟨by rw [← HRES.out]; unfold saveV; rw [if_pos (.inr hs2)]⟩
      obtain rfl := HE.out
      go_enter Try.func11, Try.ntmps11
      go_wp2
      go_ret
      exact ⟨rfl, Went.refl HD.out⟩
    · by_cases hbig : 1048576 < xs.length
      · have HE : Aside0 ((5, S) = res) := ⟨by rw [← HRES.out]; unfold saveV; rw [if_neg (by omega), if_pos hbig]⟩
        obtain rfl := HE.out
        have he : encV xs = ([], 5) := by unfold encV; rw [if_pos hbig]
        rw [he] at K1
        go_enter Try.func11, Try.ntmps11
        go_wp2_with fail
        refine K1.out.mono ?_
        rintro e w1 ⟨A1, c1, rfl, hc1, hC1, hb1, _⟩
        go_wp2
        go_ret
        exact ⟨rfl, (Went.refl HD.out).quiet hb1⟩
      · have he : encV xs = (encF xs, 0) := by unfold encV; rw [if_neg hbig]
        rw [he] at K1
        obtain ⟨t, htt⟩ : ∃ t, s ++ (⟨#[126]⟩ : ByteArray) = t := ⟨_, rfl⟩
        have HSH : Aside0 (shK s = t) := ⟨htt⟩
        have hts : t.size ≤ maxLen := by
          have := shK_size s
          rw [HSH.out] at this
          unfold maxLen
          omega
        have hel : (encF xs).length ≤ 1048588 := by rw [encF_len]; omega
        have HEB := Aside0.mk (encF_bytes HFB.out)
        have HR : Aside0 ((if (at_ S.L t.data.toList).isSome = true then (if (oneV removeX S t).1 ≠ 0 then oneV removeX S t else saveT (oneV removeX S t).2 t s xs) else saveT S t s xs) = res) := ⟨by
          rw [← HRES.out]
          unfold saveV
          rw [if_neg (show ¬ (s.size < 1 ∨ 60 < s.size) from by omega), if_neg hbig, HSH.out]⟩
        have HT : ∀ S1, saveT S1 t s xs = if (appendV S1 t (encF xs)).1 ≠ 0 then appendV S1 t (encF xs) else if (oneV syncX (appendV S1 t (encF xs)).2 t).1 ≠ 0 then oneV syncX (appendV S1 t (encF xs)).2 t else renameV (oneV syncX (appendV S1 t (encF xs)).2 t).2 t s := fun _ => rfl
        have HT := Aside0.mk HT
        have HDB := Aside0.mk HD.out.bound
        obtain ⟨okb, hokb⟩ : ∃ okb : Nat → Prop, okb = fun k => ok k ∧ w0.heap.size ≤ k ∧ k < w.heap.size := ⟨_, rfl⟩
        rw [← hokb] at HDB
        have HOK : Aside0 (∀ k, okb k → ok k) := ⟨by rw [hokb]; exact fun _ h => h.1⟩
        have HLT : Aside0 (∀ k, okb k → k < w.heap.size) := ⟨by rw [hokb]; exact fun _ h => h.2.2⟩
        clear hokb
        generalize encF xs = ys at K1 hel HEB HT
        clear he
        go_enter Try.func11, Try.ntmps11
        go_wp2_with fail
        refine K1.out.mono ?_
        rintro e w1 ⟨A1, c1, rfl, hc1, hC1, hb1, hF1⟩
        have HB1 := Aside0.mk hb1
        have HF1 := Aside0.mk hF1
        clear hC1 hF1 hb1 K1
        go_wp2_with fail
        refine (there_up (HDB.out.quiet HB1.out) t hts).mono ?_
        rintro e w2 ⟨rfl, hb2⟩
        have G2 := Aside0.mk (WentN.start HDB.out (HB1.out.trans (hb2.mono HB1.out.size)))
        have HF2 : Aside0 (Fresh w w2 A1 ys) := ⟨fun W' hW => HF1.out W' (fun k h1 h2 => (hW k h1 (Nat.lt_of_lt_of_le h2 hb2.size)).trans (hb2.block k h2))⟩
        clear hb2 HB1 HF1
        obtain ⟨q, hq⟩ : ∃ q, q = (at_ S.L t.data.toList).isSome := ⟨_, rfl⟩
        rw [← hq] at HR ⊢
        clear hq
        have HRM : ∃ r, r = oneV removeX S t := ⟨_, rfl⟩
        obtain ⟨⟨e3, S3⟩, hr3⟩ := HRM
        have k3 := remove1 G2.out.up t hts
        rw [← hr3] at k3 HR
        have K3 := Aside0.mk k3
        clear k3 hr3
        cases q
        case' true =>
          go_wp2_with fail
          refine K3.out.mono ?_
          rintro e w3 ⟨rfl, h3, hk3⟩
          have G3 := Aside0.mk (G2.out.step h3 hk3)
          by_cases he3 : e3 = 0
          case' neg =>
            have HE : Aside0 ((e3, S3) = res) := ⟨by rw [← HR.out, if_pos trivial, if_pos he3]⟩
            obtain rfl := HE.out
            have hnb : (e3 != 0) = true := by simpa using he3
            clear he3 h3 hk3
            go_wp2
            go_ret
            exact ⟨rfl, G3.out.fin HOK.out⟩
          case' pos =>
            subst he3
            have HR1 : Aside0 (saveT S3 t s xs = res) := ⟨by rw [← HR.out, if_pos trivial, if_neg (by simp)]⟩
            have TT : ∃ N S', Aside0 (WentN w w3 w0 okb N d S') ∧ Aside0 (saveT S' t s xs = res) ∧ Aside0 (Kd.C (Kd.int .u8) w3 A1 ys.length ys) := ⟨_, _, G3, HR1, ⟨HF2.out.went hk3 HLT.out (Nat.le_refl _)⟩⟩
            clear G3 HR1 h3 hk3 K3 HR G2 HF2 HRES
        case' false =>
          have HR1 : Aside0 (saveT S t s xs = res) := ⟨by rw [← HR.out, if_neg (by simp)]⟩
          have TT : ∃ N S', Aside0 (WentN w w2 w0 okb N d S') ∧ Aside0 (saveT S' t s xs = res) ∧ Aside0 (Kd.C (Kd.int .u8) w2 A1 ys.length ys) := ⟨_, _, G2, HR1, ⟨HF2.out w2 (fun _ _ _ => rfl)⟩⟩
          clear HR1 K3 HR G2 HF2 HRES
        all_goals
          obtain ⟨N, S4, G4, HR4, HC4⟩ := TT
          rw [HT.out] at HR4
          have k5 := append1 G4.out.up t hts A1 c1 ys HC4.out hc1 HEB.out (by omega)
          obtain ⟨⟨e5, S5⟩, hr5⟩ : ∃ r, appendV S4 t ys = r := ⟨_, rfl⟩
          rw [hr5] at k5 HR4
          have K5 := Aside0.mk k5
          clear k5 hr5
          go_wp2_with fail
          refine K5.out.mono ?_
          rintro e w5 ⟨rfl, h5, hk5⟩
          have G5 := Aside0.mk (G4.out.step h5 hk5)
          clear h5 hk5 K5 HC4 G4
          by_cases he5 : e5 = 0
          case' neg =>
            have HE : Aside0 ((e5, S5) = res) := ⟨by rw [← HR4.out, if_pos he5]⟩
            obtain rfl := HE.out
            have hnb : (e5 != 0) = true := by simpa using he5
            clear he5
            go_wp2
            go_ret
            exact ⟨rfl, G5.out.fin HOK.out⟩
          case' pos =>
            subst he5
            rw [if_neg (by simp)] at HR4
            have k6 := sync1 G5.out.up t hts
            obtain ⟨⟨e6, S6⟩, hr6⟩ : ∃ r, oneV syncX S5 t = r := ⟨_, rfl⟩
            rw [hr6] at k6 HR4
            have K6 := Aside0.mk k6
            clear k6 hr6
            go_wp2_with fail
            refine K6.out.mono ?_
            rintro e w6 ⟨rfl, h6, hk6⟩
            have G6 := Aside0.mk (G5.out.step h6 hk6)
            clear h6 hk6 K6 G5
            by_cases he6 : e6 = 0
            case' neg =>
              have HE : Aside0 ((e6, S6) = res) := ⟨by rw [← HR4.out, if_pos he6]⟩
              obtain rfl := HE.out
              have hnb : (e6 != 0) = true := by simpa using he6
              clear he6
              go_wp2
              go_ret
              exact ⟨rfl, G6.out.fin HOK.out⟩
            case' pos =>
              subst he6
              rw [if_neg (by simp)] at HR4
              have k7 := rename_up G6.out.up t s hts hsz
              rw [HR4.out] at k7
              have K7 := Aside0.mk k7
              clear k7
              go_wp2_with fail
              refine K7.out.mono ?_
              rintro e w7 ⟨rfl, h7, hk7⟩
              have G7 := Aside0.mk (G6.out.step h7 hk7)
              clear h7 hk7 K7 G6
              go_wp2
              go_ret
              exact ⟨rfl, G7.out.fin HOK.out⟩
theorem save_nil (s : ByteArray) (v : Value) (w : World) : Calls Try.prog 11 #[.pointer none, .string s, v] w fun e w' => e = .returned (.int .i64 1) ∧ w' = w := by
  go_enter Try.func11, Try.ntmps11
  go_wp2
  go_ret
  exact ⟨rfl, rfl⟩
theorem load_nil (s : ByteArray) (w : World) : Calls Try.prog 13 #[.pointer none, .string s] w fun e w' => e = .returned (.tuple #[.slice none 0 0, .int .i64 1]) ∧ w' = w := by
  go_enter Try.func13, Try.ntmps13
  go_wp2
  go_ret2
  exact ⟨rfl, rfl⟩
/-- What Load answers. -/
def loadV (S : DV) (s : ByteArray) : List Int × Int := match at_ S.L s.data.toList with
  | none => ([], 7)
  | some x => if (oneF x.1).2 ≠ 0 then ([], 3) else ((oneF x.1).1, 0)
set_option maxRecDepth 100000 in
set_option maxHeartbeats 4000000 in
theorem load_up (h : DiskUp w w0 ok d S) (s : ByteArray) (hsz : s.size ≤ maxLen) (hby : ∀ x, at_ S.L s.data.toList = some x → Bytes x.1) :
    Calls Try.prog 13 #[.pointer (some ⟨d, 0, none⟩), .string s] w fun e w' => ∃ A c, e = .returned (.tuple #[.slice A (loadV S s).1.length c, .int .i64 (loadV S s).2]) ∧ (loadV S s).1.length ≤ c ∧ Kd.C (Kd.int .u8) w' A (loadV S s).1.length (loadV S s).1 ∧ Below w.heap.size w w' := by
  have k1 := read_up h s hsz
  have hus := h.fine.used
  have hr1 := h.fine.r1
  have K1 := Aside0.mk k1
  cases hat : at_ S.L s.data.toList with
  | none =>
    have hr : readV S s = ([], 7) := by unfold readV; rw [hat]
    have hl : loadV S s = ([], 7) := by unfold loadV; rw [hat]
    rw [hr] at K1
    have HL := Aside0.mk hl
    clear hr hl k1 h hby hat
    go_enter Try.func13, Try.ntmps13
    go_wp2_with fail
    refine K1.out.mono ?_
    rintro e w1 ⟨A, c, rfl, hR, _, hb⟩
    go_wp2
    go_ret2
    rw [HL.out]
    exact ⟨none, 0, rfl, by simp, ⟨rfl, by simp, fun h => absurd h (by simp)⟩, hb⟩
  | some x =>
    have hr : readV S s = (x.1, 0) := by unfold readV; rw [hat]
    have hl : loadV S s = if (oneF x.1).2 ≠ 0 then ([], 3) else ((oneF x.1).1, 0) := by unfold loadV; rw [hat]
    have hbx := hby x hat
    have hxl : x.1.length ≤ 1073741824 := by have := total_at hat; omega
    obtain ⟨l, n⟩ := x
    rw [hr] at K1
    simp only at hl hbx hxl
    obtain ⟨⟨p, e1⟩, hp⟩ : ∃ r, oneF l = r := ⟨_, rfl⟩
    have HO : Aside0 (∀ A c W, Kd.C (Kd.int .u8) W A l.length l → l.length ≤ c → Calls Try.prog 41 #[.slice A l.length c] W fun e w' => ∃ A' c', e = .returned (.tuple #[.slice A' p.length c', .int .i64 e1]) ∧ p.length ≤ c' ∧ Kd.C (Kd.int .u8) w' A' p.length p ∧ Below W.heap.size W w') := ⟨fun A c W hC hc => by
      have := one_calls A c l W hC hc hbx (by omega)
      rw [hp] at this
      exact this⟩
    rw [hp] at hl
    have HL := Aside0.mk hl
    clear hr hl k1 h hby hat hp hbx
    go_enter Try.func13, Try.ntmps13
    go_wp2_with fail
    refine K1.out.mono ?_
    rintro e w1 ⟨A, c, rfl, hR, _, hb⟩
    have hr2 := Kd.R_reads' hR
    have K2 := Aside0.mk (HO.out A c w1 hr2.2.2 hr2.2.1)
    have HB := Aside0.mk hb
    clear hR hr2 hb K1
    go_wp2_with fail
    refine K2.out.mono ?_
    rintro e w2 ⟨A2, c2, rfl, hc2, hC2, hb2⟩
    by_cases he : e1 = 0
    · subst he
      rw [if_neg (by simp)] at HL
      go_wp2
      go_ret2
      rw [HL.out]
      exact ⟨A2, c2, rfl, hc2, hC2, HB.out.trans (hb2.mono HB.out.size)⟩
    · rw [if_pos he] at HL
      have hnb : (e1 != 0) = true := by simpa using he
      clear he
      go_wp2
      go_ret2
      rw [HL.out]
      exact ⟨none, 0, rfl, by simp, ⟨rfl, by simp, fun h => absurd h (by simp)⟩, HB.out.trans (hb2.mono HB.out.size)⟩
end
end Go.Proofs.Ytdepjlnljkbfjaa.Hand
