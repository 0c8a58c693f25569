/- The reference's disk: Remove, Crash. -/
import Derived.Test.YtdepjlnljkbfjaaRefE
import Derived.Test.YtdepjlnljkbfjaaRefH
namespace Go.Proofs.Ytdepjlnljkbfjaa.Hand
open Go.RowKit Go.Proofs.Ytdepjlnljkbfjaa.PA Go.Proofs.Ytdepjlnljkbfjaa.MapP Go.Proofs.YtdepjlnljkbfjaaW.PrintWords Go.Proofs.YtdepjlnljkbfjaaW.PrintLast Go.Proofs.YtdepjlnljkbfjaaW.PrintMore
attribute [local go_sem] max2_int min2_int
set_option linter.unusedVariables false
set_option linter.unusedSimpArgs false
set_option linter.unusedSectionVars false
theorem w64 (z : Int) (h0 : -9223372036854775808 ≤ z) (h1 : z ≤ 9223372036854775807) : wrap64 z = z := by unfold wrap64; omega
theorem crash_arith (dr : Int) (m la : Nat) (hdr : 0 ≤ dr) (hl : la ≤ m) (hm : m ≤ 1073741824) : ∃ u q st : Nat, (m : Int) - la = u ∧ dr.tmod ((u : Int) + 1) = q ∧ (la : Int) + q = st ∧ st ≤ m ∧ st = la + (dr % ((m - la + 1 : Nat) : Int)).toNat ∧ ¬ ((u : Int) + 1 = 0) ∧ Aside0 (wrap64 (u : Int) = (u : Int) ∧ wrap64 ((u : Int) + 1) = (u : Int) + 1 ∧ wrap64 (st : Int) = (st : Int)) := by
  have hp : (0 : Int) < ((m - la + 1 : Nat) : Int) := by omega
  have h0 := Int.emod_nonneg dr (Int.ne_of_gt hp)
  have h1 := Int.emod_lt_of_pos dr hp
  have e : ((m - la : Nat) : Int) + 1 = ((m - la + 1 : Nat) : Int) := by omega
  have h2 := Int.toNat_of_nonneg h0
  have hu : (m : Int) - la = ((m - la : Nat) : Int) := by omega
  have h3 : dr.tmod (((m - la : Nat) : Int) + 1) = ((dr % ((m - la + 1 : Nat) : Int)).toNat : Int) := by rw [e, Int.tmod_eq_emod_of_nonneg hdr, h2]
  generalize dr % ((m - la + 1 : Nat) : Int) = z at *
  have h4 : la + z.toNat ≤ m := by omega
  have h5 : (la : Int) + (z.toNat : Int) = ((la + z.toNat : Nat) : Int) := by omega
  have w1 : -9223372036854775808 ≤ ((m - la : Nat) : Int) ∧ ((m - la : Nat) : Int) ≤ 1073741824 := by omega
  have w2 : -9223372036854775808 ≤ ((la + z.toNat : Nat) : Int) ∧ ((la + z.toNat : Nat) : Int) ≤ 1073741824 := by omega
  have h6 : ¬ (((m - la : Nat) : Int) + 1 = 0) := by omega
  refine ⟨m - la, z.toNat, la + z.toNat, hu, h3, h5, h4, rfl, h6, ⟨?_, ?_, ?_⟩⟩
  · exact w64 _ w1.1 (Int.le_trans w1.2 (by decide))
  · exact w64 _ (by omega) (by omega)
  · exact w64 _ w2.1 (Int.le_trans w2.2 (by decide))
section
variable {W W' W1 w w0 : World} {base r : Nat} {R R' : RV} {vL v : Value} {es es' : List RE} {e : RE} {ok : Nat → Prop} {g i c n : Nat}
def removeR (R : RV) (s : ByteArray) : Int × RV :=
  if mayR R.left [s] ≠ 0 then (mayR R.left [s], R)
  else if spotB R.L s.data.toList = true then (0, { R with left := didR R.left, L := delR R.L s.data.toList }) else (7, R)
theorem remove_fineR (hf : R.Fine) (s : ByteArray) : (removeR R s).2.Fine := by
  unfold removeR
  split
  · exact hf
  · split
    · have h1 := hf.sub (delR_sub R.L s.data.toList)
      have h2 := didR_range hf.l0 hf.l1
      exact ⟨h1.r0, h1.r1, h2.1, h2.2, h1.used, h1.lasts, h1.many⟩
    · exact hf
set_option maxRecDepth 100000 in
set_option maxHeartbeats 20000000 in
theorem removeF_calls (h : RefUp w w0 ok r R) (s : ByteArray) (hsz : s.size ≤ maxLen) :
    Calls Try.prog 55 #[.pointer (some ⟨r, 0, none⟩), .string s] w fun e w' => e = .returned (.int .i64 (removeR R s).1) ∧ RefUp w' w0 (fun k => ok k ∨ w.heap.size ≤ k) r (removeR R s).2 ∧ Kept w w' ok := by
  have HFINE := Aside0.mk (remove_fineR h.fine s)
  obtain ⟨res, hres⟩ : ∃ res, removeR R s = res := ⟨_, rfl⟩
  rw [hres] at HFINE ⊢
  have HD := Aside0.mk h
  obtain ⟨⟨vL, es, hi, hft⟩, hB0, hf⟩ := h
  have hm : es.length ≤ 4096 := by have := hf.many; rw [hi.len] at this; exact this
  have hia := hi.belowed ((Below.refl w.heap.size w).alloc (Nat.le_refl _) (.cells #[.string s] 9))
  have K1 := Aside0.mk (mayR_one hi s hsz)
  have K2 := Aside0.mk (spot_calls hia hm s)
  have HFT := Aside0.mk hft
  have HI := Aside0.mk hi
  have HFI := Aside0.mk hf
  obtain ⟨mv, hmv⟩ : ∃ mv, mv = mayR R.left [s] := ⟨_, rfl⟩
  have HR : Aside0 ((if mv ≠ 0 then (mv, R) else if spotB R.L s.data.toList = true then (0, { R with left := didR R.left, L := delR R.L s.data.toList }) else (7, R)) = res) := ⟨by rw [← hres, hmv]; rfl⟩
  rw [← hmv] at K1
  clear hi hft hB0 hf hia hmv hres
  by_cases hm0 : mv = 0
  case neg =>
    have HE : Aside0 ((mv, R) = res) := ⟨by rw [← HR.out, if_pos hm0]⟩
    obtain rfl := HE.out
    have hnb : (mv != 0) = true := by simpa using hm0
    clear hm0
    go_enter Try.func55, Try.ntmps55
    go_wp2_with fail
    refine K1.out.mono ?_
    rintro e w1 ⟨rfl, rfl⟩
    go_wp2
    go_ret
    exact ⟨rfl, (HD.out.alloc _).mono (fun _ h => .inl h), (Kept.refl _ _).alloc _⟩
  subst hm0
  rw [if_neg (by simp)] at HR
  cases hb : spotB R.L s.data.toList with
  | false =>
    have HE : Aside0 ((7, R) = res) := ⟨by rw [← HR.out, hb, if_neg (by simp)]⟩
    obtain rfl := HE.out
    rw [hb] at K2
    go_enter Try.func55, Try.ntmps55
    go_wp2_with fail
    refine K1.out.mono ?_
    rintro e w1 ⟨rfl, rfl⟩
    go_wp2_with fail
    refine K2.out.mono ?_
    rintro e w2 ⟨rfl, hb2⟩
    have hb3 : Below w.heap.size w w2 := ((Below.refl _ _).alloc (Nat.le_refl _) _).trans (hb2.mono (by simp))
    go_wp2
    go_ret
    exact ⟨rfl, (HD.out.quiet hb3).mono (fun _ h => .inl h), (Kept.refl _ _).below hb3⟩
  | true =>
    have hkey := spotB_key hb
    rw [hb, if_pos rfl] at HR
    rw [hb] at K2
    obtain ⟨i, hii⟩ : ∃ i, i = spotN R.L s.data.toList := ⟨_, rfl⟩
    obtain ⟨x, hx⟩ : ∃ x, x = getR R.L s.data.toList := ⟨_, rfl⟩
    rw [← hii] at K2
    rw [← hii, ← hx] at hkey
    have hlt : i < es.length := by have := (List.getElem?_eq_some_iff.1 hkey).1; rw [HI.out.len] at this; exact this
    obtain ⟨e, he⟩ : ∃ e, es[i]? = some e := ⟨_, List.getElem?_eq_getElem hlt⟩
    have hek : keyR e = (s.data.toList, x) := by have := HI.out.get he; rw [hkey] at this; injection this with this; exact this.symm
    have HEK := Aside0.mk hek
    have HEI := Aside0.mk he
    have HKEY := Aside0.mk hkey
    clear hb hii hx hkey he hek
    go_enter Try.func55, Try.ntmps55
    go_wp2_with fail
    refine K1.out.mono ?_
    rintro e1 w1 ⟨rfl, rfl⟩
    go_wp2_with fail
    refine K2.out.mono ?_
    rintro e2 w2 ⟨rfl, hb2⟩
    have hb3 : Below w.heap.size w w2 := ((Below.refl _ _).alloc (Nat.le_refl _) _).trans (hb2.mono (by simp))
    have KR := Aside0.mk (removeR_calls (HD.out.quiet hb3) s)
    have HB3 := Aside0.mk hb3
    clear hb2 hb3
    go_wp2_with fail
    refine KR.out.mono ?_
    rintro e3 w3 ⟨rfl, hU3, hK3⟩
    obtain ⟨⟨v3, es3, hi3, hf3⟩, hB3, hF3⟩ := hU3
    have KD := Aside0.mk (did_up hi3 hF3.l1 hF3.l0)
    have HF3 := Aside0.mk hf3
    have HBB3 := Aside0.mk hB3
    have HK3 := Aside0.mk hK3
    clear hi3 hf3 hB3 hF3 hK3
    go_wp2_with fail
    refine KD.out.mono ?_
    rintro e4 w4 ⟨rfl, hi4, hk4, hb4⟩
    go_wp2
    go_ret
    have HE := HR.out
    obtain rfl := HE
    have hr : ok r ∧ w0.heap.size ≤ r := HFT.out r (by simp [footR])
    refine ⟨rfl, ⟨⟨v3, es3, hi4, fun b hb => ⟨(HF3.out b hb).1.imp_right (fun h => Nat.le_trans HB3.out.size h), (HF3.out b hb).2⟩⟩, HBB3.out.trans (hb4 _ hr.2), HFINE.out⟩, ?_⟩
    exact (((Kept.refl w ok).below HB3.out).then_ HK3.out (fun k hk => .inl hk)).then_ hk4 (fun k hk => .inl (by rw [hk]; exact hr.1))
def crashR (draw : Int) (R : RV) : RV := { R with left := -1, L := R.L.map fun p => (p.1, crashX draw p.2) }
def crashT (draw : Int) (L : List (Key × (List Int × Nat))) (i : Nat) : List (Key × (List Int × Nat)) := (L.take i).map (fun p => (p.1, crashX draw p.2)) ++ L.drop i
theorem crashT_zero (draw : Int) (L : List (Key × (List Int × Nat))) : crashT draw L 0 = L := by simp [crashT]
theorem crashT_all (draw : Int) (L : List (Key × (List Int × Nat))) : crashT draw L L.length = L.map (fun p => (p.1, crashX draw p.2)) := by simp [crashT]
theorem crashT_at (draw : Int) {L : List (Key × (List Int × Nat))} {i : Nat} (hi : i < L.length) : (crashT draw L i)[i]? = some L[i] := by
  unfold crashT
  rw [List.getElem?_append_right (by rw [List.length_map, List.length_take]; omega), List.length_map, List.length_take, Nat.min_eq_left (by omega), Nat.sub_self, List.getElem?_drop, Nat.add_zero, List.getElem?_eq_getElem hi]
theorem crashT_succ (draw : Int) {L : List (Key × (List Int × Nat))} {i : Nat} (hi : i < L.length) : (crashT draw L i).set i (L[i].1, crashX draw L[i].2) = crashT draw L (i + 1) := by
  unfold crashT
  have hl : ((L.take i).map fun p => (p.1, crashX draw p.2)).length = i := by rw [List.length_map, List.length_take]; omega
  rw [List.set_append_right _ _ (by omega), hl, Nat.sub_self, List.take_succ_eq_append_getElem hi, List.map_append, List.append_assoc]
  congr 1
  rw [List.drop_eq_getElem_cons hi]
  rfl
theorem crash_fineR (hf : R.Fine) (draw : Int) : (crashR draw R).Fine := by
  refine ⟨hf.r0, hf.r1, by simp [crashR], by simp [crashR], ?_, fun p hp => ?_, by simp [crashR]; exact hf.many⟩
  · have hk : ∀ L : List (Key × (List Int × Nat)), total (L.map fun p => (p.1, crashX draw p.2)) ≤ total L := by
      intro L
      induction L with
      | nil => exact Nat.le_refl _
      | cons p L ih =>
        rw [List.map_cons]
        simp only [total]
        have : (crashX draw p.2).1.length ≤ p.2.1.length := by simp only [crashX, List.length_take]; omega
        omega
    have := hk R.L
    have := hf.used
    show (total (R.L.map _) : Int) ≤ R.room
    omega
  · obtain ⟨q, hq, rfl⟩ := List.mem_map.1 hp
    have := stays_le draw q.2 (hf.lasts q hq)
    simp only [crashX, List.length_take]
    omega
set_option maxRecDepth 100000 in
set_option maxHeartbeats 20000000 in
theorem crashR_calls (h : RefUp w w0 ok r R) (draw : Int) :
    Calls Try.prog 30 #[.pointer (some ⟨r, 0, none⟩), .int .i64 draw] w fun e w' => e = .returned (.tuple #[]) ∧ RefUp w' w0 (fun k => ok k ∨ w.heap.size ≤ k) r (crashR draw R) ∧ Kept w w' ok := by
  have HFINE := Aside0.mk (crash_fineR h.fine draw)
  have HD := Aside0.mk h
  obtain ⟨⟨vL, es, hi, hft⟩, hB0, hf⟩ := h
  have hm : es.length ≤ 4096 := by have := hf.many; rw [hi.len] at this; exact this
  have HLEN := Aside0.mk hi.len
  obtain ⟨n, hn⟩ : ∃ n, n = es.length := ⟨_, rfl⟩
  obtain ⟨A0, c, hvL, hcc, hA0, hA0'⟩ := hi.slice
  rw [← hn] at hm hcc
  have HVL := Aside0.mk hvL
  have HFT := Aside0.mk hft
  have HI := Aside0.mk hi
  have HFI := Aside0.mk hf
  have HN := Aside0.mk hn
  have HA0' := Aside0.mk hA0'
  obtain ⟨dr, hdr⟩ : ∃ dr : Int, dr = max 0 draw := ⟨_, rfl⟩
  have hdr0 : 0 ≤ dr := by omega
  have HDR := Aside0.mk hdr
  clear hi hft hB0 hf hn hvL hA0 hA0' hdr
  go_enter Try.func30, Try.ntmps30
  go_wp2
  rw [← HDR.out]
  go_loopg [4] n (fun gk s4 wr => ∃ (i : Nat) (es' : List RE), i ≤ n ∧ n - i ≤ gk ∧ s4 = .int .i64 i ∧ Aside0 (IsRef wr w0.heap.size r { R with L := crashT draw R.L i } vL es') ∧ Aside0 (es'.length = n) ∧ Aside0 (Kept w wr ok) ∧ Aside0 (Below w0.heap.size w0 wr) ∧ Aside0 (∀ b ∈ footR r vL es', (ok b ∧ w0.heap.size ≤ b) ∨ w.heap.size ≤ b))
  case atStart =>
    exact ⟨0, es, Nat.zero_le _, by omega, rfl, ⟨by rw [crashT_zero]; exact HI.out⟩, ⟨HN.out.symm⟩, ⟨Kept.refl _ _⟩, ⟨HD.out.below⟩, ⟨fun b hb => .inl (HFT.out b hb)⟩⟩
  case round =>
    obtain ⟨i, es', hi, hgk, rfl, HI1, HL1, HK1, HB1, HF1⟩ := hrel
    have hc1 : wr.cell? ⟨r, 1, none⟩ = some (.slice A0 n c) := by rw [HN.out, ← HVL.out]; exact HI1.out.head.c1
    by_cases hlt : i < n
    · obtain ⟨gk, rfl⟩ : ∃ q, gk = q + 1 := ⟨gk - 1, by omega⟩
      have hiL : i < R.L.length := by have := HLEN.out; have := HN.out; omega
      obtain ⟨e, he⟩ : ∃ e, es'[i]? = some e := ⟨_, List.getElem?_eq_getElem (by have := HL1.out; omega)⟩
      have hek : R.L[i] = keyR e := by have h1 := HI1.out.get he; rw [crashT_at draw hiL] at h1; injection h1
      obtain ⟨g, c', hv0, _, _, hv1, hx1, hz1⟩ := HI1.out.at_ he
      have hvg : A0 = some ⟨g, 0, none⟩ ∧ c = c' := by
        have h1 := HVL.out.symm.trans hv0
        injection h1 with h1 _ h2
        exact ⟨h1, h2⟩
      obtain ⟨rfl, rfl⟩ := hvg
      obtain ⟨Ae, ce, hev, hce⟩ := (HI1.out.dat e (List.mem_of_getElem? he)).slice
      obtain ⟨m, hmm⟩ : ∃ m, m = e.x.1.length := ⟨_, rfl⟩
      obtain ⟨la, hla⟩ : ∃ la, la = e.x.2 := ⟨_, rfl⟩
      have hlm : la ≤ m := by
        have := HFI.out.lasts _ (List.getElem_mem hiL)
        rw [hek] at this
        rw [hmm, hla]
        exact this
      have hmb : m ≤ 1073741824 := by
        have h1 := total_take_succ (L := R.L) (List.getElem?_eq_getElem hiL)
        have h2 := total_take_le R.L (i + 1)
        have h3 := HFI.out.used
        have h4 := HFI.out.r1
        rw [hek] at h1
        rw [hmm]
        simp only [keyR] at h1
        omega
      rw [hev] at hv1
      rw [← hmm] at hv1 hce
      rw [← hla] at hx1
      obtain ⟨u, q, st, hwu2, hq, hst2, hstm, hst, hu1, HW⟩ := crash_arith dr m la hdr0 hlm hmb
      have hss : st = stays draw e.x := by
        unfold stays
        rw [← hmm, ← hla, ← HDR.out]
        exact hst
      have HSS := Aside0.mk hss
      have HEV := Aside0.mk hev
      have HMM := Aside0.mk hmm
      have HLA := Aside0.mk hla
      have HEI := Aside0.mk he
      have HEK := Aside0.mk hek
      have HV0 := Aside0.mk hv0
      have hnI : (i : Int) < n := by omega
      have hi2 : IsRef wr.drew.drew w0.heap.size r { R with L := crashT draw R.L i } (.slice (some ⟨g, 0, none⟩) n c) es' := by
        have h0 := HI1.out.step (W' := wr.drew.drew) (fun _ _ => rfl)
        rw [HVL.out, ← HN.out] at h0
        exact h0
      have hdt := hi2.dat e (List.mem_of_getElem? HEI.out)
      rw [HEV.out, ← HMM.out] at hdt
      have hlt6 : (e.x.1.take st).length = st := by rw [List.length_take, ← HMM.out]; exact Nat.min_eq_left hstm
      have hCe2 : Kd.C (Kd.int .u8) wr.drew.drew Ae (e.x.1.take st).length (e.x.1.take st) := by
        rw [hlt6]
        exact C_take' (hdt.C rfl) (by rw [← HMM.out]; exact hstm)
      obtain ⟨A6, c6, W6, hr6, hd6, hb6, ho6⟩ := Dat.fresh (m := st) (c := ce) hCe2 hlt6 (by omega)
      rw [hlt6] at hr6 hd6 ho6
      have hI6 := hi2.belowed hb6
      obtain ⟨g', c', eg, _, _, hv6, hx6, hz6⟩ := hI6.at_ HEI.out
      injection eg with eg en ec
      clear en
      injection eg with eg
      injection eg with eg
      subst eg ec
      rw [HEV.out, ← HMM.out] at hv6
      rw [← HLA.out] at hx6
      have hz61 := hz6 (i * 3 + 1)
      have hz62 := hz6 (i * 3 + 2)
      have hp1 := hI6.putV HEI.out hd6
      have hl1 : i < es'.length := (List.getElem?_eq_some_iff.1 HEI.out).1
      have hp2 := hp1.putN (e := ⟨e.nm, .slice A6 st c6, (e.x.1.take st, e.x.2)⟩) (by rw [List.getElem?_set_self hl1]) st
      simp only [List.set_set] at hp2
      have hT : (crashT draw R.L i).set i (e.nm.data.toList, (e.x.1.take st, st)) = crashT draw R.L (i + 1) := by
        rw [← crashT_succ draw hiL, HEK.out]
        simp only [keyR, crashX, ← HSS.out]
      rw [hT] at hp2
      have hgok : (ok g ∧ w0.heap.size ≤ g) ∨ w.heap.size ≤ g := HF1.out g (by rw [HV0.out]; simp [footR, Value.ownBlock])
      have hs1 := HK1.out.1
      have hbw : Below wr.heap.size wr W6 := (bdrew (bdrew (Below.refl _ _))).trans hb6
      have hk9 : Kept w ((W6.setCell ⟨g, i * 3 + 1, none⟩ (.slice A6 st c6)).setCell ⟨g, i * 3 + 2, none⟩ (.int .i64 st)) ok := ((HK1.out.below hbw).setCell (p := ⟨g, i * 3 + 1, none⟩) (hgok.imp (fun h => h.1) id) _).setCell (p := ⟨g, i * 3 + 2, none⟩) (hgok.imp (fun h => h.1) id) _
      have hgb : w0.heap.size ≤ g := hgok.elim (fun h => h.2) (fun h => Nat.le_trans HD.out.below.size h)
      have hb9 : Below w0.heap.size w0 ((W6.setCell ⟨g, i * 3 + 1, none⟩ (.slice A6 st c6)).setCell ⟨g, i * 3 + 2, none⟩ (.int .i64 st)) := ((HB1.out.trans (hbw.mono HB1.out.size)).setCell (p := ⟨g, i * 3 + 1, none⟩) hgb _).setCell (p := ⟨g, i * 3 + 2, none⟩) hgb _
      have hf9 : ∀ b ∈ footR r vL (es'.set i ⟨e.nm, .slice A6 st c6, (e.x.1.take st, st)⟩), (ok b ∧ w0.heap.size ≤ b) ∨ w.heap.size ≤ b := fun b hb =>
        (foot_set (r := r) (vL := vL) (N := w.heap.size) HEI.out (.inr (fun b hb => Nat.le_trans hs1 (ho6 b hb))) HF1.out b hb).elim id .inr
      have hl9 : (es'.set i ⟨e.nm, .slice A6 st c6, (e.x.1.take st, st)⟩).length = n := by rw [List.length_set]; exact HL1.out
      have hp3 : IsRef ((W6.setCell ⟨g, i * 3 + 1, none⟩ (.slice A6 st c6)).setCell ⟨g, i * 3 + 2, none⟩ (.int .i64 st)) w0.heap.size r { R with L := crashT draw R.L (i + 1) } vL (es'.set i ⟨e.nm, .slice A6 st c6, (e.x.1.take st, st)⟩) := by
        rw [HVL.out, ← HN.out]
        exact hp2
      have HP3 := Aside0.mk hp3
      have HK9 := Aside0.mk hk9
      have HB9 := Aside0.mk hb9
      have HF9 := Aside0.mk hf9
      have HL9 := Aside0.mk hl9
      have HRUN6 := Aside0.mk hr6
      have hstc : (st : Int) ≤ ce := by omega
      have hm1 : i + 1 ≤ n := by omega
      have hm2 : n - (i + 1) ≤ gk := by omega
      have hm3 : gk < gk + 1 := by omega
      clear hi2 hdt hlt6 hCe2 hr6 hd6 hb6 ho6 hI6 hz6 hp1 hp2 hT hgok hs1 hbw hk9 hgb hb9 hf9 hl9 hp3 hl1
      obtain ⟨hwu, hwv, hwst⟩ := HW.out
      clear hss hev hmm hla he hek hv0 hst HW
      go_wp2
      refine start_ (n := 11) (S := fun w' => w'.cell? ⟨g, i * 3 + 1, none⟩ = some (.slice Ae m ce) ∧ w'.cell? ⟨g, i * 3 + 2, none⟩ = some (.int .i64 (la : Nat))) (ds := []) #[false, false, false, false, false, false, false, false, false, false, false] (by kernel_rfl) rfl rfl ⟨hv1, hx1⟩ (fun hHeld => ?_)
      refine pure_ (i := 0) (N := some 24) (v := ?_) (a' := ?_) #[true, false, false, false, false, false, false, false, false, false, false] rfl rfl (by kernel_rfl) (fun _ _ _ h => h) (Or.inl ⟨by rfl, ?_⟩) ?_ ?_
      rotate_left
      · intro w'
        go_simp
        with_reducible rfl
      rotate_left
      · simp only [Act.put, List.setIfInBounds_toArray, List.set_cons_zero, List.set_cons_succ, i64_w, i32_w]
        rfl
      refine pure_ (i := 1) (N := some 25) (v := ?_) (a' := ?_) #[true, true, false, false, false, false, false, false, false, false, false] rfl rfl (by kernel_rfl) (fun _ _ _ h => h) (Or.inl ⟨by rfl, ?_⟩) ?_ ?_
      rotate_left
      · intro w'
        go_simp
        with_reducible rfl
      rotate_left
      · simp only [Act.put, List.setIfInBounds_toArray, List.set_cons_zero, List.set_cons_succ, i64_w, i32_w]
        rfl
      refine pure_ (i := 2) (N := some 26) (v := ?_) (a' := ?_) #[true, true, true, false, false, false, false, false, false, false, false] rfl rfl (by kernel_rfl) (fun _ _ _ h => h) (Or.inl ⟨by rfl, ?_⟩) ?_ ?_
      rotate_left
      · intro w'
        go_simp
        with_reducible rfl
      rotate_left
      · simp only [Act.put, List.setIfInBounds_toArray, List.set_cons_zero, List.set_cons_succ, i64_w, i32_w]
        rfl
      refine pure_ (i := 5) (N := some 29) (v := ?_) (a' := ?_) #[true, true, true, false, false, true, false, false, false, false, false] rfl rfl (by kernel_rfl) (fun _ _ _ h => h) (Or.inl ⟨by rfl, ?_⟩) ?_ ?_
      rotate_left
      · intro w'
        go_simp
        with_reducible rfl
      rotate_left
      · simp only [Act.put, List.setIfInBounds_toArray, List.set_cons_zero, List.set_cons_succ, i64_w, i32_w]
        rfl
      refine pure_ (i := 6) (N := some 30) (v := ?_) (a' := ?_) #[true, true, true, false, false, true, true, false, false, false, false] rfl rfl (by kernel_rfl) (fun _ _ _ h => h) (Or.inl ⟨by rfl, ?_⟩) ?_ ?_
      rotate_left
      · intro w'
        go_simp
        with_reducible rfl
      rotate_left
      · simp only [Act.put, List.setIfInBounds_toArray, List.set_cons_zero, List.set_cons_succ, i64_w, i32_w]
        rfl
      refine pure_ (i := 7) (N := some 31) (v := ?_) (a' := ?_) #[true, true, true, false, false, true, true, true, false, false, false] rfl rfl (by kernel_rfl) (fun _ _ _ h => h) (Or.inl ⟨by rfl, ?_⟩) ?_ ?_
      rotate_left
      · intro w'
        go_simp
        with_reducible rfl
      rotate_left
      · simp only [Act.put, List.setIfInBounds_toArray, List.set_cons_zero, List.set_cons_succ, i64_w, i32_w]
        rfl
      refine take_ (i := 3) (N := some 27) (v := ?_) (a' := ?_) #[true, true, true, true, false, true, true, true, false, false, false] rfl rfl (by kernel_rfl) (fun _ _ _ h => h) (Or.inl ⟨by rfl, ?_⟩) hHeld ?_ ?_
      rotate_left
      · rintro w' ⟨s0, s1⟩
        go_simp
        with_reducible rfl
      rotate_left
      · simp only [Act.put, List.setIfInBounds_toArray, List.set_cons_zero, List.set_cons_succ, i64_w, i32_w]
        rfl
      refine pure_ (i := 4) (N := some 28) (v := ?_) (a' := ?_) #[true, true, true, true, true, true, true, true, false, false, false] rfl rfl (by kernel_rfl) (fun _ _ _ h => h) (Or.inl ⟨by rfl, ?_⟩) ?_ ?_
      rotate_left
      · intro w'
        go_simp
        with_reducible rfl
      rotate_left
      · simp only [Act.put, List.setIfInBounds_toArray, List.set_cons_zero, List.set_cons_succ, i64_w, i32_w]
        rfl
      refine take_ (i := 8) (N := some 32) (v := ?_) (a' := ?_) #[true, true, true, true, true, true, true, true, true, false, false] rfl rfl (by kernel_rfl) (fun _ _ _ h => h) (Or.inl ⟨by rfl, ?_⟩) hHeld ?_ ?_
      rotate_left
      · rintro w' ⟨s0, s1⟩
        go_simp
        with_reducible rfl
      rotate_left
      · simp only [Act.put, List.setIfInBounds_toArray, List.set_cons_zero, List.set_cons_succ, i64_w, i32_w]
        rfl
      refine pure_ (i := 9) (N := some 33) (v := ?_) (a' := ?_) #[true, true, true, true, true, true, true, true, true, true, false] rfl rfl (by kernel_rfl) (fun _ _ _ h => h) (Or.inl ⟨by rfl, ?_⟩) ?_ ?_
      rotate_left
      · intro w'
        go_simp
        with_reducible rfl
      rotate_left
      · simp only [Act.put, List.setIfInBounds_toArray, List.set_cons_zero, List.set_cons_succ, i64_w, i32_w]
        rfl
      refine pure_ (i := 10) (N := some 6) (v := ?_) (a' := ?_) #[true, true, true, true, true, true, true, true, true, true, true] rfl rfl (by kernel_rfl) (fun _ _ _ h => h) (Or.inl ⟨by rfl, ?_⟩) ?_ ?_
      rotate_left
      · intro w'
        go_simp
        with_reducible rfl
      rotate_left
      · simp only [Act.put, List.setIfInBounds_toArray, List.set_cons_zero, List.set_cons_succ, i64_w, i32_w]
        rfl
      refine done_ (by kernel_rfl) ?_
      clear hHeld
      go_wp2
      refine start_ (n := 20) (S := fun w' => w'.cell? ⟨g, i * 3 + 1, none⟩ = some (.slice Ae m ce) ∧ w'.cell? ⟨g, i * 3 + 2, none⟩ = some (.int .i64 (la : Nat))) (ds := [16, 19]) #[false, false, false, false, false, false, false, false, false, false, false, false, false, false, false, false, false, false, false, false] (by kernel_rfl) rfl rfl ⟨hv1, hx1⟩ (fun hHeld => ?_)
      refine pure_ (i := 0) (N := some 34) (v := ?_) (a' := ?_) #[true, false, false, false, false, false, false, false, false, false, false, false, false, false, false, false, false, false, false, false] rfl rfl (by kernel_rfl) (fun _ _ _ h => h) (Or.inl ⟨by rfl, ?_⟩) ?_ ?_
      rotate_left
      · intro w'
        go_simp
        with_reducible rfl
      rotate_left
      · simp only [Act.put, List.setIfInBounds_toArray, List.set_cons_zero, List.set_cons_succ, i64_w, i32_w]
        rfl
      refine pure_ (i := 2) (N := some 36) (v := ?_) (a' := ?_) #[true, false, true, false, false, false, false, false, false, false, false, false, false, false, false, false, false, false, false, false] rfl rfl (by kernel_rfl) (fun _ _ _ h => h) (Or.inl ⟨by rfl, ?_⟩) ?_ ?_
      rotate_left
      · intro w'
        go_simp
        with_reducible rfl
      rotate_left
      · simp only [Act.put, List.setIfInBounds_toArray, List.set_cons_zero, List.set_cons_succ, i64_w, i32_w]
        rfl
      refine pure_ (i := 3) (N := some 37) (v := ?_) (a' := ?_) #[true, false, true, true, false, false, false, false, false, false, false, false, false, false, false, false, false, false, false, false] rfl rfl (by kernel_rfl) (fun _ _ _ h => h) (Or.inl ⟨by rfl, ?_⟩) ?_ ?_
      rotate_left
      · intro w'
        go_simp
        with_reducible rfl
      rotate_left
      · simp only [Act.put, List.setIfInBounds_toArray, List.set_cons_zero, List.set_cons_succ, i64_w, i32_w]
        rfl
      refine pure_ (i := 4) (N := some 38) (v := ?_) (a' := ?_) #[true, false, true, true, true, false, false, false, false, false, false, false, false, false, false, false, false, false, false, false] rfl rfl (by kernel_rfl) (fun _ _ _ h => h) (Or.inl ⟨by rfl, ?_⟩) ?_ ?_
      rotate_left
      · intro w'
        go_simp
        with_reducible rfl
      rotate_left
      · simp only [Act.put, List.setIfInBounds_toArray, List.set_cons_zero, List.set_cons_succ, i64_w, i32_w]
        rfl
      refine pure_ (i := 6) (N := some 40) (v := ?_) (a' := ?_) #[true, false, true, true, true, false, true, false, false, false, false, false, false, false, false, false, false, false, false, false] rfl rfl (by kernel_rfl) (fun _ _ _ h => h) (Or.inl ⟨by rfl, ?_⟩) ?_ ?_
      rotate_left
      · intro w'
        go_simp
        with_reducible rfl
      rotate_left
      · simp only [Act.put, List.setIfInBounds_toArray, List.set_cons_zero, List.set_cons_succ, i64_w, i32_w]
        rfl
      refine pure_ (i := 7) (N := some 41) (v := ?_) (a' := ?_) #[true, false, true, true, true, false, true, true, false, false, false, false, false, false, false, false, false, false, false, false] rfl rfl (by kernel_rfl) (fun _ _ _ h => h) (Or.inl ⟨by rfl, ?_⟩) ?_ ?_
      rotate_left
      · intro w'
        go_simp
        with_reducible rfl
      rotate_left
      · simp only [Act.put, List.setIfInBounds_toArray, List.set_cons_zero, List.set_cons_succ, i64_w, i32_w]
        rfl
      refine pure_ (i := 8) (N := some 42) (v := ?_) (a' := ?_) #[true, false, true, true, true, false, true, true, true, false, false, false, false, false, false, false, false, false, false, false] rfl rfl (by kernel_rfl) (fun _ _ _ h => h) (Or.inl ⟨by rfl, ?_⟩) ?_ ?_
      rotate_left
      · intro w'
        go_simp
        with_reducible rfl
      rotate_left
      · simp only [Act.put, List.setIfInBounds_toArray, List.set_cons_zero, List.set_cons_succ, i64_w, i32_w]
        rfl
      refine pure_ (i := 10) (N := some 44) (v := ?_) (a' := ?_) #[true, false, true, true, true, false, true, true, true, false, true, false, false, false, false, false, false, false, false, false] rfl rfl (by kernel_rfl) (fun _ _ _ h => h) (Or.inl ⟨by rfl, ?_⟩) ?_ ?_
      rotate_left
      · intro w'
        go_simp
        with_reducible rfl
      rotate_left
      · simp only [Act.put, List.setIfInBounds_toArray, List.set_cons_zero, List.set_cons_succ, i64_w, i32_w]
        rfl
      refine pure_ (i := 11) (N := some 45) (v := ?_) (a' := ?_) #[true, false, true, true, true, false, true, true, true, false, true, true, false, false, false, false, false, false, false, false] rfl rfl (by kernel_rfl) (fun _ _ _ h => h) (Or.inl ⟨by rfl, ?_⟩) ?_ ?_
      rotate_left
      · intro w'
        go_simp
        with_reducible rfl
      rotate_left
      · simp only [Act.put, List.setIfInBounds_toArray, List.set_cons_zero, List.set_cons_succ, i64_w, i32_w]
        rfl
      refine pure_ (i := 12) (N := some 46) (v := ?_) (a' := ?_) #[true, false, true, true, true, false, true, true, true, false, true, true, true, false, false, false, false, false, false, false] rfl rfl (by kernel_rfl) (fun _ _ _ h => h) (Or.inl ⟨by rfl, ?_⟩) ?_ ?_
      rotate_left
      · intro w'
        go_simp
        with_reducible rfl
      rotate_left
      · simp only [Act.put, List.setIfInBounds_toArray, List.set_cons_zero, List.set_cons_succ, i64_w, i32_w]
        rfl
      refine pure_ (i := 13) (N := some 47) (v := ?_) (a' := ?_) #[true, false, true, true, true, false, true, true, true, false, true, true, true, true, false, false, false, false, false, false] rfl rfl (by kernel_rfl) (fun _ _ _ h => h) (Or.inl ⟨by rfl, ?_⟩) ?_ ?_
      rotate_left
      · intro w'
        go_simp
        with_reducible rfl
      rotate_left
      · simp only [Act.put, List.setIfInBounds_toArray, List.set_cons_zero, List.set_cons_succ, i64_w, i32_w]
        rfl
      refine take_ (i := 5) (N := some 39) (v := ?_) (a' := ?_) #[true, false, true, true, true, true, true, true, true, false, true, true, true, true, false, false, false, false, false, false] rfl rfl (by kernel_rfl) (fun _ _ _ h => h) (Or.inl ⟨by rfl, ?_⟩) hHeld ?_ ?_
      rotate_left
      · rintro w' ⟨s0, s1⟩
        go_simp
        with_reducible rfl
      rotate_left
      · simp only [Act.put, List.setIfInBounds_toArray, List.set_cons_zero, List.set_cons_succ, i64_w, i32_w]
        rfl
      refine take_ (i := 9) (N := some 43) (v := ?_) (a' := ?_) #[true, false, true, true, true, true, true, true, true, true, true, true, true, true, false, false, false, false, false, false] rfl rfl (by kernel_rfl) (fun _ _ _ h => h) (Or.inl ⟨by rfl, ?_⟩) hHeld ?_ ?_
      rotate_left
      · rintro w' ⟨s0, s1⟩
        go_simp
        with_reducible rfl
      rotate_left
      · simp only [Act.put, List.setIfInBounds_toArray, List.set_cons_zero, List.set_cons_succ, i64_w, i32_w]
        rfl
      refine pure_ (i := 14) (N := some 48) (v := ?_) (a' := ?_) #[true, false, true, true, true, true, true, true, true, true, true, true, true, true, true, false, false, false, false, false] rfl rfl (by kernel_rfl) (fun _ _ _ h => h) (Or.inl ⟨by rfl, ?_⟩) ?_ ?_
      rotate_left
      · intro w'
        go_simp
        with_reducible rfl
      rotate_left
      · simp only [Act.put, List.setIfInBounds_toArray, List.set_cons_zero, List.set_cons_succ, i64_w, i32_w]
        rfl
      refine pure_ (i := 15) (N := some 49) (v := ?_) (a' := ?_) #[true, false, true, true, true, true, true, true, true, true, true, true, true, true, true, true, false, false, false, false] rfl rfl (by kernel_rfl) (fun _ _ _ h => h) (Or.inl ⟨by rfl, ?_⟩) ?_ ?_
      rotate_left
      · intro w'
        go_simp
        with_reducible rfl
      rotate_left
      · simp only [Act.put, List.setIfInBounds_toArray, List.set_cons_zero, List.set_cons_succ, i64_w, i32_w]
        rfl
      refine one_ (i := 1) (N := some 35) #[true, true, true, true, true, true, true, true, true, true, true, true, true, true, true, true, false, false, false, false] rfl rfl (by kernel_rfl) (by decide) (fun K hK => ?_)
      refine value_ (w1 := ?_) (v := ?_) (by rfl) rfl ?_ ?_
      rotate_left 2
      · go_simp
        constructor
        · rfl
        · rfl
      refine hK.out _ _ ⟨(Go.Lib.cell?_alloc_some _ hHeld.1), (Go.Lib.cell?_alloc_some _ hHeld.2)⟩ (fun hHeld => ?_)
      clear hK K
      refine norm_ (a' := ?_) ?_ ?_
      rotate_left
      · show Act.put _ (some 35) _ = _
        simp only [Act.put, List.setIfInBounds_toArray, List.set_cons_zero, List.set_cons_succ, i64_w, i32_w]
        rfl
      refine last_ (i := 16) (N := some 50) #[true, true, true, true, true, true, true, true, true, true, true, true, true, true, true, true, true, false, false, false] rfl rfl (by kernel_rfl) (by decide) (fun K hK => ?_)
      refine append_step (by rfl) (.tmp 35) (.tmp 49) 23 rfl _ _ rfl rfl _ HRUN6.out rfl ?_
      refine hK.out _ _ ?_
      clear hK K
      refine norm_ (a' := ?_) ?_ ?_
      rotate_left
      · show Act.put _ (some 50) _ = _
        simp only [Act.put, List.setIfInBounds_toArray, List.set_cons_zero, List.set_cons_succ, i64_w, i32_w]
        rfl
      refine pure_ (i := 17) (N := some 51) (v := ?_) (a' := ?_) #[true, true, true, true, true, true, true, true, true, true, true, true, true, true, true, true, true, true, false, false] rfl rfl (by kernel_rfl) (fun _ _ _ h => h) (Or.inl ⟨by rfl, ?_⟩) ?_ ?_
      rotate_left
      · intro w'
        go_simp
        with_reducible rfl
      rotate_left
      · simp only [Act.put, List.setIfInBounds_toArray, List.set_cons_zero, List.set_cons_succ, i64_w, i32_w]
        rfl
      refine pure_ (i := 18) (N := some 52) (v := ?_) (a' := ?_) #[true, true, true, true, true, true, true, true, true, true, true, true, true, true, true, true, true, true, true, false] rfl rfl (by kernel_rfl) (fun _ _ _ h => h) (Or.inl ⟨by rfl, ?_⟩) ?_ ?_
      rotate_left
      · intro w'
        go_simp
        with_reducible rfl
      rotate_left
      · simp only [Act.put, List.setIfInBounds_toArray, List.set_cons_zero, List.set_cons_succ, i64_w, i32_w]
        rfl
      refine last_ (i := 19) (N := none) #[true, true, true, true, true, true, true, true, true, true, true, true, true, true, true, true, true, true, true, true] rfl rfl (by kernel_rfl) (by decide) (fun K hK => ?_)
      refine skip_ (w1 := ?_) (by rfl) rfl ?_ ?_
      rotate_left
      · go_simp
        rfl
      refine hK.out _ _ ?_
      clear hK K
      refine done_ (by kernel_rfl) ?_
      clear hHeld
      go_wp2
      go_roundg gk
      case measure => exact hm3
      case rel => exact ⟨i + 1, _, hm1, hm2, by go_num, HP3, HL9, HK9, HB9, HF9⟩
    · have hin : n = i := by omega
      subst hin
      have hz2 := HI1.out.head.fz 2
      have hc2 := HI1.out.head.c2
      have hh := blk_set HI1.out.head 2 (.int .i64 (-1))
      have hi9 := HI1.out.headed (W' := wr.setCell ⟨r, 2, none⟩ (.int .i64 (-1))) (R' := crashR draw R) hh (fun b _ hne => Below.heap_setCell wr ⟨r, 2, none⟩ _ b hne) (by
        show R.L.map _ = crashT draw R.L n
        rw [← crashT_all, HLEN.out, HN.out])
      have HI9 := Aside0.mk hi9
      have hr : ok r ∧ w0.heap.size ≤ r := HFT.out r (by simp [footR])
      have HR := Aside0.mk hr
      clear hh hi9 hr
      go_wp2
      go_end0
      exact ⟨rfl, HD.out.to HI9.out HF1.out (HB1.out.setCell (p := ⟨r, 2, none⟩) HR.out.2 _) HFINE.out, HK1.out.setCell (p := ⟨r, 2, none⟩) (.inl HR.out.1) _⟩
end
end Go.Proofs.Ytdepjlnljkbfjaa.Hand

/- The reference's disk: Rename. -/
namespace Go.Proofs.Ytdepjlnljkbfjaa.Hand
open Go.RowKit Go.Proofs.Ytdepjlnljkbfjaa.PA Go.Proofs.Ytdepjlnljkbfjaa.MapP Go.Proofs.YtdepjlnljkbfjaaW.PrintWords Go.Proofs.YtdepjlnljkbfjaaW.PrintLast Go.Proofs.YtdepjlnljkbfjaaW.PrintMore
attribute [local go_sem] max2_int min2_int
set_option linter.unusedVariables false
set_option linter.unusedSimpArgs false
set_option linter.unusedSectionVars false
section
variable {W W' W1 w w0 : World} {base r : Nat} {R R' : RV} {vL v : Value} {es es' : List RE} {e : RE} {ok : Nat → Prop} {g i c n : Nat}
theorem mayR_two (h : IsRef w base r R vL es) (s t : ByteArray) (hs : s.size ≤ maxLen) (ht : t.size ≤ maxLen) :
    Calls Try.prog 65 #[.pointer (some ⟨r, 0, none⟩), .slice (some ⟨w.heap.size, 0, none⟩) 2 2] (w.alloc (.cells #[.string s, .string t] 9)) fun e w' => e = .returned (.int .i64 (mayR R.left [s, t])) ∧ w' = w.alloc (.cells #[.string s, .string t] 9) :=
  mayR_calls (names := [s, t]) (h.belowed ((Below.refl w.heap.size w).alloc (Nat.le_refl _) (.cells #[.string s, .string t] 9))) ⟨w.heap.size, 0, none⟩ 2 (by simp) (fun j s' hs' => by
    match j with
    | 0 =>
      cases hs'
      refine ⟨?_, hs⟩
      rw [Addr.add_lit, blk_cell (heap_alloc_new w _)]
      rfl
    | 1 =>
      cases hs'
      refine ⟨?_, ht⟩
      rw [Addr.add_lit, blk_cell (heap_alloc_new w _)]
      rfl
    | j + 2 => simp at hs')
def insR (L : List (Key × (List Int × Nat))) (k : Key) (x : List Int × Nat) : List (Key × (List Int × Nat)) := L.take (spotN L k) ++ (k, x) :: L.drop (spotN L k)
def renR (R : RV) (s t : ByteArray) : Int × RV :=
  if mayR R.left [s, t] ≠ 0 then (mayR R.left [s, t], R)
  else if spotB R.L s.data.toList = true then
    (if s = t then (0, { R with left := didR R.left }) else (0, { R with left := didR R.left, L := insR (delR (delR R.L s.data.toList) t.data.toList) t.data.toList (getR R.L s.data.toList) }))
  else (7, R)
theorem delR_total {L : List (Key × (List Int × Nat))} {k : Key} (h : spotB L k = true) : total (delR L k) + (getR L k).1.length = total L ∧ (delR L k).length + 1 = L.length := by
  have h1 := spotB_key h
  have hlt := spot_lt h
  have h2 := total_take_succ h1
  have h3 : total L = total (L.take (spotN L k + 1)) + total (L.drop (spotN L k + 1)) := by rw [← total_app2, List.take_append_drop]
  unfold delR
  rw [if_pos h, total_app2, List.length_append, List.length_take, List.length_drop]
  simp only at h2
  omega
theorem ren_fineR (hf : R.Fine) (s t : ByteArray) : (renR R s t).2.Fine := by
  unfold renR
  split
  · exact hf
  · split
    · rename_i hb
      have hr := didR_range hf.l0 hf.l1
      split
      · exact ⟨hf.r0, hf.r1, hr.1, hr.2, hf.used, hf.lasts, hf.many⟩
      · have h1 := delR_total hb
        have h2 := total_sub (delR_sub (delR R.L s.data.toList) t.data.toList)
        have h3 := (delR_sub (delR R.L s.data.toList) t.data.toList).length_le
        refine ⟨hf.r0, hf.r1, hr.1, hr.2, ?_, fun p hp => ?_, ?_⟩
        · have := hf.used
          show (total (insR _ _ _) : Int) ≤ R.room
          unfold insR
          rw [total_ins]
          simp only
          omega
        · unfold insR at hp
          have hd : ∀ q, q ∈ delR (delR R.L s.data.toList) t.data.toList → q ∈ R.L := fun q hq => (delR_sub _ _).subset ((delR_sub _ _).subset hq)
          rcases List.mem_append.1 hp with hp | hp
          · exact hf.lasts p (hd p (List.mem_of_mem_take hp))
          · rcases List.mem_cons.1 hp with rfl | hp
            · have h9 := hf.lasts _ (List.mem_of_getElem? (spotB_key hb))
              exact h9
            · exact hf.lasts p (hd p (List.mem_of_mem_drop hp))
        · have := hf.many
          show (insR _ _ _).length ≤ 4096
          unfold insR
          rw [List.length_append, List.length_take, List.length_cons, List.length_drop]
          omega
    · exact hf
set_option maxRecDepth 100000 in
set_option maxHeartbeats 20000000 in
theorem renR_calls (h : RefUp w w0 ok r R) (s : ByteArray) (hsz : s.size ≤ maxLen) (t : ByteArray) (htz : t.size ≤ maxLen) :
    Calls Try.prog 54 #[.pointer (some ⟨r, 0, none⟩), .string s, .string t] w fun e w' => e = .returned (.int .i64 (renR R s t).1) ∧ RefUp w' w0 (fun k => ok k ∨ w.heap.size ≤ k) r (renR R s t).2 ∧ Kept w w' ok := by
  have HFINE := Aside0.mk (ren_fineR h.fine s t)
  obtain ⟨res, hres⟩ : ∃ res, renR R s t = res := ⟨_, rfl⟩
  rw [hres] at HFINE ⊢
  have HD := Aside0.mk h
  obtain ⟨⟨vL, es, hi, hft⟩, hB0, hf⟩ := h
  have hm : es.length ≤ 4096 := by have := hf.many; rw [hi.len] at this; exact this
  have hia := hi.belowed ((Below.refl w.heap.size w).alloc (Nat.le_refl _) (.cells #[.string s, .string t] 9))
  have K1 := Aside0.mk (mayR_two hi s t hsz htz)
  have K2 := Aside0.mk (spot_calls hia hm s)
  have HFT := Aside0.mk hft
  have HI := Aside0.mk hi
  have HFI := Aside0.mk hf
  obtain ⟨mv, hmv⟩ : ∃ mv, mv = mayR R.left [s, t] := ⟨_, rfl⟩
  have HR : Aside0 ((if mv ≠ 0 then (mv, R) else if spotB R.L s.data.toList = true then (if s = t then (0, { R with left := didR R.left }) else (0, { R with left := didR R.left, L := insR (delR (delR R.L s.data.toList) t.data.toList) t.data.toList (getR R.L s.data.toList) })) else (7, R)) = res) := ⟨by rw [← hres, hmv]; rfl⟩
  rw [← hmv] at K1
  clear hi hft hB0 hf hia hmv hres
  by_cases hm0 : mv = 0
  case neg =>
    have HE : Aside0 ((mv, R) = res) := ⟨by rw [← HR.out, if_pos hm0]⟩
    obtain rfl := HE.out
    have hnb : (mv != 0) = true := by simpa using hm0
    clear hm0
    go_enter Try.func54, Try.ntmps54
    go_wp2_with fail
    refine K1.out.mono ?_
    rintro e w1 ⟨rfl, rfl⟩
    go_wp2
    go_ret
    exact ⟨rfl, (HD.out.alloc _).mono (fun _ h => .inl h), (Kept.refl _ _).alloc _⟩
  subst hm0
  rw [if_neg (by simp)] at HR
  cases hb : spotB R.L s.data.toList with
  | false =>
    have HE : Aside0 ((7, R) = res) := ⟨by rw [← HR.out, hb, if_neg (by simp)]⟩
    obtain rfl := HE.out
    rw [hb] at K2
    go_enter Try.func54, Try.ntmps54
    go_wp2_with fail
    refine K1.out.mono ?_
    rintro e w1 ⟨rfl, rfl⟩
    go_wp2_with fail
    refine K2.out.mono ?_
    rintro e w2 ⟨rfl, hb2⟩
    have hb3 : Below w.heap.size w w2 := ((Below.refl _ _).alloc (Nat.le_refl _) _).trans (hb2.mono (by simp))
    go_wp2
    go_ret
    exact ⟨rfl, (HD.out.quiet hb3).mono (fun _ h => .inl h), (Kept.refl _ _).below hb3⟩
  | true =>
    have hkey := spotB_key hb
    rw [hb, if_pos rfl] at HR
    rw [hb] at K2
    obtain ⟨i, hii⟩ : ∃ i, i = spotN R.L s.data.toList := ⟨_, rfl⟩
    obtain ⟨x, hx⟩ : ∃ x, x = getR R.L s.data.toList := ⟨_, rfl⟩
    rw [← hii] at K2
    rw [← hx] at HR
    rw [← hii, ← hx] at hkey
    have hlt : i < es.length := by have := (List.getElem?_eq_some_iff.1 hkey).1; rw [HI.out.len] at this; exact this
    obtain ⟨e, he⟩ : ∃ e, es[i]? = some e := ⟨_, List.getElem?_eq_getElem hlt⟩
    have hek : keyR e = (s.data.toList, x) := by have := HI.out.get he; rw [hkey] at this; injection this with this; exact this.symm
    have HEK := Aside0.mk hek
    have HEI := Aside0.mk he
    have HKEY := Aside0.mk hkey
    clear hb hii hx hkey he hek

    by_cases hst : s = t
    · have HE : Aside0 ((0, { R with left := didR R.left }) = res) := ⟨by rw [← HR.out, if_pos hst]⟩
      subst hst
      go_enter Try.func54, Try.ntmps54
      go_wp2_with fail
      refine K1.out.mono ?_
      rintro e1 w1 ⟨rfl, rfl⟩
      go_wp2_with fail
      refine K2.out.mono ?_
      rintro e2 w2 ⟨rfl, hb2⟩
      have hb3 : Below w.heap.size w w2 := ((Below.refl _ _).alloc (Nat.le_refl _) _).trans (hb2.mono (by simp))
      have KD := Aside0.mk (did_up (HI.out.belowed hb3) HFI.out.l1 HFI.out.l0)
      have HB3 := Aside0.mk hb3
      clear hb2 hb3
      go_wp2_with fail
      refine KD.out.mono ?_
      rintro e3 w3 ⟨rfl, hi3, hk3, hb3⟩
      go_wp2
      go_ret
      have HE9 := HE.out
      obtain rfl := HE9
      have hr : ok r ∧ w0.heap.size ≤ r := HFT.out r (by simp [footR])
      exact ⟨rfl, HD.out.to hi3 (fun b hb => .inl (HFT.out b hb)) ((HD.out.below.trans (HB3.out.mono HD.out.below.size)).trans (hb3 _ hr.2)) HFINE.out, ((Kept.refl w ok).below HB3.out).then_ hk3 (fun k hk => .inl (by rw [hk]; exact hr.1))⟩
    · have HE : Aside0 ((0, { R with left := didR R.left, L := insR (delR (delR R.L s.data.toList) t.data.toList) t.data.toList x }) = res) := ⟨by rw [← HR.out, if_neg hst]⟩
      have hxe : e.x = x := congrArg Prod.snd HEK.out
      have HXE := Aside0.mk hxe
      go_enter Try.func54, Try.ntmps54
      go_wp2_with fail
      refine K1.out.mono ?_
      rintro e1 w1 ⟨rfl, rfl⟩
      go_wp2_with fail
      refine K2.out.mono ?_
      rintro e2 w2 ⟨rfl, hb2⟩
      have hb3 : Below w.heap.size w w2 := ((Below.refl _ _).alloc (Nat.le_refl _) _).trans (hb2.mono (by simp))
      have hi2 := HI.out.belowed hb3
      obtain ⟨g, c, hvL, hcc, hn1, hv1, hx1, _⟩ := hi2.at_ HEI.out
      have hc1 := hi2.head.c1
      have hdt := hi2.dat e (List.mem_of_getElem? HEI.out)
      obtain ⟨Ae, ce, hev, hce⟩ := hdt.slice
      obtain ⟨m, hmm⟩ : ∃ m, m = e.x.1.length := ⟨_, rfl⟩
      obtain ⟨la, hla⟩ : ∃ la, la = e.x.2 := ⟨_, rfl⟩
      obtain ⟨n, hn⟩ : ∃ n, n = es.length := ⟨_, rfl⟩
      rw [hev, ← hmm] at hv1
      rw [← hla] at hx1
      rw [hvL, ← hn] at hc1
      have hlt2 : i < n := by rw [hn]; exact hlt
      have hnI : (i : Int) < n := by omega
      have hen : ∀ b, e.v.ownBlock = some b → (ok b ∧ w0.heap.size ≤ b) ∧ b ≠ r := fun b hb => ⟨HFT.out b (mem_footR (List.mem_of_getElem? HEI.out) hb), HI.out.dat_ne_head (List.mem_of_getElem? HEI.out) hb⟩
      have HEN := Aside0.mk hen
      have HEV := Aside0.mk hev
      have HMM := Aside0.mk hmm
      have HLA := Aside0.mk hla
      have HDT := Aside0.mk hdt
      have HB3 := Aside0.mk hb3
      have hst2 : (s.toList == t.toList) = false := by
        rw [ByteArray.toList_eq, ByteArray.toList_eq]
        exact beq_eq_false_iff_ne.2 (fun e => hst (ByteArray.ext (Array.toList_inj.1 e)))
      clear hb2 hb3 hi2 hdt hev hmm hla hvL hen hcc hn hm hlt
      go_wp2_with fail
      obtain ⟨w3, hw3⟩ : ∃ w3, w3 = w2.alloc (.cells #[.string t, .slice Ae m ce, .int .i64 la] 82) := ⟨_, rfl⟩
      rw [← hw3]
      have hbn : Below w.heap.size w w3 := by rw [hw3]; exact HB3.out.alloc HB3.out.size _
      have hf3 : w3.heap[w2.heap.size]? = some (.cells #[.string t, .slice Ae m ce, .int .i64 la] 82) := by rw [hw3]; exact heap_alloc_new w2 _
      have hs3 : w3.heap.size = w2.heap.size + 1 := by rw [hw3]; simp
      obtain ⟨bf, hbf⟩ : ∃ bf, bf = w2.heap.size := ⟨_, rfl⟩
      rw [← hbf] at hf3 hs3 ⊢
      have hb2s : w.heap.size ≤ bf := by rw [hbf]; exact HB3.out.size
      have hD3 := (HD.out.quiet hbn).bound
      have KR1 := Aside0.mk (removeR_keeps hD3 s)
      have hdt3 : Dat w3 (.slice Ae m ce) e.x.1 := by
        have h0 := (HI.out.dat e (List.mem_of_getElem? HEI.out)).step (W' := w3) (fun b hb => hbn.block b (HI.out.lt b (mem_footR (List.mem_of_getElem? HEI.out) hb)))
        rw [HEV.out, ← HMM.out] at h0
        exact h0
      rw [HEV.out, ← HMM.out] at HEN
      have hdl3 : ∀ b, (Value.slice Ae m ce).ownBlock = some b → b < w3.heap.size := fun b hb => hdt3.lt hb
      have HF3 := Aside0.mk hf3
      have HD3 := Aside0.mk hdt3
      have HDL := Aside0.mk hdl3
      have HBN := Aside0.mk hbn
      have hbr : bf ≠ r := by
        have := HI.out.lt r (by simp [footR])
        omega
      have HBR := Aside0.mk hbr
      have hr : ok r ∧ w0.heap.size ≤ r := HFT.out r (by simp [footR])
      have HRR := Aside0.mk hr
      clear hw3 hbn hf3 hdt3 hdl3 hbf hD3 hbr hr hc1 hn1 hv1 hx1 hnI hlt2
      refine KR1.out.mono ?_
      rintro e4 w4 ⟨rfl, hU4, hK4⟩
      have KR2 := Aside0.mk (removeR_keeps hU4 t)
      have HK4 := Aside0.mk hK4
      clear hU4 hK4
      go_wp2_with fail
      refine KR2.out.mono ?_
      rintro e5 w5 ⟨rfl, hU5, hK5⟩
      obtain ⟨⟨v5, es5, hi5, hf5⟩, hB5, hF5⟩ := hU5
      have hK35 : Kept w3 w5 (fun k => k = r) := HK4.out.then_ hK5 (fun k hk => .inl hk)
      have hm5 : es5.length ≤ 4096 := by have := hF5.many; rw [hi5.len] at this; exact this
      have K5 := Aside0.mk (spot_calls hi5 hm5 t)
      have hs35 := hK35.1
      have hft5 : ∀ b ∈ footR r v5 es5, (ok b ∧ w0.heap.size ≤ b) ∨ w.heap.size ≤ b := fun b hb => by
        obtain ⟨h1, h2⟩ := hf5 b hb
        rcases h1 with (h1 | h1) | h1
        · exact .inl ⟨h1.1, h2⟩
        · exact .inr (Nat.le_trans (Nat.le_trans hb2s (by omega)) h1)
        · exact .inr (by have := HK4.out.1; omega)
      have hdat5 : Dat w5 (.slice Ae m ce) e.x.1 := HD3.out.step (fun b hb => hK35.2 b (HDL.out b hb) (HEN.out b hb).2)
      have hfb5 : w5.heap[bf]? = some (.cells #[.string t, .slice Ae m ce, .int .i64 la] 82) := (hK35.2 bf (by omega) HBR.out).trans HF3.out
      have hkw5 : Kept w w5 ok := (((Kept.refl w ok).below HBN.out)).then_ hK35 (fun k hk => .inl (by rw [hk]; exact HRR.out.1))
      obtain ⟨L5, hL5⟩ : ∃ L5, L5 = delR (delR R.L s.data.toList) t.data.toList := ⟨_, rfl⟩
      have hi5b : IsRef w5 w0.heap.size r { R with L := L5 } v5 es5 := by rw [hL5]; exact hi5
      have HI5 := Aside0.mk hi5b
      have HFT5 := Aside0.mk hft5
      have HDT5 := Aside0.mk hdat5
      have HFB5 := Aside0.mk hfb5
      have HKW5 := Aside0.mk hkw5
      have HB5 := Aside0.mk hB5
      have HL5 := Aside0.mk hL5
      rw [← HL5.out] at HE
      have hspE : ∃ k, k = spotN L5 t.data.toList := ⟨_, rfl⟩
      obtain ⟨k, hk⟩ := hspE
      have hkl : k ≤ es5.length := by rw [hk, ← hi5b.len]; exact spotN_le _ _
      have HKE := Aside0.mk hk
      have K5b := K5.out
      simp only [← HL5.out] at K5b
      rw [← HKE.out] at K5b
      have K5 := Aside0.mk K5b
      clear hi5 hf5 hB5 hF5 hK5 hK35 hs35 hft5 hdat5 hfb5 hkw5 hL5 hi5b hk K5b
      go_wp2_with fail
      refine K5.out.mono ?_
      rintro e6 w6 ⟨rfl, hb6⟩
      have hi6 := HI5.out.belowed hb6
      obtain ⟨A0, c, hv5, hcc, hA0, hA0'⟩ := hi6.slice
      subst hv5
      obtain ⟨n, hn⟩ : ∃ n, n = es5.length := ⟨_, rfl⟩
      have hc1 : w6.cell? ⟨r, 1, none⟩ = some (.slice A0 n c) := by rw [hn]; exact hi6.head.c1
      have hbase : w0.heap.size ≤ w6.heap.size := Nat.le_trans HB5.out.size hb6.size
      obtain ⟨A2, hA2e⟩ : ∃ A2 : Option Addr, A2 = if c = k then A0 else A0.map fun a => ⟨a.block, k * 3, none⟩ := ⟨_, rfl⟩
      obtain ⟨v7, W7, v8, W8, v9, W9, hr7, hr8, hr9, ho9, hb7, hb8, hb9, hw9, ⟨A7, c7, hs7⟩, ⟨A8, c8, hs8⟩, ⟨A9, n9, c9, hs9⟩⟩ := three_parts hi6 hbase hm5 k hkl ⟨t, .slice Ae m ce, e.x⟩ rfl A2 c (c - k) (fun g hg => by
        rw [hA2e]
        split
        · right
          omega
        · left
          rw [hg]
          rfl) (fun h0 => by rw [hA2e, h0]; split <;> rfl)
      subst hs7 hs8 hs9
      have h1a : (w6.alloc (.cells #[] 82)).cell? ⟨r, 1, none⟩ = _ := Go.Lib.cell?_alloc_some _ hc1
      have hc8 : W8.cell? ⟨r, 1, none⟩ = _ := cell_below hc1 hb8
      have hc9 : W9.cell? ⟨r, 1, none⟩ = _ := cell_below hc1 hb9
      have hfb7 : W7.heap[bf]? = _ := ((hb6.trans (hb7.mono hb6.size)).block bf (blk_lt HFB5.out)).trans HFB5.out
      have m0 := (blk_cell hfb7 0).trans rfl
      have m1 := (blk_cell hfb7 1).trans rfl
      have m2 := (blk_cell hfb7 2).trans rfl
      have hh9 : HeadR W9 r R.room (.slice A0 es5.length c) R.left := (hb9.block r (hi6.lt r (by simp [footR]))).trans hi6.head
      have hz9 : W9.frozen? ⟨r, 1, none⟩ = false := hh9.fz 1
      have hd9 : ∀ e1 ∈ es5.take k ++ (⟨t, .slice Ae m ce, e.x⟩ : RE) :: es5.drop k, Dat W9 e1.v e1.x.1 := fun e1 he => by
        rcases List.mem_append.1 he with he | he
        · exact (hi6.dat e1 (List.mem_of_mem_take he)).step (fun b hb => hb9.block b (hi6.lt b (mem_footR (List.mem_of_mem_take he) hb)))
        · rcases List.mem_cons.1 he with rfl | he
          · exact HDT5.out.step (fun b hb => (hb6.trans (hb9.mono hb6.size)).block b (HDT5.out.lt hb))
          · exact (hi6.dat e1 (List.mem_of_mem_drop he)).step (fun b hb => hb9.block b (hi6.lt b (mem_footR (List.mem_of_mem_drop he) hb)))
      have hp := IsRef.putL (R := R) hh9 ho9 hd9
      have hLv : (es5.take k ++ (⟨t, .slice Ae m ce, e.x⟩ : RE) :: es5.drop k).map keyR = insR L5 t.data.toList e.x := by
        unfold insR
        rw [← HKE.out, List.map_append, List.map_cons, List.map_take, List.map_drop, ← HI5.out.val]
        rfl
      rw [hLv] at hp
      have KD := Aside0.mk (did_up hp HFI.out.l1 HFI.out.l0)
      have hbb : Below w5.heap.size w5 W9 := hb6.trans (hb9.mono hb6.size)
      have hk9 : Kept w (W9.setCell ⟨r, 1, none⟩ (.slice A9 n9 c9)) ok := (HKW5.out.below hbb).setCell (p := ⟨r, 1, none⟩) (.inl HRR.out.1) _
      have hb9w : Below w0.heap.size w0 (W9.setCell ⟨r, 1, none⟩ (.slice A9 n9 c9)) := (HB5.out.trans (hbb.mono HB5.out.size)).setCell (p := ⟨r, 1, none⟩) HRR.out.2 _
      have hwk := HKW5.out.1
      have hf9 : ∀ b ∈ footR r (.slice A9 n9 c9) (es5.take k ++ (⟨t, .slice Ae m ce, e.x⟩ : RE) :: es5.drop k), (ok b ∧ w0.heap.size ≤ b) ∨ w.heap.size ≤ b := fun b hb => by
        unfold footR at hb
        simp only [List.mem_cons, List.mem_append, List.mem_flatMap] at hb
        rcases hb with rfl | hb | ⟨e', he', hb⟩
        · exact .inl HRR.out
        · exact .inr (Nat.le_trans (Nat.le_trans hwk hb6.size) (hw9 b (by simpa using hb)))
        · rcases he' with he' | rfl | he'
          · exact HFT5.out b (mem_footR (List.mem_of_mem_take he') (by simpa using hb))
          · exact .inl (HEN.out b (by simpa using hb)).1
          · exact HFT5.out b (mem_footR (List.mem_of_mem_drop he') (by simpa using hb))
      rw [← hn] at hr9 hkl
      have hm6 : n ≤ 4096 := by rw [hn]; exact hm5
      have hcc2 : n ≤ c := by rw [hn]; exact hcc
      have hA0n : A0 = none → n = 0 := fun h => by rw [hn]; exact hA0 h
      have HR6 := Aside0.mk hr7
      have hr8b : (Builtin.append_ #[77, 77] 77 #[.slice A7 k c7, .slice (some ⟨W7.heap.size, 0, none⟩) 1 1]).run Try.prog (W7.alloc (.cells #[.string t, .slice Ae m ce, .int .i64 la] 82)) = .ok (.slice A8 (k + 1) c8) W8 := by rw [HLA.out]; exact hr8
      have HR7 := Aside0.mk hr8b
      have HR8 := Aside0.mk hr9
      have HF9 := Aside0.mk hf9
      have HK9 := Aside0.mk hk9
      have HB9 := Aside0.mk hb9w
      have hnL : (A0 = none ∧ c = 0 ∧ n = 0) ∨ ∃ g, A0 = some ⟨g, 0, none⟩ := by
        rcases hi6.row.2 with ⟨hv, h0⟩ | ⟨g, cap, cur, hv, _⟩
        · injection hv with h1 h2 h3
          exact .inl ⟨h1, h3, by rw [hn]; exact h2⟩
        · injection hv with h1
          exact .inr ⟨g, h1⟩
      have hkI : (k : Int) ≤ n := by omega
      have hkc : (k : Int) ≤ c := by omega
      clear hi6 hbase hr7 hr8 hr8b hr9 ho9 hb7 hb8 hb9 hw9 hfb7 hh9 hd9 hp hLv hbb hk9 hb9w hwk hf9 hn hb6 hcc hA0 hA0' hA0n hm5 KR1 KR2 K1 K2 HFB5 HF3
      rcases hnL with ⟨rfl, hc0, hn0⟩ | ⟨g, rfl⟩
      case inl =>
        have hck : c = k := by omega
        rw [if_pos hck] at hA2e
        subst hA2e
        clear hc0
        obtain rfl : k = c := hck.symm
        clear hck
        have hnk : k = n := by omega
        subst hnk
        clear hn0
        have hr9s := HR8.out
        rw [Nat.sub_self] at hr9s
        have HR8s := Aside0.mk hr9s
        clear hr9s
        go_wp2_with (first | ((with_reducible refine gate_op (op := .buildSlice 77 0 #[]) rfl ?_); refine wpList_value_run (v := .slice (some ⟨w6.heap.size, 0, none⟩) 0 0) (w1 := w6.alloc (.cells #[] 82)) rfl (by go_simp) ?_) | ((with_reducible refine gate_builtin (b := .append) (xs := #[.tmp 56, .tmp 62]) rfl ?_); at_builtin; refine wpList_append_run rfl (.tmp 56) (.tmp 62) 77 rfl _ _ _ _ rfl rfl HR6.out ?_) | ((with_reducible refine gate_builtin (b := .append) (xs := #[.tmp 64, .tmp 66]) rfl ?_); at_builtin; refine wpList_append_run rfl (.tmp 64) (.tmp 66) 77 rfl _ _ _ _ rfl rfl HR7.out ?_) | ((with_reducible refine gate_builtin (b := .append) (xs := #[.tmp 69, .tmp 75]) rfl ?_); at_builtin; refine wpList_append_run rfl (.tmp 69) (.tmp 75) 77 rfl _ _ _ _ rfl rfl HR8s.out ?_) | fail)
        refine KD.out.mono ?_
        rintro e9 w9 ⟨rfl, hi9, hk9, hb9⟩
        go_wp2
        go_ret
        have HE9 := HE.out
        rw [← HXE.out] at HE9
        obtain rfl := HE9
        exact ⟨rfl, HD.out.to hi9 HF9.out (HB9.out.trans (hb9 _ HRR.out.2)) HFINE.out, HK9.out.then_ hk9 (fun k hk => .inl (by rw [hk]; exact HRR.out.1))⟩
      case inr =>
        by_cases hck : c = k
        case pos =>
          rw [if_pos hck] at hA2e
          subst hA2e
          obtain rfl : k = c := hck.symm
          clear hck
          have hnk : k = n := by omega
          subst hnk
          have hr9s := HR8.out
          rw [Nat.sub_self] at hr9s
          have HR8s := Aside0.mk hr9s
          clear hr9s
          go_wp2_with (first | ((with_reducible refine gate_op (op := .buildSlice 77 0 #[]) rfl ?_); refine wpList_value_run (v := .slice (some ⟨w6.heap.size, 0, none⟩) 0 0) (w1 := w6.alloc (.cells #[] 82)) rfl (by go_simp) ?_) | ((with_reducible refine gate_builtin (b := .append) (xs := #[.tmp 56, .tmp 62]) rfl ?_); at_builtin; refine wpList_append_run rfl (.tmp 56) (.tmp 62) 77 rfl _ _ _ _ rfl rfl HR6.out ?_) | ((with_reducible refine gate_builtin (b := .append) (xs := #[.tmp 64, .tmp 66]) rfl ?_); at_builtin; refine wpList_append_run rfl (.tmp 64) (.tmp 66) 77 rfl _ _ _ _ rfl rfl HR7.out ?_) | ((with_reducible refine gate_builtin (b := .append) (xs := #[.tmp 69, .tmp 75]) rfl ?_); at_builtin; refine wpList_append_run rfl (.tmp 69) (.tmp 75) 77 rfl _ _ _ _ rfl rfl HR8s.out ?_) | fail)
          refine KD.out.mono ?_
          rintro e9 w9 ⟨rfl, hi9, hk9, hb9⟩
          go_wp2
          go_ret
          have HE9 := HE.out
          rw [← HXE.out] at HE9
          obtain rfl := HE9
          exact ⟨rfl, HD.out.to hi9 HF9.out (HB9.out.trans (hb9 _ HRR.out.2)) HFINE.out, HK9.out.then_ hk9 (fun k hk => .inl (by rw [hk]; exact HRR.out.1))⟩
        case neg =>
          rw [if_neg hck] at hA2e
          subst hA2e
          go_wp2_with (first | ((with_reducible refine gate_op (op := .buildSlice 77 0 #[]) rfl ?_); refine wpList_value_run (v := .slice (some ⟨w6.heap.size, 0, none⟩) 0 0) (w1 := w6.alloc (.cells #[] 82)) rfl (by go_simp) ?_) | ((with_reducible refine gate_builtin (b := .append) (xs := #[.tmp 56, .tmp 62]) rfl ?_); at_builtin; refine wpList_append_run rfl (.tmp 56) (.tmp 62) 77 rfl _ _ _ _ rfl rfl HR6.out ?_) | ((with_reducible refine gate_builtin (b := .append) (xs := #[.tmp 64, .tmp 66]) rfl ?_); at_builtin; refine wpList_append_run rfl (.tmp 64) (.tmp 66) 77 rfl _ _ _ _ rfl rfl HR7.out ?_) | ((with_reducible refine gate_builtin (b := .append) (xs := #[.tmp 69, .tmp 75]) rfl ?_); at_builtin; refine wpList_append_run rfl (.tmp 69) (.tmp 75) 77 rfl _ _ _ _ rfl rfl HR8.out ?_) | fail)
          refine KD.out.mono ?_
          rintro e9 w9 ⟨rfl, hi9, hk9, hb9⟩
          go_wp2
          go_ret
          have HE9 := HE.out
          rw [← HXE.out] at HE9
          obtain rfl := HE9
          exact ⟨rfl, HD.out.to hi9 HF9.out (HB9.out.trans (hb9 _ HRR.out.2)) HFINE.out, HK9.out.then_ hk9 (fun k hk => .inl (by rw [hk]; exact HRR.out.1))⟩
end
end Go.Proofs.Ytdepjlnljkbfjaa.Hand
