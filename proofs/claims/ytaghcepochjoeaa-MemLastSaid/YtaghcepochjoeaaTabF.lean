/- A Table's documents, the keys that are gone, where a pattern stands; New. -/
import Derived.Test.YtaghcepochjoeaaTabL
namespace Go.Proofs.Ytaghcepochjoeaa.Hand
open Go.RowKit Go.Proofs.Ytaghcepochjoeaa.PA Go.Proofs.Ytaghcepochjoeaa.MapV Go.Proofs.YtaghcepochjoeaaW.PrintWords Go.Proofs.YtaghcepochjoeaaW.PrintLast Go.Proofs.YtaghcepochjoeaaW.PrintMore
attribute [local go_sem] max2_int min2_int
set_option linter.unusedVariables false
set_option linter.unusedSimpArgs false
set_option linter.unusedSectionVars false
def docOf (S : TS) (s : ByteArray) : S34 := ⟨s, (tget S s).1⟩
def docsT (S : TS) : List S34 := (keysT S true).map (docOf S)
theorem keysT_len (S : TS) (b : Bool) : (keysT S b).length ≤ S.length := by
  unfold keysT namesT
  refine Nat.le_trans (List.length_filter_le _ _) ?_
  simp
theorem tget_len {S : TS} (txt : ∀ p ∈ S, p.2.1.length ≤ 4096) (s : ByteArray) : (tget S s).1.length ≤ 4096 := by
  unfold tget
  split
  · simp
  · rename_i x hx
    exact txt _ (at_mem hx)
theorem keysT_short {S : TS} (hs : ∀ p ∈ S, p.1.length ≤ maxLen) (b : Bool) : ∀ s ∈ keysT S b, s.size ≤ maxLen := fun z hz => by
  have hz2 := (List.mem_filter.1 hz).1
  unfold namesT at hz2
  obtain ⟨k, hk, rfl⟩ := List.mem_map.1 hz2
  rw [List.mem_mergeSort] at hk
  obtain ⟨p, hp, rfl⟩ := List.mem_map.1 hk
  have := hs p hp
  simpa [byK, ByteArray.size] using this
theorem infoD : (Try.prog.info? 34).map (fun i => (i.zero, i.size, i.bytes)) = some (some (.agg #[.string ByteArray.empty, .slice none 0 0]), 2, 40) := by kernel_rfl
theorem infoM : (Try.prog.info? 61).map (fun i => (i.zero, i.size, i.bytes)) = some (some (.agg #[.string ByteArray.empty, .int .i64 0]), 2, 24) := by kernel_rfl
section
variable {W W' w w0 w1 : World} {ok ok' T : Nat → Prop} {t m : Nat} {S : TS} {x : TE} {es : List (Key × TE)}
theorem clone_row (A : Option Addr) (n c : Nat) (l : List Int) (w : World) (hr : Kd.C (Kd.int .u8) w A n l) (hl : n ≤ 140737488355328) :
    Calls Try.prog 32 #[.slice A n c] w fun e w' => ∃ v, e = .returned v ∧ Kd.R (Kd.int .u8) 5 w' w.heap.size (fun k => w.heap.size ≤ k) v l ∧ Below w.heap.size w w' := by
  have hn := C_len hr
  subst hn
  cases A with
  | none =>
    have h0 : l = [] := by
      rcases Nat.eq_zero_or_pos l.length with h | h
      · exact List.eq_nil_of_length_eq_zero h
      · obtain ⟨ad, e, _⟩ := hr.2.2 h
        cases e
    subst h0
    refine (Try.bytes_Clone_nil 0 c w).mono ?_
    rintro e w' ⟨rfl, rfl⟩
    exact ⟨_, rfl, Kd.R_nil _ _ _ _ _, Below.refl _ _⟩
  | some a =>
    refine (Try.bytes_Clone_at a l.length c l w rfl hl (fun i hi => ?_)).mono ?_
    · obtain ⟨ad, e, h⟩ := Kd.at_int hr (i : Int) (by omega) (by omega)
      cases e
      exact h
    · rintro e w' ⟨v, rfl, ho, _, hb⟩
      refine ⟨v, rfl, ⟨fun k hk => ?_, _, ho, Kd.reps_scalar _⟩, hb⟩
      rcases ho.2 with ⟨rfl, _⟩ | ⟨g, cap, cur, rfl, hge, _⟩
      · simp [Value.ownBlock] at hk
      · simp [Value.ownBlock] at hk
        omega
theorem keys_nil (b : Bool) (w : World) : Calls Try.prog 36 #[.pointer none, .bool b] w fun e w' => e = .returned (.slice none 0 0) ∧ Below w.heap.size w w' := by
  go_enter Try.func36, Try.ntmps36
  go_wp2
  go_ret
  exact ⟨rfl, ((Below.refl _ _).alloc (Nat.le_refl _) _).alloc (by simp) _⟩
theorem gone_nil (w : World) : Calls Try.prog 27 #[.pointer none] w fun e w' => e = .returned (.slice none 0 0) ∧ Below w.heap.size w w' := by
  have K := Aside0.mk (keys_nil false w)
  go_enter Try.func27, Try.ntmps27
  go_wp2_with fail
  refine K.out.mono ?_
  rintro e w1 ⟨rfl, hB⟩
  go_wp2
  go_ret
  exact ⟨rfl, hB⟩
theorem gone_up (h : TabUp w w0 ok t S) (few : S.length ≤ 1000000) :
    Calls Try.prog 27 #[.pointer (some ⟨t, 0, none⟩)] w fun e w' => ∃ A c, e = .returned (.slice A (keysT S false).length c) ∧ (keysT S false).length ≤ c ∧ Kd.R Kd.string 9 w' w.heap.size (fun k => w.heap.size ≤ k) (.slice A (keysT S false).length c) (keysT S false) ∧ Below w.heap.size w w' := by
  have K := Aside0.mk (keys_up h few false)
  clear h
  go_enter Try.func27, Try.ntmps27
  go_wp2_with fail
  refine K.out.mono ?_
  rintro e w1 ⟨A, c, rfl, hc, hR, hB⟩
  go_wp2
  go_ret
  exact ⟨A, c, rfl, hc, hR, hB⟩
theorem docs_nil (w : World) : Calls Try.prog 25 #[.pointer none] w fun e w' => e = .returned (.slice none 0 0) ∧ Below w.heap.size w w' := by
  have K := Aside0.mk (keys_nil true w)
  go_enter Try.func25, Try.ntmps25
  go_wp2_with fail
  refine K.out.mono ?_
  rintro e w1 ⟨rfl, hB⟩
  go_wp2
  go_loopg [3, 9] 0 (fun gk s3 s9 wr => s3 = .slice none 0 0 ∧ s9 = .int .i64 0 ∧ wr = w1)
  case atStart => exact ⟨rfl, rfl, rfl⟩
  case round =>
    obtain ⟨rfl, rfl, rfl⟩ := hrel
    go_wp2
    go_ret
    exact ⟨rfl, hB⟩
set_option maxRecDepth 100000 in
set_option maxHeartbeats 4000000 in
theorem docs_up (h : TabUp w w0 ok t S) (few : S.length ≤ 1000000) (txt : ∀ p ∈ S, p.2.1.length ≤ 4096) :
    Calls Try.prog 25 #[.pointer (some ⟨t, 0, none⟩)] w fun e w' => ∃ A c, e = .returned (.slice A (docsT S).length c) ∧ (docsT S).length ≤ c ∧ Kd.R k34 34 w' w.heap.size (fun k => w.heap.size ≤ k) (.slice A (docsT S).length c) (docsT S) ∧ Below w.heap.size w w' := by
  have K1 := Aside0.mk (keys_up h few true)
  have HT := Aside0.mk h
  obtain ⟨ks, hks⟩ : ∃ ks, ks = keysT S true := ⟨_, rfl⟩
  have HDT : Aside0 (docsT S = ks.map (docOf S)) := ⟨by rw [hks]; rfl⟩
  have HSZ : Aside0 (∀ s ∈ ks, s.size ≤ maxLen) := ⟨by rw [hks]; exact keysT_short h.short true⟩
  have HTL : Aside0 (∀ s, (tget S s).1.length ≤ 4096) := ⟨tget_len txt⟩
  have hnl : ks.length ≤ 1000000 := by rw [hks]; exact Nat.le_trans (keysT_len S true) few
  rw [← hks] at K1
  clear h few txt hks
  go_enter Try.func25, Try.ntmps25
  go_wp2_with fail
  refine K1.out.mono ?_
  rintro e w1 ⟨A1, c1, rfl, hc1, hR1, hB1⟩
  have HR1 := Aside0.mk hR1
  have HB1 := Aside0.mk hB1
  clear hR1 hB1 K1
  go_wp2
  go_loopg [3, 9] ks.length (fun gk s3 s9 wr => ∃ (i : Nat) (v : Value), i ≤ ks.length ∧ ks.length - i ≤ gk ∧ s3 = v ∧ s9 = .int .i64 i ∧ Aside0 (Kd.R k34 34 wr w1.heap.size (fun k => w1.heap.size ≤ k) v ((ks.take i).map (docOf S))) ∧ Aside0 (Below w1.heap.size w1 wr))
  case atStart => exact ⟨0, .slice none 0 0, Nat.zero_le _, by omega, rfl, rfl, ⟨Kd.R_nil _ _ _ _ _⟩, ⟨Below.refl _ _⟩⟩
  case round =>
    obtain ⟨i, v, hi, hgk, rfl, rfl, HR, HB⟩ := hrel
    by_cases hlt : i < ks.length
    · obtain ⟨gk, rfl⟩ : ∃ q, gk = q + 1 := ⟨gk - 1, by omega⟩
      have hCw := (Kd.R_reads' (Kd.R_below HR1.out HB.out)).2.2
      have hA1 : ∃ ad, A1 = some ad := by obtain ⟨ad, e, _⟩ := hCw.2.2 (by omega); exact ⟨ad, e⟩
      obtain ⟨ad, rfl⟩ := hA1
      obtain ⟨g, o, rfl, hcells⟩ := plain_str hCw (by omega)
      have hcell := hcells i hlt
      have hmem : ks.getD i ByteArray.empty ∈ ks := by
        rw [List.getD_eq_getElem?_getD, List.getElem?_eq_getElem hlt]
        exact List.getElem_mem hlt
      have hsz := HSZ.out _ hmem
      have hnx : (ks.take (i + 1)).map (docOf S) = (ks.take i).map (docOf S) ++ [docOf S (ks.getD i ByteArray.empty)] := by
        rw [List.take_succ_eq_append_getElem hlt, List.map_append, List.getD_eq_getElem?_getD, List.getElem?_eq_getElem hlt]
        rfl
      obtain ⟨s, hs⟩ : ∃ s, s = ks.getD i ByteArray.empty := ⟨_, rfl⟩
      rw [← hs] at hcell hsz hnx
      have HNX := Aside0.mk hnx
      obtain ⟨m, A, n, c, h1, _, h2, h3, h4, h5⟩ := entry ((HT.out.quiet HB1.out).quiet HB.out) s hsz
      have hdo : docOf S s = ⟨s, (tget S s).1⟩ := rfl
      have htl := HTL.out s
      generalize (tget S s).2.1 = hv at h2
      obtain ⟨xs, hxs⟩ : ∃ xs, xs = (tget S s).1 := ⟨_, rfl⟩
      rw [← hxs] at h3 h5 hdo htl
      have HCL := Aside0.mk (clone_row A n c xs wr h5 (by omega))
      have HDO := Aside0.mk hdo
      have hfld : ∀ (W : World), (Instr.field 69 (Value.agg #[Value.slice A n c, Value.bool hv]) 0).run Try.prog W = .ok (.slice A n c) W := fun W => by simp [Instr.field, asAgg, go_sem]
      have hLi : ((ks.take i).map (docOf S)).length = i := by rw [List.length_map, List.length_take]; omega
      have HLI := Aside0.mk hLi
      clear hCw hcells hmem hsz hnx hs h3 h5 hxs htl hdo hLi h4
      go_wp2_with fail
      refine HCL.out.mono ?_
      rintro e w2 ⟨v2, rfl, hR2, hB2⟩
      obtain ⟨A2, c2, rfl⟩ := Kd.R_slice hR2
      have HM : Aside0 (k34.M w2 w1.heap.size (fun k => wr.heap.size ≤ k) ⟨s, xs⟩ [.string s, .slice A2 xs.length c2]) := ⟨k34_mkM w2 w1.heap.size _ ⟨s, xs⟩ (Kd.R_lower hR2 HB.out.size)⟩
      have HR2 := Aside0.mk (Kd.R_below HR.out hB2)
      have HB2 := Aside0.mk (HB.out.trans (hB2.mono HB.out.size))
      have HRL := Aside0.mk (Kd.R_lt HR.out)
      have HWS := Aside0.mk hB2.size
      clear hR2 hB2 HCL
      go_wp2_with ((with_reducible refine gate_builtin (b := .append) (xs := #[.tmp 13, .tmp 24]) rfl ?_); at_builtin; refine Kd.R_append k34 (w0 := w1) w1.heap.size rfl (.tmp 13) (.tmp 24) 26 34 (.agg #[.string ByteArray.empty, .slice none 0 0]) 40 rfl Try.underlying26 infoD rfl (by decide) (by decide) _ ((ks.take i).map (docOf S)) ⟨s, xs⟩ [.string s, .slice A2 xs.length c2] (fun k => w1.heap.size ≤ k) (fun k => wr.heap.size ≤ k) rfl rfl ?aP ?aK ?aF ?aO ?aB ?aS ?aL ?_; (case aP => exact HM.out); (case aK => exact (fun k hk => ⟨Nat.le_trans HB.out.size hk, fun e => by have := HRL.out k e.symm; omega⟩)); (case aF => exact (fun k hk => Nat.le_trans HB2.out.size hk)); (case aO => exact HR2.out); (case aB => exact HB2.out); (case aS => exact HB2.out.size); (case aL => rw [HLI.out]; omega); intro v9 w9 ho9 hb9 hg9 hat9; have HO9 := Aside0.mk ho9; have HB9 := Aside0.mk hb9; clear ho9 hb9 hg9 hat9)
      go_roundg gk
      case measure => omega
      case rel => exact ⟨i + 1, v9, by omega, by omega, rfl, by go_num, ⟨by rw [HNX.out, HDO.out]; exact HO9.out⟩, HB9⟩
    · obtain rfl : i = ks.length := by omega
      rw [List.take_length, ← HDT.out] at HR
      obtain ⟨A9, c9, e9, hc9, _⟩ := Kd.R_reads HR.out
      subst e9
      go_wp2
      go_ret
      exact ⟨A9, c9, rfl, hc9, Kd.R_mono (Kd.R_lower HR.out HB1.out.size) (fun k hk => Nat.le_trans HB1.out.size hk), HB1.out.trans (HB.out.mono HB1.out.size)⟩
end
end Go.Proofs.Ytaghcepochjoeaa.Hand
