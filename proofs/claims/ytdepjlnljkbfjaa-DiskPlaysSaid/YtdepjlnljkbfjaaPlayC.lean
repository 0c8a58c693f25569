/- stood: both disks tell the same names, the same bytes in use and the same files. -/
import Derived.Test.YtdepjlnljkbfjaaPlayB
namespace Go.Proofs.Ytdepjlnljkbfjaa.MapP
open Go.RowKit
theorem Ranges.short {P : Program} {mT kT eT : TypeId} {m r : Nat} {fm : List (Key × Nat)} (T : PM P mT kT eT) : ∀ (n : Nat) (W : World) (todo : List (Key × Nat)) (cnt : Nat), cnt ≤ n → Ranges P kT W m r fm todo cnt → ∀ p ∈ todo, p.1.length ≤ maxLen := by
  intro n
  induction n with
  | zero =>
    intro W todo cnt hc h p hp
    rcases h.next T 0 with ⟨_, hnil, _⟩ | ⟨s, g, todo', W', cnt', hsz, hat, hperm, hr2, hlt, _⟩
    · rw [hnil] at hp; cases hp
    · omega
  | succ n ih =>
    intro W todo cnt hc h p hp
    rcases h.next T 0 with ⟨_, hnil, _⟩ | ⟨s, g, todo', W', cnt', hsz, hat, hperm, hr2, hlt, _⟩
    · rw [hnil] at hp; cases hp
    · rcases List.mem_cons.1 (hperm.mem_iff.1 hp) with rfl | hp
      · exact hsz
      · exact ih W' todo' cnt' (by omega) hr2 p hp
end Go.Proofs.Ytdepjlnljkbfjaa.MapP
namespace Go.Proofs.Ytdepjlnljkbfjaa.Hand
open Go.RowKit Go.Proofs.Ytdepjlnljkbfjaa.PA Go.Proofs.Ytdepjlnljkbfjaa.MapP Go.Proofs.YtdepjlnljkbfjaaW.PrintWords Go.Proofs.YtdepjlnljkbfjaaW.PrintLast Go.Proofs.YtdepjlnljkbfjaaW.PrintMore
set_option linter.unusedVariables false
set_option linter.unusedSimpArgs false
set_option linter.unusedSectionVars false
theorem texts_refl0 (l : List ByteArray) (hl : l.length ≤ 4611686018427387904) : ∀ (d i : Nat), i + d = l.length → haystacklaw10_texts.l0 (d + 1) l l i = some true
  | 0, i, h => by
    unfold haystacklaw10_texts.l0
    rw [if_neg (by omega)]
  | d + 1, i, h => by
    unfold haystacklaw10_texts.l0
    have e : wrap64 ((i : Int) + 1) = ((i + 1 : Nat) : Int) := by unfold wrap64; omega
    rw [if_pos (by omega), if_pos (by omega), if_pos (by omega), if_pos rfl, e]
    exact texts_refl0 l hl d (i + 1) (by omega)
theorem texts_refl (l : List ByteArray) (hl : l.length ≤ 4611686018427387904) : haystacklaw10_texts.f (l.length + 1) l l = some true := by
  unfold haystacklaw10_texts.f
  rw [if_pos rfl]
  exact texts_refl0 l hl l.length 0 (by omega)
section
variable {W W' W1 w w0 : World} {Z Z' T : Nat → Prop} {d r : Nat} {S : DV} {R : RV} {ok : Nat → Prop}
theorem DiskUp.short (h : DiskUp W w0 ok d S) : ∀ q ∈ S.L, q.1.length ≤ maxLen := by
  obtain ⟨⟨m, F, hi, _⟩, _, _⟩ := h
  obtain ⟨W2, _, hr, _⟩ := hi.map.range PT
  intro q hq
  rw [hi.val] at hq
  obtain ⟨p, hp, rfl⟩ := List.mem_map.1 hq
  exact Ranges.short PT _ _ _ _ (Nat.le_refl _) hr (p.1, p.2.g) (List.mem_map.2 ⟨p, hp, rfl⟩)
theorem Pair.short (P : Pair W w Z d r S R) : ∀ q ∈ S.L, q.1.length ≤ maxLen := by
  obtain ⟨⟨o1, o2, h1, _⟩, _, _⟩ := P
  exact h1.short
theorem Pair.fine (P : Pair W w Z d r S R) : S.Fine := by
  obtain ⟨⟨o1, o2, h1, _⟩, _, _⟩ := P
  exact h1.fine
theorem read_there (h : Once S.L) {q : Key × (List Int × Nat)} (hq : q ∈ S.L) : readV S (byK q.1) = (q.2.1, 0) := by
  unfold readV
  have e : at_ S.L (byK q.1).data.toList = some q.2 := by simpa [byK] using h.at_of_mem hq
  rw [e]
set_option maxRecDepth 100000 in
set_option maxHeartbeats 8000000 in
theorem stood_calls (P : Pair W w Z d r S R) (hRel : Rel S R) :
    Calls Try.prog 22 #[.pointer (some ⟨d, 0, none⟩), .pointer (some ⟨r, 0, none⟩)] W fun e W' => e = .returned (.bool true) ∧ Below W.heap.size W W' := by
  have HP := Aside0.mk P
  have HREL := Aside0.mk hRel
  obtain ⟨ns, hns⟩ : ∃ ns, ns = namesR R := ⟨_, rfl⟩
  have hnl : ns.length ≤ 4096 := by rw [hns, ← rel_names hRel, namesOf_len]; exact P.fine.many
  have HL2 : Aside0 (Calls Try.prog 33 #[.pointer (some ⟨r, 0, none⟩)] W fun e w' => ∃ A c, e = .returned (.slice A ns.length c) ∧ ns.length ≤ c ∧ Kd.R Kd.string 9 w' W.heap.size (fun k => W.heap.size ≤ k) (.slice A ns.length c) ns ∧ Below W.heap.size W w') := ⟨by rw [hns]; exact p_list2 P⟩
  have HL1 : Aside0 (∀ W1, Pair W1 w Z d r S R → Calls Try.prog 25 #[.pointer (some ⟨d, 0, none⟩)] W1 fun e w' => ∃ A c, e = .returned (.slice A ns.length c) ∧ ns.length ≤ c ∧ Kd.R Kd.string 9 w' W1.heap.size (fun k => W1.heap.size ≤ k) (.slice A ns.length c) ns ∧ Below W1.heap.size W1 w') := ⟨fun W1 h => by rw [hns, ← rel_names hRel]; exact p_list1 h⟩
  obtain ⟨u, hu⟩ : ∃ u, u = total S.L := ⟨_, rfl⟩
  have HU1 : Aside0 (∀ W1, Pair W1 w Z d r S R → Calls Try.prog 46 #[.pointer (some ⟨d, 0, none⟩)] W1 fun e w' => e = .returned (.int .i64 u) ∧ Below W1.heap.size W1 w') := ⟨fun W1 h => by rw [hu]; exact p_used1 h⟩
  have HU2 : Aside0 (∀ W1, Pair W1 w Z d r S R → Calls Try.prog 57 #[.pointer (some ⟨r, 0, none⟩)] W1 fun e w' => e = .returned (.int .i64 u) ∧ w' = W1) := ⟨fun W1 h => by rw [hu, ← perm_total hRel.perm]; exact p_used2 h⟩
  have HNS : Aside0 (∀ s ∈ ns, s.size ≤ maxLen ∧ ∃ xs : List Int, readV S s = (xs, 0) ∧ readRV R s.data.toList = (xs, 0) ∧ xs.length ≤ 1073741824) := ⟨fun s hs => by
    rw [hns, ← rel_names hRel] at hs
    unfold namesOf namesK at hs
    obtain ⟨k, hk, rfl⟩ := List.mem_map.1 hs
    rw [List.mem_mergeSort] at hk
    obtain ⟨q, hq, rfl⟩ := List.mem_map.1 hk
    have h1 := read_there P.fine.once hq
    refine ⟨by have := P.short q hq; simpa [byK, ByteArray.size] using this, q.2.1, h1, by rw [← rel_read hRel]; exact h1, ?_⟩
    have h2 := total_mem (L := S.L) (k := q.1) (x := q.2) (P.fine.once.at_of_mem hq)
    have := P.fine.used
    have := P.fine.r1
    omega⟩
  clear P hRel hns hu
  go_enter Try.func22, Try.ntmps22
  go_wp2_with fail
  refine (HL2.out).mono ?_
  rintro e W1 ⟨A1, c1, rfl, hc1, hR1, hB1⟩
  have HP1 := Aside0.mk (HP.out.below hB1)
  have HR1 := Aside0.mk hR1
  have HB1 := Aside0.mk hB1
  clear hR1 hB1 HL2
  go_wp2_with fail
  refine (HL1.out _ HP1.out).mono ?_
  rintro e W2 ⟨A2, c2, rfl, hc2, hR2, hB2⟩
  have HR2 := Aside0.mk hR2
  have HB2 := Aside0.mk hB2
  have HC1 := Aside0.mk hc1
  have HC2 := Aside0.mk hc2
  have HN := Aside0.mk hnl
  clear hR2 hB2 hc1 hc2
  go_wp2_with fail
  refine (haystacklaw10_texts.calls (ns.length + 1) A2 c2 ns A1 c1 ns true W2 (Kd.R_reads' HR2.out).2.2 HC2.out (Kd.R_reads' (Kd.R_below HR1.out HB2.out)).2.2 HC1.out (texts_refl ns (by have := HN.out; omega))).mono ?_
  rintro e W3 ⟨rfl, hd3⟩
  have HP3 := Aside0.mk (HP1.out.below (HB2.out.trans (hd3.below.mono HB2.out.size)))
  have HB3 := Aside0.mk (HB2.out.trans (hd3.below.mono HB2.out.size))
  clear hd3
  go_wp2_with fail
  refine (HU1.out _ HP3.out).mono ?_
  rintro e W4 ⟨rfl, hB4⟩
  have HP4 := Aside0.mk (HP3.out.below hB4)
  have HB4 := Aside0.mk (HB3.out.trans (hB4.mono HB3.out.size))
  clear hB4
  go_wp2_with fail
  refine (HU2.out _ HP4.out).mono ?_
  rintro e W5 ⟨rfl, rfl⟩
  go_wp2
  clear HL1 HU1 HU2 HP HP1 HP3
  go_loopg [6, 7, 8, 9, 10] ns.length (fun gk s6 s7 s8 s9 s10 wr => ∃ i : Nat, i ≤ ns.length ∧ ns.length - i ≤ gk ∧ s6 = .int .i64 i ∧ Aside0 (Below W1.heap.size W1 wr) ∧ Aside0 (Pair wr w Z d r S R))
  case atStart => exact ⟨0, Nat.zero_le _, by omega, rfl, HB4, HP4⟩
  case round =>
    clear HB4 HP4
    obtain ⟨i, hi, hgk, rfl, HB, HPr⟩ := hrel
    by_cases hlt : i < ns.length
    · obtain ⟨gk, rfl⟩ : ∃ q, gk = q + 1 := ⟨gk - 1, by omega⟩
      have hCw := (Kd.R_reads' (Kd.R_below HR1.out HB.out)).2.2
      have hA1 : ∃ ad, A1 = some ad := by obtain ⟨ad, e, _⟩ := hCw.2.2 (by omega); exact ⟨ad, e⟩
      obtain ⟨ad, rfl⟩ := hA1
      obtain ⟨g, o, rfl, hcells⟩ := plain_str hCw (by omega)
      have hcell := hcells i hlt
      have hmem : ns.getD i ByteArray.empty ∈ ns := by
        rw [List.getD_eq_getElem?_getD, List.getElem?_eq_getElem hlt]
        exact List.getElem_mem hlt
      obtain ⟨hsz, xs, e1, e2, hxl⟩ := HNS.out _ hmem
      obtain ⟨s, hs⟩ : ∃ s, s = ns.getD i ByteArray.empty := ⟨_, rfl⟩
      rw [← hs] at hcell hsz e1 e2
      have k1 := p_read1 HPr.out s hsz
      rw [e1] at k1
      have K1 := Aside0.mk k1
      have K2 : Aside0 (∀ W1, Pair W1 w Z d r S R → Calls Try.prog 35 #[.pointer (some ⟨r, 0, none⟩), .string s] W1 fun e w' => ∃ A c, e = .returned (.tuple #[.slice A xs.length c, .int .i64 0]) ∧ xs.length ≤ c ∧ Kd.C (Kd.int .u8) w' A xs.length xs ∧ Below W1.heap.size W1 w') := ⟨fun W1 h => by have := p_read2 h s; rw [e2] at this; exact this⟩
      have HXL := Aside0.mk hxl
      have HCELL : Aside0 (∀ wq, Below W1.heap.size W1 wq → wq.cell? ⟨g, o + i, none⟩ = some (.string s)) := ⟨fun wq hq => by
        have h1 := (Kd.R_reads' (Kd.R_below HR1.out hq)).2.2
        obtain ⟨g2, o2, e, h2⟩ := plain_str h1 (by omega)
        injection e with eg eo
        rw [eg, eo, hs]
        exact h2 i hlt⟩
      clear hCw hcells hmem hsz e1 e2 k1 hs hxl
      go_wp2_with fail
      refine (K1.out).mono ?_
      rintro e w3 ⟨A3, c3, rfl, hR3, hB3⟩
      have HR3 := Aside0.mk hR3
      have HQ3 := Aside0.mk hB3
      have HP3 := Aside0.mk (HPr.out.below hB3)
      have HB3 := Aside0.mk (HB.out.trans (hB3.mono HB.out.size))
      have hcell3 := HCELL.out _ HB3.out
      clear hB3 hR3 K1
      go_wp2_with fail
      refine (K2.out _ HP3.out).mono ?_
      rintro e w4 ⟨A4, c4, rfl, hc4, hC4, hB4⟩
      have HC4 := Aside0.mk hC4
      have HD4 := Aside0.mk hc4
      have HP4 := Aside0.mk (HP3.out.below hB4)
      have HQ4 := Aside0.mk hB4
      have HB4 := Aside0.mk (HB3.out.trans (hB4.mono HB3.out.size))
      clear hB4 hC4 hc4 K2
      go_wp2_with fail
      have hRx := Kd.R_reads' (Kd.R_below HR3.out HQ4.out)
      refine (haystacklaw10_same.calls (xs.length + 1) A3 c3 xs A4 c4 xs true w4 hRx.2.2 hRx.2.1 HC4.out HD4.out (same_refl xs (by have := HXL.out; omega))).mono ?_
      rintro e w5 ⟨rfl, hd5⟩
      have HP5 := Aside0.mk (HP4.out.below hd5.below)
      have HB5 := Aside0.mk (HB4.out.trans (hd5.below.mono HB4.out.size))
      clear hd5 hRx
      go_wp2
      go_roundg gk
      case measure => omega
      case rel => exact ⟨i + 1, by omega, by omega, by go_num, HB5, HP5⟩
    · go_wp2
      go_ret
      exact ⟨rfl, HB1.out.trans (HB.out.mono HB1.out.size)⟩
end
end Go.Proofs.Ytdepjlnljkbfjaa.Hand
