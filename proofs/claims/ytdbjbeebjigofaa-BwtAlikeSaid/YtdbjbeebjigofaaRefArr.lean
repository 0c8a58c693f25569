/- The reference's doubling, in plain words. -/
import Derived.Test.YtdbjbeebjigofaaRef
import Derived.IntWalk
namespace Go.Proofs.Ytdbjbeebjigofaa.Hand
open Go.RowKit Go.Proofs.Ytdbjbeebjigofaa.Sfx Go.Proofs.YtdbjbeebjigofaaW.PrintWords Go.Proofs.YtdbjbeebjigofaaW.PrintLast Go.Proofs.YtdbjbeebjigofaaW.PrintMore
set_option linter.unusedVariables false
/-- How many symbols are looked at behind a round of step st. -/
def stepN (st : Nat) : Nat := max 1 (2 * st)
/-- At the head of a round. -/
structure RInv (l : List Int) (st : Nat) (sa rk : List Int) : Prop where
  perm : sa.Perm (iota l.length)
  lr : rk.length = l.length
  first : st = 0 → rk = l
  up : 0 < st → sa.Pairwise (fun a b => leL (pre l st a) (pre l st b) = true)
  ranked : 0 < st → ∃ many, Ranked l st (rd rk) many
theorem RInv.la {l sa rk : List Int} {st : Nat} (h : RInv l st sa rk) : sa.length = l.length := by rw [h.perm.length_eq, iota_len]
theorem bef_pre {l sa rk : List Int} {st : Nat} (h : RInv l st sa rk) (a b : Int) (ha : 0 ≤ a) (ha2 : a < l.length) (hb : 0 ≤ b) (hb2 : b < l.length) : befB rk st a b = ltL (pre l (stepN st) a) (pre l (stepN st) b) := by
  unfold befB stepN
  by_cases h0 : st = 0
  · subst h0
    rw [if_pos rfl, h.first rfl]
    rw [show max 1 (2 * 0) = 1 from rfl, pre_one l a ha ha2, pre_one l b hb hb2]
    simp only [ltL]
    split
    · rename_i e; rw [e]; simp
    · rfl
  · obtain ⟨many, hr⟩ := h.ranked (by omega)
    rw [if_neg h0, show max 1 (2 * st) = 2 * st from by omega, pre_double l st a b ha hb]
    have e1 := hr.eq ha ha2 hb hb2
    by_cases e : rd rk a = rd rk b
    · rw [if_pos e]
      have e2 := e1.1 e
      rw [e2, ltL_irrefl]
      simp only [decide_true, Bool.true_and, Bool.false_or]
      have hs : ∀ x, secR rk st x = second l st (rd rk) x := fun x => by unfold secR second; rw [h.lr]
      rw [hs, hs]
      unfold second
      by_cases h1 : a + st < l.length <;> by_cases h2 : b + st < l.length
      · rw [if_pos h1, if_pos h2]
        have := hr.lt (a + st) (b + st) (by omega) h1 (by omega) h2
        rw [Bool.eq_iff_iff, decide_eq_true_eq]; exact this
      · rw [if_pos h1, if_neg h2, pre_behind l st (b + st) (by omega)]
        have := hr.lo (a + st) (by omega) h1
        have hn := pre_here l st (a + st) (by omega) h1 (by omega)
        cases hq : pre l st (a + st) with
        | nil => exact absurd hq hn
        | cons x xs => simp [ltL]; omega
      · rw [if_neg h1, if_pos h2, pre_behind l st (a + st) (by omega)]
        have := hr.lo (b + st) (by omega) h2
        have hn := pre_here l st (b + st) (by omega) h2 (by omega)
        cases hq : pre l st (b + st) with
        | nil => exact absurd hq hn
        | cons x xs => simp [ltL]; omega
      · rw [if_neg h1, if_neg h2, pre_behind l st (a + st) (by omega), pre_behind l st (b + st) (by omega)]
        simp [ltL]
    · rw [if_neg e]
      have e2 : ¬ pre l st a = pre l st b := fun h => e (e1.2 h)
      simp only [e2, decide_false, Bool.false_and, Bool.or_false]
      rw [Bool.eq_iff_iff, decide_eq_true_eq]
      exact hr.lt a b ha ha2 hb hb2
theorem sorted_pre {l sa rk r : List Int} {st : Nat} (h : RInv l st sa rk) (hp : r.Perm sa) (hs : r.Pairwise (fun a b => leB rk st a b = true)) : r.Perm (iota l.length) ∧ r.Pairwise (fun a b => leL (pre l (stepN st) a) (pre l (stepN st) b) = true) := by
  have hp2 := hp.trans h.perm
  refine ⟨hp2, List.Pairwise.imp_of_mem ?_ hs⟩
  intro a b ha hb hab
  have ma := mem_iota.1 (hp2.subset ha)
  have mb := mem_iota.1 (hp2.subset hb)
  unfold leB at hab
  rw [bef_pre h b a mb.1 mb.2 ma.1 ma.2] at hab
  exact hab
/-- One more round of ranks. -/
theorem climb_bef {l sa rk r : List Int} {st : Nat} (h : RInv l st sa rk) (hp : r.Perm (iota l.length)) (hu : r.Pairwise (fun a b => leL (pre l (stepN st) a) (pre l (stepN st) b) = true)) {i : Nat} (hi : 1 ≤ i) (hil : i < l.length) {p q : Nat} (hpp : rd r ((i - 1 : Nat) : Int) = p) (hqq : rd r (i : Nat) = q) (hpn : p < l.length) (hqn : q < l.length) :
    climb l (stepN st) r i = climb l (stepN st) r (i - 1) + if befB rk st p q = true then 1 else 0 := by
  have hl : r.length = l.length := by rw [hp.length_eq, iota_len]
  obtain ⟨j, rfl⟩ : ∃ j, i = j + 1 := ⟨i - 1, by omega⟩
  rw [Nat.add_sub_cancel] at hpp ⊢
  show climb l (stepN st) r j + (if pre l (stepN st) (rd r (j : Nat)) = pre l (stepN st) (rd r ((j + 1 : Nat) : Int)) then 0 else 1) = _
  have hg := List.pairwise_iff_getElem.1 hu j (j + 1) (by omega) (by omega) (by omega)
  rw [← rd_at (show j < r.length by omega), ← rd_at (show j + 1 < r.length by omega)] at hg
  rw [hpp, hqq] at hg ⊢
  rw [bef_pre h (p : Int) (q : Int) (by omega) (by omega) (by omega) (by omega)]
  by_cases e : pre l (stepN st) (p : Int) = pre l (stepN st) (q : Int)
  · rw [if_pos e, e, ltL_irrefl]; simp
  · rw [if_neg e, leL_lt hg e]; simp
theorem RInv.next {l sa rk r nx : List Int} {st : Nat} (h : RInv l st sa rk) (hp : r.Perm (iota l.length)) (hu : r.Pairwise (fun a b => leL (pre l (stepN st) a) (pre l (stepN st) b) = true)) (lx : nx.length = l.length)
    (hc : ∀ i : Nat, i < l.length → rd nx (rd r (i : Nat)) = climb l (stepN st) r i) : RInv l (stepN st) r nx := by
  have hl : r.length = l.length := by rw [hp.length_eq, iota_len]
  exact ⟨hp, lx, fun h => by unfold stepN at h; omega, fun _ => hu, fun _ => ⟨_, ranked_climb hp hu (fun i hi => hc i (by omega))⟩⟩
theorem RInv.done {l sa rk : List Int} {st : Nat} (h : RInv l st sa rk) (hn : l.length ≤ st) : IsSA l sa := by
  refine ⟨h.perm, ?_⟩
  rcases Nat.eq_zero_or_pos st with h0 | h0
  · have : sa.length = 0 := by rw [h.la]; omega
    rw [List.eq_nil_of_length_eq_zero this]; exact List.Pairwise.nil
  · have hnd : sa.Nodup := h.perm.symm.nodup (iota_nodup _)
    rw [List.pairwise_iff_getElem]
    intro i j hi hj hij
    have hg := List.pairwise_iff_getElem.1 (h.up h0) i j hi hj hij
    rw [pre_full l st _ hn, pre_full l st _ hn] at hg
    refine leL_lt hg (fun e => ?_)
    have m1 := mem_iota.1 (h.perm.subset (List.getElem_mem hi))
    have m2 := mem_iota.1 (h.perm.subset (List.getElem_mem hj))
    exact List.pairwise_iff_getElem.1 hnd i j hi hj hij (suf_inj m1.1 m1.2 m2.1 m2.2 e)
theorem sa_of_full {l r : List Int} {k : Nat} (hp : r.Perm (iota l.length)) (hu : r.Pairwise (fun a b => leL (pre l k a) (pre l k b) = true)) (hc : climb l k r (l.length - 1) = (l.length : Int) - 1) : IsSA l r :=
  isSA_of_strict hp (strict_of_climb hp hu (by omega))
end Go.Proofs.Ytdbjbeebjigofaa.Hand

/- The reference's Array: its walk. -/
namespace Go.Proofs.Ytdbjbeebjigofaa.Hand
open Go.RowKit Go.Proofs.Ytdbjbeebjigofaa.Sfx Go.Proofs.Ytdbjbeebjigofaa.Iter Go.Proofs.YtdbjbeebjigofaaW.PrintWords Go.Proofs.YtdbjbeebjigofaaW.PrintLast Go.Proofs.YtdbjbeebjigofaaW.PrintMore
attribute [local go_sem] max2_int min2_int
set_option linter.unusedVariables false
set_option linter.unusedSimpArgs false
theorem C_at {w : World} {A : Option Addr} {n : Nat} {l : List Int} (h : Kd.C (Kd.int .i64) w A n l) (k : Nat) (hk : k < n) : ∃ a, A = some a ∧ w.cell? (a.add k) = some (.int .i64 (rd l (k : Nat))) := by
  obtain ⟨ad, e, h⟩ := Kd.at_int h (k : Int) (by omega) (by omega)
  exact ⟨ad, e, by simpa using h⟩
set_option maxRecDepth 100000 in
theorem ref_long (A : Option Addr) (c : Nat) (l : List Int) (w : World) (hl : 65536 < l.length) :
    Calls Try.prog 20 #[.slice A l.length c] w fun e w' => e = .returned (.tuple #[.slice none 0 0, .int .i64 5]) ∧ w' = w := by
  have h1 : (65536 : Int) < (l.length : Int) := by omega
  go_enter Try.func20, Try.ntmps20
  go_wp2
  go_ret2
  exact ⟨rfl, rfl⟩
set_option maxRecDepth 100000 in
theorem ref_neg (A : Option Addr) (c : Nat) (l : List Int) (w : World) (hl : l.length ≤ 65536) (hC : Kd.C (Kd.int .i64) w A l.length l) (hneg : ∃ x ∈ l, x < 0) :
    Calls Try.prog 20 #[.slice A l.length c] w fun e w' => e = .returned (.tuple #[.slice none 0 0, .int .i64 1]) ∧ w' = w := by
  have h1 : ¬ (65536 : Int) < (l.length : Int) := by omega
  have HC := Aside0.mk hC
  have HN := Aside0.mk hneg
  clear hC hneg
  go_enter Try.func20, Try.ntmps20
  go_wp2
  go_loop [4] (fun i => ∃ k : Nat, k ≤ l.length ∧ i = .int .i64 k ∧ Aside0 (∀ x ∈ l.take k, 0 ≤ x)) (fun i => l.length - (intOf i).toNat)
  case atStart => exact ⟨0, Nat.zero_le _, rfl, ⟨by simp⟩⟩
  case round =>
    obtain ⟨k, hk, rfl, HP⟩ := hrel
    by_cases hlt : k < l.length
    · obtain ⟨a, rfl, hc⟩ := C_cell HC.out k hlt
      by_cases hx : rd l (k : Nat) < 0
      · go_wp2
        go_ret2
        exact ⟨rfl, rfl⟩
      · have hx' : 0 ≤ rd l (k : Nat) := by omega
        have hq : Aside0 (∀ x ∈ l.take (k + 1), 0 ≤ x) := ⟨by
          rw [List.take_succ_eq_append_getElem hlt]
          intro x hm
          rcases List.mem_append.1 hm with hm | hm
          · exact HP.out x hm
          · simp only [List.mem_singleton] at hm
            rw [hm, ← rd_at hlt]; exact hx'⟩
        go_wp2
        go_round
        case rel => exact ⟨k + 1, by omega, by go_num, hq⟩
        case measure => simp [intOf]; omega
    · exfalso
      obtain ⟨x, hm, hx⟩ := HN.out
      rw [List.take_of_length_le (by omega)] at HP
      have := HP.out x hm
      omega
set_option maxRecDepth 100000 in
set_option maxHeartbeats 4000000 in
theorem ref_main (A : Option Addr) (c : Nat) (l : List Int) (w : World) (hl : l.length ≤ 65536) (hC : Kd.C (Kd.int .i64) w A l.length l) (hpos : ∀ x ∈ l, 0 ≤ x) :
    Calls Try.prog 20 #[.slice A l.length c] w fun e w' => ∃ v sa, e = .returned (.tuple #[v, .int .i64 0]) ∧ IsSA l sa ∧ Kd.R (Kd.int .i64) 3 w' w.heap.size (fun _ => True) v sa ∧ Below w.heap.size w w' := by
  have h1 : ¬ (65536 : Int) < (l.length : Int) := by omega
  have HC := Aside0.mk hC
  have HP := Aside0.mk hpos
  clear hC hpos
  go_enter Try.func20, Try.ntmps20
  go_wp2
  go_loop [4] (fun i => ∃ k : Nat, k ≤ l.length ∧ i = .int .i64 k) (fun i => l.length - (intOf i).toNat)
  case atStart => exact ⟨0, Nat.zero_le _, rfl⟩
  case round =>
    obtain ⟨k, hk, rfl⟩ := hrel
    by_cases hlt : k < l.length
    · obtain ⟨a, rfl, hc⟩ := C_cell HC.out k hlt
      have hx' : 0 ≤ rd l (k : Nat) := by rw [rd_at hlt]; exact HP.out _ (List.getElem_mem _)
      go_wp2
      go_round
      case rel => exact ⟨k + 1, by omega, by go_num⟩
      case measure => simp [intOf]; omega
    · obtain rfl : k = l.length := by omega
      clear hlt hk
      have hm1 := print_make (P := Try.prog) 22 3 .i64 8 Try.underlying22 infoZ (by decide) l.length (by omega)
      go_wp2
      obtain ⟨gA, gK, W0, e1, e2, e3, hB0, hbA, hbK⟩ : ∃ gA gK W0, gA = w.heap.size ∧ gK = w.heap.size + 1 ∧ W0 = (w.alloc (Obj.cells (madeCells #[Value.int IntKind.i64 0] l.length) 3)).alloc (Obj.cells (madeCells #[Value.int IntKind.i64 0] l.length) 3) ∧ Below w.heap.size w W0 ∧ Blk W0 gA (List.replicate l.length 0) ∧ Blk W0 gK (List.replicate l.length 0) := by
        refine ⟨_, _, _, rfl, rfl, rfl, ((Below.refl _ _).alloc (Nat.le_refl _) _).alloc (by simp) _, (Blk.made w l.length).alloc _, ?_⟩
        have := Blk.made (w.alloc (Obj.cells (madeCells #[Value.int IntKind.i64 0] l.length) 3)) l.length
        rw [World.size_alloc] at this
        exact this
      have hyA : w.heap.size ≤ gA := by omega
      have hyK : w.heap.size ≤ gK := by omega
      have hne : gA ≠ gK := by omega
      rw [← e3, ← e2, ← e1]
      clear e1 e2 e3
      have HB0 := Aside0.mk hB0
      have HBA := Aside0.mk hbA
      have HBK := Aside0.mk hbK
      clear hB0 hbA hbK
      go_loopw [8] (fun s8 wq => ∃ (i : Nat) (sa rk : List Int), i ≤ l.length ∧ s8 = .int .i64 i ∧ Aside0 (Blk wq gA sa) ∧ Aside0 (Blk wq gK rk) ∧ Aside0 (sa.length = l.length ∧ rk.length = l.length) ∧ Aside0 (Below w.heap.size w wq) ∧ Aside0 (∀ j : Nat, j < i → rd sa (j : Nat) = j ∧ rd rk (j : Nat) = rd l (j : Nat))) (fun s8 _ => l.length - (intOf s8).toNat)
      case atStart => exact ⟨0, _, _, Nat.zero_le _, rfl, HBA, HBK, ⟨by simp, by simp⟩, HB0, ⟨fun j hj => by omega⟩⟩
      case round =>
        obtain ⟨i, sa, rk, hi, rfl, HBA, HBK, HL, HB, HJ⟩ := hrel
        by_cases hlt : i < l.length
        · obtain ⟨a, hA, hc⟩ := C_cell (Kd.C_below HC.out HB.out) i hlt
          subst hA
          have ca := HBA.out.cell i (by rw [HL.out.1]; exact hlt)
          have fa := HBA.out.frozen i
          have ck := HBK.out.cell i (by rw [HL.out.2]; exact hlt)
          have fk := HBK.out.frozen i
          have hneA : ¬ a.block = gA := fun e => by have h := World.block_lt_of_cell? w _ (C_cell HC.out i hlt).choose_spec.2; have e2 := (C_cell HC.out i hlt).choose_spec.1; injection e2 with e2; rw [← e2, add_block] at h; omega
          have ca2 : (wr.setCell ⟨gA, i, none⟩ (.int .i64 (i : Nat))).cell? (a.add i) = some (.int .i64 (rd l (i : Nat))) := (cell_far (p := ⟨gA, i, none⟩) (a := a.add i) (by rw [add_block]; exact hneA) _).trans hc
          go_upto_region 15 with fail
          have hA2 := HBA.out.put i (i : Nat)
          have hK2 := HBK.out.far (Ne.symm hne) i (.int .i64 (i : Nat))
          have hB2 := HB.out.setCell (p := ⟨gA, i, none⟩) hyA (.int .i64 (i : Nat))
          generalize wr.setCell ⟨gA, i, none⟩ (.int .i64 (i : Nat)) = w2 at hA2 hK2 hB2 ca2 ⊢
          have HA2 := Aside0.mk hA2
          have HK2 := Aside0.mk hK2
          have HB2 := Aside0.mk hB2
          clear hA2 hK2 hB2 ca fa ck fk hc
          have ck := HK2.out.cell i (by rw [HL.out.2]; exact hlt)
          have fk := HK2.out.frozen i
          go_wp2
          go_roundw
          case rel =>
            refine ⟨i + 1, _, _, by omega, by go_num, ⟨HA2.out.far hne _ _⟩, ⟨HK2.out.put i _⟩, ⟨by rw [List.length_set]; exact HL.out.1, by rw [List.length_set]; exact HL.out.2⟩, ⟨HB2.out.setCell hyK _⟩, ⟨fun j hj => ?_⟩⟩
            rw [rd_set _ _ _ _ (by rw [HL.out.1]; exact hlt), rd_set _ _ _ _ (by rw [HL.out.2]; exact hlt)]
            by_cases e : j = i
            · rw [if_pos e, if_pos e, e]; exact ⟨rfl, rfl⟩
            · rw [if_neg e, if_neg e]; exact HJ.out j (by omega)
          case measure => simp [intOf]; omega
        · obtain rfl : i = l.length := by omega
          clear hlt hi
          have esa : sa = iota l.length := by
            apply List.ext_getElem
            · rw [HL.out.1, iota_len]
            · intro j h1 h2
              rw [HL.out.1] at h1
              have := (HJ.out j h1).1
              rw [rd_at (by rw [HL.out.1]; exact h1)] at this
              rw [this]; simp [iota]
          have erk : l = rk := Eq.symm (by
            apply List.ext_getElem
            · rw [HL.out.2]
            · intro j h1 h2
              have := (HJ.out j h2).2
              rw [rd_at h1, rd_at h2] at this
              exact this)
          subst esa
          subst erk
          have HR0 := Aside0.mk (show Kd.R (Kd.int .i64) 3 wr w.heap.size (fun _ => True) (.slice (some ⟨gA, 0, none⟩) l.length l.length) (iota l.length) from by
            have h := HBA.out.R w.heap.size hyA (by rw [iota_len]; omega)
            rw [iota_len] at h
            exact Kd.R_mono h (fun _ _ => trivial))
          have HRI : Aside0 (RInv l 0 (iota l.length) l) := ⟨List.Perm.refl _, rfl, fun _ => rfl, fun h => by omega, fun h => by omega⟩
          clear HBA HL HJ HB0
          go_wp2
          go_loopw [6, 7, 9] (fun s6 s7 s9 wq => ∃ (st gk : Nat) (A : Option Addr) (c : Nat) (sa rk : List Int), s9 = .int .i64 st ∧ s6 = .slice A l.length c ∧ s7 = .slice (some ⟨gk, 0, none⟩) l.length l.length ∧ st ≤ 2 * l.length + 1 ∧ Aside0 (Kd.R (Kd.int .i64) 3 wq w.heap.size (fun _ => True) (.slice A l.length c) sa) ∧ Aside0 (Blk wq gk rk) ∧ Aside0 (Below w.heap.size w wq) ∧ Aside0 (RInv l st sa rk)) (fun _ _ s9 _ => 2 * l.length + 2 - (intOf s9).toNat)
          case atStart => exact ⟨0, gK, _, _, _, _, rfl, rfl, rfl, by omega, HR0, HBK, HB, HRI⟩
          case round =>
            obtain ⟨st, gk, A6, c6, sa, rk, rfl, rfl, rfl, hst, HR, HK, HB, HRI⟩ := hrel
            clear HR0 HBK
            by_cases hlt : st < l.length
            · go_wp2_with fail
              have h := refsort_calls (some ⟨gk, 0, none⟩) l.length rk st (by rw [HRI.out.lr]; exact hl) (by omega) (by rw [HRI.out.lr]; exact Nat.le_refl _) sa.length A6 c6 sa w wr rfl (by rw [HRI.out.la]; exact hl) HB.out (by rw [HRI.out.la]; exact HR.out) (fun x hx => by rw [HRI.out.lr]; exact mem_iota.1 (HRI.out.perm.subset hx)) (HK.out.C (by rw [HRI.out.lr]; omega))
              rw [HRI.out.la, HRI.out.lr] at h
              refine h.mono ?_
              rintro e w1 ⟨v, r, rfl, hperm, hs, hR, hB⟩
              obtain ⟨A7, c7, rfl⟩ := Kd.R_slice hR
              have hlr : r.length = l.length := by rw [hperm.length_eq, HRI.out.la]
              rw [hlr] at hR ⊢
              obtain ⟨hp2, hu2⟩ := sorted_pre HRI.out hperm hs
              have HR1 := Aside0.mk hR
              have HK1 := Aside0.mk (HK.out.below hB)
              have HB1 := Aside0.mk (HB.out.trans (hB.mono HB.out.size))
              have HP2 := Aside0.mk hp2
              have HU2 := Aside0.mk hu2
              have HLR := Aside0.mk hlr
              clear h hperm hs hR hB hp2 hu2 hlr HR HK
              have hm1 := print_make (P := Try.prog) 22 3 .i64 8 Try.underlying22 infoZ (by decide) l.length (by omega)
              go_wp2
              obtain ⟨gX, W2, e1, e2, hX⟩ : ∃ gX W2, gX = w1.heap.size ∧ W2 = w1.alloc (Obj.cells (madeCells #[Value.int IntKind.i64 0] l.length) 3) ∧ Blk W2 gX (List.replicate l.length 0) := ⟨_, _, rfl, rfl, Blk.made w1 l.length⟩
              have hB2 : Below w1.heap.size w1 W2 := by rw [e2]; exact (Below.refl _ _).alloc (Nat.le_refl _) _
              have hgX : w1.heap.size ≤ gX := by omega
              rw [← e2, ← e1]
              have HX := Aside0.mk hX
              have HB2 := Aside0.mk hB2
              have HGX := Aside0.mk hgX
              clear e1 e2 hX hB2 hgX hm1
              obtain ⟨z0, hz0, ez0⟩ : ∃ z : Nat, z < l.length ∧ rd r ((0 : Nat) : Int) = z := by
                have him : rd r ((0 : Nat) : Int) ∈ iota l.length := HP2.out.subset (by rw [rd_at (by rw [HLR.out]; omega)]; exact List.getElem_mem _)
                obtain ⟨hq0, hq1⟩ := mem_iota.1 him
                exact ⟨(rd r ((0 : Nat) : Int)).toNat, by omega, by omega⟩
              have HC0 : Aside0 (rd (List.replicate l.length (0 : Int)) (rd r ((0 : Nat) : Int)) = climb l (stepN st) r 0) := ⟨by
                rw [ez0, rd_at (by simp; exact hz0)]; simp [climb]⟩
              clear hz0 ez0
              go_loopw [11] (fun s11 wq => ∃ (i : Nat) (nx : List Int), 1 ≤ i ∧ i ≤ l.length ∧ s11 = .int .i64 i ∧ Aside0 (Below w1.heap.size w1 wq) ∧ Aside0 (Blk wq gX nx) ∧ Aside0 (nx.length = l.length) ∧ Aside0 (∀ j : Nat, j < i → rd nx (rd r (j : Nat)) = climb l (stepN st) r j)) (fun s11 _ => l.length - (intOf s11).toNat)
              case atStart => exact ⟨1, _, Nat.le_refl _, by omega, rfl, HB2, HX, ⟨by simp⟩, ⟨fun j hj => by obtain rfl : j = 0 := (by omega); exact HC0.out⟩⟩
              case round =>
                obtain ⟨i, nx, hi1, hi2, rfl, HBW, HX, HLX, HCL⟩ := hrel
                have HAT : Aside0 (∀ i : Nat, i < l.length → ∃ q : Nat, q < l.length ∧ rd r (i : Nat) = q) := ⟨fun i hi => by
                  have him : rd r (i : Nat) ∈ iota l.length := HP2.out.subset (by rw [rd_at (by rw [HLR.out]; exact hi)]; exact List.getElem_mem _)
                  obtain ⟨hq0, hq1⟩ := mem_iota.1 him
                  exact ⟨(rd r (i : Nat)).toNat, by omega, by omega⟩⟩
                have HRW := Aside0.mk (Kd.C_below (Kd.R_reads' HR1.out).2.2 HBW.out)
                by_cases hil : i < l.length
                · obtain ⟨p, hpn, hp⟩ := HAT.out (i - 1) (by omega)
                  obtain ⟨q, hqn, hq⟩ := HAT.out i hil
                  obtain ⟨ax, hA7, cp⟩ := C_at HRW.out (i - 1) (by rw [HLR.out]; omega)
                  subst hA7
                  obtain ⟨ax', hax, cq⟩ := C_at HRW.out i (by rw [HLR.out]; exact hil)
                  injection hax with hax
                  subst hax
                  rw [hp] at cp
                  rw [hq] at cq
                  have cxp := HX.out.cell p (by rw [HLX.out]; exact hpn)
                  have cxq := HX.out.cell q (by rw [HLX.out]; exact hqn)
                  have fxq := HX.out.frozen q
                  have hcp : rd nx (p : Nat) = climb l (stepN st) r (i - 1) := by rw [← hp]; exact HCL.out (i - 1) (by omega)
                  rw [hcp] at cxp
                  have hcb := climb_lo l (stepN st) r (i - 1)
                  obtain ⟨v, hv⟩ : ∃ v, v = climb l (stepN st) r (i - 1) := ⟨_, rfl⟩
                  rw [← hv] at cxp hcb
                  have HV := Aside0.mk hv
                  have HPP := Aside0.mk hp
                  have HQQ := Aside0.mk hq
                  clear hv hcp hp hq
                  have hw1 : IntKind.i64.wrap ((i : Int) - 1) = (i : Int) - 1 := IntWalk.i64_in _ (by omega)
                  have hw2 : 0 ≤ (i : Int) - 1 := by omega
                  have hw2' : 1 ≤ (i : Int) := by omega
                  have hw3 : ((i : Int) - 1).toNat = i - 1 := by omega
                  have hw4 : (i : Int) - 1 < l.length := by omega
                  go_wp2
                  refine start_ (n := 15) (S := fun w' => w'.cell? (ax.add (i - 1)) = some (.int .i64 (p : Nat)) ∧ w'.cell? (ax.add i) = some (.int .i64 (q : Nat)) ∧ w'.cell? ⟨gX, p, none⟩ = some (.int .i64 v)) (ds := [14]) #[false, false, false, false, false, false, false, false, false, false, false, false, false, false, false] (by kernel_rfl) rfl rfl ⟨cp, cq, cxp⟩ (fun hHeld => ?_)
                  refine pure_ (i := 0) (N := some 65) (v := ?_) (a' := ?_) #[true, false, false, false, false, false, false, false, false, false, false, false, false, false, false] rfl rfl (by kernel_rfl) (fun _ _ _ h => h) (Or.inl ⟨by rfl, ?_⟩) ?_ ?_
                  rotate_left
                  · intro w'
                    go_simp
                    with_reducible rfl
                  rotate_left
                  · simp only [Act.put, List.setIfInBounds_toArray, List.set_cons_zero, List.set_cons_succ, i64_w, i32_w]
                    rfl
                  refine pure_ (i := 1) (N := some 66) (v := ?_) (a' := ?_) #[true, true, false, false, false, false, false, false, false, false, false, false, false, false, false] rfl rfl (by kernel_rfl) (fun _ _ _ h => h) (Or.inl ⟨by rfl, ?_⟩) ?_ ?_
                  rotate_left
                  · intro w'
                    go_simp
                    with_reducible rfl
                  rotate_left
                  · simp only [Act.put, List.setIfInBounds_toArray, List.set_cons_zero, List.set_cons_succ, i64_w, i32_w]
                    rfl
                  refine pure_ (i := 2) (N := some 67) (v := ?_) (a' := ?_) #[true, true, true, false, false, false, false, false, false, false, false, false, false, false, false] rfl rfl (by kernel_rfl) (fun _ _ _ h => h) (Or.inl ⟨by rfl, ?_⟩) ?_ ?_
                  rotate_left
                  · intro w'
                    go_simp
                    with_reducible rfl
                  rotate_left
                  · simp only [Act.put, List.setIfInBounds_toArray, List.set_cons_zero, List.set_cons_succ, i64_w, i32_w]
                    rfl
                  refine pure_ (i := 3) (N := some 68) (v := ?_) (a' := ?_) #[true, true, true, true, false, false, false, false, false, false, false, false, false, false, false] rfl rfl (by kernel_rfl) (fun _ _ _ h => h) (Or.inl ⟨by rfl, ?_⟩) ?_ ?_
                  rotate_left
                  · intro w'
                    go_simp
                    with_reducible rfl
                  rotate_left
                  · simp only [Act.put, List.setIfInBounds_toArray, List.set_cons_zero, List.set_cons_succ, i64_w, i32_w]
                    rfl
                  refine pure_ (i := 5) (N := some 70) (v := ?_) (a' := ?_) #[true, true, true, true, false, true, false, false, false, false, false, false, false, false, false] rfl rfl (by kernel_rfl) (fun _ _ _ h => h) (Or.inl ⟨by rfl, ?_⟩) ?_ ?_
                  rotate_left
                  · intro w'
                    go_simp
                    with_reducible rfl
                  rotate_left
                  · simp only [Act.put, List.setIfInBounds_toArray, List.set_cons_zero, List.set_cons_succ, i64_w, i32_w]
                    rfl
                  refine pure_ (i := 6) (N := some 71) (v := ?_) (a' := ?_) #[true, true, true, true, false, true, true, false, false, false, false, false, false, false, false] rfl rfl (by kernel_rfl) (fun _ _ _ h => h) (Or.inl ⟨by rfl, ?_⟩) ?_ ?_
                  rotate_left
                  · intro w'
                    go_simp
                    with_reducible rfl
                  rotate_left
                  · simp only [Act.put, List.setIfInBounds_toArray, List.set_cons_zero, List.set_cons_succ, i64_w, i32_w]
                    rfl
                  refine pure_ (i := 7) (N := some 72) (v := ?_) (a' := ?_) #[true, true, true, true, false, true, true, true, false, false, false, false, false, false, false] rfl rfl (by kernel_rfl) (fun _ _ _ h => h) (Or.inl ⟨by rfl, ?_⟩) ?_ ?_
                  rotate_left
                  · intro w'
                    go_simp
                    with_reducible rfl
                  rotate_left
                  · simp only [Act.put, List.setIfInBounds_toArray, List.set_cons_zero, List.set_cons_succ, i64_w, i32_w]
                    rfl
                  refine pure_ (i := 8) (N := some 73) (v := ?_) (a' := ?_) #[true, true, true, true, false, true, true, true, true, false, false, false, false, false, false] rfl rfl (by kernel_rfl) (fun _ _ _ h => h) (Or.inl ⟨by rfl, ?_⟩) ?_ ?_
                  rotate_left
                  · intro w'
                    go_simp
                    with_reducible rfl
                  rotate_left
                  · simp only [Act.put, List.setIfInBounds_toArray, List.set_cons_zero, List.set_cons_succ, i64_w, i32_w]
                    rfl
                  refine pure_ (i := 9) (N := some 74) (v := ?_) (a' := ?_) #[true, true, true, true, false, true, true, true, true, true, false, false, false, false, false] rfl rfl (by kernel_rfl) (fun _ _ _ h => h) (Or.inl ⟨by rfl, ?_⟩) ?_ ?_
                  rotate_left
                  · intro w'
                    go_simp
                    with_reducible rfl
                  rotate_left
                  · simp only [Act.put, List.setIfInBounds_toArray, List.set_cons_zero, List.set_cons_succ, i64_w, i32_w]
                    rfl
                  refine take_ (i := 4) (N := some 69) (v := ?_) (a' := ?_) #[true, true, true, true, true, true, true, true, true, true, false, false, false, false, false] rfl rfl (by kernel_rfl) (fun _ _ _ h => h) (Or.inl ⟨by rfl, ?_⟩) hHeld ?_ ?_
                  rotate_left
                  · rintro w' ⟨s0, s1, s2⟩
                    go_simp
                    with_reducible rfl
                  rotate_left
                  · simp only [Act.put, List.setIfInBounds_toArray, List.set_cons_zero, List.set_cons_succ, i64_w, i32_w]
                    rfl
                  refine take_ (i := 10) (N := some 75) (v := ?_) (a' := ?_) #[true, true, true, true, true, true, true, true, true, true, true, false, false, false, false] rfl rfl (by kernel_rfl) (fun _ _ _ h => h) (Or.inl ⟨by rfl, ?_⟩) hHeld ?_ ?_
                  rotate_left
                  · rintro w' ⟨s0, s1, s2⟩
                    go_simp
                    with_reducible rfl
                  rotate_left
                  · simp only [Act.put, List.setIfInBounds_toArray, List.set_cons_zero, List.set_cons_succ, i64_w, i32_w]
                    rfl
                  refine pure_ (i := 11) (N := some 76) (v := ?_) (a' := ?_) #[true, true, true, true, true, true, true, true, true, true, true, true, false, false, false] rfl rfl (by kernel_rfl) (fun _ _ _ h => h) (Or.inl ⟨by rfl, ?_⟩) ?_ ?_
                  rotate_left
                  · intro w'
                    go_simp
                    with_reducible rfl
                  rotate_left
                  · simp only [Act.put, List.setIfInBounds_toArray, List.set_cons_zero, List.set_cons_succ, i64_w, i32_w]
                    rfl
                  refine take_ (i := 12) (N := some 77) (v := ?_) (a' := ?_) #[true, true, true, true, true, true, true, true, true, true, true, true, true, false, false] rfl rfl (by kernel_rfl) (fun _ _ _ h => h) (Or.inl ⟨by rfl, ?_⟩) hHeld ?_ ?_
                  rotate_left
                  · rintro w' ⟨s0, s1, s2⟩
                    go_simp
                    with_reducible rfl
                  rotate_left
                  · simp only [Act.put, List.setIfInBounds_toArray, List.set_cons_zero, List.set_cons_succ, i64_w, i32_w]
                    rfl
                  refine pure_ (i := 13) (N := some 78) (v := ?_) (a' := ?_) #[true, true, true, true, true, true, true, true, true, true, true, true, true, true, false] rfl rfl (by kernel_rfl) (fun _ _ _ h => h) (Or.inl ⟨by rfl, ?_⟩) ?_ ?_
                  rotate_left
                  · intro w'
                    go_simp
                    with_reducible rfl
                  rotate_left
                  · simp only [Act.put, List.setIfInBounds_toArray, List.set_cons_zero, List.set_cons_succ, i64_w, i32_w]
                    rfl
                  refine last_ (i := 14) (N := none) #[true, true, true, true, true, true, true, true, true, true, true, true, true, true, true] rfl rfl (by kernel_rfl) (by decide) (fun K hK => ?_)
                  refine skip_ (w1 := ?_) (by rfl) rfl ?_ ?_
                  rotate_left
                  · go_simp
                    rfl
                  refine hK.out _ _ ?_
                  clear hK K
                  refine done_ (by kernel_rfl) ?_

                  have HX10 := Aside0.mk (show Blk (wr.setCell ⟨gX, q, none⟩ (.int .i64 v)).drew gX (nx.set q v) from HX.out.put q v)
                  have HB10 := Aside0.mk (below_drew (HBW.out.setCell (p := ⟨gX, q, none⟩) HGX.out (.int .i64 v)))
                  try rw [World.setCell_drew]
                  generalize (wr.setCell ⟨gX, q, none⟩ (.int .i64 v)).drew = w10 at HX10 HB10 ⊢
                  clear cp cq cxp cxq fxq
                  obtain ⟨ax2, hax2, cp2⟩ := C_at (Kd.C_below (Kd.R_reads' HR1.out).2.2 HB10.out) (i - 1) (by rw [HLR.out]; omega)
                  injection hax2 with hax2
                  subst hax2
                  obtain ⟨ax3, hax3, cq2⟩ := C_at (Kd.C_below (Kd.R_reads' HR1.out).2.2 HB10.out) i (by rw [HLR.out]; exact hil)
                  injection hax3 with hax3
                  subst hax3
                  rw [HPP.out] at cp2
                  rw [HQQ.out] at cq2
                  have HBF : Aside0 (∀ a, Calls Try.prog 32 #[.slice (some ⟨gk, 0, none⟩) l.length l.length, .int .i64 st, .int .i64 p, .int .i64 q] (w10.drewN a) fun e w' => e = .returned (.bool (befB rk st p q)) ∧ ∃ n, w' = w10.drewN n) := ⟨fun a => by
                    have hk : Kd.C (Kd.int .i64) (w10.drewN a) (some ⟨gk, 0, none⟩) rk.length rk := Kd.C_drewN ((HK1.out.below HB10.out).C (by rw [HRI.out.lr]; omega)) a
                    have h := bef_calls (some ⟨gk, 0, none⟩) l.length rk st p q (w10.drewN a) (by rw [HRI.out.lr]; omega) (by omega) (by rw [HRI.out.lr]; exact hpn) (by rw [HRI.out.lr]; exact hqn) hk (by rw [HRI.out.lr]; exact Nat.le_refl _)
                    rw [HRI.out.lr] at h
                    exact h.mono (fun e w' h => ⟨h.1, by obtain ⟨n, hn⟩ := h.2; exact ⟨a + n, by rw [hn, World.drewN_drewN]⟩⟩)⟩
                  have hcl := climb_bef HRI.out HP2.out HU2.out hi1 hil HPP.out HQQ.out hpn hqn
                  rw [← HV.out] at hcl
                  have HCN := Aside0.mk hcl
                  clear hcl
                  rcases hb : befB rk st p q with _ | _
                  · have HBF' := HBF.out
                    have HCN' := HCN.out
                    rw [hb] at HBF' HCN'
                    clear hb HBF HCN
                    have HBG := Aside0.mk HBF'
                    have HCN := Aside0.mk HCN'
                    clear HBF' HCN'
                    go_wp2
                    go_quiet (with_reducible exact HBG.out _)
                    go_wp2
                    go_roundw
                    case rel => exact ⟨i + 1, _, by omega, by omega, by go_num, ⟨pw_below_drewN HB10.out nq⟩, HX10, ⟨by rw [List.length_set]; exact HLX.out⟩, ⟨climb_put HP2.out hil HLX.out HCL.out HQQ.out hqn v (by rw [HCN.out]; simp)⟩⟩
                    case measure => simp [intOf]; omega
                  · have HBF' := HBF.out
                    have HCN' := HCN.out
                    rw [hb] at HBF' HCN'
                    clear hb HBF HCN
                    have HBG := Aside0.mk HBF'
                    have HCN := Aside0.mk HCN'
                    clear HBF' HCN'
                    go_wp2
                    go_quiet (with_reducible exact HBG.out _)
                    have HX11 := Aside0.mk (show Blk (w10.drewN nq) gX (nx.set q v) from HX10.out)
                    have HB11 := Aside0.mk (pw_below_drewN HB10.out nq)
                    clear cp2 cq2
                    generalize w10.drewN nq = w11 at HX11 HB11 ⊢
                    obtain ⟨ax2, hax2, cp2⟩ := C_at (Kd.C_below (Kd.R_reads' HR1.out).2.2 HB11.out) (i - 1) (by rw [HLR.out]; omega)
                    injection hax2 with hax2
                    subst hax2
                    obtain ⟨ax3, hax3, cq2⟩ := C_at (Kd.C_below (Kd.R_reads' HR1.out).2.2 HB11.out) i (by rw [HLR.out]; exact hil)
                    injection hax3 with hax3
                    subst hax3
                    rw [HPP.out] at cp2
                    rw [HQQ.out] at cq2
                    have cx := HX11.out.cell q (by rw [List.length_set, HLX.out]; exact hqn)
                    have fx := HX11.out.frozen q
                    rw [rd_set _ _ _ _ (by rw [HLX.out]; exact hqn), if_pos rfl] at cx
                    go_wp2
                    go_roundw
                    case rel => exact ⟨i + 1, _, by omega, by omega, by go_num, ⟨HB11.out.setCell HGX.out _⟩, ⟨HX11.out.put q _⟩, ⟨by rw [List.length_set, List.length_set]; exact HLX.out⟩, ⟨by rw [List.set_set]; exact climb_put HP2.out hil HLX.out HCL.out HQQ.out hqn (v + 1) (by rw [HCN.out]; simp)⟩⟩
                    case measure => simp [intOf]; omega
                · obtain rfl : i = l.length := by omega
                  clear hil hi2
                  obtain ⟨z, hzn, hz⟩ := HAT.out (l.length - 1) (by omega)
                  obtain ⟨ax, hA7, cz⟩ := C_at HRW.out (l.length - 1) (by rw [HLR.out]; omega)
                  subst hA7
                  rw [hz] at cz
                  have cxz := HX.out.cell z (by rw [HLX.out]; exact hzn)
                  have hcz : rd nx (z : Nat) = climb l (stepN st) r (l.length - 1) := by rw [← hz]; exact HCL.out _ (by omega)
                  rw [hcz] at cxz
                  have hcb := climb_lo l (stepN st) r (l.length - 1)
                  obtain ⟨v, hv⟩ : ∃ v : Nat, climb l (stepN st) r (l.length - 1) = v := ⟨(climb l (stepN st) r (l.length - 1)).toNat, by omega⟩
                  rw [hv] at cxz hcb
                  have HV := Aside0.mk hv
                  clear hv hcz hz
                  have hw1 : IntKind.i64.wrap ((l.length : Int) - 1) = (l.length : Int) - 1 := IntWalk.i64_in _ (by omega)
                  have hw2 : 0 ≤ (l.length : Int) - 1 := by omega
                  have hw2' : 1 ≤ (l.length : Int) := by omega
                  have hw3 : ((l.length : Int) - 1).toNat = l.length - 1 := by omega
                  have hw4 : (l.length : Int) - 1 < l.length := by omega
                  have hw5 : 0 < (l.length : Int) := by omega
                  have hw6 : 0 < l.length := by omega
                  by_cases hf : (v : Int) = (l.length : Int) - 1
                  · have hfb : ((v : Int) == (l.length : Int) - 1) = true := by simp [hf]
                    have HF := Aside0.mk hf
                    clear hf
                    go_wp2
                    go_ret2
                    exact ⟨_, r, rfl, sa_of_full HP2.out HU2.out (by rw [HV.out]; exact HF.out), Kd.R_below HR1.out HBW.out, HB1.out.trans (HBW.out.mono HB1.out.size)⟩
                  · have hfb : ((v : Int) == (l.length : Int) - 1) = false := beq_eq_false_iff_ne.2 hf
                    have HF := Aside0.mk hf
                    clear hf
                    go_wp2
                    go_roundw
                    case measure => simp [intOf]; omega
                    case rel =>
                      exact ⟨stepN st, gX, _, _, r, nx, iv (by unfold stepN; omega), rfl, rfl, by unfold stepN; omega, ⟨Kd.R_below HR1.out HBW.out⟩, HX, ⟨HB1.out.trans (HBW.out.mono HB1.out.size)⟩, ⟨HRI.out.next HP2.out HU2.out HLX.out HCL.out⟩⟩
            · have hst2 : l.length ≤ st := by omega
              go_wp2
              go_ret2
              exact ⟨_, sa, rfl, HRI.out.done hst2, HR.out, HB.out⟩
def haystackref5_Array.f (l : List Int) : Option (List Int × Int) := suffix_Array.f l
theorem haystackref5_Array.calls (A0 : Option Addr) (c0 : Nat) (l0 : List Int) (r1 : List Int) (r2 : Int) (w : World) (hr0 : Kd.C (Kd.int .i64) w A0 l0.length l0) (hc0 : l0.length ≤ c0) (h : haystackref5_Array.f l0 = some (r1, r2)) :
    Calls Try.prog 20 #[.slice A0 l0.length c0] w fun e w' => ∃ v0_ : Value, e = .returned (.tuple #[v0_, .int .i64 r2]) ∧ Kd.R (Kd.int .i64) 3 w' w.heap.size (fun _ => True) v0_ r1 ∧ Below w.heap.size w w' := by
  unfold haystackref5_Array.f suffix_Array.f at h
  by_cases h1 : 65536 < l0.length
  · rw [if_pos h1] at h
    obtain ⟨rfl, rfl⟩ := Prod.mk.inj (Option.some.inj h)
    refine (ref_long A0 c0 l0 w h1).mono ?_
    rintro e w' ⟨rfl, rfl⟩
    exact ⟨_, rfl, Kd.R_nil _ _ _ _ _, Below.refl _ _⟩
  · rw [if_neg h1] at h
    by_cases h2 : ∃ x ∈ l0, x < 0
    · rw [if_pos h2] at h
      obtain ⟨rfl, rfl⟩ := Prod.mk.inj (Option.some.inj h)
      refine (ref_neg A0 c0 l0 w (by omega) hr0 h2).mono ?_
      rintro e w' ⟨rfl, rfl⟩
      exact ⟨_, rfl, Kd.R_nil _ _ _ _ _, Below.refl _ _⟩
    · rw [if_neg h2] at h
      obtain ⟨rfl, rfl⟩ := Prod.mk.inj (Option.some.inj h)
      refine (ref_main A0 c0 l0 w (by omega) hr0 (fun x hx => by
        rcases Int.lt_or_le x 0 with h | h
        · exact absurd ⟨x, hx, h⟩ h2
        · exact h)).mono ?_
      rintro e w' ⟨v, sa, rfl, hs, hR, hB⟩
      rw [hs.uniq (saOf_isSA l0)] at hR
      exact ⟨_, rfl, hR, hB⟩
#print axioms haystackref5_Array.calls
end Go.Proofs.Ytdbjbeebjigofaa.Hand
