/- The reference's sort: a row in order, by a contract. -/
import Derived.Test.YtdbjbeebjigofaaMain
import Derived.Test.YtdbjbeebjigofaaPDx1
namespace Go.Proofs.Ytdbjbeebjigofaa.Hand
open Go.RowKit Go.Proofs.Ytdbjbeebjigofaa.PD Go.Proofs.Ytdbjbeebjigofaa.Sfx Go.Proofs.Ytdbjbeebjigofaa.Iter Go.Proofs.YtdbjbeebjigofaaW.PrintWords Go.Proofs.YtdbjbeebjigofaaW.PrintLast Go.Proofs.YtdbjbeebjigofaaW.PrintMore
set_option linter.unusedVariables false
set_option linter.unusedSimpArgs false
/-- The rank of what stands so far behind; -1: nothing does. -/
def secR (rank : List Int) (st : Nat) (a : Int) : Int := if a + st < rank.length then rd rank (a + st) else -1
/-- Is a ahead of b? -/
def befB (rank : List Int) (st : Nat) (a b : Int) : Bool := if st = 0 then decide (rd rank a < rd rank b) else if rd rank a = rd rank b then decide (secR rank st a < secR rank st b) else decide (rd rank a < rd rank b)
def leB (rank : List Int) (st : Nat) (a b : Int) : Bool := !befB rank st b a
theorem leB_trans (rank : List Int) (st : Nat) (a b c : Int) (h1 : leB rank st a b = true) (h2 : leB rank st b c = true) : leB rank st a c = true := by
  unfold leB befB at *
  generalize rd rank a = x at *; generalize rd rank b = y at *; generalize rd rank c = z at *
  generalize secR rank st a = p at *; generalize secR rank st b = q at *; generalize secR rank st c = r at *
  by_cases h0 : st = 0
  · simp only [h0, if_true, Bool.not_eq_true', decide_eq_false_iff_not] at *; omega
  · simp only [h0, if_false] at *
    split at h1 <;> split at h2 <;> split <;> simp only [Bool.not_eq_true', decide_eq_false_iff_not] at * <;> omega
theorem leB_total (rank : List Int) (st : Nat) (a b : Int) : (leB rank st a b || leB rank st b a) = true := by
  unfold leB befB
  generalize rd rank a = x at *; generalize rd rank b = y at *
  generalize secR rank st a = p at *; generalize secR rank st b = q at *
  by_cases h0 : st = 0
  · simp only [h0, if_true, Bool.or_eq_true, Bool.not_eq_true', decide_eq_false_iff_not]; omega
  · simp only [h0, if_false]
    by_cases e1 : y = x
    · subst e1; simp; omega
    · have e2 : ¬ x = y := fun h => e1 h.symm
      simp [e1, e2]; omega
theorem before_f (rank : List Int) (st : Nat) (a b : Nat) (hl : rank.length ≤ 1000000) (hs : st ≤ 1000000) (ha : a < rank.length) (hb : b < rank.length) : haystackref5_before.f rank (st : Int) (a : Int) (b : Int) = some (befB rank st a b) := by
  by_cases h0 : st = 0
  · subst h0
    rw [show befB rank 0 a b = decide (rd rank (a : Int) < rd rank (b : Int)) from by unfold befB; rw [if_pos rfl]]
    unfold haystackref5_before.f
    rw [if_pos (by omega), if_pos (by omega), if_pos (by omega), if_pos (by omega), if_pos (by omega)]
  · unfold haystackref5_before.f befB
    rw [if_neg (by omega), if_neg h0]
    unfold haystackref5_less.f
    rw [if_pos (by omega), if_pos (by omega), if_pos (by omega), if_pos (by omega)]
    by_cases e : rd rank (a : Int) = rd rank (b : Int)
    · rw [if_pos e, if_pos e, wr1 (x := (a : Int) + st) (by omega) (by omega), wr1 (x := (b : Int) + st) (by omega) (by omega)]
      unfold secR
      by_cases h1 : (a : Int) + st < rank.length <;> by_cases h2 : (b : Int) + st < rank.length
      · rw [if_pos h1, if_pos h2, if_pos h1, if_pos h2, if_pos (by omega), if_pos (by omega)]; rfl
      · rw [if_pos h1, if_neg h2, if_pos h1, if_neg h2, if_pos (by omega)]; rfl
      · rw [if_neg h1, if_pos h2, if_neg h1, if_pos h2, if_pos (by omega)]; rfl
      · rw [if_neg h1, if_neg h2, if_neg h1, if_neg h2]; rfl
    · rw [if_neg e, if_neg e]; rfl
theorem bef_calls (Ar : Option Addr) (cr : Nat) (rank : List Int) (st a b : Nat) (w : World) (hl : rank.length ≤ 1000000) (hs : st ≤ 1000000) (ha : a < rank.length) (hb : b < rank.length) (hr : Kd.C (Kd.int .i64) w Ar rank.length rank) (hc : rank.length ≤ cr) :
    Calls Try.prog 32 #[.slice Ar rank.length cr, .int .i64 st, .int .i64 a, .int .i64 b] w fun e w' => e = .returned (.bool (befB rank st a b)) ∧ ∃ n, w' = w.drewN n :=
  (haystackref5_before.calls Ar cr rank st a b _ w hr hc (before_f rank st a b hl hs ha hb)).mono fun e w' h => ⟨h.1, h.2.out⟩
theorem own_zero (W : World) (n : Nat) (base : Nat) (hb : base ≤ W.heap.size) (hn : n ≤ 1000000) : Kd.R (Kd.int .i64) 3 (W.alloc (.cells (madeCells #[Value.int .i64 0] n) 3)) base (fun _ => True) (.slice (some ⟨W.heap.size, 0, none⟩) 0 n) [] :=
  ⟨fun _ _ => trivial, [], ⟨by simp [Kd.int, Kd.scalar], .inr ⟨W.heap.size, n, madeCells #[Value.int .i64 0] n, rfl, hb, World.alloc_heap_new _ _, Nat.zero_le _, by unfold maxLen; omega, by simp [Kd.int, Kd.scalar, madeCells], by simp⟩⟩, Reps.none _ _⟩
theorem below_C_trans {w W : World} {A : Option Addr} {n : Nat} {l : List Int} (h : Kd.C (Kd.int .i64) w A n l) (hb : Below w.heap.size w W) : Kd.C (Kd.int .i64) W A n l := Kd.C_below h hb
theorem mrg_x {r1 r2 out M : List Int} {le : Int → Int → Bool} {i k : Nat} (h : out ++ (r1.drop i).merge (r2.drop k) le = M) (hi : i < r1.length) (hle : ∀ hk : k < r2.length, le (rd r1 (i : Nat)) (rd r2 (k : Nat)) = true) : (out ++ [rd r1 (i : Nat)]) ++ (r1.drop (i + 1)).merge (r2.drop k) le = M := by
  rw [← h, List.append_assoc]
  congr 1
  rw [List.drop_eq_getElem_cons hi]
  by_cases hk : k < r2.length
  · have := hle hk
    rw [rd_at hi, rd_at hk] at this
    rw [List.drop_eq_getElem_cons hk, List.cons_merge_cons_pos _ _ _ this, rd_at hi]; rfl
  · rw [List.drop_eq_nil_of_le (show r2.length ≤ k by omega), List.merge_right, List.merge_right, rd_at hi]; rfl
theorem mrg_y {r1 r2 out M : List Int} {le : Int → Int → Bool} {i k : Nat} (h : out ++ (r1.drop i).merge (r2.drop k) le = M) (hk : k < r2.length) (hle : ∀ hi : i < r1.length, le (rd r1 (i : Nat)) (rd r2 (k : Nat)) = false) : (out ++ [rd r2 (k : Nat)]) ++ (r1.drop i).merge (r2.drop (k + 1)) le = M := by
  rw [← h, List.append_assoc]
  congr 1
  rw [List.drop_eq_getElem_cons hk]
  by_cases hi : i < r1.length
  · have := hle hi
    rw [rd_at hi, rd_at hk] at this
    rw [List.drop_eq_getElem_cons hi, List.cons_merge_cons_neg _ _ _ (by rw [this]; simp), rd_at hk]; rfl
  · rw [List.drop_eq_nil_of_le (show r1.length ≤ i by omega), List.nil_merge, List.nil_merge, rd_at hk]; rfl
theorem fresh_of_R {w : World} {base : Nat} {ok : Nat → Prop} {v : Value} {l : List Int} (h : Kd.R (Kd.int .i64) 3 w base ok v l) : ∀ k, v.ownBlock = some k → base ≤ k := by
  obtain ⟨_, inner, ho, _⟩ := h
  exact fun k hk => own_base ho k hk
theorem C_take {w : World} {A : Option Addr} {l : List Int} (m : Nat) (h : Kd.C (Kd.int .i64) w A l.length l) (hm : m ≤ l.length) : Kd.C (Kd.int .i64) w A m (l.take m) := by
  refine ⟨by rw [List.length_take]; omega, by have := h.2.1; omega, fun hp => ?_⟩
  obtain ⟨ad, hA, hc⟩ := h.2.2 (by omega)
  refine ⟨ad, hA, fun j p hj => hc j p ?_⟩
  rw [List.getElem?_take] at hj
  split at hj
  · exact hj
  · cases hj
set_option maxRecDepth 100000 in
set_option maxHeartbeats 4000000 in
theorem refsort_calls (Ar : Option Addr) (cr : Nat) (rank : List Int) (st : Nat) (hrl : rank.length ≤ 65536) (hst : st ≤ 1000000) (hrc : rank.length ≤ cr) : ∀ (n : Nat) (A : Option Addr) (c : Nat) (l : List Int) (w0 w : World), l.length = n → n ≤ 65536 → Below w0.heap.size w0 w → Kd.R (Kd.int .i64) 3 w w0.heap.size (fun _ => True) (.slice A l.length c) l →
    (∀ x ∈ l, 0 ≤ x ∧ x < rank.length) → Kd.C (Kd.int .i64) w Ar rank.length rank →
    Calls Try.prog 31 #[.slice A l.length c, .slice Ar rank.length cr, .int .i64 st] w fun e w' => ∃ v r, e = .returned v ∧ r.Perm l ∧ r.Pairwise (fun a b => leB rank st a b = true) ∧ Kd.R (Kd.int .i64) 3 w' w0.heap.size (fun _ => True) v r ∧ Below w.heap.size w w' := by
  intro n
  induction n using Nat.strongRecOn with
  | _ n IH =>
    intro A c l w0 w hn hn2 hB hR hx hr
    subst hn
    by_cases hl2 : l.length < 2
    · have hl2' : (l.length : Int) < 2 := by omega
      have HR := Aside0.mk hR
      have HX := Aside0.mk hx
      have HB := Aside0.mk hB
      clear hR hx hB hr IH
      go_enter Try.func31, Try.ntmps31
      go_wp2
      go_ret
      refine ⟨_, l, rfl, List.Perm.refl _, ?_, HR.out, Below.refl _ _⟩
      match l, hl2 with
      | [], _ => exact List.Pairwise.nil
      | [x], _ => exact List.pairwise_singleton _ _
    · have hl2' : ¬ (l.length : Int) < 2 := by omega
      obtain ⟨_, hcap, hC⟩ := Kd.R_reads' hR
      obtain ⟨a, rfl, _⟩ := C_cell hC 0 (by omega)
      have HC := Aside0.mk hC
      have HX := Aside0.mk hx
      have HB := Aside0.mk hB
      have HRK := Aside0.mk hr
      have HIH := Aside0.mk IH
      clear hC hx hB hr hR IH
      have hm1 : (l.length : Int) / 2 ≤ c := by omega
      obtain ⟨i0, hi, hz0, hz1, hz2⟩ := info_parts infoZ
      obtain ⟨A2, hcut, hA2, hC2⟩ := print_drop_of (P := Try.prog) (Value.int .i64) 0 22 3 .i64 Try.underlying22 hi hz1 (some a) c l ((l.length : Int) / 2) (by omega) (by omega) hcap
      have hmk : ∀ W : World, (Instr.makeSlice 22 (.int .i64 0) (.int .i64 l.length)).run Try.prog W = .ok (.slice (some ⟨W.heap.size, 0, none⟩) 0 l.length) (W.alloc (.cells (madeCells #[Value.int .i64 0] l.length) 3)) := fun W => by
        have h := run_make (P := Try.prog) (w := W) 22 3 i0 (.int .i64 0) Try.underlying22 hi hz0 .i64 .i64 0 (l.length : Int) (Int.le_refl _) (by omega) (by rw [hz2]; omega) (by omega)
        rw [hz1] at h
        simpa [Value.cells] using h
      rw [show ((l.length : Int) / 2).toNat = l.length / 2 from by omega] at hcut hA2 hC2
      have HA2 := Aside0.mk hA2
      have HC2 := Aside0.mk hC2
      clear hA2 hC2 hz0 hz1 hz2 hi
      obtain ⟨lx, hlx⟩ : ∃ lx, lx = l.take (l.length / 2) := ⟨_, rfl⟩
      obtain ⟨ly, hly⟩ : ∃ ly, ly = l.drop (l.length / 2) := ⟨_, rfl⟩
      have HXL : Aside0 (lx.length < l.length) := ⟨by rw [hlx, List.length_take]; omega⟩
      have HYL : Aside0 (ly.length < l.length) := ⟨by rw [hly, List.length_drop]; omega⟩
      rw [← hly] at hcut HA2 HC2
      have HLX := Aside0.mk hlx
      have HLY := Aside0.mk hly
      clear hlx hly
      go_enter Try.func31, Try.ntmps31
      go_wp2_with (first | ((with_reducible refine gate_dst (N := 16) rfl ?_); refine Kd.R_lit (Kd.int .i64) _ 3 ?hg (N := 16) ?hd (xs := ([] : List Int)) (inner := []) (ok := fun _ => True) (okp := fun _ => True) ?hr ?hp (fun _ hk => hk) trivial (Below.refl _ _) (Nat.le_refl _) (by simp) ?_; (case hd => rfl); (case hg => rfl); (case hr => first | (go_simp; done) | (go_simp; rfl)); (case hp => exact (Reps.none _ _)); intro v1 w1 ho1 hb1 hg_ hnew_; clear hg_ hnew_; have HO1 := Aside0.mk ho1; have HB1 := Aside0.mk hb1; clear ho1 hb1) | ((with_reducible refine gate_builtin (b := .append) (xs := #[.tmp 16, .tmp 21]) rfl ?_); at_builtin; refine Kd.R_append_rows (Kd.int .i64) (w0 := w) w.heap.size rfl (.tmp 16) (.tmp 21) 22 3 (.int .i64 0) 8 rfl Try.underlying22 infoZ rfl (by decide) (by omega) v1 [] lx (some a) (l.length / 2) c (fun _ => True) (fun _ => False) rfl rfl ?aO ?aR (fun _ _ h => h) (fun _ h => h.elim) ?aF ?aB ?aS ?aL ?_; (case aR => rw [HLX.out]; exact C_take (l.length / 2) (Kd.C_below HC.out HB1.out) (by omega)); (case aB => exact HB1.out); (case aF => exact (fun _ _ => trivial)); (case aO => exact HO1.out); (case aS => exact HB1.out.size); (case aL => simp; omega); intro v2 w2 ho2 hb2 hg_ hat_; clear hg_ hat_; rw [List.nil_append] at ho2; obtain ⟨A3, c3, rfl⟩ := Kd.R_slice ho2; have HO2 := Aside0.mk ho2; have HB2 := Aside0.mk hb2; clear ho2 hb2 HO1 HB1))
      have hih := HIH.out lx.length HXL.out A3 c3 lx w w2 rfl (by have := HXL.out; omega) HB2.out HO2.out (fun x hx => HX.out x (by rw [HLX.out] at hx; exact List.mem_of_mem_take hx)) (Kd.C_below HRK.out HB2.out)
      refine hih.mono ?_
      rintro e w3 ⟨v3, r1, rfl, p1, s1, ho3, hb3⟩
      have HB3 := Aside0.mk (HB2.out.trans (hb3.mono HB2.out.size))
      obtain ⟨A3', c3', rfl⟩ := Kd.R_slice ho3
      have HO3 := Aside0.mk ho3
      have HP1 := Aside0.mk p1
      have HS1 := Aside0.mk s1
      clear hih hb3 ho3 p1 s1 HO2 HB2
      go_wp2_with (first | ((with_reducible refine gate_dst (N := 26) rfl ?_); refine Kd.R_lit (Kd.int .i64) _ 3 ?hg (N := 26) ?hd (xs := ([] : List Int)) (inner := []) (ok := fun _ => True) (okp := fun _ => True) ?hr ?hp (fun _ hk => hk) trivial (Below.refl _ _) (Nat.le_refl _) (by simp) ?_; (case hd => rfl); (case hg => rfl); (case hr => first | (go_simp; done) | (go_simp; rfl)); (case hp => exact (Reps.none _ _)); intro v1 w1 ho1 hb1 hg_ hnew_; clear hg_ hnew_; have HO1 := Aside0.mk (Kd.R_lower ho1 HB3.out.size); have HB1 := Aside0.mk (HB3.out.trans (hb1.mono HB3.out.size)); have HO4 := Aside0.mk (Kd.R_below (Kd.R_bound HO3.out) hb1); have HN1 := Aside0.mk (fresh_of_R ho1); clear ho1 hb1 HO3) | ((with_reducible refine gate_builtin (b := .append) (xs := #[.tmp 26, .tmp 31]) rfl ?_); at_builtin; refine Kd.R_append_rows (Kd.int .i64) (w0 := w) w.heap.size rfl (.tmp 26) (.tmp 31) 22 3 (.int .i64 0) 8 rfl Try.underlying22 infoZ rfl (by decide) (by omega) v1 [] ly A2 ly.length (c - l.length / 2) (fun _ => True) (fun _ => False) rfl rfl ?aO ?aR (fun _ _ h => h) (fun _ h => h.elim) ?aF ?aB ?aS ?aL ?_; (case aR => exact (Kd.C_of_reads (h1 := fun _ => rfl) (HA2.out _ (Kd.reads_of_C (Kd.C_below HC.out HB1.out))))); (case aB => exact HB1.out); (case aF => exact (fun _ _ => trivial)); (case aO => exact HO1.out); (case aS => exact HB1.out.size); (case aL => have := HYL.out; simp; omega); intro v2 w4 ho5 hb5 hg_ hat_; rw [List.nil_append] at ho5; obtain ⟨A5, c5, rfl⟩ := Kd.R_slice ho5; have HO5 := Aside0.mk ho5; have HB5 := Aside0.mk hb5; have HO6 := Aside0.mk (Kd.R_mono (Kd.R_grown HO4.out hg_ (fun k hk e => by have := HN1.out k e.symm; have := hk.2.2.1; omega)) (ok' := fun _ => True) (fun _ _ => trivial)); clear ho5 hb5 HO1 HB1 hg_ hat_))
      have hih := HIH.out ly.length HYL.out A5 c5 ly w w4 rfl (by have := HYL.out; omega) HB5.out HO5.out (fun x hx => HX.out x (by rw [HLY.out] at hx; exact List.mem_of_mem_drop hx)) (Kd.C_below HRK.out HB5.out)
      refine hih.mono ?_
      rintro e w5 ⟨v6, r2, rfl, p2, s2, ho6, hb6⟩
      obtain ⟨A6, c6, rfl⟩ := Kd.R_slice ho6
      have HBW := Aside0.mk (HB5.out.trans (hb6.mono HB5.out.size))
      have HCX := Aside0.mk (Kd.C_below (Kd.R_reads' HO6.out).2.2 hb6)
      have HCY := Aside0.mk (Kd.R_reads' ho6).2.2
      have HP2 := Aside0.mk p2
      have HS2 := Aside0.mk s2
      have HN := Aside0.mk (show r1.length + r2.length = l.length by rw [HP1.out.length_eq, p2.length_eq, HLX.out, HLY.out, List.length_take, List.length_drop]; omega)
      have HRX : Aside0 (∀ x ∈ r1, 0 ≤ x ∧ x < rank.length) := ⟨fun x hx => HX.out x (by have := HP1.out.subset hx; rw [HLX.out] at this; exact List.mem_of_mem_take this)⟩
      have HRY : Aside0 (∀ x ∈ r2, 0 ≤ x ∧ x < rank.length) := ⟨fun x hx => HX.out x (by have := p2.subset hx; rw [HLY.out] at this; exact List.mem_of_mem_drop this)⟩
      have HRK5 := Aside0.mk (Kd.C_below HRK.out HBW.out)
      clear hih ho6 hb6 p2 s2 HO5 HB5 HO4 HO6 HN1 HB3 hcut
      have HO0 := Aside0.mk (own_zero w5 l.length w5.heap.size (Nat.le_refl _) (by omega))
      have HB0 : Aside0 (Below w5.heap.size w5 (w5.alloc (.cells (madeCells #[Value.int .i64 0] l.length) 3))) := ⟨(Below.refl _ _).alloc (Nat.le_refl _) _⟩
      go_wp2
      go_loopw [9, 10, 11] (fun s9 s10 s11 wq => ∃ (i k : Nat) (out : List Int) (vo : Value), i ≤ r1.length ∧ k ≤ r2.length ∧ s9 = vo ∧ s10 = .int .i64 i ∧ s11 = .int .i64 k ∧ Aside0 (Kd.R (Kd.int .i64) 3 wq w5.heap.size (fun _ => True) vo out) ∧ Aside0 (Below w5.heap.size w5 wq) ∧ Aside0 (out ++ (r1.drop i).merge (r2.drop k) (leB rank st) = r1.merge r2 (leB rank st)) ∧ Aside0 (out.length = i + k)) (fun _ s10 s11 _ => r1.length + r2.length - (intOf s10).toNat - (intOf s11).toNat)
      case atStart => exact ⟨0, 0, [], _, Nat.zero_le _, Nat.zero_le _, rfl, rfl, rfl, HO0, HB0, ⟨rfl⟩, ⟨rfl⟩⟩
      case round =>
        obtain ⟨i, k, out, vo, hi, hk, rfl, rfl, rfl, HO, HBR, HM, HOL⟩ := hrel
        obtain ⟨Ao, co, rfl⟩ := Kd.R_slice HO.out
        have hi6 : (i : Int) ≤ 65536 := by have := HN.out; omega
        have hk6 : (k : Int) ≤ 65536 := by have := HN.out; omega
        by_cases hix : i < r1.length
        · obtain ⟨ax, rfl, cx⟩ := C_cell (Kd.C_below HCX.out HBR.out) i hix
          by_cases hky : k < r2.length
          · obtain ⟨ay, rfl, cy⟩ := C_cell (Kd.C_below HCY.out HBR.out) k hky
            obtain ⟨hp0, hp1⟩ := HRX.out (rd r1 (i : Nat)) (by rw [rd_at hix]; exact List.getElem_mem _)
            obtain ⟨hq0, hq1⟩ := HRY.out (rd r2 (k : Nat)) (by rw [rd_at hky]; exact List.getElem_mem _)
            obtain ⟨p, hp⟩ : ∃ p : Nat, rd r1 (i : Nat) = p := ⟨(rd r1 (i : Nat)).toNat, by omega⟩
            obtain ⟨q, hq⟩ : ∃ q : Nat, rd r2 (k : Nat) = q := ⟨(rd r2 (k : Nat)).toNat, by omega⟩
            rw [hp] at cx hp1
            rw [hq] at cy hq1
            have HBF : Aside0 (∀ a, Calls Try.prog 32 #[.slice Ar rank.length cr, .int .i64 st, .int .i64 q, .int .i64 p] (wr.drewN a) fun e w' => e = .returned (.bool (befB rank st q p)) ∧ ∃ n, w' = wr.drewN n) := ⟨fun a => (bef_calls Ar cr rank st q p (wr.drewN a) (by omega) hst (by omega) (by omega) (Kd.C_drewN (Kd.C_below HRK5.out HBR.out) a) hrc).mono (fun e w' h => ⟨h.1, by obtain ⟨n, hn⟩ := h.2; exact ⟨a + n, by rw [hn, World.drewN_drewN]⟩⟩)⟩
            have HPP := Aside0.mk hp
            have HQQ := Aside0.mk hq
            clear hp hq hp0 hp1 hq0 hq1
            have hkl : decide ((r2.length : Int) ≤ k) = false := decide_eq_false (by omega)
            have hib : decide ((i : Int) < r1.length) = true := decide_eq_true (by omega)
            rcases hb : befB rank st q p with _ | _
            · have HBB := Aside0.mk hb
              have HBF' := HBF.out
              rw [hb] at HBF'
              clear hb
              have HBG := Aside0.mk HBF'
              clear HBF' HBF
              obtain ⟨zx, hzx⟩ : ∃ z, z = rd r1 (i : Nat) := ⟨_, rfl⟩
              have HZX := Aside0.mk hzx
              have hzp : zx = (p : Int) := by rw [hzx]; exact HPP.out
              clear hzx
              rw [← hzp] at cx HBG
              have HZP := Aside0.mk hzp
              clear hzp
              go_wp2
              go_quiet (with_reducible exact HBG.out _)
              have HO8 := Aside0.mk (Kd.R_below HO.out (pw_below_drewN (Below.refl _ _) nq))
              have HB8 := Aside0.mk (pw_below_drewN HBR.out nq)
              have c8 : (wr.drewN nq).cell? (ax.add i) = some (.int .i64 zx) := cx
              generalize wr.drewN nq = w8 at HO8 HB8 c8 ⊢
              go_wp2_with (first | ((with_reducible refine gate_builtin (b := .append) (xs := #[.tmp 73, .tmp 78]) rfl ?_); (try (refine gate_guard (by rfl) ?_; dsimp only)); at_builtin; refine Kd.R_append (Kd.int .i64) (w0 := w5) w5.heap.size rfl (.tmp 73) (.tmp 78) 22 3 (.int .i64 0) 8 rfl Try.underlying22 infoZ rfl (by decide) (by decide) (.slice Ao out.length co) out zx [.int .i64 zx] (fun _ => True) (fun _ => False) rfl rfl ?aP (fun _ hk => hk.elim) ?aF ?aO ?aB ?aS ?aL ?_; (case aP => rfl); (case aF => exact (fun _ _ => trivial)); (case aO => exact HO8.out); (case aB => exact HB8.out); (case aS => exact HB8.out.size); (case aL => have := HOL.out; have := HN.out; omega); intro v9 w9 ho9 hb9 hg9 hat9; have HO9 := Aside0.mk ho9; have HB9 := Aside0.mk hb9; clear ho9 hb9 hg9 hat9))
              go_roundw
              case rel =>
                exact ⟨i + 1, k, _, v9, by omega, by omega, rfl, by go_num, rfl, HO9, HB9, ⟨by rw [HZX.out]; exact mrg_x HM.out hix (fun _ => by unfold leB; rw [HPP.out, HQQ.out, HBB.out]; rfl)⟩, ⟨by rw [List.length_append, List.length_singleton, HOL.out]; omega⟩⟩
              case measure => simp [intOf]; omega
            · have HBB := Aside0.mk hb
              have HBF' := HBF.out
              rw [hb] at HBF'
              clear hb
              have HBG := Aside0.mk HBF'
              clear HBF' HBF
              obtain ⟨zy, hzy⟩ : ∃ z, z = rd r2 (k : Nat) := ⟨_, rfl⟩
              have HZY := Aside0.mk hzy
              have hzp : zy = (q : Int) := by rw [hzy]; exact HQQ.out
              clear hzy
              rw [← hzp] at cy HBG
              have HZP := Aside0.mk hzp
              clear hzp
              go_wp2
              go_quiet (with_reducible exact HBG.out _)
              have HO8 := Aside0.mk (Kd.R_below HO.out (pw_below_drewN (Below.refl _ _) nq))
              have HB8 := Aside0.mk (pw_below_drewN HBR.out nq)
              have c8 : (wr.drewN nq).cell? (ay.add k) = some (.int .i64 zy) := cy
              generalize wr.drewN nq = w8 at HO8 HB8 c8 ⊢
              go_wp2_with (first | ((with_reducible refine gate_builtin (b := .append) (xs := #[.tmp 82, .tmp 87]) rfl ?_); (try (refine gate_guard (by rfl) ?_; dsimp only)); at_builtin; refine Kd.R_append (Kd.int .i64) (w0 := w5) w5.heap.size rfl (.tmp 82) (.tmp 87) 22 3 (.int .i64 0) 8 rfl Try.underlying22 infoZ rfl (by decide) (by decide) (.slice Ao out.length co) out zy [.int .i64 zy] (fun _ => True) (fun _ => False) rfl rfl ?aP (fun _ hk => hk.elim) ?aF ?aO ?aB ?aS ?aL ?_; (case aP => rfl); (case aF => exact (fun _ _ => trivial)); (case aO => exact HO8.out); (case aB => exact HB8.out); (case aS => exact HB8.out.size); (case aL => have := HOL.out; have := HN.out; omega); intro v9 w9 ho9 hb9 hg9 hat9; have HO9 := Aside0.mk ho9; have HB9 := Aside0.mk hb9; clear ho9 hb9 hg9 hat9))
              go_roundw
              case rel =>
                exact ⟨i, k + 1, _, v9, by omega, by omega, rfl, rfl, by go_num, HO9, HB9, ⟨by rw [HZY.out]; exact mrg_y HM.out hky (fun _ => by unfold leB; rw [HPP.out, HQQ.out, HBB.out]; rfl)⟩, ⟨by rw [List.length_append, List.length_singleton, HOL.out]; omega⟩⟩
              case measure => simp [intOf]; omega
          · obtain rfl : r2.length = k := by omega
            clear hky hk
            obtain ⟨zx, hzx⟩ : ∃ z, z = rd r1 (i : Nat) := ⟨_, rfl⟩
            rw [← hzx] at cx
            have HZX := Aside0.mk hzx
            clear hzx
            go_wp2
            go_quiet (fail)
            have HO8 := Aside0.mk (Kd.R_below HO.out (pw_below_drewN (Below.refl _ _) nq))
            have HB8 := Aside0.mk (pw_below_drewN HBR.out nq)
            have c8 : (wr.drewN nq).cell? (ax.add i) = some (.int .i64 zx) := cx
            generalize wr.drewN nq = w8 at HO8 HB8 c8 ⊢
            go_wp2_with (first | ((with_reducible refine gate_builtin (b := .append) (xs := #[.tmp 73, .tmp 78]) rfl ?_); (try (refine gate_guard (by rfl) ?_; dsimp only)); at_builtin; refine Kd.R_append (Kd.int .i64) (w0 := w5) w5.heap.size rfl (.tmp 73) (.tmp 78) 22 3 (.int .i64 0) 8 rfl Try.underlying22 infoZ rfl (by decide) (by decide) (.slice Ao out.length co) out zx [.int .i64 zx] (fun _ => True) (fun _ => False) rfl rfl ?aP (fun _ hk => hk.elim) ?aF ?aO ?aB ?aS ?aL ?_; (case aP => rfl); (case aF => exact (fun _ _ => trivial)); (case aO => exact HO8.out); (case aB => exact HB8.out); (case aS => exact HB8.out.size); (case aL => have := HOL.out; have := HN.out; omega); intro v9 w9 ho9 hb9 hg9 hat9; have HO9 := Aside0.mk ho9; have HB9 := Aside0.mk hb9; clear ho9 hb9 hg9 hat9))
            go_roundw
            case rel =>
              exact ⟨i + 1, r2.length, _, v9, by omega, by omega, rfl, by go_num, rfl, HO9, HB9, ⟨by rw [HZX.out]; exact mrg_x HM.out hix (fun h => by omega)⟩, ⟨by rw [List.length_append, List.length_singleton, HOL.out]; omega⟩⟩
            case measure => simp [intOf]; omega
        · have HI2 := Aside0.mk hi
          have HI3 := Aside0.mk hix
          have hib : decide ((i : Int) < r1.length) = false := decide_eq_false (by omega)
          have hibn : decide (i < r1.length) = false := decide_eq_false (by omega)
          clear hix hi
          by_cases hky : k < r2.length
          · have hkc : decide ((k : Int) < r2.length) = true := decide_eq_true (by omega)
            obtain ⟨ay, rfl, cy⟩ := C_cell (Kd.C_below HCY.out HBR.out) k hky
            have hkl : decide ((r2.length : Int) ≤ k) = false := decide_eq_false (by omega)
            have hkln : decide (r2.length ≤ k) = false := decide_eq_false (by omega)
            obtain ⟨zy, hzy⟩ : ∃ z, z = rd r2 (k : Nat) := ⟨_, rfl⟩
            rw [← hzy] at cy
            have HZY := Aside0.mk hzy
            clear hzy
            go_wp2
            refine start_ (n := 24) (S := fun w' => True) (ds := []) #[false, false, false, false, false, false, false, false, false, false, false, false, false, false, false, false, false, false, false, false, false, false, false, false] (by kernel_rfl) rfl rfl trivial (fun hHeld => ?_)
            refine pure_ (i := 0) (N := some 49) (v := ?_) (a' := ?_) #[true, false, false, false, false, false, false, false, false, false, false, false, false, false, false, false, false, false, false, false, false, false, false, false] rfl rfl (by kernel_rfl) (fun _ _ _ h => h) (Or.inl ⟨by rfl, ?_⟩) ?_ ?_
            rotate_left
            · intro w'
              go_simp
              with_reducible rfl
            rotate_left
            · simp only [Act.put, List.setIfInBounds_toArray, List.set_cons_zero, List.set_cons_succ, i64_w, i32_w]
              rfl
            refine pure_ (i := 1) (N := some 50) (v := ?_) (a' := ?_) #[true, true, false, false, false, false, false, false, false, false, false, false, false, false, false, false, false, false, false, false, false, false, false, false] rfl rfl (by kernel_rfl) (fun _ _ _ h => h) (Or.inl ⟨by rfl, ?_⟩) ?_ ?_
            rotate_left
            · intro w'
              go_simp
              with_reducible rfl
            rotate_left
            · simp only [Act.put, List.setIfInBounds_toArray, List.set_cons_zero, List.set_cons_succ, i64_w, i32_w]
              rfl
            refine pure_ (i := 2) (N := some 51) (v := ?_) (a' := ?_) #[true, true, true, false, false, false, false, false, false, false, false, false, false, false, false, false, false, false, false, false, false, false, false, false] rfl rfl (by kernel_rfl) (fun _ _ _ h => h) (Or.inl ⟨by rfl, ?_⟩) ?_ ?_
            rotate_left
            · intro w'
              go_simp
              with_reducible rfl
            rotate_left
            · simp only [Act.put, List.setIfInBounds_toArray, List.set_cons_zero, List.set_cons_succ, i64_w, i32_w]
              rfl
            refine pure_ (i := 3) (N := some 52) (v := ?_) (a' := ?_) #[true, true, true, true, false, false, false, false, false, false, false, false, false, false, false, false, false, false, false, false, false, false, false, false] rfl rfl (by kernel_rfl) (fun _ _ _ h => h) (Or.inl ⟨by rfl, ?_⟩) ?_ ?_
            rotate_left
            · intro w'
              go_simp
              with_reducible rfl
            rotate_left
            · simp only [Act.put, List.setIfInBounds_toArray, List.set_cons_zero, List.set_cons_succ, i64_w, i32_w]
              rfl
            refine pure_ (i := 4) (N := some 53) (v := ?_) (a' := ?_) #[true, true, true, true, true, false, false, false, false, false, false, false, false, false, false, false, false, false, false, false, false, false, false, false] rfl rfl (by kernel_rfl) (fun _ _ _ h => h) (Or.inl ⟨by rfl, ?_⟩) ?_ ?_
            rotate_left
            · intro w'
              go_simp
              with_reducible rfl
            rotate_left
            · simp only [Act.put, List.setIfInBounds_toArray, List.set_cons_zero, List.set_cons_succ, i64_w, i32_w]
              rfl
            refine pure_ (i := 5) (N := some 54) (v := ?_) (a' := ?_) #[true, true, true, true, true, true, false, false, false, false, false, false, false, false, false, false, false, false, false, false, false, false, false, false] rfl rfl (by kernel_rfl) (fun _ _ _ h => h) (Or.inl ⟨by rfl, ?_⟩) ?_ ?_
            rotate_left
            · intro w'
              go_simp
              with_reducible rfl
            rotate_left
            · simp only [Act.put, List.setIfInBounds_toArray, List.set_cons_zero, List.set_cons_succ, i64_w, i32_w]
              rfl
            refine pure_ (i := 6) (N := some 55) (v := ?_) (a' := ?_) #[true, true, true, true, true, true, true, false, false, false, false, false, false, false, false, false, false, false, false, false, false, false, false, false] rfl rfl (by kernel_rfl) (fun _ _ _ h => h) (Or.inl ⟨by rfl, ?_⟩) ?_ ?_
            rotate_left
            · intro w'
              go_simp
              with_reducible rfl
            rotate_left
            · simp only [Act.put, List.setIfInBounds_toArray, List.set_cons_zero, List.set_cons_succ, i64_w, i32_w]
              rfl
            refine pure_ (i := 7) (N := some 56) (v := ?_) (a' := ?_) #[true, true, true, true, true, true, true, true, false, false, false, false, false, false, false, false, false, false, false, false, false, false, false, false] rfl rfl (by kernel_rfl) (fun _ _ _ h => h) (Or.inl ⟨by rfl, ?_⟩) ?_ ?_
            rotate_left
            · intro w'
              go_simp
              with_reducible rfl
            rotate_left
            · simp only [Act.put, List.setIfInBounds_toArray, List.set_cons_zero, List.set_cons_succ, i64_w, i32_w]
              rfl
            refine pure_ (i := 8) (N := some 57) (v := ?_) (a' := ?_) #[true, true, true, true, true, true, true, true, true, false, false, false, false, false, false, false, false, false, false, false, false, false, false, false] rfl rfl (by kernel_rfl) (fun _ _ _ h => h) (Or.inl ⟨by rfl, ?_⟩) ?_ ?_
            rotate_left
            · intro w'
              go_simp
              with_reducible rfl
            rotate_left
            · simp only [Act.put, List.setIfInBounds_toArray, List.set_cons_zero, List.set_cons_succ, i64_w, i32_w]
              rfl
            refine pure_ (i := 9) (N := some 58) (v := ?_) (a' := ?_) #[true, true, true, true, true, true, true, true, true, true, false, false, false, false, false, false, false, false, false, false, false, false, false, false] rfl rfl (by kernel_rfl) (fun _ _ _ h => h) (Or.inl ⟨by rfl, ?_⟩) ?_ ?_
            rotate_left
            · intro w'
              go_simp
              with_reducible rfl
            rotate_left
            · simp only [Act.put, List.setIfInBounds_toArray, List.set_cons_zero, List.set_cons_succ, i64_w, i32_w]
              rfl
            refine pure_ (i := 10) (N := some 59) (v := undef) (a' := ?_) #[true, true, true, true, true, true, true, true, true, true, true, false, false, false, false, false, false, false, false, false, false, false, false, false] rfl rfl (by kernel_rfl) (fun _ _ _ h => h) (Or.inr ⟨by rfl, rfl⟩) ?_ ?_
            rotate_left
            · simp only [Act.put, List.setIfInBounds_toArray, List.set_cons_zero, List.set_cons_succ, i64_w, i32_w]
              rfl
            refine pure_ (i := 11) (N := some 60) (v := undef) (a' := ?_) #[true, true, true, true, true, true, true, true, true, true, true, true, false, false, false, false, false, false, false, false, false, false, false, false] rfl rfl (by kernel_rfl) (fun _ _ _ h => h) (Or.inr ⟨by rfl, rfl⟩) ?_ ?_
            rotate_left
            · simp only [Act.put, List.setIfInBounds_toArray, List.set_cons_zero, List.set_cons_succ, i64_w, i32_w]
              rfl
            refine pure_ (i := 12) (N := some 61) (v := undef) (a' := ?_) #[true, true, true, true, true, true, true, true, true, true, true, true, true, false, false, false, false, false, false, false, false, false, false, false] rfl rfl (by kernel_rfl) (fun _ _ _ h => h) (Or.inr ⟨by rfl, rfl⟩) ?_ ?_
            rotate_left
            · simp only [Act.put, List.setIfInBounds_toArray, List.set_cons_zero, List.set_cons_succ, i64_w, i32_w]
              rfl
            refine pure_ (i := 13) (N := some 62) (v := undef) (a' := ?_) #[true, true, true, true, true, true, true, true, true, true, true, true, true, true, false, false, false, false, false, false, false, false, false, false] rfl rfl (by kernel_rfl) (fun _ _ _ h => h) (Or.inr ⟨by rfl, rfl⟩) ?_ ?_
            rotate_left
            · simp only [Act.put, List.setIfInBounds_toArray, List.set_cons_zero, List.set_cons_succ, i64_w, i32_w]
              rfl
            refine pure_ (i := 14) (N := some 63) (v := undef) (a' := ?_) #[true, true, true, true, true, true, true, true, true, true, true, true, true, true, true, false, false, false, false, false, false, false, false, false] rfl rfl (by kernel_rfl) (fun _ _ _ h => h) (Or.inr ⟨by rfl, rfl⟩) ?_ ?_
            rotate_left
            · simp only [Act.put, List.setIfInBounds_toArray, List.set_cons_zero, List.set_cons_succ, i64_w, i32_w]
              rfl
            refine pure_ (i := 15) (N := some 64) (v := undef) (a' := ?_) #[true, true, true, true, true, true, true, true, true, true, true, true, true, true, true, true, false, false, false, false, false, false, false, false] rfl rfl (by kernel_rfl) (fun _ _ _ h => h) (Or.inr ⟨by rfl, rfl⟩) ?_ ?_
            rotate_left
            · simp only [Act.put, List.setIfInBounds_toArray, List.set_cons_zero, List.set_cons_succ, i64_w, i32_w]
              rfl
            refine pure_ (i := 16) (N := some 65) (v := undef) (a' := ?_) #[true, true, true, true, true, true, true, true, true, true, true, true, true, true, true, true, true, false, false, false, false, false, false, false] rfl rfl (by kernel_rfl) (fun _ _ _ h => h) (Or.inr ⟨by rfl, rfl⟩) ?_ ?_
            rotate_left
            · simp only [Act.put, List.setIfInBounds_toArray, List.set_cons_zero, List.set_cons_succ, i64_w, i32_w]
              rfl
            refine pure_ (i := 17) (N := some 66) (v := undef) (a' := ?_) #[true, true, true, true, true, true, true, true, true, true, true, true, true, true, true, true, true, true, false, false, false, false, false, false] rfl rfl (by kernel_rfl) (fun _ _ _ h => h) (Or.inr ⟨by rfl, rfl⟩) ?_ ?_
            rotate_left
            · simp only [Act.put, List.setIfInBounds_toArray, List.set_cons_zero, List.set_cons_succ, i64_w, i32_w]
              rfl
            refine pure_ (i := 18) (N := some 67) (v := undef) (a' := ?_) #[true, true, true, true, true, true, true, true, true, true, true, true, true, true, true, true, true, true, true, false, false, false, false, false] rfl rfl (by kernel_rfl) (fun _ _ _ h => h) (Or.inr ⟨by rfl, rfl⟩) ?_ ?_
            rotate_left
            · simp only [Act.put, List.setIfInBounds_toArray, List.set_cons_zero, List.set_cons_succ, i64_w, i32_w]
              rfl
            refine pure_ (i := 19) (N := some 68) (v := undef) (a' := ?_) #[true, true, true, true, true, true, true, true, true, true, true, true, true, true, true, true, true, true, true, true, false, false, false, false] rfl rfl (by kernel_rfl) (fun _ _ _ h => h) (Or.inr ⟨by rfl, rfl⟩) ?_ ?_
            rotate_left
            · simp only [Act.put, List.setIfInBounds_toArray, List.set_cons_zero, List.set_cons_succ, i64_w, i32_w]
              rfl
            refine pure_ (i := 20) (N := some 69) (v := undef) (a' := ?_) #[true, true, true, true, true, true, true, true, true, true, true, true, true, true, true, true, true, true, true, true, true, false, false, false] rfl rfl (by kernel_rfl) (fun _ _ _ h => h) (Or.inr ⟨by rfl, rfl⟩) ?_ ?_
            rotate_left
            · simp only [Act.put, List.setIfInBounds_toArray, List.set_cons_zero, List.set_cons_succ, i64_w, i32_w]
              rfl
            refine pure_ (i := 21) (N := some 70) (v := undef) (a' := ?_) #[true, true, true, true, true, true, true, true, true, true, true, true, true, true, true, true, true, true, true, true, true, true, false, false] rfl rfl (by kernel_rfl) (fun _ _ _ h => h) (Or.inr ⟨by rfl, rfl⟩) ?_ ?_
            rotate_left
            · simp only [Act.put, List.setIfInBounds_toArray, List.set_cons_zero, List.set_cons_succ, i64_w, i32_w]
              rfl
            refine pure_ (i := 22) (N := some 71) (v := ?_) (a' := ?_) #[true, true, true, true, true, true, true, true, true, true, true, true, true, true, true, true, true, true, true, true, true, true, true, false] rfl rfl (by kernel_rfl) (fun _ _ _ h => h) (Or.inl ⟨by rfl, ?_⟩) ?_ ?_
            rotate_left
            · intro w'
              go_simp
              with_reducible rfl
            rotate_left
            · simp only [Act.put, List.setIfInBounds_toArray, List.set_cons_zero, List.set_cons_succ, i64_w, i32_w]
              rfl
            refine pure_ (i := 23) (N := some 72) (v := ?_) (a' := ?_) #[true, true, true, true, true, true, true, true, true, true, true, true, true, true, true, true, true, true, true, true, true, true, true, true] rfl rfl (by kernel_rfl) (fun _ _ _ h => h) (Or.inl ⟨by rfl, ?_⟩) ?_ ?_
            rotate_left
            · intro w'
              go_simp
              with_reducible rfl
            rotate_left
            · simp only [Act.put, List.setIfInBounds_toArray, List.set_cons_zero, List.set_cons_succ, i64_w, i32_w]
              rfl
            refine done_ (by kernel_rfl) ?_

            have HO8 := Aside0.mk (Kd.R_below HO.out (below_drew (Below.refl _ _)))
            have HB8 := Aside0.mk (below_drew HBR.out)
            have c8 : wr.drew.cell? (ay.add k) = some (.int .i64 zy) := cy
            generalize wr.drew = w8 at HO8 HB8 c8 ⊢
            go_wp2_with (first | ((with_reducible refine gate_builtin (b := .append) (xs := #[.tmp 82, .tmp 87]) rfl ?_); (try (refine gate_guard (by rfl) ?_; dsimp only)); at_builtin; refine Kd.R_append (Kd.int .i64) (w0 := w5) w5.heap.size rfl (.tmp 82) (.tmp 87) 22 3 (.int .i64 0) 8 rfl Try.underlying22 infoZ rfl (by decide) (by decide) (.slice Ao out.length co) out zy [.int .i64 zy] (fun _ => True) (fun _ => False) rfl rfl ?aP (fun _ hk => hk.elim) ?aF ?aO ?aB ?aS ?aL ?_; (case aP => rfl); (case aF => exact (fun _ _ => trivial)); (case aO => exact HO8.out); (case aB => exact HB8.out); (case aS => exact HB8.out.size); (case aL => have := HOL.out; have := HN.out; omega); intro v9 w9 ho9 hb9 hg9 hat9; have HO9 := Aside0.mk ho9; have HB9 := Aside0.mk hb9; clear ho9 hb9 hg9 hat9))
            go_roundw
            case rel =>
              exact ⟨i, k + 1, _, v9, HI2.out, by omega, rfl, rfl, by go_num, HO9, HB9, ⟨by rw [HZY.out]; exact mrg_y HM.out hky (fun h => absurd h (by have := HI3.out; omega))⟩, ⟨by rw [List.length_append, List.length_singleton, HOL.out]; omega⟩⟩
            case measure => have := HI2.out; simp [intOf]; omega
          · obtain rfl : r1.length = i := by have := HI2.out; have := HI3.out; omega
            obtain rfl : r2.length = k := by omega
            clear hky hk hib hibn
            go_wp2
            go_ret
            have hM := HM.out
            rw [List.drop_length, List.drop_length, List.nil_merge, List.append_nil] at hM
            refine ⟨_, out, rfl, ?_, ?_, Kd.R_lower HO.out (Nat.le_trans HB.out.size HBW.out.size), HBW.out.trans (HBR.out.mono HBW.out.size)⟩
            · rw [hM]
              refine (List.merge_perm_append _).trans ((HP1.out.append HP2.out).trans ?_)
              rw [HLX.out, HLY.out, List.take_append_drop]
            · rw [hM]
              exact List.pairwise_merge (leB_trans rank st) (leB_total rank st) r1 r2 HS1.out HS2.out
#print axioms refsort_calls
end Go.Proofs.Ytdbjbeebjigofaa.Hand
