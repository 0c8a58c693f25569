/- What NetPlays wants besides the two Nets: its steps, and bytes that are spoilt. -/
import Derived.Test.YtmindpofjnicfaaRefO
import Derived.Test.YtmindpofjnicfaaOrder
import Derived.Test.YtmindpofjnicfaaMsgs
namespace Go.Proofs.Ytmindpofjnicfaa.Hand
open Go.RowKit Go.Proofs.Ytmindpofjnicfaa.PA Go.Proofs.Ytmindpofjnicfaa.Opens Go.Proofs.YtmindpofjnicfaaW.PrintWords Go.Proofs.YtmindpofjnicfaaW.PrintLast Go.Proofs.YtmindpofjnicfaaW.PrintMore
attribute [local go_sem] max2_int min2_int
set_option linter.unusedVariables false
set_option linter.unusedSimpArgs false
structure S43 where
  f0 : Int
  f1 : Int
  f2 : List S28
  f3 : List Int
def z43 : S43 := ⟨0, 0, [], []⟩
instance : Inhabited S28 := ⟨z28⟩
instance : Inhabited S43 := ⟨z43⟩
def k43 : Kd S43 := Kd.iso (Kd.pair (Kd.int .i64) (Kd.pair (Kd.int .i64) (Kd.pair (Kd.slice 28 k28) (Kd.slice 3 (Kd.int .i64))))) (fun x : S43 => (x.f0, x.f1, x.f2, x.f3))
theorem k43_open {w : World} {x : S43} {cs : List Value} (h : k43.K w x cs) : ∃ A2 c2 A3 c3, cs = [.int .i64 x.f0, .int .i64 x.f1, .slice A2 x.f2.length c2, .slice A3 x.f3.length c3] ∧ x.f2.length ≤ c2 ∧ k28.C w A2 x.f2.length x.f2 ∧ x.f3.length ≤ c3 ∧ (Kd.int .i64).C w A3 x.f3.length x.f3 := by
  obtain ⟨_, _, rfl, rfl, ⟨_, _, rfl, rfl, ⟨_, _, rfl, ⟨A2, c2, rfl, l2, g2⟩, ⟨A3, c3, rfl, l3, g3⟩⟩⟩⟩ := h
  exact ⟨A2, c2, A3, c3, rfl, l2, g2, l3, g3⟩
def rd_T43 (xs : List S43) (i : Int) : S43 := xs.getD i.toNat z43
theorem at_T43 {w : World} {A : Option Addr} {n : Nat} {xs : List S43} (h : Kd.C k43 w A n xs) (i : Int) (h0 : 0 ≤ i) (h1 : i < n) : ∃ ad A2 c2 A3 c3, A = some ad ∧ w.cell? (ad.add (i.toNat * 4)) = some (.int .i64 (rd_T43 xs i).f0) ∧ w.cell? ⟨(ad.add (i.toNat * 4)).block, (ad.add (i.toNat * 4)).off + 1, none⟩ = some (.int .i64 (rd_T43 xs i).f1) ∧
    w.cell? ⟨(ad.add (i.toNat * 4)).block, (ad.add (i.toNat * 4)).off + 2, none⟩ = some (.slice A2 (rd_T43 xs i).f2.length c2) ∧ w.cell? ⟨(ad.add (i.toNat * 4)).block, (ad.add (i.toNat * 4)).off + 3, none⟩ = some (.slice A3 (rd_T43 xs i).f3.length c3) ∧
    (rd_T43 xs i).f2.length ≤ c2 ∧ k28.C w A2 (rd_T43 xs i).f2.length (rd_T43 xs i).f2 ∧ (rd_T43 xs i).f3.length ≤ c3 ∧ (Kd.int .i64).C w A3 (rd_T43 xs i).f3.length (rd_T43 xs i).f3 := by
  obtain ⟨ad, c, e, _, hK, hc0⟩ := Kd.C_get h z43 i h0 h1
  have hc : ∀ j u, c[j]? = some u → w.cell? (ad.add (i.toNat * 4 + j)) = some u := hc0
  obtain ⟨A2, c2, A3, c3, rfl, l2, g2, l3, g3⟩ := k43_open hK
  exact ⟨ad, A2, c2, A3, c3, e, hc 0 _ rfl, by rw [← add_field _ _ 1 (by omega)]; exact hc 1 _ rfl, by rw [← add_field _ _ 2 (by omega)]; exact hc 2 _ rfl, by rw [← add_field _ _ 3 (by omega)]; exact hc 3 _ rfl, l2, g2, l3, g3⟩
theorem heap28 : Kd.Heap k28 := Kd.heap_iso _ (Kd.heap_pair (Kd.heap_int _) (Kd.heap_pair (Kd.heap_int _) (Kd.heap_slice _ (Kd.heap_int _))))
theorem opens_msgs : Opens Try.prog (Kd.slice 28 k28) 41 (fun xs => xs.length * Try.prog.bytesOf 28 ≤ reachBytes ∧ ∀ x ∈ xs, (Lit.int .i64 x.f0).wf = true ∧ (Lit.int .i64 x.f1).wf = true ∧ (x.f2.length * Try.prog.bytesOf 5 ≤ reachBytes ∧ ∀ y ∈ x.f2, (Lit.int .u8 y).wf = true)) :=
  opens_slice 28 opens_msg Try.underlying41 (by kernel_rfl)
def msgOk (y : S28) : Prop := (Lit.int .i64 y.f0).wf = true ∧ (Lit.int .i64 y.f1).wf = true ∧ (y.f2.length * Try.prog.bytesOf 5 ≤ reachBytes ∧ ∀ z ∈ y.f2, (Lit.int .u8 z).wf = true)
def stepOk (x : S43) : Prop := (Lit.int .i64 x.f0).wf = true ∧ (Lit.int .i64 x.f1).wf = true ∧ (x.f2.length * Try.prog.bytesOf 28 ≤ reachBytes ∧ ∀ y ∈ x.f2, msgOk y) ∧ (x.f3.length * Try.prog.bytesOf 3 ≤ reachBytes ∧ ∀ y ∈ x.f3, (Lit.int .i64 y).wf = true)
theorem opens_step : Opens Try.prog k43 43 stepOk :=
  opens_iso (opens_struct Try.underlying43 (by kernel_rfl) (opensF_cons rfl (opens_int Try.underlying3) (by kernel_rfl) (opensF_cons rfl (opens_int Try.underlying3) (by kernel_rfl) (opensF_cons rfl opens_msgs (by kernel_rfl) (opensF_one opens_nodes (by kernel_rfl))))))
    (fun x : S43 => (x.f0, x.f1, x.f2, x.f3)) (fun a => ⟨a.1, a.2.1, a.2.2.1, a.2.2.2⟩) (fun _ => rfl)
theorem opens_steps : Opens Try.prog (Kd.slice 43 k43) 40 (fun xs => xs.length * Try.prog.bytesOf 43 ≤ reachBytes ∧ ∀ x ∈ xs, stepOk x) := opens_slice 43 opens_step Try.underlying40 (by kernel_rfl)
section
variable {W W' w w0 : World} {ok ok' : Nat → Prop} {h : Nat} {l : List S28} {v : Value}
/-- A message laid behind a row, its bytes apart from all others'. -/
theorem srow_run (base : Nat) (A : Option Addr) (c : Nat) (xs : List S28) (x : S28) (v2 : Value) (okp : Nat → Prop) (HO : Kd.S k28 28 W base (fun k => ok k ∧ ¬ okp k) (.slice A xs.length c) xs) (hp : (Kd.int .u8).R 5 W base okp v2 x.f2) (hokp : ∀ k, okp k → ok k ∧ some k ≠ (Value.slice A xs.length c).ownBlock) (hfresh : ∀ k, W.heap.size ≤ k → ok k) (hbase : base ≤ W.heap.size) (hl : (xs.length + 1) * 40 ≤ 140737488355328) :
    ∃ A1 c1 w1, (Builtin.append_ #[41, 41] 41 #[.slice A xs.length c, .slice (some ⟨W.heap.size, 0, none⟩) 1 1]).run Try.prog (W.alloc (.cells #[.int .i64 x.f0, .int .i64 x.f1, v2] 28)) = .ok (.slice A1 (xs.length + 1) c1) w1 ∧ Kd.S k28 28 w1 base ok (.slice A1 (xs.length + 1) c1) (xs ++ [x]) ∧
      (W.alloc (.cells #[.int .i64 x.f0, .int .i64 x.f1, v2] 28)).grownBy w1 (Value.slice A xs.length c).ownBlock ∧ ((Value.slice A1 (xs.length + 1) c1).ownBlock = (Value.slice A xs.length c).ownBlock ∨ ∃ b, (Value.slice A1 (xs.length + 1) c1).ownBlock = some b ∧ W.heap.size ≤ b) := by
  obtain ⟨f, hf, hR⟩ := Kd.S_tag HO xs.length okp (fun _ hk h2 => h2.2 hk)
  obtain ⟨x0, x1, x2⟩ := x
  have hrow : ReadsRow (fun (y : S28 × Nat) (cs : List Value) => y = (⟨x0, x1, x2⟩, xs.length) ∧ cs = [.int .i64 x0, .int .i64 x1, v2]) 3 (W.alloc (.cells #[.int .i64 x0, .int .i64 x1, v2] 28)) (some ⟨W.heap.size, 0, none⟩) 1 [(⟨x0, x1, x2⟩, xs.length)] := by
    refine ⟨rfl, by omega, fun _ => ⟨_, rfl, fun j p hj => ?_⟩⟩
    match j with
    | 0 =>
      cases hj
      refine ⟨_, rfl, ⟨rfl, rfl⟩, fun i u hu => ?_⟩
      rw [add_plain, blk_cell (heap_alloc_new W _), Nat.zero_mul, Nat.zero_add]
      rw [← hu]
      simp
    | j + 1 => simp at hj
  obtain ⟨v1, w1, hr, h1, h2, h3⟩ := rows_run (Kd.tag f k28) (W := W.alloc (.cells #[.int .i64 x0, .int .i64 x1, v2] 28)) base 41 28 (.agg #[.int .i64 0, .int .i64 0, .slice none 0 0]) 40 Try.underlying41 info28 rfl (Nat.lt_of_lt_of_eq (by decide : 0 < 3) rfl) (by decide) (.slice A xs.length c) xs.zipIdx [(⟨x0, x1, x2⟩, xs.length)] (some ⟨W.heap.size, 0, none⟩) 1 1 ok okp
    (Kd.R_alloc (Kd.R_mono hR (fun _ hk => hk.1)) _) hrow (fun y cs hy => by obtain ⟨rfl, rfl⟩ := hy; exact k28.M_mono (fun k hk => ⟨hk, hf k hk⟩) (k28_mkM _ _ _ ⟨x0, x1, x2⟩ (Kd.R_alloc hp _))) hokp (fun k hk => hfresh k (by simp at hk; omega)) (by simp; omega) (by rw [List.length_zipIdx]; omega)
  rw [← Kd.zip_snoc] at h1
  obtain ⟨A1, c1, e⟩ := Kd.R_slice h1
  rw [List.length_zipIdx, List.length_append, List.length_singleton] at e
  subst e
  exact ⟨A1, c1, w1, hr, ⟨f, h1⟩, h2, h3.imp_right (fun ⟨b, e, hb⟩ => ⟨b, e, by simp at hb; omega⟩)⟩
theorem one_refl (x0 x1 : Int) (x2 : List Int) (hl : x2.length ≤ 4611686018427387904) : haystacklaw17_one.f (x2.length + 1) x0 x1 x2 x0 x1 x2 = some true := by
  unfold haystacklaw17_one.f
  rw [if_pos rfl, if_pos rfl, same_refl x2 hl]
  rfl
set_option maxRecDepth 100000 in
set_option maxHeartbeats 4000000 in
theorem spoil_calls {A : Option Addr} {n c : Nat} {xs : List Int} (hR : (Kd.int .u8).R 5 w w0.heap.size ok (.slice A n c) xs) (hB : Below w0.heap.size w0 w) (hl : xs.length ≤ 140737488351232) :
    Calls Try.prog 18 #[.slice A n c] w fun e w' => e = .returned (.tuple #[]) ∧ Kept w w' (fun k => some k = (Value.slice A n c).ownBlock) ∧ Below w0.heap.size w0 w' := by
  have hn := (Kd.R_reads' hR).1
  have HR := Aside0.mk hR
  have HB := Aside0.mk hB
  have HN := Aside0.mk hn
  have hnl : n ≤ 140737488351232 := by omega
  clear hR hB hn hl
  go_enter Try.func18, Try.ntmps18
  go_wp2_with (first | ((with_reducible refine gate_builtin (b := .append) (xs := #[.tmp 4, .tmp 5]) rfl ?_); at_builtin; refine Kd.R_append (Kd.int .u8) (w0 := w0) w0.heap.size rfl (.tmp 4) (.tmp 5) 23 5 (.int .u8 0) 1 rfl Try.underlying23 info5 rfl (by decide) (by decide) (.slice A n c) xs 99 [.int .u8 99] (fun k => some k = (Value.slice A n c).ownBlock ∨ w.heap.size ≤ k) (fun _ => False) rfl rfl rfl (fun _ hk => hk.elim) (fun k hk => .inr hk) (Kd.R_mono (Kd.R_tight rfl HR.out) (fun k hk => .inl hk)) HB.out HB.out.size (by have := HN.out; omega) ?_; intro v1 w8 ho hb hg hat; obtain ⟨g, c1, hv1, _⟩ := Kd.R_form ho (by simp); subst hv1; have HR8 := Aside0.mk ho; have HG8 := Aside0.mk hg; have HB8 := Aside0.mk hb; have HA8 := Aside0.mk hat; clear ho hg hb hat))
  obtain ⟨ys0, hys0⟩ : ∃ ys0, ys0 = xs ++ [99] := ⟨_, rfl⟩
  simp only [List.length_append, List.length_cons, List.length_nil, Nat.zero_add] at HR8 HA8
  obtain ⟨N, hN⟩ : ∃ N, N = xs.length + 1 := ⟨_, rfl⟩
  have hNn : N ≤ 140737488351233 := by have := HN.out; omega
  rw [← hN] at HR8 HA8 ⊢
  rw [← hys0] at HR8
  have HL0 : Aside0 (ys0.length = N) := ⟨by rw [hys0, hN]; simp⟩
  clear hN hys0
  go_wp2
  go_loopg [3] N (fun gk s3 wr => ∃ (i : Nat) (ys : List Int), i ≤ N ∧ N - i ≤ gk ∧ s3 = .int .i64 i ∧ Aside0 (Kd.R (Kd.int .u8) 5 wr w0.heap.size (fun k => some k = (Value.slice A n c).ownBlock ∨ w.heap.size ≤ k) (.slice (some ⟨g, 0, none⟩) N c1) ys) ∧ Aside0 (Kept w8 wr (fun k => k = g)) ∧ Aside0 (Below w0.heap.size w0 wr))
  case atStart => exact ⟨0, ys0, Nat.zero_le _, by omega, rfl, HR8, ⟨Kept.refl _ _⟩, HB8⟩
  case round =>
    obtain ⟨i, ys, hi, hgk, rfl, HY, HK, HBr⟩ := hrel
    by_cases hlt : i < N
    · obtain ⟨gk, rfl⟩ : ∃ q, gk = q + 1 := ⟨gk - 1, by omega⟩
      obtain ⟨hc, hz⟩ := Kd.R_celln 0 HY.out (i : Int) (by omega) (by omega)
      have hp := Kd.R_putn HY.out (i : Int) 98
      rw [Int.toNat_natCast] at hc hz hp
      have HP := Aside0.mk hp
      clear hp
      go_wp2
      go_roundg gk
      case measure => omega
      case rel => exact ⟨i + 1, _, by omega, by omega, by go_num, HP, ⟨HK.out.setCell (p := ⟨g, i, none⟩) (.inl rfl) _⟩, ⟨HBr.out.setCell (p := ⟨g, i, none⟩) (Kd.R_base HY.out g rfl) _⟩⟩
    · go_wp2
      go_end0
      refine ⟨rfl, ?_, HBr.out⟩
      refine (Kept.of_grown HG8.out (Kept.refl w (fun k => some k = (Value.slice A n c).ownBlock)) (fun q hq => .inl hq.symm)).then_ HK.out (fun k hk => ?_)
      rcases HA8.out with e | ⟨b, e, hb⟩
      · exact .inl (by rw [hk]; exact e)
      · have : g = b := by simpa [Value.ownBlock] using e
        exact .inr (by omega)
end
end Go.Proofs.Ytmindpofjnicfaa.Hand
